import Derived.Test.YtgjipjffpodjlaaDoorProg
import Derived.Below
import Derived.Deep.Draws
import Derived.Deep.AppendLies
import Derived.Maps.AppendAt
import Derived.OwnWalk
import Derived.Laws.BytesArg
import Derived.Laws.MakeOwn
import Derived.Laws.OwnMore
import Derived.Deep.OwnRows
import Derived.Tactics
import Derived.Lib.ConvBytes
import Derived.Laws.Slices
import Derived.WalkKit
import Derived.KernelRfl
import Derived.RowKit3
import Derived.Deep.LoopGhost
import Derived.Deep.QuietTactic
import Derived.BigQuiet
import Derived.WideLaws
import Derived.Deep.DeepCutAuto
import Derived.Deep.CutBlock
import Derived.Deep.RegionHeld3
import Derived.Laws.Rows
import Derived.Lib.AppendStr
import Derived.ArgAppend
import Derived.Laws.IdiomCopy
import Derived.OrdersHeld
import Derived.Laws.BitsLemmas
import Derived.RowKit
import Derived.Laws.Cover1
import Derived.Test.YtgjipjffpodjlaaDoorCFnExactShow0
namespace Go.Proofs.YtgjipjffpodjlaaDoor.K
open Go.RowKit Go.Proofs.YtgjipjffpodjlaaDoorW.PrintWords Go.Proofs.YtgjipjffpodjlaaDoorW.PrintLast Go.Proofs.YtgjipjffpodjlaaDoorW.PrintMore
theorem zq0 {P : Prop} (h : P := by repeat (first | (with_reducible first | exact HB.out | apply below_alloc | apply pw_below_drewN | apply below_drew1) | exact HB.out)) : P := h
theorem zq1 {P : Prop} (h : P := by first | (with_reducible assumption) | assumption) : P := h
theorem zq2 {P : Prop} (h : P := by (try simp only [List.map_toArray, List.map_cons, List.map_nil]); first | done | rfl | (simp only [List.length_drop, List.length_take]; rfl)) : P := h
theorem zq3 {P : Prop} (h : P := by (with_reducible repeat (first | refine blk_drewN ?_ _ | refine blk_drew ?_ | refine blk_alloc ?_ _)); refine blk_put (cs := #[.int .i64 2, .bool false, .string (⟨#[]⟩ : ByteArray), .string (⟨#[]⟩ : ByteArray), .bool x147004_3]) ?_ 4 _ rfl; (with_reducible repeat (first | refine blk_drewN ?_ _ | refine blk_drew ?_ | refine blk_alloc ?_ _)); refine blk_put (cs := #[.int .i64 2, .bool false, .string (⟨#[]⟩ : ByteArray), .string x147003_3, .bool x147004_3]) ?_ 3 _ rfl; (with_reducible repeat (first | refine blk_drewN ?_ _ | refine blk_drew ?_ | refine blk_alloc ?_ _)); refine blk_put (cs := #[.int .i64 2, .bool false, .string x147002_3, .string x147003_3, .bool x147004_3]) ?_ 2 _ rfl; (with_reducible repeat (first | refine blk_drewN ?_ _ | refine blk_drew ?_ | refine blk_alloc ?_ _)); refine blk_put (cs := #[.int .i64 2, .bool x147001_3, .string x147002_3, .string x147003_3, .bool x147004_3]) ?_ 1 _ rfl; (with_reducible repeat (first | refine blk_drewN ?_ _ | refine blk_drew ?_ | refine blk_alloc ?_ _)); refine blk_put (cs := #[.int .i64 x147000_3, .bool x147001_3, .string x147002_3, .string x147003_3, .bool x147004_3]) ?_ 0 _ rfl; (with_reducible repeat (first | refine blk_drewN ?_ _ | refine blk_drew ?_ | refine blk_alloc ?_ _)); exact BK146.out) : P := h
theorem zq4 {P : Prop} (h : P := by repeat (first | (with_reducible first | exact HB.out | apply below_alloc | apply pw_below_drewN | apply below_drew1 | refine below_set ?_ GE145.out | refine below_set ?_ GE146.out) | exact HB.out)) : P := h
theorem zq5 {P : Prop} (h : P := by repeat (first | (with_reducible first | exact HB.out | apply below_alloc | apply pw_below_drewN | apply below_drew1 | refine below_set ?_ GE249.out | refine below_set ?_ GE250.out | refine below_set ?_ GE262.out | refine below_set ?_ GE268.out) | exact HB.out)) : P := h
theorem zq6 {P : Prop} (h : P := by repeat (first | (with_reducible first | exact HB.out | apply below_alloc | apply pw_below_drewN | apply below_drew1 | refine below_set ?_ GE145.out | refine below_set ?_ GE146.out | refine below_set ?_ GE162.out | refine below_set ?_ GE173.out) | exact HB.out)) : P := h
theorem zq7 {P : Prop} (h : P := by first | rfl | (simp [errW_none, errW_some] <;> rfl) | (simp [*, errW_none, errW_some] <;> rfl)) : P := h
theorem zq8 {P : Prop} (h : P := by first | rfl | (simp; done) | (simp [*]; done)) : P := h
theorem zq9 {P : Prop} (h : P := by (with_reducible repeat (first | refine blk_drewN ?_ _ | refine blk_drew ?_ | refine blk_alloc ?_ _)); exact BK145.out) : P := h
theorem zq10 {P : Prop} (h : P := by repeat (first | (with_reducible first | exact HB.out | apply below_alloc | apply pw_below_drewN | apply below_drew1 | refine below_set ?_ GE249.out | refine below_set ?_ GE250.out) | exact HB.out)) : P := h
theorem zq11 {P : Prop} (h : P := by (with_reducible repeat (first | refine blk_drewN ?_ _ | refine blk_drew ?_ | refine blk_alloc ?_ _)); exact BK249.out) : P := h
theorem zq12 {P : Prop} (h : P := by (with_reducible repeat (first | refine blk_drewN ?_ _ | refine blk_drew ?_ | refine blk_alloc ?_ _)); exact BK146.out) : P := h
theorem zq13 {P : Prop} (h : P := by (with_reducible repeat (first | refine blk_drewN ?_ _ | refine blk_drew ?_ | refine blk_alloc ?_ _)); exact BK250.out) : P := h
theorem zq14 {P : Prop} (h : P := by (with_reducible repeat (first | refine blk_drewN ?_ _ | refine blk_drew ?_ | refine blk_alloc ?_ _)); refine blk_put (cs := #[.int .i64 2, .bool false, .string (⟨#[]⟩ : ByteArray), .string (⟨#[]⟩ : ByteArray), .bool x251004_3]) ?_ 4 _ rfl; (with_reducible repeat (first | refine blk_drewN ?_ _ | refine blk_drew ?_ | refine blk_alloc ?_ _)); refine blk_put (cs := #[.int .i64 2, .bool false, .string (⟨#[]⟩ : ByteArray), .string x251003_3, .bool x251004_3]) ?_ 3 _ rfl; (with_reducible repeat (first | refine blk_drewN ?_ _ | refine blk_drew ?_ | refine blk_alloc ?_ _)); refine blk_put (cs := #[.int .i64 2, .bool false, .string x251002_3, .string x251003_3, .bool x251004_3]) ?_ 2 _ rfl; (with_reducible repeat (first | refine blk_drewN ?_ _ | refine blk_drew ?_ | refine blk_alloc ?_ _)); refine blk_put (cs := #[.int .i64 2, .bool x251001_3, .string x251002_3, .string x251003_3, .bool x251004_3]) ?_ 1 _ rfl; (with_reducible repeat (first | refine blk_drewN ?_ _ | refine blk_drew ?_ | refine blk_alloc ?_ _)); refine blk_put (cs := #[.int .i64 x251000_3, .bool x251001_3, .string x251002_3, .string x251003_3, .bool x251004_3]) ?_ 0 _ rfl; (with_reducible repeat (first | refine blk_drewN ?_ _ | refine blk_drew ?_ | refine blk_alloc ?_ _)); exact BK250.out) : P := h
theorem zq15 {P : Prop} (h : P := by (with_reducible repeat (first | apply Kd.R_alloc | apply Kd.R_drewN | apply Kd.R_drew)); exact HO_6.out) : P := h
theorem zq16 {P : Prop} (h : P := by (with_reducible repeat (first | refine blk_drewN ?_ _ | refine blk_drew ?_ | refine blk_alloc ?_ _)); exact BK286.out) : P := h
theorem zq17 {P : Prop} (h : P := by kernel_rfl) : P := h
theorem zq18 {P : Prop} (h : P := by repeat (first | (with_reducible first | exact HB.out | apply below_alloc | apply pw_below_drewN | apply below_drew1 | refine below_set ?_ GE286.out) | exact HB.out)) : P := h
theorem zq19 {P : Prop} (h : P := by repeat (first | (with_reducible first | exact HB.out | apply below_alloc | apply pw_below_drewN | apply below_drew1 | refine below_set ?_ GE286.out | refine below_set ?_ GE298.out) | exact HB.out)) : P := h
theorem zq20 {P : Prop} (h : P := by repeat (first | (with_reducible first | exact HB.out | apply below_alloc | apply pw_below_drewN | apply below_drew1 | refine below_set ?_ GE145.out | refine below_set ?_ GE146.out | refine below_set ?_ GE162.out) | exact HB.out)) : P := h
theorem zq21 {P : Prop} (h : P := by repeat (first | (with_reducible first | exact HB.out | apply below_alloc | apply pw_below_drewN | apply below_drew1 | refine below_set ?_ GE286.out | refine below_set ?_ GE298.out | refine below_set ?_ GE304.out | refine below_set ?_ GE310.out) | exact HB.out)) : P := h
theorem zq22 {P : Prop} (h : P := by (with_reducible repeat (first | apply Kd.S_alloc | apply Kd.S_drewN | apply Kd.S_drew)); exact HO_9.out) : P := h
theorem zq23 {P : Prop} (h : P := by repeat (first | (with_reducible first | exact HB.out | apply below_alloc | apply pw_below_drewN | apply below_drew1 | refine below_set ?_ GE123.out) | exact HB.out)) : P := h
theorem zq24 {P : Prop} (h : P := by (with_reducible repeat (first | apply Kd.R_alloc | apply Kd.R_drewN | apply Kd.R_drew)); exact (Kd.R_mono (Kd.R_far (p := ⟨gb298, 4, none⟩) (Kd.R_far (p := ⟨gb298, 3, none⟩) (Kd.R_far (p := ⟨gb298, 2, none⟩) (Kd.R_far (p := ⟨gb298, 1, none⟩) (Kd.R_far (p := ⟨gb298, 0, none⟩) (Kd.R_types HO290.out BK298.out (by decide)) (fun _ hk => hk.2) (.int .i64 t293)) (fun _ hk => hk.2) (.bool t294)) (fun _ hk => hk.2) (.string t295)) (fun _ hk => hk.2) (.string t296)) (fun _ hk => hk.2) (.bool t297)) (fun _ h_ => h_.1))) : P := h
theorem zq25 {P : Prop} (h : P := by (with_reducible repeat (first | refine blk_drewN ?_ _ | refine blk_drew ?_ | refine blk_alloc ?_ _)); exact BK262.out) : P := h
theorem zq26 {P : Prop} (h : P := by (with_reducible repeat (first | refine blk_drewN ?_ _ | refine blk_drew ?_ | refine blk_alloc ?_ _)); exact BK162.out) : P := h
theorem zq27 {P : Prop} (h : P := by (with_reducible repeat (first | refine blk_drewN ?_ _ | refine blk_drew ?_ | refine blk_alloc ?_ _)); refine blk_put (cs := #[.int .i64 t305, .bool t306, .string t307, .string t308, .bool false]) ?_ 4 _ rfl; (with_reducible repeat (first | refine blk_drewN ?_ _ | refine blk_drew ?_ | refine blk_alloc ?_ _)); refine blk_put (cs := #[.int .i64 t305, .bool t306, .string t307, .string (⟨#[]⟩ : ByteArray), .bool false]) ?_ 3 _ rfl; (with_reducible repeat (first | refine blk_drewN ?_ _ | refine blk_drew ?_ | refine blk_alloc ?_ _)); refine blk_put (cs := #[.int .i64 t305, .bool t306, .string (⟨#[]⟩ : ByteArray), .string (⟨#[]⟩ : ByteArray), .bool false]) ?_ 2 _ rfl; (with_reducible repeat (first | refine blk_drewN ?_ _ | refine blk_drew ?_ | refine blk_alloc ?_ _)); refine blk_put (cs := #[.int .i64 t305, .bool false, .string (⟨#[]⟩ : ByteArray), .string (⟨#[]⟩ : ByteArray), .bool false]) ?_ 1 _ rfl; (with_reducible repeat (first | refine blk_drewN ?_ _ | refine blk_drew ?_ | refine blk_alloc ?_ _)); refine blk_put (cs := #[.int .i64 0, .bool false, .string (⟨#[]⟩ : ByteArray), .string (⟨#[]⟩ : ByteArray), .bool false]) ?_ 0 _ rfl; (with_reducible repeat (first | refine blk_drewN ?_ _ | refine blk_drew ?_ | refine blk_alloc ?_ _)); exact BK310.out) : P := h
theorem zq28 {P : Prop} (h : P := by (with_reducible repeat (first | refine blk_drewN ?_ _ | refine blk_drew ?_ | refine blk_alloc ?_ _)); refine blk_put (cs := #[.int .i64 t293, .bool t294, .string t295, .string t296, .bool false]) ?_ 4 _ rfl; (with_reducible repeat (first | refine blk_drewN ?_ _ | refine blk_drew ?_ | refine blk_alloc ?_ _)); refine blk_put (cs := #[.int .i64 t293, .bool t294, .string t295, .string (⟨#[]⟩ : ByteArray), .bool false]) ?_ 3 _ rfl; (with_reducible repeat (first | refine blk_drewN ?_ _ | refine blk_drew ?_ | refine blk_alloc ?_ _)); refine blk_put (cs := #[.int .i64 t293, .bool t294, .string (⟨#[]⟩ : ByteArray), .string (⟨#[]⟩ : ByteArray), .bool false]) ?_ 2 _ rfl; (with_reducible repeat (first | refine blk_drewN ?_ _ | refine blk_drew ?_ | refine blk_alloc ?_ _)); refine blk_put (cs := #[.int .i64 t293, .bool false, .string (⟨#[]⟩ : ByteArray), .string (⟨#[]⟩ : ByteArray), .bool false]) ?_ 1 _ rfl; (with_reducible repeat (first | refine blk_drewN ?_ _ | refine blk_drew ?_ | refine blk_alloc ?_ _)); refine blk_put (cs := #[.int .i64 0, .bool false, .string (⟨#[]⟩ : ByteArray), .string (⟨#[]⟩ : ByteArray), .bool false]) ?_ 0 _ rfl; (with_reducible repeat (first | refine blk_drewN ?_ _ | refine blk_drew ?_ | refine blk_alloc ?_ _)); exact BK298.out) : P := h
theorem zq29 {P : Prop} (h : P := by repeat (first | (with_reducible first | exact HB.out | apply below_alloc | apply pw_below_drewN | apply below_drew1 | refine below_set ?_ GE286.out | refine below_set ?_ GE298.out | refine below_set ?_ GE304.out) | exact HB.out)) : P := h
theorem zq30 {P : Prop} (h : P := by (with_reducible repeat (first | refine blk_drewN ?_ _ | refine blk_drew ?_ | refine blk_alloc ?_ _)); exact BK298.out) : P := h
theorem zq31 {P : Prop} (h : P := by repeat (first | exact Drawn0.refl _ | apply Drawn0.step)) : P := h
theorem zq32 {P : Prop} (h : P := by (with_reducible repeat (first | refine blk_drewN ?_ _ | refine blk_drew ?_ | refine blk_alloc ?_ _)); exact BK268.out) : P := h
theorem zq33 {P : Prop} (h : P := by repeat (first | (with_reducible first | exact HB.out | apply below_alloc | apply pw_below_drewN | apply below_drew1 | refine below_set ?_ GE249.out | refine below_set ?_ GE250.out | refine below_set ?_ GE262.out) | exact HB.out)) : P := h
theorem zq34 {P : Prop} (h : P := by repeat (first | (with_reducible first | exact HB.out | apply below_alloc | apply pw_below_drewN | apply below_drew1 | refine below_set ?_ GE283.out) | exact HB.out)) : P := h
theorem zq35 {P : Prop} (h : P := by repeat (first | (with_reducible first | exact HB.out | apply below_alloc | apply pw_below_drewN | apply below_drew1 | refine below_set ?_ GE278.out) | exact HB.out)) : P := h
theorem zq36 {P : Prop} (h : P := by repeat (first | (with_reducible first | exact HB.out | apply below_alloc | apply pw_below_drewN | apply below_drew1 | refine below_set ?_ GE276.out) | exact HB.out)) : P := h
theorem zq37 {P : Prop} (h : P := by (with_reducible repeat (first | apply Kd.R_alloc | apply Kd.R_drewN | apply Kd.R_drew)); exact HO290.out) : P := h
theorem zq38 {P : Prop} (h : P := by (with_reducible repeat (first | refine blk_drewN ?_ _ | refine blk_drew ?_ | refine blk_alloc ?_ _)); refine blk_put (cs := #[.int .u8 (bt x0_1 0), .string (x0_1.extract 2 ((wrap64 ((wrap64 (x7_5 - (wrap64 (2 * a1)))) - 1)) : Int).toNat), .string (⟨#[]⟩ : ByteArray)]) ?_ 2 _ rfl; (with_reducible repeat (first | refine blk_drewN ?_ _ | refine blk_drew ?_ | refine blk_alloc ?_ _)); refine blk_put (cs := #[.int .u8 (bt x0_1 0), .string (⟨#[]⟩ : ByteArray), .string (⟨#[]⟩ : ByteArray)]) ?_ 1 _ rfl; (with_reducible repeat (first | refine blk_drewN ?_ _ | refine blk_drew ?_ | refine blk_alloc ?_ _)); refine blk_put (cs := #[.int .u8 0, .string (⟨#[]⟩ : ByteArray), .string (⟨#[]⟩ : ByteArray)]) ?_ 0 _ rfl; (with_reducible repeat (first | refine blk_drewN ?_ _ | refine blk_drew ?_ | refine blk_alloc ?_ _)); exact BK123.out) : P := h
theorem zq39 {P : Prop} (h : P := by (with_reducible repeat (first | refine blk_drewN ?_ _ | refine blk_drew ?_ | refine blk_alloc ?_ _)); refine blk_far ?_ NB304_310.out _; (with_reducible repeat (first | refine blk_drewN ?_ _ | refine blk_drew ?_ | refine blk_alloc ?_ _)); refine blk_far ?_ NB304_310.out _; (with_reducible repeat (first | refine blk_drewN ?_ _ | refine blk_drew ?_ | refine blk_alloc ?_ _)); refine blk_far ?_ NB304_310.out _; (with_reducible repeat (first | refine blk_drewN ?_ _ | refine blk_drew ?_ | refine blk_alloc ?_ _)); refine blk_far ?_ NB304_310.out _; (with_reducible repeat (first | refine blk_drewN ?_ _ | refine blk_drew ?_ | refine blk_alloc ?_ _)); refine blk_far ?_ NB304_310.out _; (with_reducible repeat (first | refine blk_drewN ?_ _ | refine blk_drew ?_ | refine blk_alloc ?_ _)); exact BK304.out) : P := h
theorem zq40 {P : Prop} (h : P := by (with_reducible repeat (first | refine blk_drewN ?_ _ | refine blk_drew ?_ | refine blk_alloc ?_ _)); refine blk_far ?_ NB298_310.out _; (with_reducible repeat (first | refine blk_drewN ?_ _ | refine blk_drew ?_ | refine blk_alloc ?_ _)); refine blk_far ?_ NB298_310.out _; (with_reducible repeat (first | refine blk_drewN ?_ _ | refine blk_drew ?_ | refine blk_alloc ?_ _)); refine blk_far ?_ NB298_310.out _; (with_reducible repeat (first | refine blk_drewN ?_ _ | refine blk_drew ?_ | refine blk_alloc ?_ _)); refine blk_far ?_ NB298_310.out _; (with_reducible repeat (first | refine blk_drewN ?_ _ | refine blk_drew ?_ | refine blk_alloc ?_ _)); refine blk_far ?_ NB298_310.out _; (with_reducible repeat (first | refine blk_drewN ?_ _ | refine blk_drew ?_ | refine blk_alloc ?_ _)); exact BK298.out) : P := h
theorem zq41 {P : Prop} (h : P := by (with_reducible repeat (first | refine blk_drewN ?_ _ | refine blk_drew ?_ | refine blk_alloc ?_ _)); refine blk_far ?_ NB286_310.out _; (with_reducible repeat (first | refine blk_drewN ?_ _ | refine blk_drew ?_ | refine blk_alloc ?_ _)); refine blk_far ?_ NB286_310.out _; (with_reducible repeat (first | refine blk_drewN ?_ _ | refine blk_drew ?_ | refine blk_alloc ?_ _)); refine blk_far ?_ NB286_310.out _; (with_reducible repeat (first | refine blk_drewN ?_ _ | refine blk_drew ?_ | refine blk_alloc ?_ _)); refine blk_far ?_ NB286_310.out _; (with_reducible repeat (first | refine blk_drewN ?_ _ | refine blk_drew ?_ | refine blk_alloc ?_ _)); refine blk_far ?_ NB286_310.out _; (with_reducible repeat (first | refine blk_drewN ?_ _ | refine blk_drew ?_ | refine blk_alloc ?_ _)); exact BK286.out) : P := h
theorem zq42 {P : Prop} (h : P := by (with_reducible repeat (first | refine blk_drewN ?_ _ | refine blk_drew ?_ | refine blk_alloc ?_ _)); refine blk_far ?_ NB286_298.out _; (with_reducible repeat (first | refine blk_drewN ?_ _ | refine blk_drew ?_ | refine blk_alloc ?_ _)); refine blk_far ?_ NB286_298.out _; (with_reducible repeat (first | refine blk_drewN ?_ _ | refine blk_drew ?_ | refine blk_alloc ?_ _)); refine blk_far ?_ NB286_298.out _; (with_reducible repeat (first | refine blk_drewN ?_ _ | refine blk_drew ?_ | refine blk_alloc ?_ _)); refine blk_far ?_ NB286_298.out _; (with_reducible repeat (first | refine blk_drewN ?_ _ | refine blk_drew ?_ | refine blk_alloc ?_ _)); refine blk_far ?_ NB286_298.out _; (with_reducible repeat (first | refine blk_drewN ?_ _ | refine blk_drew ?_ | refine blk_alloc ?_ _)); exact BK286.out) : P := h
theorem zq43 {P : Prop} (h : P := by (with_reducible repeat (first | refine blk_drewN ?_ _ | refine blk_drew ?_ | refine blk_alloc ?_ _)); exact BK278.out) : P := h
theorem zq44 {P : Prop} (h : P := by (with_reducible repeat (first | refine blk_drewN ?_ _ | refine blk_drew ?_ | refine blk_alloc ?_ _)); exact BK173.out) : P := h
theorem zq45 {P : Prop} (h : P := by (with_reducible repeat (first | refine blk_drewN ?_ _ | refine blk_drew ?_ | refine blk_alloc ?_ _)); exact BK304.out) : P := h
theorem zq46 {P : Prop} (h : P := by (with_reducible repeat (first | refine blk_drewN ?_ _ | refine blk_drew ?_ | refine blk_alloc ?_ _)); refine blk_put (cs := #[.int .i64 2, .bool false, .string (⟨#[]⟩ : ByteArray), .string (⟨#[]⟩ : ByteArray), .bool false]) ?_ 4 _ rfl; (with_reducible repeat (first | refine blk_drewN ?_ _ | refine blk_drew ?_ | refine blk_alloc ?_ _)); refine blk_put (cs := #[.int .i64 2, .bool false, .string (⟨#[]⟩ : ByteArray), .string (⟨#[]⟩ : ByteArray), .bool false]) ?_ 3 _ rfl; (with_reducible repeat (first | refine blk_drewN ?_ _ | refine blk_drew ?_ | refine blk_alloc ?_ _)); refine blk_put (cs := #[.int .i64 2, .bool false, .string (⟨#[]⟩ : ByteArray), .string (⟨#[]⟩ : ByteArray), .bool false]) ?_ 2 _ rfl; (with_reducible repeat (first | refine blk_drewN ?_ _ | refine blk_drew ?_ | refine blk_alloc ?_ _)); refine blk_put (cs := #[.int .i64 2, .bool false, .string (⟨#[]⟩ : ByteArray), .string (⟨#[]⟩ : ByteArray), .bool false]) ?_ 1 _ rfl; (with_reducible repeat (first | refine blk_drewN ?_ _ | refine blk_drew ?_ | refine blk_alloc ?_ _)); refine blk_put (cs := #[.int .i64 0, .bool false, .string (⟨#[]⟩ : ByteArray), .string (⟨#[]⟩ : ByteArray), .bool false]) ?_ 0 _ rfl; (with_reducible repeat (first | refine blk_drewN ?_ _ | refine blk_drew ?_ | refine blk_alloc ?_ _)); exact BK262.out) : P := h
theorem zq47 {P : Prop} (h : P := by (with_reducible repeat (first | refine blk_drewN ?_ _ | refine blk_drew ?_ | refine blk_alloc ?_ _)); refine blk_put (cs := #[.int .i64 2, .bool false, .string (⟨#[]⟩ : ByteArray), .string (⟨#[]⟩ : ByteArray), .bool false]) ?_ 4 _ rfl; (with_reducible repeat (first | refine blk_drewN ?_ _ | refine blk_drew ?_ | refine blk_alloc ?_ _)); refine blk_put (cs := #[.int .i64 2, .bool false, .string (⟨#[]⟩ : ByteArray), .string (⟨#[]⟩ : ByteArray), .bool false]) ?_ 3 _ rfl; (with_reducible repeat (first | refine blk_drewN ?_ _ | refine blk_drew ?_ | refine blk_alloc ?_ _)); refine blk_put (cs := #[.int .i64 2, .bool false, .string (⟨#[]⟩ : ByteArray), .string (⟨#[]⟩ : ByteArray), .bool false]) ?_ 2 _ rfl; (with_reducible repeat (first | refine blk_drewN ?_ _ | refine blk_drew ?_ | refine blk_alloc ?_ _)); refine blk_put (cs := #[.int .i64 2, .bool false, .string (⟨#[]⟩ : ByteArray), .string (⟨#[]⟩ : ByteArray), .bool false]) ?_ 1 _ rfl; (with_reducible repeat (first | refine blk_drewN ?_ _ | refine blk_drew ?_ | refine blk_alloc ?_ _)); refine blk_put (cs := #[.int .i64 0, .bool false, .string (⟨#[]⟩ : ByteArray), .string (⟨#[]⟩ : ByteArray), .bool false]) ?_ 0 _ rfl; (with_reducible repeat (first | refine blk_drewN ?_ _ | refine blk_drew ?_ | refine blk_alloc ?_ _)); exact BK162.out) : P := h
theorem zq48 {P : Prop} (h : P := by (with_reducible repeat (first | refine blk_drewN ?_ _ | refine blk_drew ?_ | refine blk_alloc ?_ _)); refine blk_put (cs := #[.int .i64 1, .bool false, .string (⟨#[]⟩ : ByteArray), .string (⟨#[]⟩ : ByteArray), .bool x251004_2]) ?_ 4 _ rfl; (with_reducible repeat (first | refine blk_drewN ?_ _ | refine blk_drew ?_ | refine blk_alloc ?_ _)); refine blk_put (cs := #[.int .i64 1, .bool false, .string (⟨#[]⟩ : ByteArray), .string x251003_2, .bool x251004_2]) ?_ 3 _ rfl; (with_reducible repeat (first | refine blk_drewN ?_ _ | refine blk_drew ?_ | refine blk_alloc ?_ _)); refine blk_put (cs := #[.int .i64 1, .bool false, .string x251002_2, .string x251003_2, .bool x251004_2]) ?_ 2 _ rfl; (with_reducible repeat (first | refine blk_drewN ?_ _ | refine blk_drew ?_ | refine blk_alloc ?_ _)); refine blk_put (cs := #[.int .i64 1, .bool x251001_2, .string x251002_2, .string x251003_2, .bool x251004_2]) ?_ 1 _ rfl; (with_reducible repeat (first | refine blk_drewN ?_ _ | refine blk_drew ?_ | refine blk_alloc ?_ _)); refine blk_put (cs := #[.int .i64 x251000_2, .bool x251001_2, .string x251002_2, .string x251003_2, .bool x251004_2]) ?_ 0 _ rfl; (with_reducible repeat (first | refine blk_drewN ?_ _ | refine blk_drew ?_ | refine blk_alloc ?_ _)); exact BK250.out) : P := h
theorem zq49 {P : Prop} (h : P := by (with_reducible repeat (first | refine blk_drewN ?_ _ | refine blk_drew ?_ | refine blk_alloc ?_ _)); refine blk_put (cs := #[.int .i64 1, .bool false, .string (⟨#[]⟩ : ByteArray), .string (⟨#[]⟩ : ByteArray), .bool x147004_2]) ?_ 4 _ rfl; (with_reducible repeat (first | refine blk_drewN ?_ _ | refine blk_drew ?_ | refine blk_alloc ?_ _)); refine blk_put (cs := #[.int .i64 1, .bool false, .string (⟨#[]⟩ : ByteArray), .string x147003_2, .bool x147004_2]) ?_ 3 _ rfl; (with_reducible repeat (first | refine blk_drewN ?_ _ | refine blk_drew ?_ | refine blk_alloc ?_ _)); refine blk_put (cs := #[.int .i64 1, .bool false, .string x147002_2, .string x147003_2, .bool x147004_2]) ?_ 2 _ rfl; (with_reducible repeat (first | refine blk_drewN ?_ _ | refine blk_drew ?_ | refine blk_alloc ?_ _)); refine blk_put (cs := #[.int .i64 1, .bool x147001_2, .string x147002_2, .string x147003_2, .bool x147004_2]) ?_ 1 _ rfl; (with_reducible repeat (first | refine blk_drewN ?_ _ | refine blk_drew ?_ | refine blk_alloc ?_ _)); refine blk_put (cs := #[.int .i64 x147000_2, .bool x147001_2, .string x147002_2, .string x147003_2, .bool x147004_2]) ?_ 0 _ rfl; (with_reducible repeat (first | refine blk_drewN ?_ _ | refine blk_drew ?_ | refine blk_alloc ?_ _)); exact BK146.out) : P := h
theorem zq50 {P : Prop} (h : P := by (with_reducible repeat (first | refine blk_drewN ?_ _ | refine blk_drew ?_ | refine blk_alloc ?_ _)); exact BK283.out) : P := h
theorem zq51 {P : Prop} (h : P := by (with_reducible repeat (first | refine blk_drewN ?_ _ | refine blk_drew ?_ | refine blk_alloc ?_ _)); exact BK276.out) : P := h
theorem zq52 {P : Prop} (h : P := by (with_reducible repeat (first | apply Kd.R_alloc | apply Kd.R_drewN | apply Kd.R_drew)); exact HO301.out) : P := h
theorem zq53 {P : Prop} (h : P := by (with_reducible repeat (first | apply Kd.R_alloc | apply Kd.R_drewN | apply Kd.R_drew)); exact Kd.R_mono (Kd.R_far (p := ⟨gb123, 2, none⟩) (Kd.R_far (p := ⟨gb123, 1, none⟩) (Kd.R_far (p := ⟨gb123, 0, none⟩) (Kd.R_mono HO_6.out (fun k_ hk => (⟨hk, hk.2⟩ : _ ∧ k_ ≠ gb123))) (fun _ hk => hk.2) (.int .u8 (bt x0_1 0))) (fun _ hk => hk.2) (.string (x0_1.extract 2 ((wrap64 ((wrap64 (x7_5 - (wrap64 (2 * a1)))) - 1)) : Int).toNat))) (fun _ hk => hk.2) (.string (x0_1.extract ((ji47) : Int).toNat (x7_5 : Int).toNat))) (fun _ hk => hk.1.2)) : P := h
theorem zq54 {P : Prop} (h : P := by (with_reducible repeat (first | apply Kd.R_alloc | apply Kd.R_drewN | apply Kd.R_drew)); exact (Kd.R_mono (Kd.R_far (p := ⟨gb310, 4, none⟩) (Kd.R_far (p := ⟨gb310, 3, none⟩) (Kd.R_far (p := ⟨gb310, 2, none⟩) (Kd.R_far (p := ⟨gb310, 1, none⟩) (Kd.R_far (p := ⟨gb310, 0, none⟩) (Kd.R_types HO301.out BK310.out (by decide)) (fun _ hk => hk.2) (.int .i64 t305)) (fun _ hk => hk.2) (.bool t306)) (fun _ hk => hk.2) (.string t307)) (fun _ hk => hk.2) (.string t308)) (fun _ hk => hk.2) (.bool t309)) (fun _ h_ => h_.1))) : P := h
theorem zq55 {P : Prop} (h : P := by (with_reducible repeat (first | apply Kd.R_alloc | apply Kd.R_drewN | apply Kd.R_drew)); exact (Kd.R_mono (Kd.R_far (p := ⟨gb310, 4, none⟩) (Kd.R_far (p := ⟨gb310, 3, none⟩) (Kd.R_far (p := ⟨gb310, 2, none⟩) (Kd.R_far (p := ⟨gb310, 1, none⟩) (Kd.R_far (p := ⟨gb310, 0, none⟩) (Kd.R_types HO290.out BK310.out (by decide)) (fun _ hk => hk.2) (.int .i64 t305)) (fun _ hk => hk.2) (.bool t306)) (fun _ hk => hk.2) (.string t307)) (fun _ hk => hk.2) (.string t308)) (fun _ hk => hk.2) (.bool t309)) (fun _ h_ => h_.1))) : P := h
theorem zq56 {P : Prop} (h : P := by (with_reducible repeat (first | refine blk_drewN ?_ _ | refine blk_drew ?_ | refine blk_alloc ?_ _)); refine blk_far ?_ NB298_304.out _; (with_reducible repeat (first | refine blk_drewN ?_ _ | refine blk_drew ?_ | refine blk_alloc ?_ _)); refine blk_far ?_ NB298_304.out _; (with_reducible repeat (first | refine blk_drewN ?_ _ | refine blk_drew ?_ | refine blk_alloc ?_ _)); refine blk_far ?_ NB298_304.out _; (with_reducible repeat (first | refine blk_drewN ?_ _ | refine blk_drew ?_ | refine blk_alloc ?_ _)); exact BK298.out) : P := h
theorem zq57 {P : Prop} (h : P := by (with_reducible repeat (first | refine blk_drewN ?_ _ | refine blk_drew ?_ | refine blk_alloc ?_ _)); refine blk_far ?_ NB286_304.out _; (with_reducible repeat (first | refine blk_drewN ?_ _ | refine blk_drew ?_ | refine blk_alloc ?_ _)); refine blk_far ?_ NB286_304.out _; (with_reducible repeat (first | refine blk_drewN ?_ _ | refine blk_drew ?_ | refine blk_alloc ?_ _)); refine blk_far ?_ NB286_304.out _; (with_reducible repeat (first | refine blk_drewN ?_ _ | refine blk_drew ?_ | refine blk_alloc ?_ _)); exact BK286.out) : P := h
theorem zq58 {P : Prop} (h : P := by (with_reducible repeat (first | apply Kd.R_alloc | apply Kd.R_drewN | apply Kd.R_drew)); exact HO_14.out) : P := h
theorem zq59 {P : Prop} (h : P := by repeat (first | (with_reducible first | exact HB.out | apply below_alloc | apply pw_below_drewN | apply below_drew1 | refine below_set ?_ GE278.out | refine below_set ?_ GE279.out) | exact HB.out)) : P := h
theorem zq60 {P : Prop} (h : P := by repeat (first | (with_reducible exact HR168_0.out) | (with_reducible refine Kd.C_alloc ?_ _) | (with_reducible refine Kd.C_drewN ?_ _) | (with_reducible refine Kd.C_drew ?_) | exact HR168_0.out)) : P := h
theorem zq61 {P : Prop} (h : P := by (with_reducible repeat (first | refine blk_drewN ?_ _ | refine blk_drew ?_ | refine blk_alloc ?_ _)); exact BK123.out) : P := h
theorem zq62 {P : Prop} (h : P := by (with_reducible repeat (first | apply Kd.R_alloc | apply Kd.R_drewN | apply Kd.R_drew)); exact HO_15.out) : P := h
theorem zq63 {P : Prop} (h : P := by (with_reducible repeat (first | refine blk_drewN ?_ _ | refine blk_drew ?_ | refine blk_alloc ?_ _)); refine blk_put (cs := #[.string ((rd_T88 (rd_L8 x9_2 x16_3) x97_4).f0), .string ((rd_T88 (rd_L8 x9_2 x16_3) x97_4).f1), .string (⟨#[]⟩ : ByteArray)]) ?_ 2 _ rfl; (with_reducible repeat (first | refine blk_drewN ?_ _ | refine blk_drew ?_ | refine blk_alloc ?_ _)); refine blk_put (cs := #[.string ((rd_T88 (rd_L8 x9_2 x16_3) x97_4).f0), .string (⟨#[]⟩ : ByteArray), .string (⟨#[]⟩ : ByteArray)]) ?_ 1 _ rfl; (with_reducible repeat (first | refine blk_drewN ?_ _ | refine blk_drew ?_ | refine blk_alloc ?_ _)); refine blk_put (cs := #[.string (⟨#[]⟩ : ByteArray), .string (⟨#[]⟩ : ByteArray), .string (⟨#[]⟩ : ByteArray)]) ?_ 0 _ rfl; (with_reducible repeat (first | refine blk_drewN ?_ _ | refine blk_drew ?_ | refine blk_alloc ?_ _)); exact BK271.out) : P := h
theorem zq64 {P : Prop} (h : P := by repeat (first | (with_reducible first | exact HB.out | apply below_alloc | apply pw_below_drewN | apply below_drew1 | refine below_set ?_ GE249.out | refine below_set ?_ GE250.out | refine below_set ?_ GE262.out | refine below_set ?_ GE268.out | refine below_set ?_ GE271.out) | exact HB.out)) : P := h
theorem zq65 {P : Prop} (h : P := by (with_reducible repeat (first | refine blk_drewN ?_ _ | refine blk_drew ?_ | refine blk_alloc ?_ _)); refine blk_far ?_ NB250_262.out _; (with_reducible repeat (first | refine blk_drewN ?_ _ | refine blk_drew ?_ | refine blk_alloc ?_ _)); refine blk_far ?_ NB250_262.out _; (with_reducible repeat (first | refine blk_drewN ?_ _ | refine blk_drew ?_ | refine blk_alloc ?_ _)); refine blk_far ?_ NB250_262.out _; (with_reducible repeat (first | refine blk_drewN ?_ _ | refine blk_drew ?_ | refine blk_alloc ?_ _)); refine blk_far ?_ NB250_262.out _; (with_reducible repeat (first | refine blk_drewN ?_ _ | refine blk_drew ?_ | refine blk_alloc ?_ _)); refine blk_far ?_ NB250_262.out _; (with_reducible repeat (first | refine blk_drewN ?_ _ | refine blk_drew ?_ | refine blk_alloc ?_ _)); exact BK250.out) : P := h
theorem zq66 {P : Prop} (h : P := by (with_reducible repeat (first | refine blk_drewN ?_ _ | refine blk_drew ?_ | refine blk_alloc ?_ _)); refine blk_far ?_ NB249_262.out _; (with_reducible repeat (first | refine blk_drewN ?_ _ | refine blk_drew ?_ | refine blk_alloc ?_ _)); refine blk_far ?_ NB249_262.out _; (with_reducible repeat (first | refine blk_drewN ?_ _ | refine blk_drew ?_ | refine blk_alloc ?_ _)); refine blk_far ?_ NB249_262.out _; (with_reducible repeat (first | refine blk_drewN ?_ _ | refine blk_drew ?_ | refine blk_alloc ?_ _)); refine blk_far ?_ NB249_262.out _; (with_reducible repeat (first | refine blk_drewN ?_ _ | refine blk_drew ?_ | refine blk_alloc ?_ _)); refine blk_far ?_ NB249_262.out _; (with_reducible repeat (first | refine blk_drewN ?_ _ | refine blk_drew ?_ | refine blk_alloc ?_ _)); exact BK249.out) : P := h
theorem zq67 {P : Prop} (h : P := by (with_reducible repeat (first | refine blk_drewN ?_ _ | refine blk_drew ?_ | refine blk_alloc ?_ _)); refine blk_far ?_ NB146_162.out _; (with_reducible repeat (first | refine blk_drewN ?_ _ | refine blk_drew ?_ | refine blk_alloc ?_ _)); refine blk_far ?_ NB146_162.out _; (with_reducible repeat (first | refine blk_drewN ?_ _ | refine blk_drew ?_ | refine blk_alloc ?_ _)); refine blk_far ?_ NB146_162.out _; (with_reducible repeat (first | refine blk_drewN ?_ _ | refine blk_drew ?_ | refine blk_alloc ?_ _)); refine blk_far ?_ NB146_162.out _; (with_reducible repeat (first | refine blk_drewN ?_ _ | refine blk_drew ?_ | refine blk_alloc ?_ _)); refine blk_far ?_ NB146_162.out _; (with_reducible repeat (first | refine blk_drewN ?_ _ | refine blk_drew ?_ | refine blk_alloc ?_ _)); exact BK146.out) : P := h
theorem zq68 {P : Prop} (h : P := by (with_reducible repeat (first | refine blk_drewN ?_ _ | refine blk_drew ?_ | refine blk_alloc ?_ _)); refine blk_far ?_ NB145_162.out _; (with_reducible repeat (first | refine blk_drewN ?_ _ | refine blk_drew ?_ | refine blk_alloc ?_ _)); refine blk_far ?_ NB145_162.out _; (with_reducible repeat (first | refine blk_drewN ?_ _ | refine blk_drew ?_ | refine blk_alloc ?_ _)); refine blk_far ?_ NB145_162.out _; (with_reducible repeat (first | refine blk_drewN ?_ _ | refine blk_drew ?_ | refine blk_alloc ?_ _)); refine blk_far ?_ NB145_162.out _; (with_reducible repeat (first | refine blk_drewN ?_ _ | refine blk_drew ?_ | refine blk_alloc ?_ _)); refine blk_far ?_ NB145_162.out _; (with_reducible repeat (first | refine blk_drewN ?_ _ | refine blk_drew ?_ | refine blk_alloc ?_ _)); exact BK145.out) : P := h
theorem zq69 {P : Prop} (h : P := by have := World.block_lt_of_cell? _ _ hx263_0; first | rwa [add_block] at this | exact this) : P := h
theorem zq70 {P : Prop} (h : P := by have := World.block_lt_of_cell? _ _ hx163_0; first | rwa [add_block] at this | exact this) : P := h
theorem zq71 {P : Prop} (h : P := by (with_reducible repeat (first | refine blk_drewN ?_ _ | refine blk_drew ?_ | refine blk_alloc ?_ _)); refine blk_put (cs := #[.int .u8 t170, .string t171, .string (⟨#[]⟩ : ByteArray)]) ?_ 2 _ rfl; (with_reducible repeat (first | refine blk_drewN ?_ _ | refine blk_drew ?_ | refine blk_alloc ?_ _)); refine blk_put (cs := #[.int .u8 t170, .string (⟨#[]⟩ : ByteArray), .string (⟨#[]⟩ : ByteArray)]) ?_ 1 _ rfl; (with_reducible repeat (first | refine blk_drewN ?_ _ | refine blk_drew ?_ | refine blk_alloc ?_ _)); refine blk_put (cs := #[.int .u8 0, .string (⟨#[]⟩ : ByteArray), .string (⟨#[]⟩ : ByteArray)]) ?_ 0 _ rfl; (with_reducible repeat (first | refine blk_drewN ?_ _ | refine blk_drew ?_ | refine blk_alloc ?_ _)); exact BK173.out) : P := h
theorem zq72 {P : Prop} (h : P := by (with_reducible repeat (first | apply Kd.R_alloc | apply Kd.R_drewN | apply Kd.R_drew)); exact HO_10.out) : P := h
theorem zq73 {P : Prop} (h : P := by (with_reducible repeat (first | apply Kd.R_alloc | apply Kd.R_drewN | apply Kd.R_drew)); exact HO202.out) : P := h
theorem zq74 {P : Prop} (h : P := by (with_reducible repeat (first | refine blk_drewN ?_ _ | refine blk_drew ?_ | refine blk_alloc ?_ _)); exact BK184.out) : P := h
theorem zq75 {P : Prop} (h : P := by first | rfl | (simp [errW_none, errW_some] <;> rfl) | (simp only [← hji47]; first | rfl | (simp [errW_none, errW_some] <;> rfl)) | (simp [*, errW_none, errW_some] <;> rfl)) : P := h
theorem zq76 {P : Prop} (h : P := by first | exact Kd.own_blk (Kd.R_ne HO_14.out BK173.out (by decide)) | (rw [add_block]; exact Kd.own_blk (Kd.R_ne HO_14.out BK173.out (by decide))) | (show (Addr.add _ _).block ≠ _; rw [add_block]; exact Kd.own_blk (Kd.R_ne HO_14.out BK173.out (by decide))) | (dsimp only; exact Kd.own_blk (Kd.R_ne HO_14.out BK173.out (by decide)))) : P := h
theorem zq77 {P : Prop} (h : P := by first | exact Kd.own_blk (Kd.S_away HO_9.out (fun _ hk => hk)) | (rw [add_block]; exact Kd.own_blk (Kd.S_away HO_9.out (fun _ hk => hk))) | (show (Addr.add _ _).block ≠ _; rw [add_block]; exact Kd.own_blk (Kd.S_away HO_9.out (fun _ hk => hk))) | (dsimp only; exact Kd.own_blk (Kd.S_away HO_9.out (fun _ hk => hk)))) : P := h
theorem zq78 {P : Prop} (h : P := by repeat (first | (with_reducible first | exact HB.out | apply below_alloc | apply pw_below_drewN | apply below_drew1 | refine below_set ?_ GE283.out | refine below_set ?_ GE284.out) | exact HB.out)) : P := h
theorem zq79 {P : Prop} (h : P := by repeat (first | (with_reducible first | exact HB.out | apply below_alloc | apply pw_below_drewN | apply below_drew1 | refine below_set ?_ GE276.out | refine below_set ?_ GE277.out) | exact HB.out)) : P := h
theorem zq80 {P : Prop} (h : P := by (with_reducible repeat (first | apply Kd.S_alloc | apply Kd.S_drewN | apply Kd.S_drew)); exact (Kd.S_mono (Kd.S_far (p := ⟨gb262, 4, none⟩) (Kd.S_far (p := ⟨gb262, 3, none⟩) (Kd.S_far (p := ⟨gb262, 2, none⟩) (Kd.S_far (p := ⟨gb262, 1, none⟩) (Kd.S_far (p := ⟨gb262, 0, none⟩) (Kd.S_types HO_9.out BK262.out (by decide)) (fun _ hk => hk.2) (.int .i64 2)) (fun _ hk => hk.2) (.bool false)) (fun _ hk => hk.2) (.string (⟨#[]⟩ : ByteArray))) (fun _ hk => hk.2) (.string (⟨#[]⟩ : ByteArray))) (fun _ hk => hk.2) (.bool false)) (fun _ h_ => h_.1))) : P := h
theorem zq81 {P : Prop} (h : P := by (with_reducible repeat (first | apply Kd.S_alloc | apply Kd.S_drewN | apply Kd.S_drew)); exact (Kd.S_mono (Kd.S_far (p := ⟨gb162, 4, none⟩) (Kd.S_far (p := ⟨gb162, 3, none⟩) (Kd.S_far (p := ⟨gb162, 2, none⟩) (Kd.S_far (p := ⟨gb162, 1, none⟩) (Kd.S_far (p := ⟨gb162, 0, none⟩) (Kd.S_types HO_9.out BK162.out (by decide)) (fun _ hk => hk.2) (.int .i64 2)) (fun _ hk => hk.2) (.bool false)) (fun _ hk => hk.2) (.string (⟨#[]⟩ : ByteArray))) (fun _ hk => hk.2) (.string (⟨#[]⟩ : ByteArray))) (fun _ hk => hk.2) (.bool false)) (fun _ h_ => h_.1))) : P := h
theorem zq82 {P : Prop} (h : P := by first | omega | exact Nat.le_refl _) : P := h
theorem zq83 {P : Prop} (h : P := by first | exact Kd.R_nil _ _ _ _ _ | exact Kd.N_nil _ _ _ _ _ | exact Kd.V_nil _ _ _ _ _ | exact Kd.Q_nil _ _ _ _ _ | exact Kd.S_nil _ _ _ _ _) : P := h
theorem zq84 {P : Prop} (h : P := by have := HK1.out; have := HJ5.out; first | omega | exact Nat.le_refl _) : P := h
theorem zq85 {P : Prop} (h : P := by (with_reducible repeat (first | apply Kd.S_alloc | apply Kd.S_drewN | apply Kd.S_drew)); exact Kd.S_mono (Kd.S_far (p := ⟨gb271, 2, none⟩) (Kd.S_far (p := ⟨gb271, 1, none⟩) (Kd.S_far (p := ⟨gb271, 0, none⟩) (Kd.S_mono HO_9.out (fun k_ hk => (⟨hk, hk.2⟩ : _ ∧ k_ ≠ gb271))) (fun _ hk => hk.2) (.string ((rd_T88 (rd_L8 x9_2 x16_3) x97_4).f0))) (fun _ hk => hk.2) (.string ((rd_T88 (rd_L8 x9_2 x16_3) x97_4).f1))) (fun _ hk => hk.2) (.string ((rd_T88 (rd_L8 x9_2 x16_3) x97_4).f2))) (fun _ hk => ⟨hk.1.1, hk.1.2⟩)) : P := h
theorem zq86 {P : Prop} (h : P := by (with_reducible repeat (first | apply Kd.R_alloc | apply Kd.R_drewN | apply Kd.R_drew)); exact Kd.R_mono HO_6.out (fun _ hk => trivial)) : P := h
theorem zq87 {P : Prop} (h : P := by (with_reducible repeat (first | refine blk_drewN ?_ _ | refine blk_drew ?_ | refine blk_alloc ?_ _)); refine blk_far ?_ NB268_271.out _; (with_reducible repeat (first | refine blk_drewN ?_ _ | refine blk_drew ?_ | refine blk_alloc ?_ _)); refine blk_far ?_ NB268_271.out _; (with_reducible repeat (first | refine blk_drewN ?_ _ | refine blk_drew ?_ | refine blk_alloc ?_ _)); refine blk_far ?_ NB268_271.out _; (with_reducible repeat (first | refine blk_drewN ?_ _ | refine blk_drew ?_ | refine blk_alloc ?_ _)); exact BK268.out) : P := h
theorem zq88 {P : Prop} (h : P := by (with_reducible repeat (first | refine blk_drewN ?_ _ | refine blk_drew ?_ | refine blk_alloc ?_ _)); refine blk_far ?_ NB262_271.out _; (with_reducible repeat (first | refine blk_drewN ?_ _ | refine blk_drew ?_ | refine blk_alloc ?_ _)); refine blk_far ?_ NB262_271.out _; (with_reducible repeat (first | refine blk_drewN ?_ _ | refine blk_drew ?_ | refine blk_alloc ?_ _)); refine blk_far ?_ NB262_271.out _; (with_reducible repeat (first | refine blk_drewN ?_ _ | refine blk_drew ?_ | refine blk_alloc ?_ _)); exact BK262.out) : P := h
theorem zq89 {P : Prop} (h : P := by (with_reducible repeat (first | refine blk_drewN ?_ _ | refine blk_drew ?_ | refine blk_alloc ?_ _)); refine blk_far ?_ NB250_271.out _; (with_reducible repeat (first | refine blk_drewN ?_ _ | refine blk_drew ?_ | refine blk_alloc ?_ _)); refine blk_far ?_ NB250_271.out _; (with_reducible repeat (first | refine blk_drewN ?_ _ | refine blk_drew ?_ | refine blk_alloc ?_ _)); refine blk_far ?_ NB250_271.out _; (with_reducible repeat (first | refine blk_drewN ?_ _ | refine blk_drew ?_ | refine blk_alloc ?_ _)); exact BK250.out) : P := h
theorem zq90 {P : Prop} (h : P := by (with_reducible repeat (first | refine blk_drewN ?_ _ | refine blk_drew ?_ | refine blk_alloc ?_ _)); refine blk_far ?_ NB249_271.out _; (with_reducible repeat (first | refine blk_drewN ?_ _ | refine blk_drew ?_ | refine blk_alloc ?_ _)); refine blk_far ?_ NB249_271.out _; (with_reducible repeat (first | refine blk_drewN ?_ _ | refine blk_drew ?_ | refine blk_alloc ?_ _)); refine blk_far ?_ NB249_271.out _; (with_reducible repeat (first | refine blk_drewN ?_ _ | refine blk_drew ?_ | refine blk_alloc ?_ _)); exact BK249.out) : P := h
theorem zq91 {P : Prop} (h : P := by (with_reducible repeat (first | refine blk_drewN ?_ _ | refine blk_drew ?_ | refine blk_alloc ?_ _)); refine blk_far ?_ NB162_173.out _; (with_reducible repeat (first | refine blk_drewN ?_ _ | refine blk_drew ?_ | refine blk_alloc ?_ _)); refine blk_far ?_ NB162_173.out _; (with_reducible repeat (first | refine blk_drewN ?_ _ | refine blk_drew ?_ | refine blk_alloc ?_ _)); refine blk_far ?_ NB162_173.out _; (with_reducible repeat (first | refine blk_drewN ?_ _ | refine blk_drew ?_ | refine blk_alloc ?_ _)); exact BK162.out) : P := h
theorem zq92 {P : Prop} (h : P := by (with_reducible repeat (first | refine blk_drewN ?_ _ | refine blk_drew ?_ | refine blk_alloc ?_ _)); refine blk_far ?_ NB146_173.out _; (with_reducible repeat (first | refine blk_drewN ?_ _ | refine blk_drew ?_ | refine blk_alloc ?_ _)); refine blk_far ?_ NB146_173.out _; (with_reducible repeat (first | refine blk_drewN ?_ _ | refine blk_drew ?_ | refine blk_alloc ?_ _)); refine blk_far ?_ NB146_173.out _; (with_reducible repeat (first | refine blk_drewN ?_ _ | refine blk_drew ?_ | refine blk_alloc ?_ _)); exact BK146.out) : P := h
theorem zq93 {P : Prop} (h : P := by (with_reducible repeat (first | refine blk_drewN ?_ _ | refine blk_drew ?_ | refine blk_alloc ?_ _)); refine blk_far ?_ NB145_173.out _; (with_reducible repeat (first | refine blk_drewN ?_ _ | refine blk_drew ?_ | refine blk_alloc ?_ _)); refine blk_far ?_ NB145_173.out _; (with_reducible repeat (first | refine blk_drewN ?_ _ | refine blk_drew ?_ | refine blk_alloc ?_ _)); refine blk_far ?_ NB145_173.out _; (with_reducible repeat (first | refine blk_drewN ?_ _ | refine blk_drew ?_ | refine blk_alloc ?_ _)); exact BK145.out) : P := h
theorem zq94 {P : Prop} (h : P := by omega) : P := h
theorem zq95 {P : Prop} (h : P := by (with_reducible repeat (first | apply Kd.R_alloc | apply Kd.R_drewN | apply Kd.R_drew)); exact Kd.R_mono (Kd.R_far (p := ⟨gb271, 2, none⟩) (Kd.R_far (p := ⟨gb271, 1, none⟩) (Kd.R_far (p := ⟨gb271, 0, none⟩) (Kd.R_types HO_15.out BK271.out (by decide)) (fun _ hk => hk.2) (.string ((rd_T88 (rd_L8 x9_2 x16_3) x97_4).f0))) (fun _ hk => hk.2) (.string ((rd_T88 (rd_L8 x9_2 x16_3) x97_4).f1))) (fun _ hk => hk.2) (.string ((rd_T88 (rd_L8 x9_2 x16_3) x97_4).f2))) (fun _ hk => trivial)) : P := h
theorem zq96 {P : Prop} (h : P := by repeat (first | (with_reducible first | exact HB.out | apply below_alloc | apply pw_below_drewN | apply below_drew1 | refine below_set ?_ GE133.out) | exact HB.out)) : P := h
theorem zq97 {P : Prop} (h : P := by repeat (first | (with_reducible first | exact HB.out | apply below_alloc | apply pw_below_drewN | apply below_drew1 | refine below_set ?_ GE184.out | refine below_set ?_ GE185.out | refine below_set ?_ GE186.out) | exact HB.out)) : P := h
theorem zq98 {P : Prop} (h : P := by (with_reducible repeat (first | apply Kd.S_alloc | apply Kd.S_drewN | apply Kd.S_drew)); exact Kd.S_mono (Kd.S_far (p := ⟨gb173, 2, none⟩) (Kd.S_far (p := ⟨gb173, 1, none⟩) (Kd.S_far (p := ⟨gb173, 0, none⟩) (Kd.S_mono HO_9.out (fun k_ hk => (⟨hk, hk⟩ : _ ∧ k_ ≠ gb173))) (fun _ hk => hk.2) (.int .u8 t170)) (fun _ hk => hk.2) (.string t171)) (fun _ hk => hk.2) (.string t172)) (fun _ hk => hk.1)) : P := h
theorem zq99 {P : Prop} (h : P := by (with_reducible repeat (first | apply Kd.R_alloc | apply Kd.R_drewN | apply Kd.R_drew)); exact HO_3.out) : P := h
theorem zq100 {P : Prop} (h : P := by (with_reducible repeat (first | apply Kd.R_alloc | apply Kd.R_drewN | apply Kd.R_drew)); exact (Kd.R_mono (Kd.R_far (p := ⟨gb304, 2, none⟩) (Kd.R_far (p := ⟨gb304, 1, none⟩) (Kd.R_far (p := ⟨gb304, 0, none⟩) (Kd.R_types HO301.out BK304.out (by decide)) (fun _ hk => hk.2) (.slice Ao94 t299.length co94)) (fun _ hk => hk.2) (.bool t302)) (fun _ hk => hk.2) (.string t303)) (fun _ h_ => h_.1))) : P := h
theorem zq101 {P : Prop} (h : P := by (with_reducible repeat (first | apply Kd.R_alloc | apply Kd.R_drewN | apply Kd.R_drew)); exact (Kd.R_mono (Kd.R_far (p := ⟨gb304, 2, none⟩) (Kd.R_far (p := ⟨gb304, 1, none⟩) (Kd.R_far (p := ⟨gb304, 0, none⟩) (Kd.R_types HO301.out BK304.out (by decide)) (fun _ hk => hk.2) (.slice Ao65 t299.length co65)) (fun _ hk => hk.2) (.bool t302)) (fun _ hk => hk.2) (.string t303)) (fun _ h_ => h_.1))) : P := h
theorem zq102 {P : Prop} (h : P := by (with_reducible repeat (first | apply Kd.R_alloc | apply Kd.R_drewN | apply Kd.R_drew)); exact (Kd.R_mono (Kd.R_far (p := ⟨gb304, 2, none⟩) (Kd.R_far (p := ⟨gb304, 1, none⟩) (Kd.R_far (p := ⟨gb304, 0, none⟩) (Kd.R_types HO301.out BK304.out (by decide)) (fun _ hk => hk.2) (.slice Ao36 t299.length co36)) (fun _ hk => hk.2) (.bool t302)) (fun _ hk => hk.2) (.string t303)) (fun _ h_ => h_.1))) : P := h
theorem zq103 {P : Prop} (h : P := by (with_reducible repeat (first | apply Kd.R_alloc | apply Kd.R_drewN | apply Kd.R_drew)); exact Kd.R_mono (Kd.R_far (p := ⟨gb173, 2, none⟩) (Kd.R_far (p := ⟨gb173, 1, none⟩) (Kd.R_far (p := ⟨gb173, 0, none⟩) (Kd.R_types HO_14.out BK173.out (by decide)) (fun _ hk => hk.2) (.int .u8 t170)) (fun _ hk => hk.2) (.string t171)) (fun _ hk => hk.2) (.string t172)) (fun _ hk => trivial)) : P := h
theorem zq104 {P : Prop} (h : P := by repeat (first | (with_reducible first | exact HB.out | apply below_alloc | apply pw_below_drewN | apply below_drew1 | refine below_set ?_ GE184.out | refine below_set ?_ GE185.out) | exact HB.out)) : P := h
theorem zq105 {P : Prop} (h : P := by rfl) : P := h
theorem zq106 {P : Prop} (h : P := by have := HK1.out; first | omega | exact Nat.le_refl _) : P := h
theorem zq107 {P : Prop} (h : P := by (with_reducible repeat (first | refine blk_drewN ?_ _ | refine blk_drew ?_ | refine blk_alloc ?_ _)); exact BK310.out) : P := h
theorem zq108 {P : Prop} (h : P := by (with_reducible repeat (first | refine blk_drewN ?_ _ | refine blk_drew ?_ | refine blk_alloc ?_ _)); exact BK185.out) : P := h
theorem zq109 {P : Prop} (h : P := by repeat (first | (with_reducible first | exact HB.out | apply below_alloc | apply pw_below_drewN | apply below_drew1 | refine below_set ?_ GE249.out) | exact HB.out)) : P := h
theorem zq110 {P : Prop} (h : P := by repeat (first | (with_reducible first | exact HB.out | apply below_alloc | apply pw_below_drewN | apply below_drew1 | refine below_set ?_ GE184.out) | exact HB.out)) : P := h
theorem zq111 {P : Prop} (h : P := by repeat (first | (with_reducible first | exact HB.out | apply below_alloc | apply pw_below_drewN | apply below_drew1 | refine below_set ?_ GE145.out) | exact HB.out)) : P := h
theorem zq112 {P : Prop} (h : P := by repeat (first | (with_reducible first | exact HB.out | apply below_alloc | apply pw_below_drewN | apply below_drew1 | refine below_set ?_ GE102.out) | exact HB.out)) : P := h
theorem zq113 {P : Prop} (h : P := by (with_reducible repeat (first | apply Kd.R_alloc | apply Kd.R_drewN | apply Kd.R_drew)); exact HL168_0.out) : P := h
theorem zq114 {P : Prop} (h : P := by have := HK1.out; have := HJ5.out; have := HJ10.out; have := HJ50.out; have := HK5.out; omega) : P := h
theorem zq115 {P : Prop} (h : P := by (with_reducible repeat (first | apply Kd.S_alloc | apply Kd.S_drewN | apply Kd.S_drew)); exact Kd.S_mono HO_9.out (fun _ hk => hk.2)) : P := h
theorem zq116 {P : Prop} (h : P := by have := HJ4.out; have := HK2.out; have := HK3.out; have := HK4.out; have := HJ95.out; first | omega | exact Nat.le_refl _) : P := h
theorem zq117 {P : Prop} (h : P := by have h_ := c72; rw [ByteArray.size_extract] at h_; (try have z0_ := of_eq_true c45b0); (try have z1_ := of_eq_true c46b0); (try have z2_ := of_eq_true c48b0); (try have z3_ := of_eq_true c49b0); (try have z4_ := of_eq_true c50b0); omega) : P := h
theorem zq118 {P : Prop} (h : P := by decide) : P := h
theorem zq119 {P : Prop} (h : P := by simp) : P := h
theorem zq120 {P : Prop} (h : P := by have := HJ4.out; have := HK2.out; have := HK3.out; have := HJ72.out; first | omega | exact Nat.le_refl _) : P := h
theorem zq121 {P : Prop} (h : P := by have := HK1.out; omega) : P := h
theorem zq122 {P : Prop} (h : P := by have := HK1.out; have := HJ5.out; have := HJ10.out; first | omega | exact Nat.le_refl _) : P := h
theorem zq123 {P : Prop} (h : P := by (try simp only [List.map_toArray, List.map_cons, List.map_nil]); first | done | (simp only [hji114]; rfl) | rfl | (simp only [List.length_drop, List.length_take]; rfl)) : P := h
theorem zq124 {P : Prop} (h : P := by (try simp only [List.map_toArray, List.map_cons, List.map_nil]); first | done | (simp only [hji90]; rfl) | rfl | (simp only [List.length_drop, List.length_take]; rfl)) : P := h
theorem zq125 {P : Prop} (h : P := by (with_reducible repeat (first | apply Kd.S_alloc | apply Kd.S_drewN | apply Kd.S_drew)); exact Kd.S_mono HO_9.out (fun k_ hk => ⟨trivial, fun e_ => hk.2 e_⟩)) : P := h
theorem zq126 {P : Prop} (h : P := by (with_reducible repeat (first | apply Kd.R_alloc | apply Kd.R_drewN | apply Kd.R_drew)); exact Kd.R_mono HL168_0.out (fun _ hk => ⟨hk.1.2, hk.2⟩)) : P := h
theorem zq127 {P : Prop} (h : P := by have := HJ4.out; have := HK2.out; have := HK3.out; have := HK4.out; have := HJ95.out; have := HJ137.out; first | omega | exact Nat.le_refl _) : P := h
theorem zq128 {P : Prop} (h : P := by (with_reducible repeat (first | apply Kd.S_alloc | apply Kd.S_drewN | apply Kd.S_drew)); exact Kd.S_mono HO_9.out (fun _ hk => trivial)) : P := h
theorem zq129 {P : Prop} (h : P := by first | (rw [add_block]; exact hn263_4) | (show (Addr.add _ _).block ≠ _; rw [add_block]; exact hn263_4) | exact hn263_4) : P := h
theorem zq130 {P : Prop} (h : P := by first | (rw [add_block]; exact hn263_3) | (show (Addr.add _ _).block ≠ _; rw [add_block]; exact hn263_3) | exact hn263_3) : P := h
theorem zq131 {P : Prop} (h : P := by first | (rw [add_block]; exact hn263_2) | (show (Addr.add _ _).block ≠ _; rw [add_block]; exact hn263_2) | exact hn263_2) : P := h
theorem zq132 {P : Prop} (h : P := by first | (rw [add_block]; exact hn263_1) | (show (Addr.add _ _).block ≠ _; rw [add_block]; exact hn263_1) | exact hn263_1) : P := h
theorem zq133 {P : Prop} (h : P := by first | (rw [add_block]; exact hn263_0) | (show (Addr.add _ _).block ≠ _; rw [add_block]; exact hn263_0) | exact hn263_0) : P := h
theorem zq134 {P : Prop} (h : P := by first | (rw [add_block]; exact hn163_4) | (show (Addr.add _ _).block ≠ _; rw [add_block]; exact hn163_4) | exact hn163_4) : P := h
theorem zq135 {P : Prop} (h : P := by first | (rw [add_block]; exact hn163_3) | (show (Addr.add _ _).block ≠ _; rw [add_block]; exact hn163_3) | exact hn163_3) : P := h
theorem zq136 {P : Prop} (h : P := by first | (rw [add_block]; exact hn163_2) | (show (Addr.add _ _).block ≠ _; rw [add_block]; exact hn163_2) | exact hn163_2) : P := h
theorem zq137 {P : Prop} (h : P := by first | (rw [add_block]; exact hn163_1) | (show (Addr.add _ _).block ≠ _; rw [add_block]; exact hn163_1) | exact hn163_1) : P := h
theorem zq138 {P : Prop} (h : P := by first | (rw [add_block]; exact hn163_0) | (show (Addr.add _ _).block ≠ _; rw [add_block]; exact hn163_0) | exact hn163_0) : P := h
theorem zq139 {P : Prop} (h : P := by (with_reducible repeat (first | refine blk_drewN ?_ _ | refine blk_drew ?_ | refine blk_alloc ?_ _)); exact BK279.out) : P := h
theorem zq140 {P : Prop} (h : P := by (with_reducible repeat (first | refine blk_drewN ?_ _ | refine blk_drew ?_ | refine blk_alloc ?_ _)); exact BK133.out) : P := h
theorem zq141 {P : Prop} (h : P := by have := HJ2.out; have := HK2.out; omega) : P := h
theorem zq142 {P : Prop} (h : P := by simpa using c5) : P := h
theorem zq143 {P : Prop} (h : P := by have := HK1.out; have := HJ6.out; have := HK3.out; omega) : P := h
attribute [local go_sem] max2_int min2_int max_two min_two max_three min_three max_four min_four   
set_option linter.unusedVariables false
set_option linter.unusedSimpArgs false
def errW : Option Int → Value
 | none => .nilIface
 | some c => .iface 0 (.int .i64 c)
theorem errW_none : errW none = .nilIface := rfl
theorem errW_some (c : Int) : errW (some c) = .iface 0 (.int .i64 c) := rfl
theorem info5 : (Tryd.prog.info? 5).map (fun i => (i.zero, i.size, i.bytes)) = some (some (.int .u8 0), 1, 1) := by kernel_rfl
theorem info9 : (Tryd.prog.info? 9).map (fun i => (i.zero, i.size, i.bytes)) = some (some (.string ⟨#[]⟩), 1, 16) := by kernel_rfl
theorem info74 : (Tryd.prog.info? 74).map (fun i => (i.zero, i.size, i.bytes)) = some (some (.slice none 0 0), 1, 24) := by kernel_rfl
theorem info78 : (Tryd.prog.info? 78).map (fun i => (i.zero, i.size, i.bytes)) = some (some (.agg #[(.int .u8 0), (.string ⟨#[]⟩), (.string ⟨#[]⟩)]), 3, 40) := by kernel_rfl
theorem info83 : (Tryd.prog.info? 83).map (fun i => (i.zero, i.size, i.bytes)) = some (some (.slice none 0 0), 1, 24) := by kernel_rfl
theorem info88 : (Tryd.prog.info? 88).map (fun i => (i.zero, i.size, i.bytes)) = some (some (.agg #[(.string ⟨#[]⟩), (.string ⟨#[]⟩), (.string ⟨#[]⟩)]), 3, 48) := by kernel_rfl
structure S78 where
 f0 : Int
 f1 : ByteArray
 f2 : ByteArray
def z78 : S78 := ⟨(0 : Int), (⟨#[]⟩ : ByteArray), (⟨#[]⟩ : ByteArray)⟩
def k78 : Kd S78 := Kd.iso (Kd.pair (Kd.int .u8) (Kd.pair Kd.string Kd.string)) (fun x : S78 => (x.f0, x.f1, x.f2))
theorem k78_open {w : World} {x : S78} {cs : List Value} (h : k78.K w x cs) : cs = [.int .u8 x.f0, .string x.f1, .string x.f2] := by
 obtain ⟨_, _, rfl, rfl, ⟨_, _, rfl, rfl, rfl⟩⟩ := h
 exact rfl
theorem k78_mkM (w : World) (base : Nat) (ok : Nat → Prop) (x : S78)  : k78.M w base ok x [.int .u8 x.f0, .string x.f1, .string x.f2] := ⟨[.int .u8 x.f0], [.string x.f1, .string x.f2], rfl, rfl, ⟨[.string x.f1], [.string x.f2], rfl, rfl, rfl⟩⟩
def rd_T78 (xs : List S78) (i : Int) : S78 := xs.getD i.toNat z78
theorem at_T78 {w : World} {A : Option Addr} {n : Nat} {xs : List S78} (h : Kd.C k78 w A n xs) (i : Int) (h0 : 0 ≤ i) (h1 : i < n) : ∃ ad , A = some ad ∧ w.cell? (ad.add (i.toNat * 3)) = some (.int .u8 (rd_T78 xs i).f0) ∧ w.cell? ⟨(ad.add (i.toNat * 3)).block, (ad.add (i.toNat * 3)).off + 1, none⟩ = some (.string (rd_T78 xs i).f1) ∧ w.cell? ⟨(ad.add (i.toNat * 3)).block, (ad.add (i.toNat * 3)).off + 2, none⟩ = some (.string (rd_T78 xs i).f2) := by
 obtain ⟨ad, c, e, _, hK, hc0⟩ := Kd.C_get h z78 i h0 h1
 have hc : ∀ j u, c[j]? = some u → w.cell? (ad.add (i.toNat * 3 + j)) = some u := hc0
 obtain rfl := k78_open hK
 exact ⟨ad, e, hc 0 _ rfl, by rw [← add_field _ _ 1 zq94]; exact hc 1 _ rfl, by rw [← add_field _ _ 2 zq94]; exact hc 2 _ rfl⟩
def rd_L3 (xs : List (List S78)) (i : Int) : (List S78) := xs.getD i.toNat ([] : List S78)
theorem at_L3 {w : World} {A : Option Addr} {n : Nat} {xs : List (List S78)} (h : Kd.C (Kd.slice 78 k78) w A n xs) (i : Int) (h0 : 0 ≤ i) (h1 : i < n) : ∃ ad A0 c0, A = some ad ∧ w.cell? (ad.add i.toNat) = some (.slice A0 (rd_L3 xs i).length c0) ∧ (rd_L3 xs i).length ≤ c0 ∧ k78.C w A0 (rd_L3 xs i).length (rd_L3 xs i) := by
 obtain ⟨ad, c, e, _, hK, hc0⟩ := Kd.C_get h ([] : List S78) i h0 h1
 have hc : ∀ j u, c[j]? = some u → w.cell? (ad.add (i.toNat * 1 + j)) = some u := hc0
 obtain ⟨A0, c0, rfl, l0, g0⟩ := hK
 exact ⟨ad, A0, c0, e, by have hq := hc 0 _ rfl; rwa [Nat.mul_one, Nat.add_zero] at hq, l0, g0⟩
structure S88 where
 f0 : ByteArray
 f1 : ByteArray
 f2 : ByteArray
def z88 : S88 := ⟨(⟨#[]⟩ : ByteArray), (⟨#[]⟩ : ByteArray), (⟨#[]⟩ : ByteArray)⟩
def k88 : Kd S88 := Kd.iso (Kd.pair Kd.string (Kd.pair Kd.string Kd.string)) (fun x : S88 => (x.f0, x.f1, x.f2))
theorem k88_open {w : World} {x : S88} {cs : List Value} (h : k88.K w x cs) : cs = [.string x.f0, .string x.f1, .string x.f2] := by
 obtain ⟨_, _, rfl, rfl, ⟨_, _, rfl, rfl, rfl⟩⟩ := h
 exact rfl
theorem k88_mkM (w : World) (base : Nat) (ok : Nat → Prop) (x : S88)  : k88.M w base ok x [.string x.f0, .string x.f1, .string x.f2] := ⟨[.string x.f0], [.string x.f1, .string x.f2], rfl, rfl, ⟨[.string x.f1], [.string x.f2], rfl, rfl, rfl⟩⟩
def rd_T88 (xs : List S88) (i : Int) : S88 := xs.getD i.toNat z88
theorem at_T88 {w : World} {A : Option Addr} {n : Nat} {xs : List S88} (h : Kd.C k88 w A n xs) (i : Int) (h0 : 0 ≤ i) (h1 : i < n) : ∃ ad , A = some ad ∧ w.cell? (ad.add (i.toNat * 3)) = some (.string (rd_T88 xs i).f0) ∧ w.cell? ⟨(ad.add (i.toNat * 3)).block, (ad.add (i.toNat * 3)).off + 1, none⟩ = some (.string (rd_T88 xs i).f1) ∧ w.cell? ⟨(ad.add (i.toNat * 3)).block, (ad.add (i.toNat * 3)).off + 2, none⟩ = some (.string (rd_T88 xs i).f2) := by
 obtain ⟨ad, c, e, _, hK, hc0⟩ := Kd.C_get h z88 i h0 h1
 have hc : ∀ j u, c[j]? = some u → w.cell? (ad.add (i.toNat * 3 + j)) = some u := hc0
 obtain rfl := k88_open hK
 exact ⟨ad, e, hc 0 _ rfl, by rw [← add_field _ _ 1 zq94]; exact hc 1 _ rfl, by rw [← add_field _ _ 2 zq94]; exact hc 2 _ rfl⟩
def rd_L8 (xs : List (List S88)) (i : Int) : (List S88) := xs.getD i.toNat ([] : List S88)
theorem at_L8 {w : World} {A : Option Addr} {n : Nat} {xs : List (List S88)} (h : Kd.C (Kd.slice 88 k88) w A n xs) (i : Int) (h0 : 0 ≤ i) (h1 : i < n) : ∃ ad A0 c0, A = some ad ∧ w.cell? (ad.add i.toNat) = some (.slice A0 (rd_L8 xs i).length c0) ∧ (rd_L8 xs i).length ≤ c0 ∧ k88.C w A0 (rd_L8 xs i).length (rd_L8 xs i) := by
 obtain ⟨ad, c, e, _, hK, hc0⟩ := Kd.C_get h ([] : List S88) i h0 h1
 have hc : ∀ j u, c[j]? = some u → w.cell? (ad.add (i.toNat * 1 + j)) = some u := hc0
 obtain ⟨A0, c0, rfl, l0, g0⟩ := hK
 exact ⟨ad, A0, c0, e, by have hq := hc 0 _ rfl; rwa [Nat.mul_one, Nat.add_zero] at hq, l0, g0⟩
end Go.Proofs.YtgjipjffpodjlaaDoor.K
namespace Go.Proofs.YtgjipjffpodjlaaDoor.K
open Go.RowKit Go.Proofs.YtgjipjffpodjlaaDoorW.PrintWords Go.Proofs.YtgjipjffpodjlaaDoorW.PrintLast Go.Proofs.YtgjipjffpodjlaaDoorW.PrintMore
attribute [local go_sem] max2_int min2_int max_two min_two max_three min_three max_four min_four   
set_option linter.unusedVariables false
set_option linter.unusedSimpArgs false
def laws_szStringS.l0 : Nat → List ByteArray → Int → Int → Option (Int)
 | 0, _, _, _ => none
 | k + 1, x0, x1, x5 => if x5 < (x0.length : Int) then (if 0 ≤ x5 then (if (wrap64 (x1 - ((rdOf ByteArray.empty x0 x5).size : Int))) < 0 then (some (-1)) else (laws_szStringS.l0 k x0 (wrap64 (x1 - ((rdOf ByteArray.empty x0 x5).size : Int))) (wrap64 (x5 + 1)))) else (none)) else (some x1)
def laws_szStringS.f (k : Nat) (l0 : List ByteArray) (a1 : Int) : Option (Int) := if (wrap64 (a1 - (l0.length : Int))) < 0 then (some (-1)) else (laws_szStringS.l0 k l0 (wrap64 (a1 - (l0.length : Int))) 0)
theorem laws_szStringS.mono_l : ∀ k, (∀ y0 y1 y2, LeO (laws_szStringS.l0 k y0 y1 y2) (laws_szStringS.l0 (k + 1) y0 y1 y2))
 | 0 => fun _ _ _ r h => by simp [laws_szStringS.l0] at h
 | k + 1 => by
  have ih0 := laws_szStringS.mono_l k
  ·intro y0 y1 y2
   unfold laws_szStringS.l0
   repeat' first
   | (with_reducible exact ih0 _ _ _)
   | (with_reducible exact LeO.refl _)
   | (with_reducible exact LeO.none _)
   | (with_reducible refine LeO.ite ?_ ?_)
   | (with_reducible refine LeO.bind ?_ (fun _ => ?_))
   | exact ih0 _ _ _
   | exact LeO.none _
   | refine LeO.ite ?_ ?_
   | refine LeO.bind ?_ (fun _ => ?_)
theorem laws_szStringS.mono : ∀ a0 a1 k, LeO (laws_szStringS.f k a0 a1) (laws_szStringS.f (k + 1) a0 a1) := by
 intro a0 a1 k
 have ih0 := laws_szStringS.mono_l k
 unfold laws_szStringS.f
 repeat' first
   | (with_reducible exact ih0 _ _ _)
   | (with_reducible exact LeO.refl _)
   | (with_reducible exact LeO.none _)
   | (with_reducible refine LeO.ite ?_ ?_)
   | (with_reducible refine LeO.bind ?_ (fun _ => ?_))
   | exact ih0 _ _ _
   | exact LeO.none _
   | refine LeO.ite ?_ ?_
   | refine LeO.bind ?_ (fun _ => ?_)
set_option maxHeartbeats 2000000 in
set_option maxRecDepth 100000 in
theorem laws_szStringS.calls (k : Nat) (A0 : Option Addr) (c0 : Nat) (l0 : List ByteArray) (a1 : Int) (r : Int) (w : World) (hr0 : Kd.C Kd.string w A0 l0.length l0) (hc0 : l0.length ≤ c0) (h : laws_szStringS.f k l0 a1 = some r) :
  Calls Tryd.prog 38 #[.slice A0 l0.length c0, .int .i64 a1] w fun e w' => e = .returned (.int .i64 r) ∧ Drawn0 w w' := by
 have HR0 := AZ.mk hr0
 have HC0 := AZ.mk hc0
 clear hr0 hc0
 have H : (if (wrap64 (a1 - (l0.length : Int))) < 0 then (some (-1)) else (laws_szStringS.l0 k l0 (wrap64 (a1 - (l0.length : Int))) 0)) = some r := h
 clear h
 by_cases c3 : (wrap64 (a1 - (l0.length : Int))) < 0
 ·rw [if_pos c3] at H
  have c3b0 : decide ((wrap64 (a1 - (l0.length : Int))) < 0) = true := decide_eq_true c3
  clear c3
  obtain rfl := Option.some.inj H
  go_enter Tryd.func38, Tryd.ntmps38
  go_wp2
  go_ret
  exact ⟨zq8, zq31⟩
 ·rw [if_neg c3] at H
  have c3b0 : decide ((wrap64 (a1 - (l0.length : Int))) < 0) = false := decide_eq_false c3
  clear c3
  have H' := AZ.mk H
  clear H
  go_enter Tryd.func38, Tryd.ntmps38
  go_wp2
  go_loopg [1, 5] k (fun kq v1 v5 w' => ∃ (x1_1 : Int) (x5_1 : Int), v1 = .int .i64 x1_1 ∧ v5 = .int .i64 x5_1 ∧ AZ (laws_szStringS.l0 kq l0 x1_1 x5_1 = some r) ∧ AZ (kq ≤ k) ∧ Drawn0 w w')
  case atStart => exact ⟨(wrap64 (a1 - (l0.length : Int))), (0), zq8, zq8, H', ⟨Nat.le_refl _⟩, zq31⟩
  case round =>
   clear H'
   try clear p2
   try clear c3
   try clear c3b0
   obtain ⟨x1_1, x5_1, rfl, rfl, HA, HK1, ⟨m1, rfl⟩⟩ := hrel
   cases gk with
   | zero => exact absurd HA.out (by simp [laws_szStringS.l0])
   | succ k1 =>
    have H := HA.out
    clear HA
    simp only [laws_szStringS.l0] at H
    by_cases c4 : x5_1 < (l0.length : Int)
    ·rw [if_pos c4] at H
     have c4b0 : decide (x5_1 < (l0.length : Int)) = true := decide_eq_true c4
     clear c4
     by_cases c5 : 0 ≤ x5_1
     ·rw [if_pos c5] at H
      have c5b0 : decide (0 ≤ x5_1) = true := decide_eq_true c5
      clear c5
      by_cases c6 : (wrap64 (x1_1 - ((rdOf ByteArray.empty l0 x5_1).size : Int))) < 0
      ·rw [if_pos c6] at H
       have c6b0 : decide ((wrap64 (x1_1 - ((rdOf ByteArray.empty l0 x5_1).size : Int))) < 0) = true := decide_eq_true c6
       clear c6
       obtain rfl := Option.some.inj H
       have p101 : 0 ≤ (x5_1 : Int) := of_decide_eq_true zq1
       have q101 : x5_1 < (l0.length : Int) := of_decide_eq_true zq1
       obtain ⟨ad101, e101, hx101_0⟩ := Kd.at_string HR0.out x5_1 p101 q101
       cases e101
       replace p101 := eq_true p101
       replace q101 := eq_true q101
       go_wp2
       go_ret
       exact ⟨zq8, zq31⟩
      ·rw [if_neg c6] at H
       have c6b0 : decide ((wrap64 (x1_1 - ((rdOf ByteArray.empty l0 x5_1).size : Int))) < 0) = false := decide_eq_false c6
       clear c6
       have H' := AZ.mk H
       clear H
       have p101 : 0 ≤ (x5_1 : Int) := of_decide_eq_true zq1
       have q101 : x5_1 < (l0.length : Int) := of_decide_eq_true zq1
       obtain ⟨ad101, e101, hx101_0⟩ := Kd.at_string HR0.out x5_1 p101 q101
       cases e101
       replace p101 := eq_true p101
       replace q101 := eq_true q101
       go_wp2
       go_roundg k1
       case measure => have := HK1.out; omega
       case rel => exact ⟨(wrap64 (x1_1 - ((rdOf ByteArray.empty l0 x5_1).size : Int))), (wrap64 (x5_1 + 1)), zq8, zq8, H', ⟨zq121⟩, zq31⟩
     ·rw [if_neg c5] at H
      exact absurd H zq119
    ·rw [if_neg c4] at H
     have c4b0 : decide (x5_1 < (l0.length : Int)) = false := decide_eq_false c4
     clear c4
     obtain rfl := Option.some.inj H
     go_wp2
     go_ret
     exact ⟨zq8, zq31⟩
end Go.Proofs.YtgjipjffpodjlaaDoor.K
namespace Go.Proofs.YtgjipjffpodjlaaDoor.K
open Go.RowKit Go.Proofs.YtgjipjffpodjlaaDoorW.PrintWords Go.Proofs.YtgjipjffpodjlaaDoorW.PrintLast Go.Proofs.YtgjipjffpodjlaaDoorW.PrintMore
attribute [local go_sem] max2_int min2_int max_two min_two max_three min_three max_four min_four   
set_option linter.unusedVariables false
set_option linter.unusedSimpArgs false
def laws_szProof.f (k : Nat) (l0_0 : List ByteArray) (a0_1 : Bool) (a0_2 : ByteArray) (a1 : Int) : Option (Int) := (laws_szStringS.f k l0_0 a1).bind fun t103 => (if t103 < 0 then (some (-1)) else (if (wrap64 (t103 - (a0_2.size : Int))) < 0 then (some (-1)) else (some (wrap64 (t103 - (a0_2.size : Int))))))
theorem laws_szProof.mono : ∀ a0 a1 a2 a3 k, LeO (laws_szProof.f k a0 a1 a2 a3) (laws_szProof.f (k + 1) a0 a1 a2 a3) := by
 intro a0 a1 a2 a3 k
 unfold laws_szProof.f
 repeat' first
   | (with_reducible exact laws_szStringS.mono _ _ _)
   | (with_reducible exact LeO.refl _)
   | (with_reducible exact LeO.none _)
   | (with_reducible refine LeO.ite ?_ ?_)
   | (with_reducible refine LeO.bind ?_ (fun _ => ?_))
   | exact laws_szStringS.mono _ _ _
   | exact LeO.none _
   | refine LeO.ite ?_ ?_
   | refine LeO.bind ?_ (fun _ => ?_)
set_option maxHeartbeats 2000000 in
set_option maxRecDepth 100000 in
theorem laws_szProof.calls (k : Nat) (A0_0 : Option Addr) (c0_0 : Nat) (l0_0 : List ByteArray) (a0_1 : Bool) (a0_2 : ByteArray) (a1 : Int) (r : Int) (w : World) (hr0_0 : Kd.C Kd.string w A0_0 l0_0.length l0_0) (hc0_0 : l0_0.length ≤ c0_0) (h : laws_szProof.f k l0_0 a0_1 a0_2 a1 = some r) :
  Calls Tryd.prog 10 #[.agg #[.slice A0_0 l0_0.length c0_0, .bool a0_1, .string a0_2], .int .i64 a1] w fun e w' => e = .returned (.int .i64 r) ∧ Below w.heap.size w w' := by
 have hu31 := Tryd.underlying31
 have HR0_0 := AZ.mk hr0_0
 have HC0_0 := AZ.mk hc0_0
 clear hr0_0 hc0_0
 have HB := AZ.mk (Below.refl w.heap.size w)
 have H : ((laws_szStringS.f k l0_0 a1).bind fun t103 => (if t103 < 0 then (some (-1)) else (if (wrap64 (t103 - (a0_2.size : Int))) < 0 then (some (-1)) else (some (wrap64 (t103 - (a0_2.size : Int))))))) = some r := h
 clear h
 replace H := Option.bind_eq_some_iff.mp H
 obtain ⟨t103, A30, H⟩ := H
 try dsimp only at H
 have A3 := AZ.mk A30
 clear A30
 by_cases c4 : t103 < 0
 ·rw [if_pos c4] at H
  have c4b0 : decide (t103 < 0) = true := decide_eq_true c4
  clear c4
  obtain rfl := Option.some.inj H
  go_enter Tryd.func10, Tryd.ntmps10
  go_wp2_with (first | ((with_reducible refine gate_dst (N := 2) rfl ?_); refine box_event ?hg (N := 2) ?hd (cs := #[.slice A0_0 l0_0.length c0_0, .bool a0_1, .string a0_2]) (t := 31) ?hr ?_; (case hd => rfl); (case hg => rfl); (case hr => first | (go_simp; done) | (go_simp; rfl)); intro gb102 hg w5 hbox hb; have n0_ := AZ.mk (below_step zq0 hb); have n1_ := AZ.mk (hbox); have n2_ := AZ.mk ((by rw [hg]; exact (below_size zq0) : w.heap.size ≤ gb102)); have n3_ := AZ.mk ((by rw [hg]; exact (below_size zq0) : w.heap.size ≤ gb102)); clear HB; have HB := n0_; have BK102 := n1_; have GW102 := n2_; have GE102 := n3_; clear n0_ n1_ n2_ n3_; clear hb hbox hg; have hcz6_0 : w5.cell? ⟨gb102, 0, none⟩ = some (.slice A0_0 l0_0.length c0_0) := (blk_cell BK102.out 0).trans rfl; have hcz6_1 : w5.cell? ⟨gb102, 1, none⟩ = some (.bool a0_1) := (blk_cell BK102.out 1).trans rfl; have hcz6_2 : w5.cell? ⟨gb102, 2, none⟩ = some (.string a0_2) := (blk_cell BK102.out 2).trans rfl; have hfz6_0 := blk_frozen BK102.out 0; have hfz6_1 := blk_frozen BK102.out 1; have hfz6_2 := blk_frozen BK102.out 2) | ((with_reducible refine gate_callee (f := 38) rfl ?_); refine goesL_ (some 8) rfl rfl Tryd.func38 zq17 rfl #[.slice A0_0 l0_0.length c0_0, .int .i64 a1] rfl zq2 ?_; (with_reducible refine (laws_szStringS.calls k _ _ l0_0 a1 t103 _ ?side1 ?side2 A3.out).mono ?_); (case side1 => repeat (first | exact (Kd.C_below HR0_0.out HB.out) | (with_reducible refine Kd.C_alloc ?_ _) | (with_reducible refine Kd.C_drewN ?_ _) | (with_reducible refine Kd.C_drew ?_))); (case side2 => exact HC0_0.out); rintro e w' ⟨rfl, ⟨nd, rfl⟩⟩; refine ⟨_, rfl, ?_⟩))
  go_ret
  exact ⟨zq7, zq112⟩
 ·rw [if_neg c4] at H
  have c4b0 : decide (t103 < 0) = false := decide_eq_false c4
  clear c4
  by_cases c7 : (wrap64 (t103 - (a0_2.size : Int))) < 0
  ·rw [if_pos c7] at H
   have c7b0 : decide ((wrap64 (t103 - (a0_2.size : Int))) < 0) = true := decide_eq_true c7
   clear c7
   obtain rfl := Option.some.inj H
   go_enter Tryd.func10, Tryd.ntmps10
   go_wp2_with (first | ((with_reducible refine gate_dst (N := 2) rfl ?_); refine box_event ?hg (N := 2) ?hd (cs := #[.slice A0_0 l0_0.length c0_0, .bool a0_1, .string a0_2]) (t := 31) ?hr ?_; (case hd => rfl); (case hg => rfl); (case hr => first | (go_simp; done) | (go_simp; rfl)); intro gb102 hg w8 hbox hb; have n0_ := AZ.mk (below_step zq0 hb); have n1_ := AZ.mk (hbox); have n2_ := AZ.mk ((by rw [hg]; exact (below_size zq0) : w.heap.size ≤ gb102)); have n3_ := AZ.mk ((by rw [hg]; exact (below_size zq0) : w.heap.size ≤ gb102)); clear HB; have HB := n0_; have BK102 := n1_; have GW102 := n2_; have GE102 := n3_; clear n0_ n1_ n2_ n3_; clear hb hbox hg; have hcz9_0 : w8.cell? ⟨gb102, 0, none⟩ = some (.slice A0_0 l0_0.length c0_0) := (blk_cell BK102.out 0).trans rfl; have hcz9_1 : w8.cell? ⟨gb102, 1, none⟩ = some (.bool a0_1) := (blk_cell BK102.out 1).trans rfl; have hcz9_2 : w8.cell? ⟨gb102, 2, none⟩ = some (.string a0_2) := (blk_cell BK102.out 2).trans rfl; have hfz9_0 := blk_frozen BK102.out 0; have hfz9_1 := blk_frozen BK102.out 1; have hfz9_2 := blk_frozen BK102.out 2) | ((with_reducible refine gate_callee (f := 38) rfl ?_); refine goesL_ (some 8) rfl rfl Tryd.func38 zq17 rfl #[.slice A0_0 l0_0.length c0_0, .int .i64 a1] rfl zq2 ?_; (with_reducible refine (laws_szStringS.calls k _ _ l0_0 a1 t103 _ ?side1 ?side2 A3.out).mono ?_); (case side1 => repeat (first | exact (Kd.C_below HR0_0.out HB.out) | (with_reducible refine Kd.C_alloc ?_ _) | (with_reducible refine Kd.C_drewN ?_ _) | (with_reducible refine Kd.C_drew ?_))); (case side2 => exact HC0_0.out); rintro e w' ⟨rfl, ⟨nd, rfl⟩⟩; refine ⟨_, rfl, ?_⟩))
   go_ret
   exact ⟨zq7, zq112⟩
  ·rw [if_neg c7] at H
   have c7b0 : decide ((wrap64 (t103 - (a0_2.size : Int))) < 0) = false := decide_eq_false c7
   clear c7
   obtain rfl := Option.some.inj H
   go_enter Tryd.func10, Tryd.ntmps10
   go_wp2_with (first | ((with_reducible refine gate_dst (N := 2) rfl ?_); refine box_event ?hg (N := 2) ?hd (cs := #[.slice A0_0 l0_0.length c0_0, .bool a0_1, .string a0_2]) (t := 31) ?hr ?_; (case hd => rfl); (case hg => rfl); (case hr => first | (go_simp; done) | (go_simp; rfl)); intro gb102 hg w10 hbox hb; have n0_ := AZ.mk (below_step zq0 hb); have n1_ := AZ.mk (hbox); have n2_ := AZ.mk ((by rw [hg]; exact (below_size zq0) : w.heap.size ≤ gb102)); have n3_ := AZ.mk ((by rw [hg]; exact (below_size zq0) : w.heap.size ≤ gb102)); clear HB; have HB := n0_; have BK102 := n1_; have GW102 := n2_; have GE102 := n3_; clear n0_ n1_ n2_ n3_; clear hb hbox hg; have hcz11_0 : w10.cell? ⟨gb102, 0, none⟩ = some (.slice A0_0 l0_0.length c0_0) := (blk_cell BK102.out 0).trans rfl; have hcz11_1 : w10.cell? ⟨gb102, 1, none⟩ = some (.bool a0_1) := (blk_cell BK102.out 1).trans rfl; have hcz11_2 : w10.cell? ⟨gb102, 2, none⟩ = some (.string a0_2) := (blk_cell BK102.out 2).trans rfl; have hfz11_0 := blk_frozen BK102.out 0; have hfz11_1 := blk_frozen BK102.out 1; have hfz11_2 := blk_frozen BK102.out 2) | ((with_reducible refine gate_callee (f := 38) rfl ?_); refine goesL_ (some 8) rfl rfl Tryd.func38 zq17 rfl #[.slice A0_0 l0_0.length c0_0, .int .i64 a1] rfl zq2 ?_; (with_reducible refine (laws_szStringS.calls k _ _ l0_0 a1 t103 _ ?side1 ?side2 A3.out).mono ?_); (case side1 => repeat (first | exact (Kd.C_below HR0_0.out HB.out) | (with_reducible refine Kd.C_alloc ?_ _) | (with_reducible refine Kd.C_drewN ?_ _) | (with_reducible refine Kd.C_drew ?_))); (case side2 => exact HC0_0.out); rintro e w' ⟨rfl, ⟨nd, rfl⟩⟩; refine ⟨_, rfl, ?_⟩))
   go_ret
   exact ⟨zq7, zq112⟩
end Go.Proofs.YtgjipjffpodjlaaDoor.K
namespace Go.Proofs.YtgjipjffpodjlaaDoor.K
open Go.RowKit Go.Proofs.YtgjipjffpodjlaaDoorW.PrintWords Go.Proofs.YtgjipjffpodjlaaDoorW.PrintLast Go.Proofs.YtgjipjffpodjlaaDoorW.PrintMore
attribute [local go_sem] max2_int min2_int max_two min_two max_three min_three max_four min_four   
set_option linter.unusedVariables false
set_option linter.unusedSimpArgs false
def spec_l4Parts.l0 : Nat → ByteArray → List ByteArray → Int → Int → Option (List ByteArray)
 | 0, _, _, _, _ => none
 | k + 1, x0, x3, x4, x5 => if x5 < (x0.size : Int) then (if 0 ≤ x5 then (if (bt x0 x5) = 47 then (if 0 ≤ x4 then (if x4 ≤ x5 then (if x5 ≤ (x0.size : Int) then (if x3.length < 8796093022208 then (spec_l4Parts.l0 k x0 (x3 ++ [x0.extract (x4 : Int).toNat (x5 : Int).toNat]) (wrap64 (x5 + 1)) (wrap64 (x5 + 1))) else (none)) else (none)) else (none)) else (none)) else (spec_l4Parts.l0 k x0 x3 x4 (wrap64 (x5 + 1)))) else (none)) else (if 0 ≤ x4 then (if x4 ≤ (x0.size : Int) then (if x3.length < 8796093022208 then (some (x3 ++ [x0.extract (x4 : Int).toNat x0.size])) else (none)) else (none)) else (none))
def spec_l4Parts.f (k : Nat) (a0 : ByteArray) : Option (List ByteArray) := spec_l4Parts.l0 k a0 (([] : List ByteArray)) 0 0
theorem spec_l4Parts.mono_l : ∀ k, (∀ y0 y1 y2 y3, LeO (spec_l4Parts.l0 k y0 y1 y2 y3) (spec_l4Parts.l0 (k + 1) y0 y1 y2 y3))
 | 0 => fun _ _ _ _ r h => by simp [spec_l4Parts.l0] at h
 | k + 1 => by
  have ih0 := spec_l4Parts.mono_l k
  ·intro y0 y1 y2 y3
   unfold spec_l4Parts.l0
   repeat' first
   | (with_reducible exact ih0 _ _ _ _)
   | (with_reducible exact LeO.refl _)
   | (with_reducible exact LeO.none _)
   | (with_reducible refine LeO.ite ?_ ?_)
   | (with_reducible refine LeO.bind ?_ (fun _ => ?_))
   | exact ih0 _ _ _ _
   | exact LeO.none _
   | refine LeO.ite ?_ ?_
   | refine LeO.bind ?_ (fun _ => ?_)
theorem spec_l4Parts.mono : ∀ a0 k, LeO (spec_l4Parts.f k a0) (spec_l4Parts.f (k + 1) a0) := by
 intro a0 k
 have ih0 := spec_l4Parts.mono_l k
 unfold spec_l4Parts.f
 repeat' first
   | (with_reducible exact ih0 _ _ _ _)
   | (with_reducible exact LeO.refl _)
   | (with_reducible exact LeO.none _)
   | (with_reducible refine LeO.ite ?_ ?_)
   | (with_reducible refine LeO.bind ?_ (fun _ => ?_))
   | exact ih0 _ _ _ _
   | exact LeO.none _
   | refine LeO.ite ?_ ?_
   | refine LeO.bind ?_ (fun _ => ?_)
set_option maxHeartbeats 2000000 in
set_option maxRecDepth 100000 in
theorem spec_l4Parts.calls (k : Nat) (a0 : ByteArray) (r : List ByteArray) (w : World) (h : spec_l4Parts.f k a0 = some r) :
  Calls Tryd.prog 42 #[.string a0] w fun e w' => ∃ v0_ : Value, e = .returned (v0_) ∧ Kd.R Kd.string 9 w' w.heap.size (fun _ => True) v0_ r ∧ Below w.heap.size w w' := by
 have HB := AZ.mk (Below.refl w.heap.size w)
 have H : (spec_l4Parts.l0 k a0 (([] : List ByteArray)) 0 0) = some r := h
 clear h
 obtain ⟨y104, hy104⟩ : ∃ y_ : List ByteArray, y_ = (([] : List ByteArray)) := ⟨_, rfl⟩
 replace H : (spec_l4Parts.l0 k a0 y104 0 0) = some r := by first | (rw [hy104]; with_reducible exact H) | (have H2_ := (Option.bind_some _ _).symm.trans H; rw [hy104]; with_reducible exact H2_) | (have H2_ := (Option.bind_some _ _).symm.trans H; with_reducible exact H2_) | with_reducible exact H | (rw [hy104]; exact H) | exact H
 have Ny104 := AZ.mk hy104
 clear hy104
 have H' := AZ.mk H
 clear H
 go_enter Tryd.func42, Tryd.ntmps42
 go_wp2_with (first | ((with_reducible refine gate_dst (N := 6) rfl ?_); refine Kd.R_lit Kd.string _ 9 ?hg (N := 6) ?hd (xs := ([] : List ByteArray)) (inner := []) (ok := fun _ => True) (okp := fun _ => True) ?hr ?hp (fun _ hk => hk) trivial (Below.refl _ _) (Nat.le_refl _) zq119 ?_; (case hd => rfl); (case hg => rfl); (case hr => first | (go_simp; done) | (go_simp; rfl)); (case hp => exact (Reps.none _ _)); intro v105 w2 ho3 hb hg_ hnew_; clear hg_ hnew_; (first | rw [← Ny104.out] at ho3 | (simp only [Int.reduceToNat] at ho3; rw [← Ny104.out] at ho3)); have n0_ := AZ.mk (Kd.R_lower ho3 (below_size zq0)); have n1_ := AZ.mk (below_step zq0 hb); clear HB; have HO106 := n0_; have HB := n1_; clear n0_ n1_; clear hb ho3))
 go_loopg [3, 4, 5] k (fun kq v3 v4 v5 w' => ∃ (x3_1 : List ByteArray) (x4_1 : Int) (x5_1 : Int), v4 = .int .i64 x4_1 ∧ v5 = .int .i64 x5_1 ∧ AZ (spec_l4Parts.l0 kq a0 x3_1 x4_1 x5_1 = some r) ∧ AZ (kq ≤ k) ∧ AZ (Kd.R Kd.string 9 w' w.heap.size (fun _ => True) v3 x3_1) ∧ AZ (Below w.heap.size w w'))
 case atStart => exact ⟨(y104), (0), (0), zq8, zq8, H', ⟨Nat.le_refl _⟩, ⟨by (with_reducible repeat (first | apply Kd.R_alloc | apply Kd.R_drewN | apply Kd.R_drew)); exact HO106.out⟩, ⟨zq0⟩⟩
 case round =>
  clear H'
  try clear p2
  obtain ⟨x3_1, x4_1, x5_1, rfl, rfl, HA, HK1, HO_3, HB⟩ := hrel
  cases gk with
  | zero => exact absurd HA.out (by simp [spec_l4Parts.l0])
  | succ k1 =>
   have H := HA.out
   clear HA
   simp only [spec_l4Parts.l0] at H
   by_cases c4 : x5_1 < (a0.size : Int)
   ·rw [if_pos c4] at H
    have c4b0 : decide (x5_1 < (a0.size : Int)) = true := decide_eq_true c4
    clear c4
    by_cases c5 : 0 ≤ x5_1
    ·rw [if_pos c5] at H
     have c5b0 : decide (0 ≤ x5_1) = true := decide_eq_true c5
     clear c5
     by_cases c7 : (bt a0 x5_1) = 47
     ·rw [if_pos c7] at H
      have c7b0 : ((bt a0 x5_1) == 47) = true := beq_iff_eq.mpr c7
      have c7b1 : ((bt a0 x5_1) != 47) = false := bne_eq_false_iff_eq.mpr c7
      clear c7
      by_cases c8 : 0 ≤ x4_1
      ·rw [if_pos c8] at H
       have c8b0 := eq_true c8
       have c8b1 : decide (0 ≤ x4_1) = true := decide_eq_true c8
       clear c8
       by_cases c9 : x4_1 ≤ x5_1
       ·rw [if_pos c9] at H
        have c9b0 := eq_true c9
        have c9b1 : decide (x4_1 ≤ x5_1) = true := decide_eq_true c9
        clear c9
        by_cases c10 : x5_1 ≤ (a0.size : Int)
        ·rw [if_pos c10] at H
         have c10b0 := eq_true c10
         have c10b1 : decide (x5_1 ≤ (a0.size : Int)) = true := decide_eq_true c10
         clear c10
         by_cases c11 : x3_1.length < 8796093022208
         ·rw [if_pos c11] at H
          have LMc11 := AZ.mk c11
          clear c11
          obtain ⟨y107, hy107⟩ : ∃ y_ : List ByteArray, y_ = (x3_1 ++ [a0.extract (x4_1 : Int).toNat (x5_1 : Int).toNat]) := ⟨_, rfl⟩
          replace H : (spec_l4Parts.l0 k1 a0 y107 (wrap64 (x5_1 + 1)) (wrap64 (x5_1 + 1))) = some r := by first | (rw [hy107]; with_reducible exact H) | (have H2_ := (Option.bind_some _ _).symm.trans H; rw [hy107]; with_reducible exact H2_) | (have H2_ := (Option.bind_some _ _).symm.trans H; with_reducible exact H2_) | with_reducible exact H | (rw [hy107]; exact H) | exact H
          have Ny107 := AZ.mk hy107
          clear hy107
          have H' := AZ.mk H
          clear H
          have p6 : 0 ≤ (x5_1 : Int) := of_decide_eq_true zq1
          have q6 : x5_1 < (a0.size : Int) := of_decide_eq_true zq1
          have hx6 := bt_at a0 x5_1
          replace p6 := eq_true p6
          replace q6 := eq_true q6
          go_wp2_with (first | ((with_reducible refine gate_builtin (b := .append) (xs := #[.tmp 17, .tmp 22]) rfl ?_); at_builtin; refine Kd.R_append Kd.string (w0 := w) w.heap.size rfl (.tmp 17) (.tmp 22) 29 9 (.string ⟨#[]⟩) 16 rfl Tryd.underlying29 info9 rfl zq118 zq94 u3 x3_1 (a0.extract (x4_1 : Int).toNat (x5_1 : Int).toNat) [.string (a0.extract (x4_1 : Int).toNat (x5_1 : Int).toNat)] (fun _ => True) (fun _ => False) rfl rfl ?aP (fun _ hk => hk.elim) ?aF ?aO ?aB ?aS ?aL ?_; (case aP => exact rfl); (case aB => exact zq0); (case aF => exact (fun _ _ => trivial)); (case aO => exact zq99); (case aS => exact (below_size zq0)); (case aL => have := LMc11.out; omega); intro v108 w12 ho hb hg hat; rw [← Ny107.out] at ho; have n0_ := AZ.mk (hb); have n1_ := AZ.mk (ho); clear HB; clear HO_3; have HB := n0_; have HO109 := n1_; clear n0_ n1_; clear ho hb hg hat))
          go_roundg k1
          case measure => have := HK1.out; omega
          case rel => exact ⟨(y107), (wrap64 (x5_1 + 1)), (wrap64 (x5_1 + 1)), zq8, zq8, H', ⟨zq121⟩, ⟨by (with_reducible repeat (first | apply Kd.R_alloc | apply Kd.R_drewN | apply Kd.R_drew)); exact HO109.out⟩, ⟨zq0⟩⟩
         ·rw [if_neg c11] at H
          exact absurd H zq119
        ·rw [if_neg c10] at H
         exact absurd H zq119
       ·rw [if_neg c9] at H
        exact absurd H zq119
      ·rw [if_neg c8] at H
       exact absurd H zq119
     ·rw [if_neg c7] at H
      have c7b0 : ((bt a0 x5_1) == 47) = false := beq_eq_false_iff_ne.mpr c7
      have c7b1 : ((bt a0 x5_1) != 47) = true := bne_iff_ne.mpr c7
      have H' := AZ.mk H
      clear H
      have p6 : 0 ≤ (x5_1 : Int) := of_decide_eq_true zq1
      have q6 : x5_1 < (a0.size : Int) := of_decide_eq_true zq1
      have hx6 := bt_at a0 x5_1
      replace p6 := eq_true p6
      replace q6 := eq_true q6
      go_wp2
      go_roundg k1
      case measure => have := HK1.out; omega
      case rel => exact ⟨(x3_1), (x4_1), (wrap64 (x5_1 + 1)), zq8, zq8, H', ⟨zq121⟩, ⟨zq99⟩, ⟨zq0⟩⟩
    ·rw [if_neg c5] at H
     exact absurd H zq119
   ·rw [if_neg c4] at H
    have c4b0 : decide (x5_1 < (a0.size : Int)) = false := decide_eq_false c4
    clear c4
    by_cases c13 : 0 ≤ x4_1
    ·rw [if_pos c13] at H
     have c13b0 := eq_true c13
     have c13b1 : decide (0 ≤ x4_1) = true := decide_eq_true c13
     clear c13
     by_cases c14 : x4_1 ≤ (a0.size : Int)
     ·rw [if_pos c14] at H
      have c14b0 := eq_true c14
      have c14b1 : decide (x4_1 ≤ (a0.size : Int)) = true := decide_eq_true c14
      clear c14
      by_cases c15 : x3_1.length < 8796093022208
      ·rw [if_pos c15] at H
       have LMc15 := AZ.mk c15
       clear c15
       obtain ⟨y110, hy110⟩ : ∃ y_ : List ByteArray, y_ = (x3_1 ++ [a0.extract (x4_1 : Int).toNat a0.size]) := ⟨_, rfl⟩
       replace H : (some y110) = some r := by first | (rw [hy110]; with_reducible exact H) | (have H2_ := (Option.bind_some _ _).symm.trans H; rw [hy110]; with_reducible exact H2_) | (have H2_ := (Option.bind_some _ _).symm.trans H; with_reducible exact H2_) | with_reducible exact H | (rw [hy110]; exact H) | exact H
       have Ny110 := AZ.mk hy110
       clear hy110
       obtain rfl := Option.some.inj H
       go_wp2_with (first | ((with_reducible refine gate_builtin (b := .append) (xs := #[.tmp 26, .tmp 30]) rfl ?_); at_builtin; refine Kd.R_append Kd.string (w0 := w) w.heap.size rfl (.tmp 26) (.tmp 30) 29 9 (.string ⟨#[]⟩) 16 rfl Tryd.underlying29 info9 rfl zq118 zq94 u3 x3_1 (a0.extract (x4_1 : Int).toNat a0.size) [.string (a0.extract (x4_1 : Int).toNat a0.size)] (fun _ => True) (fun _ => False) rfl rfl ?aP (fun _ hk => hk.elim) ?aF ?aO ?aB ?aS ?aL ?_; (case aP => exact rfl); (case aB => exact zq0); (case aF => exact (fun _ _ => trivial)); (case aO => exact zq99); (case aS => exact (below_size zq0)); (case aL => have := LMc15.out; omega); intro v111 w16 ho hb hg hat; rw [← Ny110.out] at ho; have n0_ := AZ.mk (hb); have n1_ := AZ.mk (ho); clear HB; clear HO_3; have HB := n0_; have HO112 := n1_; clear n0_ n1_; clear ho hb hg hat))
       go_ret
       exact ⟨_, zq7, by (with_reducible repeat (first | apply Kd.R_alloc | apply Kd.R_drewN | apply Kd.R_drew)); exact HO112.out, zq0⟩
      ·rw [if_neg c15] at H
       exact absurd H zq119
     ·rw [if_neg c14] at H
      exact absurd H zq119
    ·rw [if_neg c13] at H
     exact absurd H zq119
end Go.Proofs.YtgjipjffpodjlaaDoor.K
namespace Go.Proofs.YtgjipjffpodjlaaDoor.K
open Go.RowKit Go.Proofs.YtgjipjffpodjlaaDoorW.PrintWords Go.Proofs.YtgjipjffpodjlaaDoorW.PrintLast Go.Proofs.YtgjipjffpodjlaaDoorW.PrintMore
attribute [local go_sem] max2_int min2_int max_two min_two max_three min_three max_four min_four   
set_option linter.unusedVariables false
set_option linter.unusedSimpArgs false
def spec_l1In.f (a0 : Int) (a1 : Int) (a2 : Int) : Option (Bool) := if a0 ≥ a1 then (some (decide (a0 ≤ a2))) else (some false)
set_option maxHeartbeats 2000000 in
set_option maxRecDepth 100000 in
theorem spec_l1In.calls (a0 : Int) (a1 : Int) (a2 : Int) (r : Bool) (w : World) (h : spec_l1In.f a0 a1 a2 = some r) :
  Calls Tryd.prog 39 #[.int .i64 a0, .int .i64 a1, .int .i64 a2] w fun e w' => e = .returned (.bool r) ∧ Drawn0 w w' := by
 have H : (if a0 ≥ a1 then (some (decide (a0 ≤ a2))) else (some false)) = some r := h
 clear h
 by_cases c4 : a0 ≥ a1
 ·rw [if_pos c4] at H
  have c4b0 : decide (a1 ≤ a0) = true := decide_eq_true c4
  clear c4
  obtain rfl := Option.some.inj H
  go_enter Tryd.func39, Tryd.ntmps39
  go_wp2
  go_ret
  exact ⟨zq8, zq31⟩
 ·rw [if_neg c4] at H
  have c4b0 : decide (a1 ≤ a0) = false := decide_eq_false c4
  clear c4
  obtain rfl := Option.some.inj H
  go_enter Tryd.func39, Tryd.ntmps39
  go_wp2
  go_ret
  exact ⟨zq8, zq31⟩
end Go.Proofs.YtgjipjffpodjlaaDoor.K
namespace Go.Proofs.YtgjipjffpodjlaaDoor.K
open Go.RowKit Go.Proofs.YtgjipjffpodjlaaDoorW.PrintWords Go.Proofs.YtgjipjffpodjlaaDoorW.PrintLast Go.Proofs.YtgjipjffpodjlaaDoorW.PrintMore
attribute [local go_sem] max2_int min2_int max_two min_two max_three min_three max_four min_four   
set_option linter.unusedVariables false
set_option linter.unusedSimpArgs false
mutual
def spec_l4PartOk.j0 : Nat → ByteArray → Bool → Bool → Option (Bool)
 | 0, _, _, _ => none
 | k + 1, x0, x1, x17 => if x17 = true then (some false) else (spec_l4PartOk.l0 k x0 x1 0)
def spec_l4PartOk.l0 : Nat → ByteArray → Bool → Int → Option (Bool)
 | 0, _, _, _ => none
 | k + 1, x0, x1, x5 => if x5 < (x0.size : Int) then (if 0 ≤ x5 then (if (bt x0 x5) < 33 then (some false) else (if (bt x0 x5) > 126 then (some false) else (if (bt x0 x5) = 47 then (some false) else (if (bt x0 x5) = 34 then (some false) else (if x1 = true then (spec_l4PartOk.l0 k x0 x1 (wrap64 (x5 + 1))) else (if (bt x0 x5) = 42 then (some false) else (if (bt x0 x5) = 63 then (some false) else (spec_l4PartOk.l0 k x0 x1 (wrap64 (x5 + 1)))))))))) else (none)) else (some true)
end
def spec_l4PartOk.f (k : Nat) (a0 : ByteArray) (a1 : Bool) : Option (Bool) := (spec_l1In.f (a0.size : Int) 1 20).bind fun t113 => (if t113 = true then (if a0.toList = ([46] : List UInt8) then (spec_l4PartOk.j0 k a0 a1 true) else (spec_l4PartOk.j0 k a0 a1 (a0.toList == ([46, 46] : List UInt8)))) else (spec_l4PartOk.j0 k a0 a1 true))
theorem spec_l4PartOk.mono_l : ∀ k, (∀ y0 y1 y2, LeO (spec_l4PartOk.j0 k y0 y1 y2) (spec_l4PartOk.j0 (k + 1) y0 y1 y2)) ∧ (∀ y0 y1 y2, LeO (spec_l4PartOk.l0 k y0 y1 y2) (spec_l4PartOk.l0 (k + 1) y0 y1 y2))
 | 0 => ⟨fun _ _ _ r h => by simp [spec_l4PartOk.j0] at h, fun _ _ _ r h => by simp [spec_l4PartOk.l0] at h⟩
 | k + 1 => by
  obtain ⟨ih0, ih1⟩ := spec_l4PartOk.mono_l k
  refine ⟨?_, ?_⟩
  ·intro y0 y1 y2
   unfold spec_l4PartOk.j0
   repeat' first
   | (with_reducible exact ih0 _ _ _)
   | (with_reducible exact ih1 _ _ _)
   | (with_reducible exact LeO.refl _)
   | (with_reducible exact LeO.none _)
   | (with_reducible refine LeO.ite ?_ ?_)
   | (with_reducible refine LeO.bind ?_ (fun _ => ?_))
   | exact ih0 _ _ _
   | exact ih1 _ _ _
   | exact LeO.none _
   | refine LeO.ite ?_ ?_
   | refine LeO.bind ?_ (fun _ => ?_)
  ·intro y0 y1 y2
   unfold spec_l4PartOk.l0
   repeat' first
   | (with_reducible exact ih0 _ _ _)
   | (with_reducible exact ih1 _ _ _)
   | (with_reducible exact LeO.refl _)
   | (with_reducible exact LeO.none _)
   | (with_reducible refine LeO.ite ?_ ?_)
   | (with_reducible refine LeO.bind ?_ (fun _ => ?_))
   | exact ih0 _ _ _
   | exact ih1 _ _ _
   | exact LeO.none _
   | refine LeO.ite ?_ ?_
   | refine LeO.bind ?_ (fun _ => ?_)
theorem spec_l4PartOk.mono : ∀ a0 a1 k, LeO (spec_l4PartOk.f k a0 a1) (spec_l4PartOk.f (k + 1) a0 a1) := by
 intro a0 a1 k
 obtain ⟨ih0, ih1⟩ := spec_l4PartOk.mono_l k
 unfold spec_l4PartOk.f
 repeat' first
   | (with_reducible exact ih0 _ _ _)
   | (with_reducible exact ih1 _ _ _)
   | (with_reducible exact LeO.refl _)
   | (with_reducible exact LeO.none _)
   | (with_reducible refine LeO.ite ?_ ?_)
   | (with_reducible refine LeO.bind ?_ (fun _ => ?_))
   | exact ih0 _ _ _
   | exact ih1 _ _ _
   | exact LeO.none _
   | refine LeO.ite ?_ ?_
   | refine LeO.bind ?_ (fun _ => ?_)
set_option maxHeartbeats 2000000 in
set_option maxRecDepth 100000 in
theorem spec_l4PartOk.calls (k : Nat) (a0 : ByteArray) (a1 : Bool) (r : Bool) (w : World) (h : spec_l4PartOk.f k a0 a1 = some r) :
  Calls Tryd.prog 74 #[.string a0, .bool a1] w fun e w' => e = .returned (.bool r) ∧ Drawn0 w w' := by
 have H : ((spec_l1In.f (a0.size : Int) 1 20).bind fun t113 => (if t113 = true then (if a0.toList = ([46] : List UInt8) then (spec_l4PartOk.j0 k a0 a1 true) else (spec_l4PartOk.j0 k a0 a1 (a0.toList == ([46, 46] : List UInt8)))) else (spec_l4PartOk.j0 k a0 a1 true))) = some r := h
 clear h
 have HC3 := AZ.mk H
 clear H
 go_enter Tryd.func74, Tryd.ntmps74
 go_upto_region 1 with (fail)
 go_cut [17] (fun v17 wc => ∃ (kq : Nat) (x17_2 : Bool), v17 = .bool x17_2 ∧ AZ (spec_l4PartOk.j0 kq a0 a1 x17_2 = some r) ∧ AZ (kq ≤ k) ∧ Drawn0 w wc)
 case first =>
  have H := HC3.out
  clear HC3
  replace H := Option.bind_eq_some_iff.mp H
  obtain ⟨t113, A40, H⟩ := H
  try dsimp only at H
  have A4 := AZ.mk A40
  clear A40
  by_cases c5 : t113 = true
  ·subst c5
   rw [if_pos rfl] at H
   by_cases c6 : a0.toList = ([46] : List UInt8)
   ·rw [if_pos c6] at H
    have c6b0 : (a0.toList == ([46] : List UInt8)) = true := beq_iff_eq.mpr c6
    have c6b1 : (a0.toList != ([46] : List UInt8)) = false := bne_eq_false_iff_eq.mpr c6
    clear c6
    (first | rw [c6b0] | (simp only [i64_w, i32_w]; rw [c6b0]) | skip)
    have H' := AZ.mk H
    clear H
    go_wp2_with (first | ((with_reducible refine gate_callee (f := 39) rfl ?_); refine goesL_ (some 8) rfl rfl Tryd.func39 zq17 rfl #[.int .i64 (a0.size : Int), .int .i64 1, .int .i64 20] rfl zq2 ?_; (with_reducible refine (spec_l1In.calls (a0.size : Int) 1 20 true _ A4.out).mono ?_); rintro e w' ⟨rfl, ⟨nd, rfl⟩⟩; refine ⟨_, rfl, ?_⟩))
    go_meet
    case rel => exact ⟨_, (true), zq8, H', ⟨zq82⟩, zq31⟩
   ·rw [if_neg c6] at H
    have c6b0 : (a0.toList == ([46] : List UInt8)) = false := beq_eq_false_iff_ne.mpr c6
    have c6b1 : (a0.toList != ([46] : List UInt8)) = true := bne_iff_ne.mpr c6
    (first | rw [c6b0] | (simp only [i64_w, i32_w]; rw [c6b0]) | skip)
    have H' := AZ.mk H
    clear H
    go_wp2_with (first | ((with_reducible refine gate_callee (f := 39) rfl ?_); refine goesL_ (some 8) rfl rfl Tryd.func39 zq17 rfl #[.int .i64 (a0.size : Int), .int .i64 1, .int .i64 20] rfl zq2 ?_; (with_reducible refine (spec_l1In.calls (a0.size : Int) 1 20 true _ A4.out).mono ?_); rintro e w' ⟨rfl, ⟨nd, rfl⟩⟩; refine ⟨_, rfl, ?_⟩))
    go_meet
    case rel => exact ⟨_, ((a0.toList == ([46, 46] : List UInt8))), zq8, H', ⟨zq82⟩, zq31⟩
  ·replace c5 := Bool.eq_false_iff.mpr c5
   subst c5
   rw [if_neg (show ¬ (false = true) by decide)] at H
   have H' := AZ.mk H
   clear H
   go_wp2_with (first | ((with_reducible refine gate_callee (f := 39) rfl ?_); refine goesL_ (some 8) rfl rfl Tryd.func39 zq17 rfl #[.int .i64 (a0.size : Int), .int .i64 1, .int .i64 20] rfl zq2 ?_; (with_reducible refine (spec_l1In.calls (a0.size : Int) 1 20 false _ A4.out).mono ?_); rintro e w' ⟨rfl, ⟨nd, rfl⟩⟩; refine ⟨_, rfl, ?_⟩))
   go_meet
   case rel => exact ⟨_, (true), zq8, H', ⟨zq82⟩, zq31⟩
 case rest =>
  clear HC3
  try clear p2
  try clear c3
  try clear c5
  try clear c6
  try clear c6b0
  try clear c6b1
  obtain ⟨kq, x17_2, rfl, HA, HJ2, ⟨mc2, rfl⟩⟩ := hcut
  cases kq with
  | zero => exact absurd HA.out (by simp [spec_l4PartOk.j0])
  | succ kj2 =>
   have H := HA.out
   clear HA
   simp only [spec_l4PartOk.j0] at H
   by_cases c7 : x17_2 = true
   ·subst c7
    rw [if_pos rfl] at H
    obtain rfl := Option.some.inj H
    go_wp2
    go_ret
    exact ⟨zq8, zq31⟩
   ·replace c7 := Bool.eq_false_iff.mpr c7
    subst c7
    rw [if_neg (show ¬ (false = true) by decide)] at H
    have H' := AZ.mk H
    clear H
    go_wp2
    go_loopg [5] kj2 (fun kq v5 w' => ∃ (x5_2 : Int), v5 = .int .i64 x5_2 ∧ AZ (spec_l4PartOk.l0 kq a0 a1 x5_2 = some r) ∧ AZ (kq ≤ kj2) ∧ Drawn0 w w')
    case atStart => exact ⟨(0), zq8, H', ⟨Nat.le_refl _⟩, zq31⟩
    case round =>
     clear H'
     try clear c2
     try clear p2
     try clear c3
     try clear c5
     try clear c6
     try clear c6b0
     try clear c6b1
     try clear c7
     try clear p2
     obtain ⟨x5_2, rfl, HA, HK2, ⟨m2, rfl⟩⟩ := hrel
     cases gk with
     | zero => exact absurd HA.out (by simp [spec_l4PartOk.l0])
     | succ k2 =>
      have H := HA.out
      clear HA
      simp only [spec_l4PartOk.l0] at H
      by_cases c8 : x5_2 < (a0.size : Int)
      ·rw [if_pos c8] at H
       have c8b0 : decide (x5_2 < (a0.size : Int)) = true := decide_eq_true c8
       clear c8
       by_cases c9 : 0 ≤ x5_2
       ·rw [if_pos c9] at H
        have c9b0 : decide (0 ≤ x5_2) = true := decide_eq_true c9
        clear c9
        by_cases c11 : (bt a0 x5_2) < 33
        ·rw [if_pos c11] at H
         have c11b0 : decide ((bt a0 x5_2) < 33) = true := decide_eq_true c11
         clear c11
         obtain rfl := Option.some.inj H
         have p10 : 0 ≤ (x5_2 : Int) := of_decide_eq_true zq1
         have q10 : x5_2 < (a0.size : Int) := of_decide_eq_true zq1
         have hx10 := bt_at a0 x5_2
         replace p10 := eq_true p10
         replace q10 := eq_true q10
         go_wp2
         go_ret
         exact ⟨zq8, zq31⟩
        ·rw [if_neg c11] at H
         have c11b0 : decide ((bt a0 x5_2) < 33) = false := decide_eq_false c11
         clear c11
         by_cases c13 : (bt a0 x5_2) > 126
         ·rw [if_pos c13] at H
          have c13b0 : decide (126 < (bt a0 x5_2)) = true := decide_eq_true c13
          clear c13
          obtain rfl := Option.some.inj H
          have p10 : 0 ≤ (x5_2 : Int) := of_decide_eq_true zq1
          have q10 : x5_2 < (a0.size : Int) := of_decide_eq_true zq1
          have hx10 := bt_at a0 x5_2
          replace p10 := eq_true p10
          replace q10 := eq_true q10
          have p12 : 0 ≤ (x5_2 : Int) := of_decide_eq_true zq1
          have q12 : x5_2 < (a0.size : Int) := of_decide_eq_true zq1
          have hx12 := bt_at a0 x5_2
          replace p12 := eq_true p12
          replace q12 := eq_true q12
          go_wp2
          go_ret
          exact ⟨zq8, zq31⟩
         ·rw [if_neg c13] at H
          have c13b0 : decide (126 < (bt a0 x5_2)) = false := decide_eq_false c13
          clear c13
          by_cases c15 : (bt a0 x5_2) = 47
          ·rw [if_pos c15] at H
           have c15b0 : ((bt a0 x5_2) == 47) = true := beq_iff_eq.mpr c15
           have c15b1 : ((bt a0 x5_2) != 47) = false := bne_eq_false_iff_eq.mpr c15
           clear c15
           obtain rfl := Option.some.inj H
           have p10 : 0 ≤ (x5_2 : Int) := of_decide_eq_true zq1
           have q10 : x5_2 < (a0.size : Int) := of_decide_eq_true zq1
           have hx10 := bt_at a0 x5_2
           replace p10 := eq_true p10
           replace q10 := eq_true q10
           have p12 : 0 ≤ (x5_2 : Int) := of_decide_eq_true zq1
           have q12 : x5_2 < (a0.size : Int) := of_decide_eq_true zq1
           have hx12 := bt_at a0 x5_2
           replace p12 := eq_true p12
           replace q12 := eq_true q12
           have p14 : 0 ≤ (x5_2 : Int) := of_decide_eq_true zq1
           have q14 : x5_2 < (a0.size : Int) := of_decide_eq_true zq1
           have hx14 := bt_at a0 x5_2
           replace p14 := eq_true p14
           replace q14 := eq_true q14
           go_wp2
           go_ret
           exact ⟨zq8, zq31⟩
          ·rw [if_neg c15] at H
           have c15b0 : ((bt a0 x5_2) == 47) = false := beq_eq_false_iff_ne.mpr c15
           have c15b1 : ((bt a0 x5_2) != 47) = true := bne_iff_ne.mpr c15
           by_cases c17 : (bt a0 x5_2) = 34
           ·rw [if_pos c17] at H
            have c17b0 : ((bt a0 x5_2) == 34) = true := beq_iff_eq.mpr c17
            have c17b1 : ((bt a0 x5_2) != 34) = false := bne_eq_false_iff_eq.mpr c17
            clear c17
            obtain rfl := Option.some.inj H
            have p10 : 0 ≤ (x5_2 : Int) := of_decide_eq_true zq1
            have q10 : x5_2 < (a0.size : Int) := of_decide_eq_true zq1
            have hx10 := bt_at a0 x5_2
            replace p10 := eq_true p10
            replace q10 := eq_true q10
            have p12 : 0 ≤ (x5_2 : Int) := of_decide_eq_true zq1
            have q12 : x5_2 < (a0.size : Int) := of_decide_eq_true zq1
            have hx12 := bt_at a0 x5_2
            replace p12 := eq_true p12
            replace q12 := eq_true q12
            have p14 : 0 ≤ (x5_2 : Int) := of_decide_eq_true zq1
            have q14 : x5_2 < (a0.size : Int) := of_decide_eq_true zq1
            have hx14 := bt_at a0 x5_2
            replace p14 := eq_true p14
            replace q14 := eq_true q14
            have p16 : 0 ≤ (x5_2 : Int) := of_decide_eq_true zq1
            have q16 : x5_2 < (a0.size : Int) := of_decide_eq_true zq1
            have hx16 := bt_at a0 x5_2
            replace p16 := eq_true p16
            replace q16 := eq_true q16
            go_wp2
            go_ret
            exact ⟨zq8, zq31⟩
           ·rw [if_neg c17] at H
            have c17b0 : ((bt a0 x5_2) == 34) = false := beq_eq_false_iff_ne.mpr c17
            have c17b1 : ((bt a0 x5_2) != 34) = true := bne_iff_ne.mpr c17
            by_cases c18 : a1 = true
            ·subst c18
             rw [if_pos rfl] at H
             have H' := AZ.mk H
             clear H
             have p10 : 0 ≤ (x5_2 : Int) := of_decide_eq_true zq1
             have q10 : x5_2 < (a0.size : Int) := of_decide_eq_true zq1
             have hx10 := bt_at a0 x5_2
             replace p10 := eq_true p10
             replace q10 := eq_true q10
             have p12 : 0 ≤ (x5_2 : Int) := of_decide_eq_true zq1
             have q12 : x5_2 < (a0.size : Int) := of_decide_eq_true zq1
             have hx12 := bt_at a0 x5_2
             replace p12 := eq_true p12
             replace q12 := eq_true q12
             have p14 : 0 ≤ (x5_2 : Int) := of_decide_eq_true zq1
             have q14 : x5_2 < (a0.size : Int) := of_decide_eq_true zq1
             have hx14 := bt_at a0 x5_2
             replace p14 := eq_true p14
             replace q14 := eq_true q14
             have p16 : 0 ≤ (x5_2 : Int) := of_decide_eq_true zq1
             have q16 : x5_2 < (a0.size : Int) := of_decide_eq_true zq1
             have hx16 := bt_at a0 x5_2
             replace p16 := eq_true p16
             replace q16 := eq_true q16
             go_wp2
             go_roundg k2
             case measure => have := HJ2.out; have := HK2.out; omega
             case rel => exact ⟨(wrap64 (x5_2 + 1)), zq8, H', ⟨zq141⟩, zq31⟩
            ·replace c18 := Bool.eq_false_iff.mpr c18
             subst c18
             rw [if_neg (show ¬ (false = true) by decide)] at H
             by_cases c20 : (bt a0 x5_2) = 42
             ·rw [if_pos c20] at H
              have c20b0 : ((bt a0 x5_2) == 42) = true := beq_iff_eq.mpr c20
              have c20b1 : ((bt a0 x5_2) != 42) = false := bne_eq_false_iff_eq.mpr c20
              clear c20
              obtain rfl := Option.some.inj H
              have p10 : 0 ≤ (x5_2 : Int) := of_decide_eq_true zq1
              have q10 : x5_2 < (a0.size : Int) := of_decide_eq_true zq1
              have hx10 := bt_at a0 x5_2
              replace p10 := eq_true p10
              replace q10 := eq_true q10
              have p12 : 0 ≤ (x5_2 : Int) := of_decide_eq_true zq1
              have q12 : x5_2 < (a0.size : Int) := of_decide_eq_true zq1
              have hx12 := bt_at a0 x5_2
              replace p12 := eq_true p12
              replace q12 := eq_true q12
              have p14 : 0 ≤ (x5_2 : Int) := of_decide_eq_true zq1
              have q14 : x5_2 < (a0.size : Int) := of_decide_eq_true zq1
              have hx14 := bt_at a0 x5_2
              replace p14 := eq_true p14
              replace q14 := eq_true q14
              have p16 : 0 ≤ (x5_2 : Int) := of_decide_eq_true zq1
              have q16 : x5_2 < (a0.size : Int) := of_decide_eq_true zq1
              have hx16 := bt_at a0 x5_2
              replace p16 := eq_true p16
              replace q16 := eq_true q16
              have p19 : 0 ≤ (x5_2 : Int) := of_decide_eq_true zq1
              have q19 : x5_2 < (a0.size : Int) := of_decide_eq_true zq1
              have hx19 := bt_at a0 x5_2
              replace p19 := eq_true p19
              replace q19 := eq_true q19
              go_wp2
              go_ret
              exact ⟨zq8, zq31⟩
             ·rw [if_neg c20] at H
              have c20b0 : ((bt a0 x5_2) == 42) = false := beq_eq_false_iff_ne.mpr c20
              have c20b1 : ((bt a0 x5_2) != 42) = true := bne_iff_ne.mpr c20
              by_cases c22 : (bt a0 x5_2) = 63
              ·rw [if_pos c22] at H
               have c22b0 : ((bt a0 x5_2) == 63) = true := beq_iff_eq.mpr c22
               have c22b1 : ((bt a0 x5_2) != 63) = false := bne_eq_false_iff_eq.mpr c22
               clear c22
               obtain rfl := Option.some.inj H
               have p10 : 0 ≤ (x5_2 : Int) := of_decide_eq_true zq1
               have q10 : x5_2 < (a0.size : Int) := of_decide_eq_true zq1
               have hx10 := bt_at a0 x5_2
               replace p10 := eq_true p10
               replace q10 := eq_true q10
               have p12 : 0 ≤ (x5_2 : Int) := of_decide_eq_true zq1
               have q12 : x5_2 < (a0.size : Int) := of_decide_eq_true zq1
               have hx12 := bt_at a0 x5_2
               replace p12 := eq_true p12
               replace q12 := eq_true q12
               have p14 : 0 ≤ (x5_2 : Int) := of_decide_eq_true zq1
               have q14 : x5_2 < (a0.size : Int) := of_decide_eq_true zq1
               have hx14 := bt_at a0 x5_2
               replace p14 := eq_true p14
               replace q14 := eq_true q14
               have p16 : 0 ≤ (x5_2 : Int) := of_decide_eq_true zq1
               have q16 : x5_2 < (a0.size : Int) := of_decide_eq_true zq1
               have hx16 := bt_at a0 x5_2
               replace p16 := eq_true p16
               replace q16 := eq_true q16
               have p19 : 0 ≤ (x5_2 : Int) := of_decide_eq_true zq1
               have q19 : x5_2 < (a0.size : Int) := of_decide_eq_true zq1
               have hx19 := bt_at a0 x5_2
               replace p19 := eq_true p19
               replace q19 := eq_true q19
               have p21 : 0 ≤ (x5_2 : Int) := of_decide_eq_true zq1
               have q21 : x5_2 < (a0.size : Int) := of_decide_eq_true zq1
               have hx21 := bt_at a0 x5_2
               replace p21 := eq_true p21
               replace q21 := eq_true q21
               go_wp2
               go_ret
               exact ⟨zq8, zq31⟩
              ·rw [if_neg c22] at H
               have c22b0 : ((bt a0 x5_2) == 63) = false := beq_eq_false_iff_ne.mpr c22
               have c22b1 : ((bt a0 x5_2) != 63) = true := bne_iff_ne.mpr c22
               have H' := AZ.mk H
               clear H
               have p10 : 0 ≤ (x5_2 : Int) := of_decide_eq_true zq1
               have q10 : x5_2 < (a0.size : Int) := of_decide_eq_true zq1
               have hx10 := bt_at a0 x5_2
               replace p10 := eq_true p10
               replace q10 := eq_true q10
               have p12 : 0 ≤ (x5_2 : Int) := of_decide_eq_true zq1
               have q12 : x5_2 < (a0.size : Int) := of_decide_eq_true zq1
               have hx12 := bt_at a0 x5_2
               replace p12 := eq_true p12
               replace q12 := eq_true q12
               have p14 : 0 ≤ (x5_2 : Int) := of_decide_eq_true zq1
               have q14 : x5_2 < (a0.size : Int) := of_decide_eq_true zq1
               have hx14 := bt_at a0 x5_2
               replace p14 := eq_true p14
               replace q14 := eq_true q14
               have p16 : 0 ≤ (x5_2 : Int) := of_decide_eq_true zq1
               have q16 : x5_2 < (a0.size : Int) := of_decide_eq_true zq1
               have hx16 := bt_at a0 x5_2
               replace p16 := eq_true p16
               replace q16 := eq_true q16
               have p19 : 0 ≤ (x5_2 : Int) := of_decide_eq_true zq1
               have q19 : x5_2 < (a0.size : Int) := of_decide_eq_true zq1
               have hx19 := bt_at a0 x5_2
               replace p19 := eq_true p19
               replace q19 := eq_true q19
               have p21 : 0 ≤ (x5_2 : Int) := of_decide_eq_true zq1
               have q21 : x5_2 < (a0.size : Int) := of_decide_eq_true zq1
               have hx21 := bt_at a0 x5_2
               replace p21 := eq_true p21
               replace q21 := eq_true q21
               go_wp2
               go_roundg k2
               case measure => have := HJ2.out; have := HK2.out; omega
               case rel => exact ⟨(wrap64 (x5_2 + 1)), zq8, H', ⟨zq141⟩, zq31⟩
       ·rw [if_neg c9] at H
        exact absurd H zq119
      ·rw [if_neg c8] at H
       have c8b0 : decide (x5_2 < (a0.size : Int)) = false := decide_eq_false c8
       clear c8
       obtain rfl := Option.some.inj H
       go_wp2
       go_ret
       exact ⟨zq8, zq31⟩
end Go.Proofs.YtgjipjffpodjlaaDoor.K
namespace Go.Proofs.YtgjipjffpodjlaaDoor.K
open Go.RowKit Go.Proofs.YtgjipjffpodjlaaDoorW.PrintWords Go.Proofs.YtgjipjffpodjlaaDoorW.PrintLast Go.Proofs.YtgjipjffpodjlaaDoorW.PrintMore
attribute [local go_sem] max2_int min2_int max_two min_two max_three min_three max_four min_four   
set_option linter.unusedVariables false
set_option linter.unusedSimpArgs false
def spec_l4Ok.l0 : Nat → Bool → List ByteArray → Int → Option (Bool)
 | 0, _, _, _ => none
 | k + 1, x1, x5, x6 => if x6 < (x5.length : Int) then (if 0 ≤ x6 then ((spec_l4PartOk.f k (rdOf ByteArray.empty x5 x6) x1).bind fun t118 => (if t118 = true then (spec_l4Ok.l0 k x1 x5 (wrap64 (x6 + 1))) else (some false))) else (none)) else (some true)
def spec_l4Ok.f (k : Nat) (a0 : ByteArray) (a1 : Bool) : Option (Bool) := if (a0.size : Int) > 126 then (some false) else ((spec_l4Parts.f k a0).bind fun t114 => (if (t114.length : Int) > 6 then (some false) else (spec_l4Ok.l0 k a1 t114 0)))
theorem spec_l4Ok.mono_l : ∀ k, (∀ y0 y1 y2, LeO (spec_l4Ok.l0 k y0 y1 y2) (spec_l4Ok.l0 (k + 1) y0 y1 y2))
 | 0 => fun _ _ _ r h => by simp [spec_l4Ok.l0] at h
 | k + 1 => by
  have ih0 := spec_l4Ok.mono_l k
  ·intro y0 y1 y2
   unfold spec_l4Ok.l0
   repeat' first
   | (with_reducible exact ih0 _ _ _)
   | (with_reducible exact spec_l4PartOk.mono _ _ _)
   | (with_reducible exact spec_l4Parts.mono _ _)
   | (with_reducible exact LeO.refl _)
   | (with_reducible exact LeO.none _)
   | (with_reducible refine LeO.ite ?_ ?_)
   | (with_reducible refine LeO.bind ?_ (fun _ => ?_))
   | exact ih0 _ _ _
   | exact spec_l4PartOk.mono _ _ _
   | exact spec_l4Parts.mono _ _
   | exact LeO.none _
   | refine LeO.ite ?_ ?_
   | refine LeO.bind ?_ (fun _ => ?_)
theorem spec_l4Ok.mono : ∀ a0 a1 k, LeO (spec_l4Ok.f k a0 a1) (spec_l4Ok.f (k + 1) a0 a1) := by
 intro a0 a1 k
 have ih0 := spec_l4Ok.mono_l k
 unfold spec_l4Ok.f
 repeat' first
   | (with_reducible exact ih0 _ _ _)
   | (with_reducible exact spec_l4PartOk.mono _ _ _)
   | (with_reducible exact spec_l4Parts.mono _ _)
   | (with_reducible exact LeO.refl _)
   | (with_reducible exact LeO.none _)
   | (with_reducible refine LeO.ite ?_ ?_)
   | (with_reducible refine LeO.bind ?_ (fun _ => ?_))
   | exact ih0 _ _ _
   | exact spec_l4PartOk.mono _ _ _
   | exact spec_l4Parts.mono _ _
   | exact LeO.none _
   | refine LeO.ite ?_ ?_
   | refine LeO.bind ?_ (fun _ => ?_)
set_option maxHeartbeats 2000000 in
set_option maxRecDepth 100000 in
theorem spec_l4Ok.calls (k : Nat) (a0 : ByteArray) (a1 : Bool) (r : Bool) (w : World) (h : spec_l4Ok.f k a0 a1 = some r) :
  Calls Tryd.prog 59 #[.string a0, .bool a1] w fun e w' => e = .returned (.bool r) ∧ Below w.heap.size w w' := by
 have HB := AZ.mk (Below.refl w.heap.size w)
 have H : (if (a0.size : Int) > 126 then (some false) else ((spec_l4Parts.f k a0).bind fun t114 => (if (t114.length : Int) > 6 then (some false) else (spec_l4Ok.l0 k a1 t114 0)))) = some r := h
 clear h
 by_cases c3 : (a0.size : Int) > 126
 ·rw [if_pos c3] at H
  have c3b0 : decide (126 < (a0.size : Int)) = true := decide_eq_true c3
  have c3b1 : decide (126 < a0.size) = true := decide_eq_true zq94
  clear c3
  obtain rfl := Option.some.inj H
  go_enter Tryd.func59, Tryd.ntmps59
  go_wp2
  go_ret
  exact ⟨zq7, zq0⟩
 ·rw [if_neg c3] at H
  have c3b0 : decide (126 < (a0.size : Int)) = false := decide_eq_false c3
  have c3b1 : decide (126 < a0.size) = false := decide_eq_false zq94
  clear c3
  replace H := Option.bind_eq_some_iff.mp H
  obtain ⟨t114, A40, H⟩ := H
  try dsimp only at H
  have A4 := AZ.mk A40
  clear A40
  by_cases c5 : (t114.length : Int) > 6
  ·rw [if_pos c5] at H
   have c5b0 : decide (6 < (t114.length : Int)) = true := decide_eq_true c5
   have c5b1 : decide (6 < t114.length) = true := decide_eq_true zq94
   clear c5
   obtain rfl := Option.some.inj H
   go_enter Tryd.func59, Tryd.ntmps59
   go_wp2_with (first | ((with_reducible refine gate_callee (f := 42) rfl ?_); refine goesL_ (some 11) rfl rfl Tryd.func42 zq17 rfl #[.string a0] rfl zq2 ?_; (with_reducible refine (spec_l4Parts.calls k a0 t114 _ A4.out).mono ?_); rintro e w6 ⟨v115, rfl, ho0, hb⟩; refine ⟨_, rfl, ?_⟩; have n0_ := AZ.mk (Kd.R_lower ho0 (below_size zq0)); have n1_ := AZ.mk (below_step zq0 hb); clear HB; have HO116 := n0_; have HB := n1_; clear n0_ n1_; (try clear hb); (try clear hb2); (try clear hk); (try clear hi); (try clear ho0); obtain ⟨Ao7, co7, eo7⟩ := Kd.R_slice HO116.out; subst eo7))
   go_ret
   exact ⟨zq7, zq0⟩
  ·rw [if_neg c5] at H
   have c5b0 : decide (6 < (t114.length : Int)) = false := decide_eq_false c5
   have c5b1 : decide (6 < t114.length) = false := decide_eq_false zq94
   clear c5
   have H' := AZ.mk H
   clear H
   go_enter Tryd.func59, Tryd.ntmps59
   go_wp2_with (first | ((with_reducible refine gate_callee (f := 42) rfl ?_); refine goesL_ (some 11) rfl rfl Tryd.func42 zq17 rfl #[.string a0] rfl zq2 ?_; (with_reducible refine (spec_l4Parts.calls k a0 t114 _ A4.out).mono ?_); rintro e w8 ⟨v115, rfl, ho0, hb⟩; refine ⟨_, rfl, ?_⟩; have n0_ := AZ.mk (Kd.R_lower ho0 (below_size zq0)); have n1_ := AZ.mk (below_step zq0 hb); clear HB; have HO116 := n0_; have HB := n1_; clear n0_ n1_; (try clear hb); (try clear hb2); (try clear hk); (try clear hi); (try clear ho0); obtain ⟨Ao9, co9, eo9⟩ := Kd.R_slice HO116.out; subst eo9))
   go_loopg [6] k (fun kq v6 w' => ∃ (x6_1 : Int), v6 = .int .i64 x6_1 ∧ AZ (spec_l4Ok.l0 kq a1 t114 x6_1 = some r) ∧ AZ (kq ≤ k) ∧ AZ (Kd.R Kd.string 9 w' w.heap.size (fun _ => True) (.slice Ao9 t114.length co9) t114) ∧ AZ (Below w.heap.size w w'))
   case atStart => exact ⟨(0), zq8, H', ⟨Nat.le_refl _⟩, ⟨by (with_reducible repeat (first | apply Kd.R_alloc | apply Kd.R_drewN | apply Kd.R_drew)); exact HO116.out⟩, ⟨zq0⟩⟩
   case round =>
    clear H'
    try clear p2
    try clear c3
    try clear c3b0
    try clear c3b1
    try clear c4
    try clear c5
    try clear c5b0
    try clear c5b1
    obtain ⟨x6_1, rfl, HA, HK1, HO_5, HB⟩ := hrel
    cases gk with
    | zero => exact absurd HA.out (by simp [spec_l4Ok.l0])
    | succ k1 =>
     have H := HA.out
     clear HA
     simp only [spec_l4Ok.l0] at H
     by_cases c10 : x6_1 < (t114.length : Int)
     ·rw [if_pos c10] at H
      have c10b0 : decide (x6_1 < (t114.length : Int)) = true := decide_eq_true c10
      clear c10
      by_cases c11 : 0 ≤ x6_1
      ·rw [if_pos c11] at H
       have c11b0 : decide (0 ≤ x6_1) = true := decide_eq_true c11
       clear c11
       replace H := Option.bind_eq_some_iff.mp H
       obtain ⟨t118, A120, H⟩ := H
       try dsimp only at H
       have A12 := AZ.mk A120
       clear A120
       by_cases c13 : t118 = true
       ·subst c13
        rw [if_pos rfl] at H
        have H' := AZ.mk H
        clear H
        have p117 : 0 ≤ (x6_1 : Int) := of_decide_eq_true zq1
        have q117 : x6_1 < (t114.length : Int) := of_decide_eq_true zq1
        obtain ⟨ad117, e117, hx117_0⟩ := Kd.at_string (Kd.R_reads' HO_5.out).2.2 x6_1 p117 q117
        cases e117
        replace p117 := eq_true p117
        replace q117 := eq_true q117
        go_wp2_with (first | ((with_reducible refine gate_callee (f := 74) rfl ?_); refine goesL_ (some 26) rfl rfl Tryd.func74 zq17 rfl #[.string (rdOf ByteArray.empty t114 x6_1), .bool a1] rfl zq2 ?_; (with_reducible refine (spec_l4PartOk.calls k1 (rdOf ByteArray.empty t114 x6_1) a1 true _ A12.out).mono ?_); rintro e w' ⟨rfl, ⟨nd, rfl⟩⟩; refine ⟨_, rfl, ?_⟩))
        go_roundg k1
        case measure => have := HK1.out; omega
        case rel => exact ⟨(wrap64 (x6_1 + 1)), zq8, H', ⟨zq121⟩, ⟨by (with_reducible repeat (first | apply Kd.R_alloc | apply Kd.R_drewN | apply Kd.R_drew)); exact HO_5.out⟩, ⟨zq0⟩⟩
       ·replace c13 := Bool.eq_false_iff.mpr c13
        subst c13
        rw [if_neg (show ¬ (false = true) by decide)] at H
        obtain rfl := Option.some.inj H
        have p117 : 0 ≤ (x6_1 : Int) := of_decide_eq_true zq1
        have q117 : x6_1 < (t114.length : Int) := of_decide_eq_true zq1
        obtain ⟨ad117, e117, hx117_0⟩ := Kd.at_string (Kd.R_reads' HO_5.out).2.2 x6_1 p117 q117
        cases e117
        replace p117 := eq_true p117
        replace q117 := eq_true q117
        go_wp2_with (first | ((with_reducible refine gate_callee (f := 74) rfl ?_); refine goesL_ (some 26) rfl rfl Tryd.func74 zq17 rfl #[.string (rdOf ByteArray.empty t114 x6_1), .bool a1] rfl zq2 ?_; (with_reducible refine (spec_l4PartOk.calls k1 (rdOf ByteArray.empty t114 x6_1) a1 false _ A12.out).mono ?_); rintro e w' ⟨rfl, ⟨nd, rfl⟩⟩; refine ⟨_, rfl, ?_⟩))
        go_ret
        exact ⟨zq7, zq0⟩
      ·rw [if_neg c11] at H
       exact absurd H zq119
     ·rw [if_neg c10] at H
      have c10b0 : decide (x6_1 < (t114.length : Int)) = false := decide_eq_false c10
      clear c10
      obtain rfl := Option.some.inj H
      go_wp2
      go_ret
      exact ⟨zq7, zq0⟩
end Go.Proofs.YtgjipjffpodjlaaDoor.K
namespace Go.Proofs.YtgjipjffpodjlaaDoor.K
open Go.RowKit Go.Proofs.YtgjipjffpodjlaaDoorW.PrintWords Go.Proofs.YtgjipjffpodjlaaDoorW.PrintLast Go.Proofs.YtgjipjffpodjlaaDoorW.PrintMore
attribute [local go_sem] max2_int min2_int max_two min_two max_three min_three max_four min_four   
set_option linter.unusedVariables false
set_option linter.unusedSimpArgs false
def spec_ValidPath.f (k : Nat) (a0 : ByteArray) : Option (Bool) := (spec_l4Ok.f k a0 false).bind fun t119 => (some t119)
theorem spec_ValidPath.mono : ∀ a0 k, LeO (spec_ValidPath.f k a0) (spec_ValidPath.f (k + 1) a0) := by
 intro a0 k
 unfold spec_ValidPath.f
 repeat' first
   | (with_reducible exact spec_l4Ok.mono _ _ _)
   | (with_reducible exact LeO.refl _)
   | (with_reducible exact LeO.none _)
   | (with_reducible refine LeO.ite ?_ ?_)
   | (with_reducible refine LeO.bind ?_ (fun _ => ?_))
   | exact spec_l4Ok.mono _ _ _
   | exact LeO.none _
   | refine LeO.ite ?_ ?_
   | refine LeO.bind ?_ (fun _ => ?_)
set_option maxHeartbeats 2000000 in
set_option maxRecDepth 100000 in
theorem spec_ValidPath.calls (k : Nat) (a0 : ByteArray) (r : Bool) (w : World) (h : spec_ValidPath.f k a0 = some r) :
  Calls Tryd.prog 19 #[.string a0] w fun e w' => e = .returned (.bool r) ∧ Below w.heap.size w w' := by
 have HB := AZ.mk (Below.refl w.heap.size w)
 have H : ((spec_l4Ok.f k a0 false).bind fun t119 => (some t119)) = some r := h
 clear h
 replace H := Option.bind_eq_some_iff.mp H
 obtain ⟨t119, A20, H⟩ := H
 try dsimp only at H
 have A2 := AZ.mk A20
 clear A20
 obtain rfl := Option.some.inj H
 go_enter Tryd.func19, Tryd.ntmps19
 go_wp2_with (first | ((with_reducible refine gate_callee (f := 59) rfl ?_); refine goesL_ (some 4) rfl rfl Tryd.func59 zq17 rfl #[.string a0, .bool false] rfl zq2 ?_; (with_reducible refine (spec_l4Ok.calls k a0 false t119 _ A2.out).mono ?_); rintro e w3 ⟨rfl, hb⟩; refine ⟨_, rfl, ?_⟩; have n0_ := AZ.mk (below_step zq0 hb); clear HB; have HB := n0_; clear n0_; (try clear hb); (try clear hb2); (try clear hk); (try clear hi)))
 go_ret
 exact ⟨zq7, zq0⟩
end Go.Proofs.YtgjipjffpodjlaaDoor.K
namespace Go.Proofs.YtgjipjffpodjlaaDoor.K
open Go.RowKit Go.Proofs.YtgjipjffpodjlaaDoorW.PrintWords Go.Proofs.YtgjipjffpodjlaaDoorW.PrintLast Go.Proofs.YtgjipjffpodjlaaDoorW.PrintMore
attribute [local go_sem] max2_int min2_int max_two min_two max_three min_three max_four min_four   
set_option linter.unusedVariables false
set_option linter.unusedSimpArgs false
mutual
def spec_l9Read.l0 : Nat → ByteArray → Int → List (S78) → Option ((List (S78)) × Bool)
 | 0, _, _, _ => none
 | k + 1, x0, x1, x6 => if x0.toList = ([] : List UInt8) then (some (x6, true)) else (spec_l9Read.l1 k x0 x1 x6 0)
def spec_l9Read.j2 : Nat → ByteArray → Int → List (S78) → Int → Option ((List (S78)) × Bool)
 | 0, _, _, _, _ => none
 | k + 1, x0, x1, x6, x7 => if x7 = (x0.size : Int) then (spec_l9Read.j3 k x0 x1 x6 x7 (wrap64 ((wrap64 (x7 - (wrap64 (2 * x1)))) - 1)) true) else (if (wrap64 ((wrap64 (x7 - (wrap64 (2 * x1)))) - 1)) < 3 then (spec_l9Read.j3 k x0 x1 x6 x7 (wrap64 ((wrap64 (x7 - (wrap64 (2 * x1)))) - 1)) true) else (if 0 < (x0.size : Int) then (if (bt x0 0) = 100 then (if 1 < (x0.size : Int) then (if (bt x0 1) = 32 then (if 0 ≤ (wrap64 ((wrap64 (x7 - (wrap64 (2 * x1)))) - 1)) then (if (wrap64 ((wrap64 (x7 - (wrap64 (2 * x1)))) - 1)) < (x0.size : Int) then (spec_l9Read.j3 k x0 x1 x6 x7 (wrap64 ((wrap64 (x7 - (wrap64 (2 * x1)))) - 1)) ((bt x0 (wrap64 ((wrap64 (x7 - (wrap64 (2 * x1)))) - 1))) != 32)) else (none)) else (none)) else (spec_l9Read.j3 k x0 x1 x6 x7 (wrap64 ((wrap64 (x7 - (wrap64 (2 * x1)))) - 1)) true)) else (none)) else (if (bt x0 0) = 102 then (if 1 < (x0.size : Int) then (if (bt x0 1) = 32 then (if 0 ≤ (wrap64 ((wrap64 (x7 - (wrap64 (2 * x1)))) - 1)) then (if (wrap64 ((wrap64 (x7 - (wrap64 (2 * x1)))) - 1)) < (x0.size : Int) then (spec_l9Read.j3 k x0 x1 x6 x7 (wrap64 ((wrap64 (x7 - (wrap64 (2 * x1)))) - 1)) ((bt x0 (wrap64 ((wrap64 (x7 - (wrap64 (2 * x1)))) - 1))) != 32)) else (none)) else (none)) else (spec_l9Read.j3 k x0 x1 x6 x7 (wrap64 ((wrap64 (x7 - (wrap64 (2 * x1)))) - 1)) true)) else (none)) else (if (bt x0 0) = 120 then (if 1 < (x0.size : Int) then (if (bt x0 1) = 32 then (if 0 ≤ (wrap64 ((wrap64 (x7 - (wrap64 (2 * x1)))) - 1)) then (if (wrap64 ((wrap64 (x7 - (wrap64 (2 * x1)))) - 1)) < (x0.size : Int) then (spec_l9Read.j3 k x0 x1 x6 x7 (wrap64 ((wrap64 (x7 - (wrap64 (2 * x1)))) - 1)) ((bt x0 (wrap64 ((wrap64 (x7 - (wrap64 (2 * x1)))) - 1))) != 32)) else (none)) else (none)) else (spec_l9Read.j3 k x0 x1 x6 x7 (wrap64 ((wrap64 (x7 - (wrap64 (2 * x1)))) - 1)) true)) else (none)) else (spec_l9Read.j3 k x0 x1 x6 x7 (wrap64 ((wrap64 (x7 - (wrap64 (2 * x1)))) - 1)) true)))) else (none)))
def spec_l9Read.j3 : Nat → ByteArray → Int → List (S78) → Int → Int → Bool → Option ((List (S78)) × Bool)
 | 0, _, _, _, _, _, _ => none
 | k + 1, x0, x1, x6, x7, x8, x64 => if x64 = true then (some (x6, false)) else (if 0 < (x0.size : Int) then (if 2 ≤ x8 then (if x8 ≤ (x0.size : Int) then (if 0 ≤ (wrap64 (x8 + 1)) then (if (wrap64 (x8 + 1)) ≤ x7 then (if x7 ≤ (x0.size : Int) then ((spec_l4PartOk.f k (x0.extract 2 (x8 : Int).toNat) false).bind fun t124 => (if t124 = true then (if (x6.length : Int) > 0 then (if 0 ≤ (wrap64 ((x6.length : Int) - 1)) then (if (wrap64 ((x6.length : Int) - 1)) < (x6.length : Int) then (spec_l9Read.j4 k x0 x1 x6 x7 (!(Op.bytesLess (((rd_T78 x6 (wrap64 ((x6.length : Int) - 1))).f1).toList) ((x0.extract 2 (x8 : Int).toNat).toList))) (bt x0 0) (x0.extract 2 (x8 : Int).toNat) (x0.extract ((wrap64 (x8 + 1)) : Int).toNat (x7 : Int).toNat)) else (none)) else (none)) else (spec_l9Read.j4 k x0 x1 x6 x7 false (bt x0 0) (x0.extract 2 (x8 : Int).toNat) (x0.extract ((wrap64 (x8 + 1)) : Int).toNat (x7 : Int).toNat))) else (spec_l9Read.j4 k x0 x1 x6 x7 true (bt x0 0) (x0.extract 2 (x8 : Int).toNat) (x0.extract ((wrap64 (x8 + 1)) : Int).toNat (x7 : Int).toNat)))) else (none)) else (none)) else (none)) else (none)) else (none)) else (none))
def spec_l9Read.j4 : Nat → ByteArray → Int → List (S78) → Int → Bool → Int → ByteArray → ByteArray → Option ((List (S78)) × Bool)
 | 0, _, _, _, _, _, _, _, _ => none
 | k + 1, x0, x1, x6, x7, x97, x124000, x124001, x124002 => if x97 = true then (some (x6, false)) else (spec_l9Read.l2 k x0 x1 x6 x7 0 x124000 x124001 x124002)
def spec_l9Read.l2 : Nat → ByteArray → Int → List (S78) → Int → Int → Int → ByteArray → ByteArray → Option ((List (S78)) × Bool)
 | 0, _, _, _, _, _, _, _, _ => none
 | k + 1, x0, x1, x6, x7, x10, x124000, x124001, x124002 => if x10 < (x124002.size : Int) then (if 0 ≤ x10 then (if (bt x124002 x10) < 48 then (if (bt x124002 x10) < 97 then (some (x6, false)) else (if (bt x124002 x10) > 102 then (some (x6, false)) else (spec_l9Read.l2 k x0 x1 x6 x7 (wrap64 (x10 + 1)) x124000 x124001 x124002))) else (if (bt x124002 x10) > 57 then (if (bt x124002 x10) < 97 then (some (x6, false)) else (if (bt x124002 x10) > 102 then (some (x6, false)) else (spec_l9Read.l2 k x0 x1 x6 x7 (wrap64 (x10 + 1)) x124000 x124001 x124002))) else (spec_l9Read.l2 k x0 x1 x6 x7 (wrap64 (x10 + 1)) x124000 x124001 x124002))) else (none)) else (if x6.length < 3518437208883 then (if 0 ≤ (wrap64 (x7 + 1)) then (if (wrap64 (x7 + 1)) ≤ (x0.size : Int) then (spec_l9Read.l0 k (x0.extract ((wrap64 (x7 + 1)) : Int).toNat x0.size) x1 (x6 ++ [(⟨x124000, x124001, x124002⟩ : S78)])) else (none)) else (none)) else (none))
def spec_l9Read.l1 : Nat → ByteArray → Int → List (S78) → Int → Option ((List (S78)) × Bool)
 | 0, _, _, _, _ => none
 | k + 1, x0, x1, x6, x7 => if x7 < (x0.size : Int) then (if 0 ≤ x7 then (if (bt x0 x7) = 10 then (spec_l9Read.j2 k x0 x1 x6 x7) else (spec_l9Read.l1 k x0 x1 x6 (wrap64 (x7 + 1)))) else (none)) else (spec_l9Read.j2 k x0 x1 x6 x7)
end
def spec_l9Read.f (k : Nat) (a0 : ByteArray) (a1 : Int) : Option ((List (S78)) × Bool) := spec_l9Read.l0 k a0 a1 (([] : List (S78)))
theorem spec_l9Read.mono_l : ∀ k, (∀ y0 y1 y2, LeO (spec_l9Read.l0 k y0 y1 y2) (spec_l9Read.l0 (k + 1) y0 y1 y2)) ∧ (∀ y0 y1 y2 y3, LeO (spec_l9Read.j2 k y0 y1 y2 y3) (spec_l9Read.j2 (k + 1) y0 y1 y2 y3)) ∧ (∀ y0 y1 y2 y3 y4 y5, LeO (spec_l9Read.j3 k y0 y1 y2 y3 y4 y5) (spec_l9Read.j3 (k + 1) y0 y1 y2 y3 y4 y5)) ∧ (∀ y0 y1 y2 y3 y4 y5 y6 y7, LeO (spec_l9Read.j4 k y0 y1 y2 y3 y4 y5 y6 y7) (spec_l9Read.j4 (k + 1) y0 y1 y2 y3 y4 y5 y6 y7)) ∧ (∀ y0 y1 y2 y3 y4 y5 y6 y7, LeO (spec_l9Read.l2 k y0 y1 y2 y3 y4 y5 y6 y7) (spec_l9Read.l2 (k + 1) y0 y1 y2 y3 y4 y5 y6 y7)) ∧ (∀ y0 y1 y2 y3, LeO (spec_l9Read.l1 k y0 y1 y2 y3) (spec_l9Read.l1 (k + 1) y0 y1 y2 y3))
 | 0 => ⟨fun _ _ _ r h => by simp [spec_l9Read.l0] at h, fun _ _ _ _ r h => by simp [spec_l9Read.j2] at h, fun _ _ _ _ _ _ r h => by simp [spec_l9Read.j3] at h, fun _ _ _ _ _ _ _ _ r h => by simp [spec_l9Read.j4] at h, fun _ _ _ _ _ _ _ _ r h => by simp [spec_l9Read.l2] at h, fun _ _ _ _ r h => by simp [spec_l9Read.l1] at h⟩
 | k + 1 => by
  obtain ⟨ih0, ih1, ih2, ih3, ih4, ih5⟩ := spec_l9Read.mono_l k
  refine ⟨?_, ?_, ?_, ?_, ?_, ?_⟩
  ·intro y0 y1 y2
   unfold spec_l9Read.l0
   repeat' first
   | (with_reducible exact ih0 _ _ _)
   | (with_reducible exact ih1 _ _ _ _)
   | (with_reducible exact ih2 _ _ _ _ _ _)
   | (with_reducible exact ih3 _ _ _ _ _ _ _ _)
   | (with_reducible exact ih4 _ _ _ _ _ _ _ _)
   | (with_reducible exact ih5 _ _ _ _)
   | (with_reducible exact spec_l4PartOk.mono _ _ _)
   | (with_reducible exact LeO.refl _)
   | (with_reducible exact LeO.none _)
   | (with_reducible refine LeO.ite ?_ ?_)
   | (with_reducible refine LeO.bind ?_ (fun _ => ?_))
   | exact ih0 _ _ _
   | exact ih1 _ _ _ _
   | exact ih2 _ _ _ _ _ _
   | exact ih3 _ _ _ _ _ _ _ _
   | exact ih4 _ _ _ _ _ _ _ _
   | exact ih5 _ _ _ _
   | exact spec_l4PartOk.mono _ _ _
   | exact LeO.none _
   | refine LeO.ite ?_ ?_
   | refine LeO.bind ?_ (fun _ => ?_)
  ·intro y0 y1 y2 y3
   unfold spec_l9Read.j2
   repeat' first
   | (with_reducible exact ih0 _ _ _)
   | (with_reducible exact ih1 _ _ _ _)
   | (with_reducible exact ih2 _ _ _ _ _ _)
   | (with_reducible exact ih3 _ _ _ _ _ _ _ _)
   | (with_reducible exact ih4 _ _ _ _ _ _ _ _)
   | (with_reducible exact ih5 _ _ _ _)
   | (with_reducible exact spec_l4PartOk.mono _ _ _)
   | (with_reducible exact LeO.refl _)
   | (with_reducible exact LeO.none _)
   | (with_reducible refine LeO.ite ?_ ?_)
   | (with_reducible refine LeO.bind ?_ (fun _ => ?_))
   | exact ih0 _ _ _
   | exact ih1 _ _ _ _
   | exact ih2 _ _ _ _ _ _
   | exact ih3 _ _ _ _ _ _ _ _
   | exact ih4 _ _ _ _ _ _ _ _
   | exact ih5 _ _ _ _
   | exact spec_l4PartOk.mono _ _ _
   | exact LeO.none _
   | refine LeO.ite ?_ ?_
   | refine LeO.bind ?_ (fun _ => ?_)
  ·intro y0 y1 y2 y3 y4 y5
   unfold spec_l9Read.j3
   repeat' first
   | (with_reducible exact ih0 _ _ _)
   | (with_reducible exact ih1 _ _ _ _)
   | (with_reducible exact ih2 _ _ _ _ _ _)
   | (with_reducible exact ih3 _ _ _ _ _ _ _ _)
   | (with_reducible exact ih4 _ _ _ _ _ _ _ _)
   | (with_reducible exact ih5 _ _ _ _)
   | (with_reducible exact spec_l4PartOk.mono _ _ _)
   | (with_reducible exact LeO.refl _)
   | (with_reducible exact LeO.none _)
   | (with_reducible refine LeO.ite ?_ ?_)
   | (with_reducible refine LeO.bind ?_ (fun _ => ?_))
   | exact ih0 _ _ _
   | exact ih1 _ _ _ _
   | exact ih2 _ _ _ _ _ _
   | exact ih3 _ _ _ _ _ _ _ _
   | exact ih4 _ _ _ _ _ _ _ _
   | exact ih5 _ _ _ _
   | exact spec_l4PartOk.mono _ _ _
   | exact LeO.none _
   | refine LeO.ite ?_ ?_
   | refine LeO.bind ?_ (fun _ => ?_)
  ·intro y0 y1 y2 y3 y4 y5 y6 y7
   unfold spec_l9Read.j4
   repeat' first
   | (with_reducible exact ih0 _ _ _)
   | (with_reducible exact ih1 _ _ _ _)
   | (with_reducible exact ih2 _ _ _ _ _ _)
   | (with_reducible exact ih3 _ _ _ _ _ _ _ _)
   | (with_reducible exact ih4 _ _ _ _ _ _ _ _)
   | (with_reducible exact ih5 _ _ _ _)
   | (with_reducible exact spec_l4PartOk.mono _ _ _)
   | (with_reducible exact LeO.refl _)
   | (with_reducible exact LeO.none _)
   | (with_reducible refine LeO.ite ?_ ?_)
   | (with_reducible refine LeO.bind ?_ (fun _ => ?_))
   | exact ih0 _ _ _
   | exact ih1 _ _ _ _
   | exact ih2 _ _ _ _ _ _
   | exact ih3 _ _ _ _ _ _ _ _
   | exact ih4 _ _ _ _ _ _ _ _
   | exact ih5 _ _ _ _
   | exact spec_l4PartOk.mono _ _ _
   | exact LeO.none _
   | refine LeO.ite ?_ ?_
   | refine LeO.bind ?_ (fun _ => ?_)
  ·intro y0 y1 y2 y3 y4 y5 y6 y7
   unfold spec_l9Read.l2
   repeat' first
   | (with_reducible exact ih0 _ _ _)
   | (with_reducible exact ih1 _ _ _ _)
   | (with_reducible exact ih2 _ _ _ _ _ _)
   | (with_reducible exact ih3 _ _ _ _ _ _ _ _)
   | (with_reducible exact ih4 _ _ _ _ _ _ _ _)
   | (with_reducible exact ih5 _ _ _ _)
   | (with_reducible exact spec_l4PartOk.mono _ _ _)
   | (with_reducible exact LeO.refl _)
   | (with_reducible exact LeO.none _)
   | (with_reducible refine LeO.ite ?_ ?_)
   | (with_reducible refine LeO.bind ?_ (fun _ => ?_))
   | exact ih0 _ _ _
   | exact ih1 _ _ _ _
   | exact ih2 _ _ _ _ _ _
   | exact ih3 _ _ _ _ _ _ _ _
   | exact ih4 _ _ _ _ _ _ _ _
   | exact ih5 _ _ _ _
   | exact spec_l4PartOk.mono _ _ _
   | exact LeO.none _
   | refine LeO.ite ?_ ?_
   | refine LeO.bind ?_ (fun _ => ?_)
  ·intro y0 y1 y2 y3
   unfold spec_l9Read.l1
   repeat' first
   | (with_reducible exact ih0 _ _ _)
   | (with_reducible exact ih1 _ _ _ _)
   | (with_reducible exact ih2 _ _ _ _ _ _)
   | (with_reducible exact ih3 _ _ _ _ _ _ _ _)
   | (with_reducible exact ih4 _ _ _ _ _ _ _ _)
   | (with_reducible exact ih5 _ _ _ _)
   | (with_reducible exact spec_l4PartOk.mono _ _ _)
   | (with_reducible exact LeO.refl _)
   | (with_reducible exact LeO.none _)
   | (with_reducible refine LeO.ite ?_ ?_)
   | (with_reducible refine LeO.bind ?_ (fun _ => ?_))
   | exact ih0 _ _ _
   | exact ih1 _ _ _ _
   | exact ih2 _ _ _ _ _ _
   | exact ih3 _ _ _ _ _ _ _ _
   | exact ih4 _ _ _ _ _ _ _ _
   | exact ih5 _ _ _ _
   | exact spec_l4PartOk.mono _ _ _
   | exact LeO.none _
   | refine LeO.ite ?_ ?_
   | refine LeO.bind ?_ (fun _ => ?_)
theorem spec_l9Read.mono : ∀ a0 a1 k, LeO (spec_l9Read.f k a0 a1) (spec_l9Read.f (k + 1) a0 a1) := by
 intro a0 a1 k
 obtain ⟨ih0, ih1, ih2, ih3, ih4, ih5⟩ := spec_l9Read.mono_l k
 unfold spec_l9Read.f
 repeat' first
   | (with_reducible exact ih0 _ _ _)
   | (with_reducible exact ih1 _ _ _ _)
   | (with_reducible exact ih2 _ _ _ _ _ _)
   | (with_reducible exact ih3 _ _ _ _ _ _ _ _)
   | (with_reducible exact ih4 _ _ _ _ _ _ _ _)
   | (with_reducible exact ih5 _ _ _ _)
   | (with_reducible exact spec_l4PartOk.mono _ _ _)
   | (with_reducible exact LeO.refl _)
   | (with_reducible exact LeO.none _)
   | (with_reducible refine LeO.ite ?_ ?_)
   | (with_reducible refine LeO.bind ?_ (fun _ => ?_))
   | exact ih0 _ _ _
   | exact ih1 _ _ _ _
   | exact ih2 _ _ _ _ _ _
   | exact ih3 _ _ _ _ _ _ _ _
   | exact ih4 _ _ _ _ _ _ _ _
   | exact ih5 _ _ _ _
   | exact spec_l4PartOk.mono _ _ _
   | exact LeO.none _
   | refine LeO.ite ?_ ?_
   | refine LeO.bind ?_ (fun _ => ?_)
def spec_l9Read.T9 : Bool × List (List Nat × List Nat) := (true, [([], []), ([0], [0]), ([], []), ([], []), ([2, 3], [2, 3]), ([], []), ([], []), ([6], [6]), ([], []), ([5, 7, 8], [5, 7, 8]), ([1, 4, 9], [1, 4, 9]), ([], []), ([11, 10, 0, 1, 2, 3, 4, 5, 6, 7, 8, 9, 10, 11], [10, 11])])
def spec_l9Read.B9 : List Nat := [0, 1, 0, 0, 12, 0, 0, 64, 0, 480, 1023, 0, 4095]
theorem spec_l9Read.tab9 : rtab .any (opsOf Tryd.f40 9) = spec_l9Read.T9 := by kernel_rfl
theorem spec_l9Read.bits9 : waitsOk spec_l9Read.T9.2 spec_l9Read.B9 = true := by kernel_rfl
def spec_l9Read.T10 : Bool × List (List Nat × List Nat) := (true, [([], []), ([0], [0]), ([1], [1]), ([2], [2]), ([3, 2], [3]), ([4], [4]), ([5, 4], [4, 5]), ([6, 4], [4, 6]), ([7, 4, 4], [4, 7]), ([8], [8]), ([8], [8]), ([10, 8], [8, 10]), ([11, 8], [8, 11]), ([9, 12, 8], [8, 9, 12]), ([13, 8], [8, 13]), ([14, 8], [8, 14]), ([8], [8]), ([16, 8], [8, 16]), ([15, 17, 8], [8, 15, 17]), ([8, 18, 4], [4, 8, 18]), ([4, 19], [4, 19])])
def spec_l9Read.B10 : List Nat := [0, 1, 3, 7, 15, 31, 63, 127, 255, 511, 511, 1535, 3583, 8191, 16383, 32767, 511, 66047, 262143, 524287, 1048575]
theorem spec_l9Read.tab10 : rtab .any (opsOf Tryd.f40 10) = spec_l9Read.T10 := by kernel_rfl
theorem spec_l9Read.bits10 : waitsOk spec_l9Read.T10.2 spec_l9Read.B10 = true := by kernel_rfl
set_option maxHeartbeats 2000000 in
set_option maxRecDepth 100000 in
theorem spec_l9Read.calls (k : Nat) (a0 : ByteArray) (a1 : Int) (r1 : List (S78)) (r2 : Bool) (w : World) (h : spec_l9Read.f k a0 a1 = some (r1, r2)) :
  Calls Tryd.prog 40 #[.string a0, .int .i64 a1] w fun e w' => ∃ v0_ : Value, e = .returned (.tuple #[v0_, .bool r2]) ∧ Kd.R k78 78 w' w.heap.size (fun _ => True) v0_ r1 ∧ Below w.heap.size w w' := by
 have hu78 := Tryd.underlying78
 have HB := AZ.mk (Below.refl w.heap.size w)
 have H : (spec_l9Read.l0 k a0 a1 (([] : List (S78)))) = some (r1, r2) := h
 clear h
 obtain ⟨y120, hy120⟩ : ∃ y_ : List (S78), y_ = (([] : List (S78))) := ⟨_, rfl⟩
 replace H : (spec_l9Read.l0 k a0 a1 y120) = some (r1, r2) := by first | (rw [hy120]; with_reducible exact H) | (have H2_ := (Option.bind_some _ _).symm.trans H; rw [hy120]; with_reducible exact H2_) | (have H2_ := (Option.bind_some _ _).symm.trans H; with_reducible exact H2_) | with_reducible exact H | (rw [hy120]; exact H) | exact H
 have Ny120 := AZ.mk hy120
 clear hy120
 have H' := AZ.mk H
 clear H
 go_enter Tryd.func40, Tryd.ntmps40
 go_wp2_with (first | ((with_reducible refine gate_dst (N := 11) rfl ?_); (try (refine gate_guard zq105 ?_; dsimp only)); refine Kd.R_lit k78 _ 78 ?hg (N := 11) ?hd (xs := ([] : List (S78))) (inner := []) (ok := fun _ => True) (okp := fun _ => True) ?hr ?hp (fun _ hk => hk) trivial (Below.refl _ _) (Nat.le_refl _) zq119 ?_; (case hd => rfl); (case hg => rfl); (case hr => first | (go_simp; done) | (go_simp; rfl)); (case hp => exact (Reps.none _ _)); intro v121 w3 ho4 hb hg_ hnew_; clear hg_ hnew_; (first | rw [← Ny120.out] at ho4 | (simp only [Int.reduceToNat] at ho4; rw [← Ny120.out] at ho4)); have n0_ := AZ.mk (Kd.R_lower ho4 (below_size zq0)); have n1_ := AZ.mk (below_step zq0 hb); clear HB; have HO122 := n0_; have HB := n1_; clear n0_ n1_; clear hb ho4))
 go_loopg [0, 6] k (fun kq v0 v6 w' => ∃ (x0_1 : ByteArray) (x6_1 : List (S78)), v0 = .string x0_1 ∧ AZ (spec_l9Read.l0 kq x0_1 a1 x6_1 = some (r1, r2)) ∧ AZ (kq ≤ k) ∧ AZ (Kd.R k78 78 w' w.heap.size (fun _ => True) v6 x6_1) ∧ AZ (Below w.heap.size w w'))
 case atStart => exact ⟨(a0), (y120), zq8, H', ⟨Nat.le_refl _⟩, ⟨by (with_reducible repeat (first | apply Kd.R_alloc | apply Kd.R_drewN | apply Kd.R_drew)); exact HO122.out⟩, ⟨zq0⟩⟩
 case round =>
  clear H'
  try clear p2
  try clear c4
  obtain ⟨x0_1, x6_1, rfl, HA, HK1, HO_6, HB⟩ := hrel
  cases gk with
  | zero => exact absurd HA.out (by simp [spec_l9Read.l0])
  | succ k1 =>
   have H := HA.out
   clear HA
   simp only [spec_l9Read.l0] at H
   by_cases c5 : x0_1.toList = ([] : List UInt8)
   ·rw [if_pos c5] at H
    have c5b0 : (x0_1.toList == ([] : List UInt8)) = true := beq_iff_eq.mpr c5
    have c5b1 : (x0_1.toList != ([] : List UInt8)) = false := bne_eq_false_iff_eq.mpr c5
    clear c5
    simp only [Option.some.injEq, Prod.mk.injEq] at H
    obtain ⟨rfl, rfl⟩ := H
    go_wp2
    go_ret2
    exact ⟨_, zq7, zq15, zq0⟩
   ·rw [if_neg c5] at H
    have c5b0 : (x0_1.toList == ([] : List UInt8)) = false := beq_eq_false_iff_ne.mpr c5
    have c5b1 : (x0_1.toList != ([] : List UInt8)) = true := bne_iff_ne.mpr c5
    have HC6 := AZ.mk H
    clear H
    go_upto_block 2 with (fail)
    go_cut [7] (fun v7 wc => ∃ (kq : Nat) (x7_5 : Int), v7 = .int .i64 x7_5 ∧ AZ (spec_l9Read.j2 kq x0_1 a1 x6_1 x7_5 = some (r1, r2)) ∧ AZ (kq ≤ k1) ∧ AZ (Kd.R k78 78 wc w.heap.size (fun _ => True) u6 x6_1) ∧ AZ (Below w.heap.size w wc))
    case first =>
     have H := HC6.out
     clear HC6
     have H' := AZ.mk H
     clear H
     go_wp2
     go_loopg [7] k1 (fun kq v7 w' => ∃ (x7_2 : Int), v7 = .int .i64 x7_2 ∧ AZ (spec_l9Read.l1 kq x0_1 a1 x6_1 x7_2 = some (r1, r2)) ∧ AZ (kq ≤ k1) ∧ AZ (Kd.R k78 78 w' w.heap.size (fun _ => True) u6 x6_1) ∧ AZ (Below w.heap.size w w'))
     case atStart => exact ⟨(0), zq8, H', ⟨Nat.le_refl _⟩, ⟨zq15⟩, ⟨zq0⟩⟩
     case round =>
      clear H'
      try clear p2
      try clear c4
      try clear c5
      try clear c5b0
      try clear c5b1
      try clear p2
      obtain ⟨x7_2, rfl, HA, HK2, HO_6, HB⟩ := hrel
      cases gk with
      | zero => exact absurd HA.out (by simp [spec_l9Read.l1])
      | succ k2 =>
       have H := HA.out
       clear HA
       simp only [spec_l9Read.l1] at H
       by_cases c7 : x7_2 < (x0_1.size : Int)
       ·rw [if_pos c7] at H
        have c7b0 : decide (x7_2 < (x0_1.size : Int)) = true := decide_eq_true c7
        clear c7
        (first | rw [c7b0] | (simp only [i64_w, i32_w]; rw [c7b0]) | skip)
        by_cases c8 : 0 ≤ x7_2
        ·rw [if_pos c8] at H
         have c8b0 : decide (0 ≤ x7_2) = true := decide_eq_true c8
         clear c8
         by_cases c10 : (bt x0_1 x7_2) = 10
         ·rw [if_pos c10] at H
          have c10b0 : ((bt x0_1 x7_2) == 10) = true := beq_iff_eq.mpr c10
          have c10b1 : ((bt x0_1 x7_2) != 10) = false := bne_eq_false_iff_eq.mpr c10
          clear c10
          have H' := AZ.mk H
          clear H
          have p9 : 0 ≤ (x7_2 : Int) := of_decide_eq_true zq1
          have q9 : x7_2 < (x0_1.size : Int) := of_decide_eq_true zq1
          have hx9 := bt_at x0_1 x7_2
          replace p9 := eq_true p9
          replace q9 := eq_true q9
          go_wp2
          go_meet
          case rel => exact ⟨_, (x7_2), zq8, H', ⟨by have := HK1.out; have := HK2.out; first | omega | exact Nat.le_refl _⟩, ⟨zq15⟩, ⟨zq0⟩⟩
         ·rw [if_neg c10] at H
          have c10b0 : ((bt x0_1 x7_2) == 10) = false := beq_eq_false_iff_ne.mpr c10
          have c10b1 : ((bt x0_1 x7_2) != 10) = true := bne_iff_ne.mpr c10
          have H' := AZ.mk H
          clear H
          have p9 : 0 ≤ (x7_2 : Int) := of_decide_eq_true zq1
          have q9 : x7_2 < (x0_1.size : Int) := of_decide_eq_true zq1
          have hx9 := bt_at x0_1 x7_2
          replace p9 := eq_true p9
          replace q9 := eq_true q9
          go_wp2
          go_roundg k2
          case measure => have := HK1.out; have := HK2.out; omega
          case rel => exact ⟨(wrap64 (x7_2 + 1)), zq8, H', ⟨by have := HK1.out; have := HK2.out; omega⟩, ⟨zq15⟩, ⟨zq0⟩⟩
        ·rw [if_neg c8] at H
         exact absurd H zq119
       ·rw [if_neg c7] at H
        have c7b0 : decide (x7_2 < (x0_1.size : Int)) = false := decide_eq_false c7
        clear c7
        (first | rw [c7b0] | (simp only [i64_w, i32_w]; rw [c7b0]) | skip)
        have H' := AZ.mk H
        clear H
        go_wp2
        go_meet
        case rel => exact ⟨_, (x7_2), zq8, H', ⟨by have := HK1.out; have := HK2.out; first | omega | exact Nat.le_refl _⟩, ⟨zq15⟩, ⟨zq0⟩⟩
    case rest =>
     clear HC6
     try clear c1
     try clear p2
     try clear c4
     try clear c5
     try clear c5b0
     try clear c5b1
     try clear p6
     try clear c7
     try clear c7b0
     try clear c8
     try clear c8b0
     try clear p9
     try clear q9
     try clear hx9
     try clear c10
     try clear c10b0
     try clear c10b1
     try clear p2
     try clear p9
     try clear q9
     obtain ⟨kq, x7_5, rfl, HA, HJ5, HO_6, HB⟩ := hcut
     cases kq with
     | zero => exact absurd HA.out (by simp [spec_l9Read.j2])
     | succ kj5 =>
      have H := HA.out
      clear HA
      simp only [spec_l9Read.j2] at H
      have HC11 := AZ.mk H
      clear H
      go_upto_region 7 with (fail)
      go_cut [64] (fun v64 wc => ∃ (kq : Nat) (x64_10 : Bool), v64 = .bool x64_10 ∧ AZ (spec_l9Read.j3 kq x0_1 a1 x6_1 x7_5 (wrap64 ((wrap64 (x7_5 - (wrap64 (2 * a1)))) - 1)) x64_10 = some (r1, r2)) ∧ AZ (kq ≤ kj5) ∧ AZ (Kd.R k78 78 wc w.heap.size (fun _ => True) u6 x6_1) ∧ AZ (Below w.heap.size w wc))
      case first =>
       have H := HC11.out
       clear HC11
       by_cases c12 : x7_5 = (x0_1.size : Int)
       ·rw [if_pos c12] at H
        have c12b0 : (x7_5 == (x0_1.size : Int)) = true := beq_iff_eq.mpr c12
        have c12b1 : (x7_5 != (x0_1.size : Int)) = false := bne_eq_false_iff_eq.mpr c12
        clear c12
        (first | rw [c12b0] | (simp only [i64_w, i32_w]; rw [c12b0]) | skip)
        have H' := AZ.mk H
        clear H
        go_wp2
        go_meet
        case rel => exact ⟨_, (true), zq8, H', ⟨zq84⟩, ⟨zq15⟩, ⟨zq0⟩⟩
       ·rw [if_neg c12] at H
        have c12b0 : (x7_5 == (x0_1.size : Int)) = false := beq_eq_false_iff_ne.mpr c12
        have c12b1 : (x7_5 != (x0_1.size : Int)) = true := bne_iff_ne.mpr c12
        (first | rw [c12b0] | (simp only [i64_w, i32_w]; rw [c12b0]) | skip)
        by_cases c13 : (wrap64 ((wrap64 (x7_5 - (wrap64 (2 * a1)))) - 1)) < 3
        ·rw [if_pos c13] at H
         have c13b0 : decide ((wrap64 ((wrap64 (x7_5 - (wrap64 (2 * a1)))) - 1)) < 3) = true := decide_eq_true c13
         clear c13
         have H' := AZ.mk H
         clear H
         go_wp2
         go_meet
         case rel => exact ⟨_, (true), zq8, H', ⟨zq84⟩, ⟨zq15⟩, ⟨zq0⟩⟩
        ·rw [if_neg c13] at H
         have c13b0 : decide ((wrap64 ((wrap64 (x7_5 - (wrap64 (2 * a1)))) - 1)) < 3) = false := decide_eq_false c13
         clear c13
         by_cases c14 : 0 < (x0_1.size : Int)
         ·rw [if_pos c14] at H
          have c14b0 : decide (0 < (x0_1.size : Int)) = true := decide_eq_true c14
          have c14b1 : decide (0 < x0_1.size) = true := decide_eq_true zq94
          clear c14
          by_cases c16 : (bt x0_1 0) = 100
          ·rw [if_pos c16] at H
           have c16b0 : ((bt x0_1 0) == 100) = true := beq_iff_eq.mpr c16
           have c16b1 : ((bt x0_1 0) != 100) = false := bne_eq_false_iff_eq.mpr c16
           clear c16
           by_cases c17 : 1 < (x0_1.size : Int)
           ·rw [if_pos c17] at H
            have c17b0 : decide (1 < (x0_1.size : Int)) = true := decide_eq_true c17
            have c17b1 : decide (1 < x0_1.size) = true := decide_eq_true zq94
            clear c17
            by_cases c19 : (bt x0_1 1) = 32
            ·rw [if_pos c19] at H
             have c19b0 : ((bt x0_1 1) == 32) = true := beq_iff_eq.mpr c19
             have c19b1 : ((bt x0_1 1) != 32) = false := bne_eq_false_iff_eq.mpr c19
             clear c19
             obtain ⟨ji20, hji20⟩ : ∃ j_ : Int, (wrap64 ((wrap64 (x7_5 - (wrap64 (2 * a1)))) - 1)) = j_ := ⟨_, rfl⟩
             replace H : (if 0 ≤ (ji20) then (if (ji20) < (x0_1.size : Int) then (spec_l9Read.j3 kj5 x0_1 a1 x6_1 x7_5 ji20 ((bt x0_1 (ji20)) != 32)) else (none)) else (none)) = some (r1, r2) := by first | (rw [hji20] at H; exact H) | (simp only [hji20] at H ⊢; exact H)
             (try rw [hji20] at c13b0)
             have hji20w : (IntKind.i64.wrap ((wrap64 (x7_5 - (wrap64 (2 * a1)))) - 1)) = ji20 := (i64_w _).trans hji20
             by_cases c21 : 0 ≤ (ji20)
             ·rw [if_pos c21] at H
              have c21b0 : decide (0 ≤ (ji20)) = true := decide_eq_true c21
              clear c21
              by_cases c22 : (ji20) < (x0_1.size : Int)
              ·rw [if_pos c22] at H
               have c22b0 : decide ((ji20) < (x0_1.size : Int)) = true := decide_eq_true c22
               clear c22
               have H' := AZ.mk H
               clear H
               have p15 : 0 ≤ (0 : Int) := zq94
               have q15 : 0 < x0_1.size := (by have : (0 : Int) < (x0_1.size : Int) := of_decide_eq_true zq1; omega)
               have hx15 : ∀ h : 0 < x0_1.size, ((x0_1[0]'h).toNat : Int) = bt x0_1 0 := bt_at x0_1 0
               clear p15
               have qi15 : (0 < (x0_1.size : Int)) = True := eq_true (of_decide_eq_true zq1)
               replace q15 := eq_true q15
               have p18 : 0 ≤ (1 : Int) := zq94
               have q18 : 1 < x0_1.size := (by have : (1 : Int) < (x0_1.size : Int) := of_decide_eq_true zq1; omega)
               have hx18 : ∀ h : 1 < x0_1.size, ((x0_1[1]'h).toNat : Int) = bt x0_1 1 := bt_at x0_1 1
               clear p18
               have qi18 : (1 < (x0_1.size : Int)) = True := eq_true (of_decide_eq_true zq1)
               replace q18 := eq_true q18
               have p23 : 0 ≤ ((ji20) : Int) := of_decide_eq_true zq1
               have q23 : (ji20) < (x0_1.size : Int) := of_decide_eq_true zq1
               have hx23 := bt_at x0_1 (ji20)
               replace p23 := eq_true p23
               replace q23 := eq_true q23
               go_wp2
               go_meet
               case rel => rw [← hji20] at H'; exact ⟨_, _, (by first | rfl | (simp; done) | (simp only [← hji20] <;> (first | rfl | simp)) | (simp [*]; done)), H', ⟨zq84⟩, ⟨zq15⟩, ⟨zq0⟩⟩
              ·rw [if_neg c22] at H
               exact absurd H zq119
             ·rw [if_neg c21] at H
              exact absurd H zq119
            ·rw [if_neg c19] at H
             have c19b0 : ((bt x0_1 1) == 32) = false := beq_eq_false_iff_ne.mpr c19
             have c19b1 : ((bt x0_1 1) != 32) = true := bne_iff_ne.mpr c19
             have H' := AZ.mk H
             clear H
             have p15 : 0 ≤ (0 : Int) := zq94
             have q15 : 0 < x0_1.size := (by have : (0 : Int) < (x0_1.size : Int) := of_decide_eq_true zq1; omega)
             have hx15 : ∀ h : 0 < x0_1.size, ((x0_1[0]'h).toNat : Int) = bt x0_1 0 := bt_at x0_1 0
             clear p15
             have qi15 : (0 < (x0_1.size : Int)) = True := eq_true (of_decide_eq_true zq1)
             replace q15 := eq_true q15
             have p18 : 0 ≤ (1 : Int) := zq94
             have q18 : 1 < x0_1.size := (by have : (1 : Int) < (x0_1.size : Int) := of_decide_eq_true zq1; omega)
             have hx18 : ∀ h : 1 < x0_1.size, ((x0_1[1]'h).toNat : Int) = bt x0_1 1 := bt_at x0_1 1
             clear p18
             have qi18 : (1 < (x0_1.size : Int)) = True := eq_true (of_decide_eq_true zq1)
             replace q18 := eq_true q18
             go_wp2
             go_meet
             case rel => exact ⟨_, (true), zq8, H', ⟨zq84⟩, ⟨zq15⟩, ⟨zq0⟩⟩
           ·rw [if_neg c17] at H
            exact absurd H zq119
          ·rw [if_neg c16] at H
           have c16b0 : ((bt x0_1 0) == 100) = false := beq_eq_false_iff_ne.mpr c16
           have c16b1 : ((bt x0_1 0) != 100) = true := bne_iff_ne.mpr c16
           by_cases c25 : (bt x0_1 0) = 102
           ·rw [if_pos c25] at H
            have c25b0 : ((bt x0_1 0) == 102) = true := beq_iff_eq.mpr c25
            have c25b1 : ((bt x0_1 0) != 102) = false := bne_eq_false_iff_eq.mpr c25
            clear c25
            by_cases c26 : 1 < (x0_1.size : Int)
            ·rw [if_pos c26] at H
             have c26b0 : decide (1 < (x0_1.size : Int)) = true := decide_eq_true c26
             have c26b1 : decide (1 < x0_1.size) = true := decide_eq_true zq94
             clear c26
             by_cases c28 : (bt x0_1 1) = 32
             ·rw [if_pos c28] at H
              have c28b0 : ((bt x0_1 1) == 32) = true := beq_iff_eq.mpr c28
              have c28b1 : ((bt x0_1 1) != 32) = false := bne_eq_false_iff_eq.mpr c28
              clear c28
              obtain ⟨ji29, hji29⟩ : ∃ j_ : Int, (wrap64 ((wrap64 (x7_5 - (wrap64 (2 * a1)))) - 1)) = j_ := ⟨_, rfl⟩
              replace H : (if 0 ≤ (ji29) then (if (ji29) < (x0_1.size : Int) then (spec_l9Read.j3 kj5 x0_1 a1 x6_1 x7_5 ji29 ((bt x0_1 (ji29)) != 32)) else (none)) else (none)) = some (r1, r2) := by first | (rw [hji29] at H; exact H) | (simp only [hji29] at H ⊢; exact H)
              (try rw [hji29] at c13b0)
              have hji29w : (IntKind.i64.wrap ((wrap64 (x7_5 - (wrap64 (2 * a1)))) - 1)) = ji29 := (i64_w _).trans hji29
              by_cases c30 : 0 ≤ (ji29)
              ·rw [if_pos c30] at H
               have c30b0 : decide (0 ≤ (ji29)) = true := decide_eq_true c30
               clear c30
               by_cases c31 : (ji29) < (x0_1.size : Int)
               ·rw [if_pos c31] at H
                have c31b0 : decide ((ji29) < (x0_1.size : Int)) = true := decide_eq_true c31
                clear c31
                have H' := AZ.mk H
                clear H
                have p15 : 0 ≤ (0 : Int) := zq94
                have q15 : 0 < x0_1.size := (by have : (0 : Int) < (x0_1.size : Int) := of_decide_eq_true zq1; omega)
                have hx15 : ∀ h : 0 < x0_1.size, ((x0_1[0]'h).toNat : Int) = bt x0_1 0 := bt_at x0_1 0
                clear p15
                have qi15 : (0 < (x0_1.size : Int)) = True := eq_true (of_decide_eq_true zq1)
                replace q15 := eq_true q15
                have p24 : 0 ≤ (0 : Int) := zq94
                have q24 : 0 < x0_1.size := (by have : (0 : Int) < (x0_1.size : Int) := of_decide_eq_true zq1; omega)
                have hx24 : ∀ h : 0 < x0_1.size, ((x0_1[0]'h).toNat : Int) = bt x0_1 0 := bt_at x0_1 0
                clear p24
                have qi24 : (0 < (x0_1.size : Int)) = True := eq_true (of_decide_eq_true zq1)
                replace q24 := eq_true q24
                have p27 : 0 ≤ (1 : Int) := zq94
                have q27 : 1 < x0_1.size := (by have : (1 : Int) < (x0_1.size : Int) := of_decide_eq_true zq1; omega)
                have hx27 : ∀ h : 1 < x0_1.size, ((x0_1[1]'h).toNat : Int) = bt x0_1 1 := bt_at x0_1 1
                clear p27
                have qi27 : (1 < (x0_1.size : Int)) = True := eq_true (of_decide_eq_true zq1)
                replace q27 := eq_true q27
                have p32 : 0 ≤ ((ji29) : Int) := of_decide_eq_true zq1
                have q32 : (ji29) < (x0_1.size : Int) := of_decide_eq_true zq1
                have hx32 := bt_at x0_1 (ji29)
                replace p32 := eq_true p32
                replace q32 := eq_true q32
                go_wp2
                go_meet
                case rel => rw [← hji29] at H'; exact ⟨_, _, (by first | rfl | (simp; done) | (simp only [← hji29] <;> (first | rfl | simp)) | (simp [*]; done)), H', ⟨zq84⟩, ⟨zq15⟩, ⟨zq0⟩⟩
               ·rw [if_neg c31] at H
                exact absurd H zq119
              ·rw [if_neg c30] at H
               exact absurd H zq119
             ·rw [if_neg c28] at H
              have c28b0 : ((bt x0_1 1) == 32) = false := beq_eq_false_iff_ne.mpr c28
              have c28b1 : ((bt x0_1 1) != 32) = true := bne_iff_ne.mpr c28
              have H' := AZ.mk H
              clear H
              have p15 : 0 ≤ (0 : Int) := zq94
              have q15 : 0 < x0_1.size := (by have : (0 : Int) < (x0_1.size : Int) := of_decide_eq_true zq1; omega)
              have hx15 : ∀ h : 0 < x0_1.size, ((x0_1[0]'h).toNat : Int) = bt x0_1 0 := bt_at x0_1 0
              clear p15
              have qi15 : (0 < (x0_1.size : Int)) = True := eq_true (of_decide_eq_true zq1)
              replace q15 := eq_true q15
              have p24 : 0 ≤ (0 : Int) := zq94
              have q24 : 0 < x0_1.size := (by have : (0 : Int) < (x0_1.size : Int) := of_decide_eq_true zq1; omega)
              have hx24 : ∀ h : 0 < x0_1.size, ((x0_1[0]'h).toNat : Int) = bt x0_1 0 := bt_at x0_1 0
              clear p24
              have qi24 : (0 < (x0_1.size : Int)) = True := eq_true (of_decide_eq_true zq1)
              replace q24 := eq_true q24
              have p27 : 0 ≤ (1 : Int) := zq94
              have q27 : 1 < x0_1.size := (by have : (1 : Int) < (x0_1.size : Int) := of_decide_eq_true zq1; omega)
              have hx27 : ∀ h : 1 < x0_1.size, ((x0_1[1]'h).toNat : Int) = bt x0_1 1 := bt_at x0_1 1
              clear p27
              have qi27 : (1 < (x0_1.size : Int)) = True := eq_true (of_decide_eq_true zq1)
              replace q27 := eq_true q27
              go_wp2
              go_meet
              case rel => exact ⟨_, (true), zq8, H', ⟨zq84⟩, ⟨zq15⟩, ⟨zq0⟩⟩
            ·rw [if_neg c26] at H
             exact absurd H zq119
           ·rw [if_neg c25] at H
            have c25b0 : ((bt x0_1 0) == 102) = false := beq_eq_false_iff_ne.mpr c25
            have c25b1 : ((bt x0_1 0) != 102) = true := bne_iff_ne.mpr c25
            by_cases c34 : (bt x0_1 0) = 120
            ·rw [if_pos c34] at H
             have c34b0 : ((bt x0_1 0) == 120) = true := beq_iff_eq.mpr c34
             have c34b1 : ((bt x0_1 0) != 120) = false := bne_eq_false_iff_eq.mpr c34
             clear c34
             by_cases c35 : 1 < (x0_1.size : Int)
             ·rw [if_pos c35] at H
              have c35b0 : decide (1 < (x0_1.size : Int)) = true := decide_eq_true c35
              have c35b1 : decide (1 < x0_1.size) = true := decide_eq_true zq94
              clear c35
              by_cases c37 : (bt x0_1 1) = 32
              ·rw [if_pos c37] at H
               have c37b0 : ((bt x0_1 1) == 32) = true := beq_iff_eq.mpr c37
               have c37b1 : ((bt x0_1 1) != 32) = false := bne_eq_false_iff_eq.mpr c37
               clear c37
               obtain ⟨ji38, hji38⟩ : ∃ j_ : Int, (wrap64 ((wrap64 (x7_5 - (wrap64 (2 * a1)))) - 1)) = j_ := ⟨_, rfl⟩
               replace H : (if 0 ≤ (ji38) then (if (ji38) < (x0_1.size : Int) then (spec_l9Read.j3 kj5 x0_1 a1 x6_1 x7_5 ji38 ((bt x0_1 (ji38)) != 32)) else (none)) else (none)) = some (r1, r2) := by first | (rw [hji38] at H; exact H) | (simp only [hji38] at H ⊢; exact H)
               (try rw [hji38] at c13b0)
               have hji38w : (IntKind.i64.wrap ((wrap64 (x7_5 - (wrap64 (2 * a1)))) - 1)) = ji38 := (i64_w _).trans hji38
               by_cases c39 : 0 ≤ (ji38)
               ·rw [if_pos c39] at H
                have c39b0 : decide (0 ≤ (ji38)) = true := decide_eq_true c39
                clear c39
                by_cases c40 : (ji38) < (x0_1.size : Int)
                ·rw [if_pos c40] at H
                 have c40b0 : decide ((ji38) < (x0_1.size : Int)) = true := decide_eq_true c40
                 clear c40
                 have H' := AZ.mk H
                 clear H
                 have p15 : 0 ≤ (0 : Int) := zq94
                 have q15 : 0 < x0_1.size := (by have : (0 : Int) < (x0_1.size : Int) := of_decide_eq_true zq1; omega)
                 have hx15 : ∀ h : 0 < x0_1.size, ((x0_1[0]'h).toNat : Int) = bt x0_1 0 := bt_at x0_1 0
                 clear p15
                 have qi15 : (0 < (x0_1.size : Int)) = True := eq_true (of_decide_eq_true zq1)
                 replace q15 := eq_true q15
                 have p24 : 0 ≤ (0 : Int) := zq94
                 have q24 : 0 < x0_1.size := (by have : (0 : Int) < (x0_1.size : Int) := of_decide_eq_true zq1; omega)
                 have hx24 : ∀ h : 0 < x0_1.size, ((x0_1[0]'h).toNat : Int) = bt x0_1 0 := bt_at x0_1 0
                 clear p24
                 have qi24 : (0 < (x0_1.size : Int)) = True := eq_true (of_decide_eq_true zq1)
                 replace q24 := eq_true q24
                 have p33 : 0 ≤ (0 : Int) := zq94
                 have q33 : 0 < x0_1.size := (by have : (0 : Int) < (x0_1.size : Int) := of_decide_eq_true zq1; omega)
                 have hx33 : ∀ h : 0 < x0_1.size, ((x0_1[0]'h).toNat : Int) = bt x0_1 0 := bt_at x0_1 0
                 clear p33
                 have qi33 : (0 < (x0_1.size : Int)) = True := eq_true (of_decide_eq_true zq1)
                 replace q33 := eq_true q33
                 have p36 : 0 ≤ (1 : Int) := zq94
                 have q36 : 1 < x0_1.size := (by have : (1 : Int) < (x0_1.size : Int) := of_decide_eq_true zq1; omega)
                 have hx36 : ∀ h : 1 < x0_1.size, ((x0_1[1]'h).toNat : Int) = bt x0_1 1 := bt_at x0_1 1
                 clear p36
                 have qi36 : (1 < (x0_1.size : Int)) = True := eq_true (of_decide_eq_true zq1)
                 replace q36 := eq_true q36
                 have p41 : 0 ≤ ((ji38) : Int) := of_decide_eq_true zq1
                 have q41 : (ji38) < (x0_1.size : Int) := of_decide_eq_true zq1
                 have hx41 := bt_at x0_1 (ji38)
                 replace p41 := eq_true p41
                 replace q41 := eq_true q41
                 go_wp2
                 go_meet
                 case rel => rw [← hji38] at H'; exact ⟨_, _, (by first | rfl | (simp; done) | (simp only [← hji38] <;> (first | rfl | simp)) | (simp [*]; done)), H', ⟨zq84⟩, ⟨zq15⟩, ⟨zq0⟩⟩
                ·rw [if_neg c40] at H
                 exact absurd H zq119
               ·rw [if_neg c39] at H
                exact absurd H zq119
              ·rw [if_neg c37] at H
               have c37b0 : ((bt x0_1 1) == 32) = false := beq_eq_false_iff_ne.mpr c37
               have c37b1 : ((bt x0_1 1) != 32) = true := bne_iff_ne.mpr c37
               have H' := AZ.mk H
               clear H
               have p15 : 0 ≤ (0 : Int) := zq94
               have q15 : 0 < x0_1.size := (by have : (0 : Int) < (x0_1.size : Int) := of_decide_eq_true zq1; omega)
               have hx15 : ∀ h : 0 < x0_1.size, ((x0_1[0]'h).toNat : Int) = bt x0_1 0 := bt_at x0_1 0
               clear p15
               have qi15 : (0 < (x0_1.size : Int)) = True := eq_true (of_decide_eq_true zq1)
               replace q15 := eq_true q15
               have p24 : 0 ≤ (0 : Int) := zq94
               have q24 : 0 < x0_1.size := (by have : (0 : Int) < (x0_1.size : Int) := of_decide_eq_true zq1; omega)
               have hx24 : ∀ h : 0 < x0_1.size, ((x0_1[0]'h).toNat : Int) = bt x0_1 0 := bt_at x0_1 0
               clear p24
               have qi24 : (0 < (x0_1.size : Int)) = True := eq_true (of_decide_eq_true zq1)
               replace q24 := eq_true q24
               have p33 : 0 ≤ (0 : Int) := zq94
               have q33 : 0 < x0_1.size := (by have : (0 : Int) < (x0_1.size : Int) := of_decide_eq_true zq1; omega)
               have hx33 : ∀ h : 0 < x0_1.size, ((x0_1[0]'h).toNat : Int) = bt x0_1 0 := bt_at x0_1 0
               clear p33
               have qi33 : (0 < (x0_1.size : Int)) = True := eq_true (of_decide_eq_true zq1)
               replace q33 := eq_true q33
               have p36 : 0 ≤ (1 : Int) := zq94
               have q36 : 1 < x0_1.size := (by have : (1 : Int) < (x0_1.size : Int) := of_decide_eq_true zq1; omega)
               have hx36 : ∀ h : 1 < x0_1.size, ((x0_1[1]'h).toNat : Int) = bt x0_1 1 := bt_at x0_1 1
               clear p36
               have qi36 : (1 < (x0_1.size : Int)) = True := eq_true (of_decide_eq_true zq1)
               replace q36 := eq_true q36
               go_wp2
               go_meet
               case rel => exact ⟨_, (true), zq8, H', ⟨zq84⟩, ⟨zq15⟩, ⟨zq0⟩⟩
             ·rw [if_neg c35] at H
              exact absurd H zq119
            ·rw [if_neg c34] at H
             have c34b0 : ((bt x0_1 0) == 120) = false := beq_eq_false_iff_ne.mpr c34
             have c34b1 : ((bt x0_1 0) != 120) = true := bne_iff_ne.mpr c34
             have H' := AZ.mk H
             clear H
             have p15 : 0 ≤ (0 : Int) := zq94
             have q15 : 0 < x0_1.size := (by have : (0 : Int) < (x0_1.size : Int) := of_decide_eq_true zq1; omega)
             have hx15 : ∀ h : 0 < x0_1.size, ((x0_1[0]'h).toNat : Int) = bt x0_1 0 := bt_at x0_1 0
             clear p15
             have qi15 : (0 < (x0_1.size : Int)) = True := eq_true (of_decide_eq_true zq1)
             replace q15 := eq_true q15
             have p24 : 0 ≤ (0 : Int) := zq94
             have q24 : 0 < x0_1.size := (by have : (0 : Int) < (x0_1.size : Int) := of_decide_eq_true zq1; omega)
             have hx24 : ∀ h : 0 < x0_1.size, ((x0_1[0]'h).toNat : Int) = bt x0_1 0 := bt_at x0_1 0
             clear p24
             have qi24 : (0 < (x0_1.size : Int)) = True := eq_true (of_decide_eq_true zq1)
             replace q24 := eq_true q24
             have p33 : 0 ≤ (0 : Int) := zq94
             have q33 : 0 < x0_1.size := (by have : (0 : Int) < (x0_1.size : Int) := of_decide_eq_true zq1; omega)
             have hx33 : ∀ h : 0 < x0_1.size, ((x0_1[0]'h).toNat : Int) = bt x0_1 0 := bt_at x0_1 0
             clear p33
             have qi33 : (0 < (x0_1.size : Int)) = True := eq_true (of_decide_eq_true zq1)
             replace q33 := eq_true q33
             go_wp2
             go_meet
             case rel => exact ⟨_, (true), zq8, H', ⟨zq84⟩, ⟨zq15⟩, ⟨zq0⟩⟩
         ·rw [if_neg c14] at H
          exact absurd H zq119
      case rest =>
       clear HC11
       try clear c1
       try clear p1
       try clear q1
       try clear hx1
       try clear qi1
       try clear c2
       try clear p2
       try clear q2
       try clear hx2
       try clear qi2
       try clear c3
       try clear p3
       try clear q3
       try clear hx3
       try clear qi3
       try clear c4
       try clear p4
       try clear q4
       try clear hx4
       try clear c5
       try clear c5b0
       try clear c5b1
       try clear p6
       try clear c7
       try clear c7b0
       try clear c8
       try clear c8b0
       try clear p9
       try clear q9
       try clear hx9
       try clear c10
       try clear c10b0
       try clear c10b1
       try clear c12
       try clear c12b0
       try clear c12b1
       try clear c13
       try clear c13b0
       try clear c14
       try clear c14b0
       try clear c14b1
       try clear p15
       try clear q15
       try clear hx15
       try clear qi15
       try clear c16
       try clear c16b0
       try clear c16b1
       try clear c17
       try clear c17b0
       try clear c17b1
       try clear p18
       try clear q18
       try clear hx18
       try clear qi18
       try clear c19
       try clear c19b0
       try clear c19b1
       try clear c21
       try clear c21b0
       try clear c22
       try clear c22b0
       try clear p23
       try clear q23
       try clear hx23
       try clear p24
       try clear q24
       try clear hx24
       try clear qi24
       try clear c25
       try clear c25b0
       try clear c25b1
       try clear c26
       try clear c26b0
       try clear c26b1
       try clear p27
       try clear q27
       try clear hx27
       try clear qi27
       try clear c28
       try clear c28b0
       try clear c28b1
       try clear c30
       try clear c30b0
       try clear c31
       try clear c31b0
       try clear p32
       try clear q32
       try clear hx32
       try clear p33
       try clear q33
       try clear hx33
       try clear qi33
       try clear c34
       try clear c34b0
       try clear c34b1
       try clear c35
       try clear c35b0
       try clear c35b1
       try clear p36
       try clear q36
       try clear hx36
       try clear qi36
       try clear c37
       try clear c37b0
       try clear c37b1
       try clear c39
       try clear c39b0
       try clear c40
       try clear c40b0
       try clear p41
       try clear q41
       try clear hx41
       try clear p15
       try clear p18
       try clear p2
       try clear p23
       try clear p24
       try clear p27
       try clear p32
       try clear p33
       try clear p36
       try clear p41
       try clear p6
       try clear p9
       try clear q15
       try clear q18
       try clear q23
       try clear q24
       try clear q27
       try clear q32
       try clear q33
       try clear q36
       try clear q41
       try clear q9
       obtain ⟨kq, x64_10, rfl, HA, HJ10, HO_6, HB⟩ := hcut
       cases kq with
       | zero => exact absurd HA.out (by simp [spec_l9Read.j3])
       | succ kj10 =>
        have H := HA.out
        clear HA
        simp only [spec_l9Read.j3] at H
        by_cases c42 : x64_10 = true
        ·subst c42
         rw [if_pos rfl] at H
         simp only [Option.some.injEq, Prod.mk.injEq] at H
         obtain ⟨rfl, rfl⟩ := H
         go_wp2
         go_ret2
         exact ⟨_, zq7, zq15, zq0⟩
        ·replace c42 := Bool.eq_false_iff.mpr c42
         subst c42
         rw [if_neg (show ¬ (false = true) by decide)] at H
         by_cases c43 : 0 < (x0_1.size : Int)
         ·rw [if_pos c43] at H
          have c43b0 : decide (0 < (x0_1.size : Int)) = true := decide_eq_true c43
          have c43b1 : decide (0 < x0_1.size) = true := decide_eq_true zq94
          clear c43
          by_cases c45 : 2 ≤ (wrap64 ((wrap64 (x7_5 - (wrap64 (2 * a1)))) - 1))
          ·rw [if_pos c45] at H
           have c45b0 := eq_true c45
           have c45b1 : decide (2 ≤ (wrap64 ((wrap64 (x7_5 - (wrap64 (2 * a1)))) - 1))) = true := decide_eq_true c45
           clear c45
           by_cases c46 : (wrap64 ((wrap64 (x7_5 - (wrap64 (2 * a1)))) - 1)) ≤ (x0_1.size : Int)
           ·rw [if_pos c46] at H
            have c46b0 := eq_true c46
            have c46b1 : decide ((wrap64 ((wrap64 (x7_5 - (wrap64 (2 * a1)))) - 1)) ≤ (x0_1.size : Int)) = true := decide_eq_true c46
            clear c46
            obtain ⟨ji47, hji47⟩ : ∃ j_ : Int, (wrap64 ((wrap64 ((wrap64 (x7_5 - (wrap64 (2 * a1)))) - 1)) + 1)) = j_ := ⟨_, rfl⟩
            replace H : (if 0 ≤ (ji47) then (if (ji47) ≤ x7_5 then (if x7_5 ≤ (x0_1.size : Int) then ((spec_l4PartOk.f kj10 (x0_1.extract 2 ((wrap64 ((wrap64 (x7_5 - (wrap64 (2 * a1)))) - 1)) : Int).toNat) false).bind fun t124 => (if t124 = true then (if (x6_1.length : Int) > 0 then (if 0 ≤ (wrap64 ((x6_1.length : Int) - 1)) then (if (wrap64 ((x6_1.length : Int) - 1)) < (x6_1.length : Int) then (spec_l9Read.j4 kj10 x0_1 a1 x6_1 x7_5 (!(Op.bytesLess (((rd_T78 x6_1 (wrap64 ((x6_1.length : Int) - 1))).f1).toList) ((x0_1.extract 2 ((wrap64 ((wrap64 (x7_5 - (wrap64 (2 * a1)))) - 1)) : Int).toNat).toList))) (bt x0_1 0) (x0_1.extract 2 ((wrap64 ((wrap64 (x7_5 - (wrap64 (2 * a1)))) - 1)) : Int).toNat) (x0_1.extract ((ji47) : Int).toNat (x7_5 : Int).toNat)) else (none)) else (none)) else (spec_l9Read.j4 kj10 x0_1 a1 x6_1 x7_5 false (bt x0_1 0) (x0_1.extract 2 ((wrap64 ((wrap64 (x7_5 - (wrap64 (2 * a1)))) - 1)) : Int).toNat) (x0_1.extract ((ji47) : Int).toNat (x7_5 : Int).toNat))) else (spec_l9Read.j4 kj10 x0_1 a1 x6_1 x7_5 true (bt x0_1 0) (x0_1.extract 2 ((wrap64 ((wrap64 (x7_5 - (wrap64 (2 * a1)))) - 1)) : Int).toNat) (x0_1.extract ((ji47) : Int).toNat (x7_5 : Int).toNat)))) else (none)) else (none)) else (none)) = some (r1, r2) := by first | (rw [hji47] at H; exact H) | (simp only [hji47] at H ⊢; exact H)
            have hji47w : (IntKind.i64.wrap ((wrap64 ((wrap64 (x7_5 - (wrap64 (2 * a1)))) - 1)) + 1)) = ji47 := (i64_w _).trans hji47
            by_cases c48 : 0 ≤ (ji47)
            ·rw [if_pos c48] at H
             have c48b0 := eq_true c48
             have c48b1 : decide (0 ≤ (ji47)) = true := decide_eq_true c48
             clear c48
             by_cases c49 : (ji47) ≤ x7_5
             ·rw [if_pos c49] at H
              have c49b0 := eq_true c49
              have c49b1 : decide ((ji47) ≤ x7_5) = true := decide_eq_true c49
              clear c49
              by_cases c50 : x7_5 ≤ (x0_1.size : Int)
              ·rw [if_pos c50] at H
               have c50b0 := eq_true c50
               have c50b1 : decide (x7_5 ≤ (x0_1.size : Int)) = true := decide_eq_true c50
               clear c50
               have HC51 := AZ.mk H
               clear H
               try go_wp2
               have n0_ := AZ.mk (Kd.R_drew HO_6.out)
               have n1_ := AZ.mk (below_drew1 HB.out)
               clear HO_6
               clear HB
               have HO_6 := n0_
               have HB := n1_
               clear n0_ n1_
               have p44 : 0 ≤ (0 : Int) := zq94
               have q44 : 0 < x0_1.size := (by have : (0 : Int) < (x0_1.size : Int) := of_decide_eq_true zq1; omega)
               have hx44 : ∀ h : 0 < x0_1.size, ((x0_1[0]'h).toNat : Int) = bt x0_1 0 := bt_at x0_1 0
               clear p44
               have qi44 : (0 < (x0_1.size : Int)) = True := eq_true (of_decide_eq_true zq1)
               replace q44 := eq_true q44
               refine start_ (n := 13) (S := fun w' => True) (ds := []) #[false, false, false, false, false, false, false, false, false, false, false, false, false] zq17 rfl rfl trivial (fun hH => ?_); refine tbW spec_l9Read.tab9 spec_l9Read.bits9 (fun HT_ HW_ => ?_)
               generalize wc.drew = w52 at HO_6 HB hH ⊢
               refine pure_ (i := 0) (N := some 66) (v := ?_) (a' := ?_) #[true, false, false, false, false, false, false, false, false, false, false, false, false] rfl rfl (any_of HT_.out zq17) (fun _ _ _ h => h) (Or.inl ⟨zq105, ?_⟩) ?_ ?_
               rotate_left
               ·intro w'
                go_simp
                with_reducible rfl
               rotate_left
               ·simp only [Act.put, List.setIfInBounds_toArray, List.set_cons_zero, List.set_cons_succ, i64_w, i32_w]
                rfl
               refine pure_ (i := 2) (N := some 68) (v := ?_) (a' := ?_) #[true, false, true, false, false, false, false, false, false, false, false, false, false] rfl rfl (any_of HT_.out zq17) (fun _ _ _ h => h) (Or.inl ⟨zq105, ?_⟩) ?_ ?_
               rotate_left
               ·intro w'
                go_simp
                with_reducible rfl
               rotate_left
               ·simp only [Act.put, List.setIfInBounds_toArray, List.set_cons_zero, List.set_cons_succ, i64_w, i32_w]
                rfl
               refine pure_ (i := 3) (N := some 69) (v := ?_) (a' := ?_) #[true, false, true, true, false, false, false, false, false, false, false, false, false] rfl rfl (any_of HT_.out zq17) (fun _ _ _ h => h) (Or.inl ⟨zq105, ?_⟩) ?_ ?_
               rotate_left
               ·intro w'
                go_simp
                with_reducible rfl
               rotate_left
               ·simp only [Act.put, List.setIfInBounds_toArray, List.set_cons_zero, List.set_cons_succ, i64_w, i32_w]
                rfl
               refine pure_ (i := 4) (N := some 70) (v := ?_) (a' := ?_) #[true, false, true, true, true, false, false, false, false, false, false, false, false] rfl rfl (any_of HT_.out zq17) (fun _ _ _ h => h) (Or.inl ⟨zq105, ?_⟩) ?_ ?_
               rotate_left
               ·intro w'
                go_simp
                with_reducible rfl
               rotate_left
               ·simp only [Act.put, List.setIfInBounds_toArray, List.set_cons_zero, List.set_cons_succ, i64_w, i32_w]
                rfl
               refine pure_ (i := 5) (N := some 71) (v := ?_) (a' := ?_) #[true, false, true, true, true, true, false, false, false, false, false, false, false] rfl rfl (any_of HT_.out zq17) (fun _ _ _ h => h) (Or.inl ⟨zq105, ?_⟩) ?_ ?_
               rotate_left
               ·intro w'
                go_simp
                with_reducible rfl
               rotate_left
               ·simp only [Act.put, List.setIfInBounds_toArray, List.set_cons_zero, List.set_cons_succ, i64_w, i32_w]
                rfl
               refine pure_ (i := 6) (N := some 72) (v := ?_) (a' := ?_) #[true, false, true, true, true, true, true, false, false, false, false, false, false] rfl rfl (any_of HT_.out zq17) (fun _ _ _ h => h) (Or.inl ⟨zq105, ?_⟩) ?_ ?_
               rotate_left
               ·intro w'
                go_simp
                with_reducible rfl
               rotate_left
               ·simp only [Act.put, List.setIfInBounds_toArray, List.set_cons_zero, List.set_cons_succ, i64_w, i32_w]
                rfl
               refine pure_ (i := 7) (N := some 73) (v := ?_) (a' := ?_) #[true, false, true, true, true, true, true, true, false, false, false, false, false] rfl rfl (any_of HT_.out zq17) (fun _ _ _ h => h) (Or.inl ⟨zq105, ?_⟩) ?_ ?_
               rotate_left
               ·intro w'
                go_simp
                with_reducible rfl
               rotate_left
               ·simp only [Act.put, List.setIfInBounds_toArray, List.set_cons_zero, List.set_cons_succ, i64_w, i32_w]
                rfl
               refine pure_ (i := 8) (N := some 74) (v := ?_) (a' := ?_) #[true, false, true, true, true, true, true, true, true, false, false, false, false] rfl rfl (any_of HT_.out zq17) (fun _ _ _ h => h) (Or.inl ⟨zq105, ?_⟩) ?_ ?_
               rotate_left
               ·intro w'
                go_simp
                with_reducible rfl
               rotate_left
               ·simp only [Act.put, List.setIfInBounds_toArray, List.set_cons_zero, List.set_cons_succ, i64_w, i32_w]
                rfl
               refine pure_ (i := 9) (N := some 75) (v := ?_) (a' := ?_) #[true, false, true, true, true, true, true, true, true, true, false, false, false] rfl rfl (any_of HT_.out zq17) (fun _ _ _ h => h) (Or.inl ⟨zq105, ?_⟩) ?_ ?_
               rotate_left
               ·intro w'
                go_simp
                with_reducible rfl
               rotate_left
               ·simp only [Act.put, List.setIfInBounds_toArray, List.set_cons_zero, List.set_cons_succ, i64_w, i32_w]
                rfl
               refine take_ (i := 1) (N := some 67) (v := ?_) (a' := ?_) #[true, true, true, true, true, true, true, true, true, true, false, false, false] rfl rfl (take_ofW HT_.out HW_.out zq17) (fun _ _ _ h => h) (Or.inl ⟨zq105, ?_⟩) hH ?_ ?_
               rotate_left
               ·intro w' _
                go_simp
                with_reducible rfl
               rotate_left
               ·simp only [Act.put, List.setIfInBounds_toArray, List.set_cons_zero, List.set_cons_succ, i64_w, i32_w]
                rfl
               refine pure_ (i := 10) (N := some 76) (v := ?_) (a' := ?_) #[true, true, true, true, true, true, true, true, true, true, true, false, false] rfl rfl (any_of HT_.out zq17) (fun _ _ _ h => h) (Or.inl ⟨zq105, ?_⟩) ?_ ?_
               rotate_left
               ·intro w'
                go_simp
                with_reducible rfl
               rotate_left
               ·simp only [Act.put, List.setIfInBounds_toArray, List.set_cons_zero, List.set_cons_succ, i64_w, i32_w]
                rfl
               refine one_ (i := 11) (N := some 9) #[true, true, true, true, true, true, true, true, true, true, true, true, false] rfl rfl (one_of HT_.out zq17) zq118 (fun K hK => ?_)
               refine box_step ?hg (N := 9) ?hd (cs := #[.int .u8 0, .string (⟨#[]⟩ : ByteArray), .string (⟨#[]⟩ : ByteArray)]) (t := 78) ?hr ?_; (case hd => rfl); (case hg => rfl); (case hr => first | (go_simp; done) | (go_simp; rfl))
               intro gb123 hg w53 hbox hb
               have n0_ := AZ.mk (Kd.R_below (Kd.R_elderB zq15 gb123 (Nat.le_of_eq hg.symm)) hb)
               have n1_ := AZ.mk (below_step zq0 hb)
               have n2_ := AZ.mk (hbox)
               have n3_ := AZ.mk ((by rw [hg]; exact (below_size zq0) : w.heap.size ≤ gb123))
               have n4_ := AZ.mk ((by rw [hg]; exact (below_size zq0) : w.heap.size ≤ gb123))
               clear HO_6
               clear HB
               have HO_6 := n0_
               have HB := n1_
               have BK123 := n2_
               have GW123 := n3_
               have GE123 := n4_
               clear n0_ n1_ n2_ n3_ n4_
               clear hb hbox hg
               refine hK.out _ _ trivial (fun hH => ?_)
               clear hK K
               refine norm_ (a' := ?_) ?_ ?_
               rotate_left
               ·show Act.put _ (some 9) _ = _
                simp only [Act.put, List.setIfInBounds_toArray, List.set_cons_zero, List.set_cons_succ, i64_w, i32_w]
                rfl
               refine one_ (i := 12) (N := none) #[true, true, true, true, true, true, true, true, true, true, true, true, true] rfl rfl (one_of HT_.out zq17) zq118 (fun K hK => ?_)
               have hs54 : w53.cell? ⟨gb123, 0, none⟩ = some (.int .u8 0) := (blk_cell BK123.out 0).trans rfl
               have hfs54 := blk_frozen BK123.out 0
               have hs55 : w53.cell? ⟨gb123, 1, none⟩ = some (.string (⟨#[]⟩ : ByteArray)) := (blk_cell BK123.out 1).trans rfl
               have hfs55 := blk_frozen BK123.out 1
               have hs56 : w53.cell? ⟨gb123, 2, none⟩ = some (.string (⟨#[]⟩ : ByteArray)) := (blk_cell BK123.out 2).trans rfl
               have hfs56 := blk_frozen BK123.out 2
               refine skip_ (w1 := ?_) zq105 rfl ?_ ?_
               rotate_left
               ·go_simp
                rfl
               refine hK.out _ _ trivial (fun hH => ?_)
               clear hK K
               refine done_ (done_of HT_.out zq17) ?_
               go_upto_region 10 with (fail)
               go_cut [97] (fun v97 wc => ∃ (kq : Nat) (x97_50 : Bool), v97 = .bool x97_50 ∧ AZ (spec_l9Read.j4 kq x0_1 a1 x6_1 x7_5 x97_50 (bt x0_1 0) (x0_1.extract 2 ((wrap64 ((wrap64 (x7_5 - (wrap64 (2 * a1)))) - 1)) : Int).toNat) (x0_1.extract ((ji47) : Int).toNat (x7_5 : Int).toNat) = some (r1, r2)) ∧ AZ (kq ≤ kj10) ∧ AZ (Kd.R k78 78 wc w.heap.size (fun k_ => k_ ≠ gb123) u6 x6_1) ∧ AZ (wc.heap[gb123]? = some (.cells #[.int .u8 (bt x0_1 0), .string (x0_1.extract 2 ((wrap64 ((wrap64 (x7_5 - (wrap64 (2 * a1)))) - 1)) : Int).toNat), .string (x0_1.extract ((ji47) : Int).toNat (x7_5 : Int).toNat)] 78 (0, 0))) ∧ AZ (Below w.heap.size w wc))
               case first =>
                have H := HC51.out
                clear HC51
                replace H := Option.bind_eq_some_iff.mp H
                obtain ⟨t124, A570, H⟩ := H
                try dsimp only at H
                have A57 := AZ.mk A570
                clear A570
                by_cases c58 : t124 = true
                ·subst c58
                 rw [if_pos rfl] at H
                 by_cases c59 : (x6_1.length : Int) > 0
                 ·rw [if_pos c59] at H
                  have c59b0 : decide (0 < (x6_1.length : Int)) = true := decide_eq_true c59
                  have c59b1 : decide (0 < x6_1.length) = true := decide_eq_true zq94
                  clear c59
                  (first | rw [c59b0] | (simp only [i64_w, i32_w]; rw [c59b0]) | skip)
                  obtain ⟨ji60, hji60⟩ : ∃ j_ : Int, (wrap64 ((x6_1.length : Int) - 1)) = j_ := ⟨_, rfl⟩
                  replace H : (if 0 ≤ (ji60) then (if (ji60) < (x6_1.length : Int) then (spec_l9Read.j4 kj10 x0_1 a1 x6_1 x7_5 (!(Op.bytesLess (((rd_T78 x6_1 (ji60)).f1).toList) ((x0_1.extract 2 ((wrap64 ((wrap64 (x7_5 - (wrap64 (2 * a1)))) - 1)) : Int).toNat).toList))) (bt x0_1 0) (x0_1.extract 2 ((wrap64 ((wrap64 (x7_5 - (wrap64 (2 * a1)))) - 1)) : Int).toNat) (x0_1.extract ((ji47) : Int).toNat (x7_5 : Int).toNat)) else (none)) else (none)) = some (r1, r2) := by first | (rw [hji60] at H; exact H) | (simp only [hji60] at H ⊢; exact H)
                  (try rw [hji60] at A57)
                  have hji60w : (IntKind.i64.wrap ((x6_1.length : Int) - 1)) = ji60 := (i64_w _).trans hji60
                  by_cases c61 : 0 ≤ (ji60)
                  ·rw [if_pos c61] at H
                   have c61b0 : decide (0 ≤ (ji60)) = true := decide_eq_true c61
                   clear c61
                   by_cases c62 : (ji60) < (x6_1.length : Int)
                   ·rw [if_pos c62] at H
                    have c62b0 : decide ((ji60) < (x6_1.length : Int)) = true := decide_eq_true c62
                    clear c62
                    have H' := AZ.mk H
                    clear H
                    try go_wp2
                    have n0_ : AZ (Kd.R k78 78 (((w53.setCell ⟨gb123, 0, none⟩ (.int .u8 (bt x0_1 0))).setCell ⟨gb123, 1, none⟩ (.string (x0_1.extract 2 ((wrap64 ((wrap64 (x7_5 - (wrap64 (2 * a1)))) - 1)) : Int).toNat))).setCell ⟨gb123, 2, none⟩ (.string (x0_1.extract ((ji47) : Int).toNat (x7_5 : Int).toNat))) w.heap.size (fun k_ => k_ ≠ gb123) u6 x6_1) := ⟨zq53⟩
                    have n1_ : AZ ((((w53.setCell ⟨gb123, 0, none⟩ (.int .u8 (bt x0_1 0))).setCell ⟨gb123, 1, none⟩ (.string (x0_1.extract 2 ((wrap64 ((wrap64 (x7_5 - (wrap64 (2 * a1)))) - 1)) : Int).toNat))).setCell ⟨gb123, 2, none⟩ (.string (x0_1.extract ((ji47) : Int).toNat (x7_5 : Int).toNat))).heap[gb123]? = some (.cells #[.int .u8 (bt x0_1 0), .string (x0_1.extract 2 ((wrap64 ((wrap64 (x7_5 - (wrap64 (2 * a1)))) - 1)) : Int).toNat), .string (x0_1.extract ((ji47) : Int).toNat (x7_5 : Int).toNat)] 78 (0, 0))) := ⟨zq38⟩
                    have n2_ : AZ (Below w.heap.size w (((w53.setCell ⟨gb123, 0, none⟩ (.int .u8 (bt x0_1 0))).setCell ⟨gb123, 1, none⟩ (.string (x0_1.extract 2 ((wrap64 ((wrap64 (x7_5 - (wrap64 (2 * a1)))) - 1)) : Int).toNat))).setCell ⟨gb123, 2, none⟩ (.string (x0_1.extract ((ji47) : Int).toNat (x7_5 : Int).toNat)))) := ⟨zq23⟩
                    (try clear HO_6)
                    (try clear BK123)
                    (try clear HB)
                    generalize (((w53.setCell ⟨gb123, 0, none⟩ (.int .u8 (bt x0_1 0))).setCell ⟨gb123, 1, none⟩ (.string (x0_1.extract 2 ((wrap64 ((wrap64 (x7_5 - (wrap64 (2 * a1)))) - 1)) : Int).toNat))).setCell ⟨gb123, 2, none⟩ (.string (x0_1.extract ((ji47) : Int).toNat (x7_5 : Int).toNat))) = w63 at n0_ n1_ n2_ ⊢
                    have HO_6 := n0_
                    have BK123 := n1_
                    have HB := n2_
                    clear n0_ n1_ n2_
                    have n0_ := AZ.mk (Kd.R_drew HO_6.out)
                    have n1_ := AZ.mk (blk_drew BK123.out)
                    have n2_ := AZ.mk (below_drew1 HB.out)
                    clear HO_6
                    clear BK123
                    clear HB
                    have HO_6 := n0_
                    have BK123 := n1_
                    have HB := n2_
                    clear n0_ n1_ n2_
                    obtain ⟨Ao_, co_, eo_⟩ := Kd.R_slice HO_6.out
                    subst eo_
                    have p125 : 0 ≤ ((ji60) : Int) := of_decide_eq_true zq1
                    have q125 : (ji60) < (x6_1.length : Int) := of_decide_eq_true zq1
                    obtain ⟨ad125, e125, hx125_0, hx125_1, hx125_2⟩ := at_T78 (Kd.R_reads' HO_6.out).2.2 (ji60) p125 q125
                    cases e125
                    replace p125 := eq_true p125
                    replace q125 := eq_true q125
                    refine start_ (n := 21) (S := fun w' => w'.cell? ⟨gb123, 0, none⟩ = some (.int .u8 (bt x0_1 0)) ∧ w'.cell? ⟨gb123, 1, none⟩ = some (.string (x0_1.extract 2 ((wrap64 ((wrap64 (x7_5 - (wrap64 (2 * a1)))) - 1)) : Int).toNat)) ∧ w'.cell? ⟨gb123, 2, none⟩ = some (.string (x0_1.extract ((ji47) : Int).toNat (x7_5 : Int).toNat)) ∧ w'.cell? (ad125.add (((ji60)).toNat * 3)) = some (.int .u8 ((rd_T78 x6_1 (ji60)).f0)) ∧ w'.cell? ⟨(ad125.add (((ji60)).toNat * 3)).block, (ad125.add (((ji60)).toNat * 3)).off + 1, none⟩ = some (.string ((rd_T78 x6_1 (ji60)).f1)) ∧ w'.cell? ⟨(ad125.add (((ji60)).toNat * 3)).block, (ad125.add (((ji60)).toNat * 3)).off + 2, none⟩ = some (.string ((rd_T78 x6_1 (ji60)).f2))) (ds := []) #[false, false, false, false, false, false, false, false, false, false, false, false, false, false, false, false, false, false, false, false, false] zq17 rfl rfl ⟨(blk_cell BK123.out 0).trans rfl, (blk_cell BK123.out 1).trans rfl, (blk_cell BK123.out 2).trans rfl, hx125_0, hx125_1, hx125_2⟩ (fun hH => ?_); refine tbW spec_l9Read.tab10 spec_l9Read.bits10 (fun HT_ HW_ => ?_)
                    generalize w63.drew = w64 at HO_6 BK123 HB hx125_0 hx125_1 hx125_2 hH ⊢
                    refine pure_ (i := 0) (N := some 77) (v := ?_) (a' := ?_) #[true, false, false, false, false, false, false, false, false, false, false, false, false, false, false, false, false, false, false, false, false] rfl rfl (any_of HT_.out zq17) (fun _ _ _ h => h) (Or.inl ⟨zq105, ?_⟩) ?_ ?_
                    rotate_left
                    ·intro w'
                     go_simp
                     with_reducible rfl
                    rotate_left
                    ·simp only [Act.put, List.setIfInBounds_toArray, List.set_cons_zero, List.set_cons_succ, i64_w, i32_w]
                     rfl
                    refine take_ (i := 1) (N := some 78) (v := ?_) (a' := ?_) #[true, true, false, false, false, false, false, false, false, false, false, false, false, false, false, false, false, false, false, false, false] rfl rfl (take_ofW HT_.out HW_.out zq17) (fun _ _ _ h => h) (Or.inl ⟨zq105, ?_⟩) hH ?_ ?_
                    rotate_left
                    ·rintro w' ⟨s0, s1, s2, s3, s4, s5⟩
                     go_simp
                     with_reducible rfl
                    rotate_left
                    ·simp only [Act.put, List.setIfInBounds_toArray, List.set_cons_zero, List.set_cons_succ, i64_w, i32_w]
                     rfl
                    refine one_ (i := 2) (N := some 79) #[true, true, true, false, false, false, false, false, false, false, false, false, false, false, false, false, false, false, false, false, false] rfl rfl (one_of HT_.out zq17) zq118 (fun K hK => ?_)
                    refine goes_ Tryd.func74 zq17 rfl #[.string (x0_1.extract 2 ((wrap64 ((wrap64 (x7_5 - (wrap64 (2 * a1)))) - 1)) : Int).toNat), .bool false] zq105 rfl rfl zq2 ?_
                    with_reducible refine (spec_l4PartOk.calls kj10 (x0_1.extract 2 ((wrap64 ((wrap64 (x7_5 - (wrap64 (2 * a1)))) - 1)) : Int).toNat) false true _ A57.out).mono ?_
                    rintro e w' ⟨rfl, ⟨nd, rfl⟩⟩
                    refine ⟨_, rfl, ?_⟩
                    obtain ⟨Ao65, co65, eo65⟩ := Kd.R_slice HO_6.out
                    (first | subst eo65 | (injection eo65 with f1_ f2_ f3_; have f4_ := f1_.symm; have f5_ := f3_.symm; clear f1_ f2_ f3_; subst f4_; subst f5_))
                    refine hK.out _ _ ⟨(blk_cell BK123.out 0).trans rfl, (blk_cell BK123.out 1).trans rfl, (blk_cell BK123.out 2).trans rfl, hH.2.2.2.1, hH.2.2.2.2.1, hH.2.2.2.2.2⟩ (fun hH => ?_)
                    clear hK K
                    refine norm_ (a' := ?_) ?_ ?_
                    rotate_left
                    ·show Act.put _ (some 79) _ = _
                     simp only [Act.put, List.setIfInBounds_toArray, List.set_cons_zero, List.set_cons_succ, i64_w, i32_w]
                     rfl
                    refine pure_ (i := 3) (N := some 80) (v := ?_) (a' := ?_) #[true, true, true, true, false, false, false, false, false, false, false, false, false, false, false, false, false, false, false, false, false] rfl rfl (any_of HT_.out zq17) (fun _ _ _ h => h) (Or.inl ⟨zq105, ?_⟩) ?_ ?_
                    rotate_left
                    ·intro w'
                     go_simp
                     with_reducible rfl
                    rotate_left
                    ·simp only [Act.put, List.setIfInBounds_toArray, List.set_cons_zero, List.set_cons_succ, i64_w, i32_w]
                     rfl
                    refine pure_ (i := 4) (N := some 81) (v := ?_) (a' := ?_) #[true, true, true, true, true, false, false, false, false, false, false, false, false, false, false, false, false, false, false, false, false] rfl rfl (any_of HT_.out zq17) (fun _ _ _ h => h) (Or.inl ⟨zq105, ?_⟩) ?_ ?_
                    rotate_left
                    ·intro w'
                     go_simp
                     with_reducible rfl
                    rotate_left
                    ·simp only [Act.put, List.setIfInBounds_toArray, List.set_cons_zero, List.set_cons_succ, i64_w, i32_w]
                     rfl
                    refine pure_ (i := 5) (N := some 82) (v := ?_) (a' := ?_) #[true, true, true, true, true, true, false, false, false, false, false, false, false, false, false, false, false, false, false, false, false] rfl rfl (any_of HT_.out zq17) (fun _ _ _ h => h) (Or.inl ⟨zq105, ?_⟩) ?_ ?_
                    rotate_left
                    ·intro w'
                     go_simp
                     with_reducible rfl
                    rotate_left
                    ·simp only [Act.put, List.setIfInBounds_toArray, List.set_cons_zero, List.set_cons_succ, i64_w, i32_w]
                     rfl
                    refine pure_ (i := 6) (N := some 83) (v := ?_) (a' := ?_) #[true, true, true, true, true, true, true, false, false, false, false, false, false, false, false, false, false, false, false, false, false] rfl rfl (any_of HT_.out zq17) (fun _ _ _ h => h) (Or.inl ⟨zq105, ?_⟩) ?_ ?_
                    rotate_left
                    ·intro w'
                     go_simp
                     with_reducible rfl
                    rotate_left
                    ·simp only [Act.put, List.setIfInBounds_toArray, List.set_cons_zero, List.set_cons_succ, i64_w, i32_w]
                     rfl
                    refine pure_ (i := 7) (N := some 84) (v := ?_) (a' := ?_) #[true, true, true, true, true, true, true, true, false, false, false, false, false, false, false, false, false, false, false, false, false] rfl rfl (any_of HT_.out zq17) (fun _ _ _ h => h) (Or.inl ⟨zq105, ?_⟩) ?_ ?_
                    rotate_left
                    ·intro w'
                     go_simp
                     with_reducible rfl
                    rotate_left
                    ·simp only [Act.put, List.setIfInBounds_toArray, List.set_cons_zero, List.set_cons_succ, i64_w, i32_w]
                     rfl
                    refine pure_ (i := 8) (N := some 85) (v := ?_) (a' := ?_) #[true, true, true, true, true, true, true, true, true, false, false, false, false, false, false, false, false, false, false, false, false] rfl rfl (any_of HT_.out zq17) (fun _ _ _ h => h) (Or.inl ⟨zq105, ?_⟩) ?_ ?_
                    rotate_left
                    ·intro w'
                     go_simp
                     with_reducible rfl
                    rotate_left
                    ·simp only [Act.put, List.setIfInBounds_toArray, List.set_cons_zero, List.set_cons_succ, i64_w, i32_w]
                     rfl
                    refine pure_ (i := 9) (N := some 86) (v := ?_) (a' := ?_) #[true, true, true, true, true, true, true, true, true, true, false, false, false, false, false, false, false, false, false, false, false] rfl rfl (any_of HT_.out zq17) (fun _ _ _ h => h) (Or.inl ⟨zq105, ?_⟩) ?_ ?_
                    rotate_left
                    ·intro w'
                     go_simp
                     with_reducible rfl
                    rotate_left
                    ·simp only [Act.put, List.setIfInBounds_toArray, List.set_cons_zero, List.set_cons_succ, i64_w, i32_w]
                     rfl
                    refine pure_ (i := 10) (N := some 87) (v := ?_) (a' := ?_) #[true, true, true, true, true, true, true, true, true, true, true, false, false, false, false, false, false, false, false, false, false] rfl rfl (any_of HT_.out zq17) (fun _ _ _ h => h) (Or.inl ⟨zq105, ?_⟩) ?_ ?_
                    rotate_left
                    ·intro w'
                     go_simp
                     with_reducible rfl
                    rotate_left
                    ·simp only [Act.put, List.setIfInBounds_toArray, List.set_cons_zero, List.set_cons_succ, i64_w, i32_w]
                     rfl
                    refine pure_ (i := 11) (N := some 88) (v := ?_) (a' := ?_) #[true, true, true, true, true, true, true, true, true, true, true, true, false, false, false, false, false, false, false, false, false] rfl rfl (any_of HT_.out zq17) (fun _ _ _ h => h) (Or.inl ⟨zq105, ?_⟩) ?_ ?_
                    rotate_left
                    ·intro w'
                     go_simp
                     with_reducible rfl
                    rotate_left
                    ·simp only [Act.put, List.setIfInBounds_toArray, List.set_cons_zero, List.set_cons_succ, i64_w, i32_w]
                     rfl
                    refine pure_ (i := 12) (N := some 89) (v := ?_) (a' := ?_) #[true, true, true, true, true, true, true, true, true, true, true, true, true, false, false, false, false, false, false, false, false] rfl rfl (any_of HT_.out zq17) (fun _ _ _ h => h) (Or.inl ⟨zq105, ?_⟩) ?_ ?_
                    rotate_left
                    ·intro w'
                     go_simp
                     with_reducible rfl
                    rotate_left
                    ·simp only [Act.put, List.setIfInBounds_toArray, List.set_cons_zero, List.set_cons_succ, i64_w, i32_w]
                     rfl
                    refine pure_ (i := 13) (N := some 90) (v := ?_) (a' := ?_) #[true, true, true, true, true, true, true, true, true, true, true, true, true, true, false, false, false, false, false, false, false] rfl rfl (any_of HT_.out zq17) (fun _ _ _ h => h) (Or.inl ⟨zq105, ?_⟩) ?_ ?_
                    rotate_left
                    ·intro w'
                     go_simp
                     with_reducible rfl
                    rotate_left
                    ·simp only [Act.put, List.setIfInBounds_toArray, List.set_cons_zero, List.set_cons_succ, i64_w, i32_w]
                     rfl
                    refine pure_ (i := 14) (N := some 91) (v := ?_) (a' := ?_) #[true, true, true, true, true, true, true, true, true, true, true, true, true, true, true, false, false, false, false, false, false] rfl rfl (any_of HT_.out zq17) (fun _ _ _ h => h) (Or.inl ⟨zq105, ?_⟩) ?_ ?_
                    rotate_left
                    ·intro w'
                     go_simp
                     with_reducible rfl
                    rotate_left
                    ·simp only [Act.put, List.setIfInBounds_toArray, List.set_cons_zero, List.set_cons_succ, i64_w, i32_w]
                     rfl
                    refine pure_ (i := 16) (N := some 93) (v := ?_) (a' := ?_) #[true, true, true, true, true, true, true, true, true, true, true, true, true, true, true, false, true, false, false, false, false] rfl rfl (any_of HT_.out zq17) (fun _ _ _ h => h) (Or.inl ⟨zq105, ?_⟩) ?_ ?_
                    rotate_left
                    ·intro w'
                     go_simp
                     with_reducible rfl
                    rotate_left
                    ·simp only [Act.put, List.setIfInBounds_toArray, List.set_cons_zero, List.set_cons_succ, i64_w, i32_w]
                     rfl
                    refine take_ (i := 15) (N := some 92) (v := ?_) (a' := ?_) #[true, true, true, true, true, true, true, true, true, true, true, true, true, true, true, true, true, false, false, false, false] rfl rfl (take_ofW HT_.out HW_.out zq17) (fun _ _ _ h => h) (Or.inl ⟨zq105, ?_⟩) hH ?_ ?_
                    rotate_left
                    ·rintro w' ⟨s0, s1, s2, s3, s4, s5⟩
                     go_simp
                     with_reducible rfl
                    rotate_left
                    ·simp only [Act.put, List.setIfInBounds_toArray, List.set_cons_zero, List.set_cons_succ, i64_w, i32_w]
                     rfl
                    refine take_ (i := 17) (N := some 94) (v := ?_) (a' := ?_) #[true, true, true, true, true, true, true, true, true, true, true, true, true, true, true, true, true, true, false, false, false] rfl rfl (take_ofW HT_.out HW_.out zq17) (fun _ _ _ h => h) (Or.inl ⟨zq105, ?_⟩) hH ?_ ?_
                    rotate_left
                    ·rintro w' ⟨s0, s1, s2, s3, s4, s5⟩
                     go_simp
                     with_reducible rfl
                    rotate_left
                    ·simp only [Act.put, List.setIfInBounds_toArray, List.set_cons_zero, List.set_cons_succ, i64_w, i32_w]
                     rfl
                    refine pure_ (i := 18) (N := some 95) (v := ?_) (a' := ?_) #[true, true, true, true, true, true, true, true, true, true, true, true, true, true, true, true, true, true, true, false, false] rfl rfl (any_of HT_.out zq17) (fun _ _ _ h => h) (Or.inl ⟨zq105, ?_⟩) ?_ ?_
                    rotate_left
                    ·intro w'
                     go_simp
                     with_reducible rfl
                    rotate_left
                    ·simp only [Act.put, List.setIfInBounds_toArray, List.set_cons_zero, List.set_cons_succ, i64_w, i32_w]
                     rfl
                    refine pure_ (i := 19) (N := some 96) (v := ?_) (a' := ?_) #[true, true, true, true, true, true, true, true, true, true, true, true, true, true, true, true, true, true, true, true, false] rfl rfl (any_of HT_.out zq17) (fun _ _ _ h => h) (Or.inl ⟨zq105, ?_⟩) ?_ ?_
                    rotate_left
                    ·intro w'
                     go_simp
                     with_reducible rfl
                    rotate_left
                    ·simp only [Act.put, List.setIfInBounds_toArray, List.set_cons_zero, List.set_cons_succ, i64_w, i32_w]
                     rfl
                    refine pure_ (i := 20) (N := some 97) (v := ?_) (a' := ?_) #[true, true, true, true, true, true, true, true, true, true, true, true, true, true, true, true, true, true, true, true, true] rfl rfl (any_of HT_.out zq17) (fun _ _ _ h => h) (Or.inl ⟨zq105, ?_⟩) ?_ ?_
                    rotate_left
                    ·intro w'
                     go_simp
                     with_reducible rfl
                    rotate_left
                    ·simp only [Act.put, List.setIfInBounds_toArray, List.set_cons_zero, List.set_cons_succ, i64_w, i32_w]
                     rfl
                    refine done_ (done_of HT_.out zq17) ?_
                    try go_wp2
                    go_meet
                    case rel => exact ⟨_, (!(Op.bytesLess (((rd_T78 x6_1 (ji60)).f1).toList) ((x0_1.extract 2 ((wrap64 ((wrap64 (x7_5 - (wrap64 (2 * a1)))) - 1)) : Int).toNat).toList))), (by first | rfl | (simp; done) | (simp only [← hji60] <;> (first | rfl | simp)) | (simp [*]; done)), H', ⟨zq122⟩, ⟨zq15⟩, ⟨zq61⟩, ⟨zq23⟩⟩
                   ·rw [if_neg c62] at H
                    exact absurd H zq119
                  ·rw [if_neg c61] at H
                   exact absurd H zq119
                 ·rw [if_neg c59] at H
                  have c59b0 : decide (0 < (x6_1.length : Int)) = false := decide_eq_false c59
                  have c59b1 : decide (0 < x6_1.length) = false := decide_eq_false zq94
                  clear c59
                  (first | rw [c59b0] | (simp only [i64_w, i32_w]; rw [c59b0]) | skip)
                  have H' := AZ.mk H
                  clear H
                  try go_wp2
                  have n0_ : AZ (Kd.R k78 78 (((w53.setCell ⟨gb123, 0, none⟩ (.int .u8 (bt x0_1 0))).setCell ⟨gb123, 1, none⟩ (.string (x0_1.extract 2 ((wrap64 ((wrap64 (x7_5 - (wrap64 (2 * a1)))) - 1)) : Int).toNat))).setCell ⟨gb123, 2, none⟩ (.string (x0_1.extract ((ji47) : Int).toNat (x7_5 : Int).toNat))) w.heap.size (fun k_ => k_ ≠ gb123) u6 x6_1) := ⟨zq53⟩
                  have n1_ : AZ ((((w53.setCell ⟨gb123, 0, none⟩ (.int .u8 (bt x0_1 0))).setCell ⟨gb123, 1, none⟩ (.string (x0_1.extract 2 ((wrap64 ((wrap64 (x7_5 - (wrap64 (2 * a1)))) - 1)) : Int).toNat))).setCell ⟨gb123, 2, none⟩ (.string (x0_1.extract ((ji47) : Int).toNat (x7_5 : Int).toNat))).heap[gb123]? = some (.cells #[.int .u8 (bt x0_1 0), .string (x0_1.extract 2 ((wrap64 ((wrap64 (x7_5 - (wrap64 (2 * a1)))) - 1)) : Int).toNat), .string (x0_1.extract ((ji47) : Int).toNat (x7_5 : Int).toNat)] 78 (0, 0))) := ⟨zq38⟩
                  have n2_ : AZ (Below w.heap.size w (((w53.setCell ⟨gb123, 0, none⟩ (.int .u8 (bt x0_1 0))).setCell ⟨gb123, 1, none⟩ (.string (x0_1.extract 2 ((wrap64 ((wrap64 (x7_5 - (wrap64 (2 * a1)))) - 1)) : Int).toNat))).setCell ⟨gb123, 2, none⟩ (.string (x0_1.extract ((ji47) : Int).toNat (x7_5 : Int).toNat)))) := ⟨zq23⟩
                  (try clear HO_6)
                  (try clear BK123)
                  (try clear HB)
                  generalize (((w53.setCell ⟨gb123, 0, none⟩ (.int .u8 (bt x0_1 0))).setCell ⟨gb123, 1, none⟩ (.string (x0_1.extract 2 ((wrap64 ((wrap64 (x7_5 - (wrap64 (2 * a1)))) - 1)) : Int).toNat))).setCell ⟨gb123, 2, none⟩ (.string (x0_1.extract ((ji47) : Int).toNat (x7_5 : Int).toNat))) = w66 at n0_ n1_ n2_ ⊢
                  have HO_6 := n0_
                  have BK123 := n1_
                  have HB := n2_
                  clear n0_ n1_ n2_
                  have n0_ := AZ.mk (Kd.R_drew HO_6.out)
                  have n1_ := AZ.mk (blk_drew BK123.out)
                  have n2_ := AZ.mk (below_drew1 HB.out)
                  clear HO_6
                  clear BK123
                  clear HB
                  have HO_6 := n0_
                  have BK123 := n1_
                  have HB := n2_
                  clear n0_ n1_ n2_
                  refine start_ (n := 21) (S := fun w' => w'.cell? ⟨gb123, 0, none⟩ = some (.int .u8 (bt x0_1 0)) ∧ w'.cell? ⟨gb123, 1, none⟩ = some (.string (x0_1.extract 2 ((wrap64 ((wrap64 (x7_5 - (wrap64 (2 * a1)))) - 1)) : Int).toNat)) ∧ w'.cell? ⟨gb123, 2, none⟩ = some (.string (x0_1.extract ((ji47) : Int).toNat (x7_5 : Int).toNat))) (ds := []) #[false, false, false, false, false, false, false, false, false, false, false, false, false, false, false, false, false, false, false, false, false] zq17 rfl rfl ⟨(blk_cell BK123.out 0).trans rfl, (blk_cell BK123.out 1).trans rfl, (blk_cell BK123.out 2).trans rfl⟩ (fun hH => ?_); refine tbW spec_l9Read.tab10 spec_l9Read.bits10 (fun HT_ HW_ => ?_)
                  generalize w66.drew = w67 at HO_6 BK123 HB hH ⊢
                  refine pure_ (i := 0) (N := some 77) (v := ?_) (a' := ?_) #[true, false, false, false, false, false, false, false, false, false, false, false, false, false, false, false, false, false, false, false, false] rfl rfl (any_of HT_.out zq17) (fun _ _ _ h => h) (Or.inl ⟨zq105, ?_⟩) ?_ ?_
                  rotate_left
                  ·intro w'
                   go_simp
                   with_reducible rfl
                  rotate_left
                  ·simp only [Act.put, List.setIfInBounds_toArray, List.set_cons_zero, List.set_cons_succ, i64_w, i32_w]
                   rfl
                  refine take_ (i := 1) (N := some 78) (v := ?_) (a' := ?_) #[true, true, false, false, false, false, false, false, false, false, false, false, false, false, false, false, false, false, false, false, false] rfl rfl (take_ofW HT_.out HW_.out zq17) (fun _ _ _ h => h) (Or.inl ⟨zq105, ?_⟩) hH ?_ ?_
                  rotate_left
                  ·rintro w' ⟨s0, s1, s2⟩
                   go_simp
                   with_reducible rfl
                  rotate_left
                  ·simp only [Act.put, List.setIfInBounds_toArray, List.set_cons_zero, List.set_cons_succ, i64_w, i32_w]
                   rfl
                  refine one_ (i := 2) (N := some 79) #[true, true, true, false, false, false, false, false, false, false, false, false, false, false, false, false, false, false, false, false, false] rfl rfl (one_of HT_.out zq17) zq118 (fun K hK => ?_)
                  refine goes_ Tryd.func74 zq17 rfl #[.string (x0_1.extract 2 ((wrap64 ((wrap64 (x7_5 - (wrap64 (2 * a1)))) - 1)) : Int).toNat), .bool false] zq105 rfl rfl zq2 ?_
                  with_reducible refine (spec_l4PartOk.calls kj10 (x0_1.extract 2 ((wrap64 ((wrap64 (x7_5 - (wrap64 (2 * a1)))) - 1)) : Int).toNat) false true _ A57.out).mono ?_
                  rintro e w' ⟨rfl, ⟨nd, rfl⟩⟩
                  refine ⟨_, rfl, ?_⟩
                  obtain ⟨Ao68, co68, eo68⟩ := Kd.R_slice HO_6.out
                  (first | subst eo68 | (injection eo68 with f1_ f2_ f3_; have f4_ := f1_.symm; have f5_ := f3_.symm; clear f1_ f2_ f3_; subst f4_; subst f5_))
                  refine hK.out _ _ ⟨(blk_cell BK123.out 0).trans rfl, (blk_cell BK123.out 1).trans rfl, (blk_cell BK123.out 2).trans rfl⟩ (fun hH => ?_)
                  clear hK K
                  refine norm_ (a' := ?_) ?_ ?_
                  rotate_left
                  ·show Act.put _ (some 79) _ = _
                   simp only [Act.put, List.setIfInBounds_toArray, List.set_cons_zero, List.set_cons_succ, i64_w, i32_w]
                   rfl
                  refine pure_ (i := 3) (N := some 80) (v := ?_) (a' := ?_) #[true, true, true, true, false, false, false, false, false, false, false, false, false, false, false, false, false, false, false, false, false] rfl rfl (any_of HT_.out zq17) (fun _ _ _ h => h) (Or.inl ⟨zq105, ?_⟩) ?_ ?_
                  rotate_left
                  ·intro w'
                   go_simp
                   with_reducible rfl
                  rotate_left
                  ·simp only [Act.put, List.setIfInBounds_toArray, List.set_cons_zero, List.set_cons_succ, i64_w, i32_w]
                   rfl
                  refine pure_ (i := 4) (N := some 81) (v := ?_) (a' := ?_) #[true, true, true, true, true, false, false, false, false, false, false, false, false, false, false, false, false, false, false, false, false] rfl rfl (any_of HT_.out zq17) (fun _ _ _ h => h) (Or.inl ⟨zq105, ?_⟩) ?_ ?_
                  rotate_left
                  ·intro w'
                   go_simp
                   with_reducible rfl
                  rotate_left
                  ·simp only [Act.put, List.setIfInBounds_toArray, List.set_cons_zero, List.set_cons_succ, i64_w, i32_w]
                   rfl
                  refine pure_ (i := 5) (N := some 82) (v := ?_) (a' := ?_) #[true, true, true, true, true, true, false, false, false, false, false, false, false, false, false, false, false, false, false, false, false] rfl rfl (any_of HT_.out zq17) (fun _ _ _ h => h) (Or.inl ⟨zq105, ?_⟩) ?_ ?_
                  rotate_left
                  ·intro w'
                   go_simp
                   with_reducible rfl
                  rotate_left
                  ·simp only [Act.put, List.setIfInBounds_toArray, List.set_cons_zero, List.set_cons_succ, i64_w, i32_w]
                   rfl
                  refine pure_ (i := 6) (N := some 83) (v := ?_) (a' := ?_) #[true, true, true, true, true, true, true, false, false, false, false, false, false, false, false, false, false, false, false, false, false] rfl rfl (any_of HT_.out zq17) (fun _ _ _ h => h) (Or.inl ⟨zq105, ?_⟩) ?_ ?_
                  rotate_left
                  ·intro w'
                   go_simp
                   with_reducible rfl
                  rotate_left
                  ·simp only [Act.put, List.setIfInBounds_toArray, List.set_cons_zero, List.set_cons_succ, i64_w, i32_w]
                   rfl
                  refine pure_ (i := 7) (N := some 84) (v := ?_) (a' := ?_) #[true, true, true, true, true, true, true, true, false, false, false, false, false, false, false, false, false, false, false, false, false] rfl rfl (any_of HT_.out zq17) (fun _ _ _ h => h) (Or.inl ⟨zq105, ?_⟩) ?_ ?_
                  rotate_left
                  ·intro w'
                   go_simp
                   with_reducible rfl
                  rotate_left
                  ·simp only [Act.put, List.setIfInBounds_toArray, List.set_cons_zero, List.set_cons_succ, i64_w, i32_w]
                   rfl
                  refine pure_ (i := 8) (N := some 85) (v := ?_) (a' := ?_) #[true, true, true, true, true, true, true, true, true, false, false, false, false, false, false, false, false, false, false, false, false] rfl rfl (any_of HT_.out zq17) (fun _ _ _ h => h) (Or.inl ⟨zq105, ?_⟩) ?_ ?_
                  rotate_left
                  ·intro w'
                   go_simp
                   with_reducible rfl
                  rotate_left
                  ·simp only [Act.put, List.setIfInBounds_toArray, List.set_cons_zero, List.set_cons_succ, i64_w, i32_w]
                   rfl
                  refine pure_ (i := 9) (N := some 86) (v := undef) (a' := ?_) #[true, true, true, true, true, true, true, true, true, true, false, false, false, false, false, false, false, false, false, false, false] rfl rfl (any_of HT_.out zq17) (fun _ _ _ h => h) (Or.inr ⟨zq105, rfl⟩) ?_ ?_
                  rotate_left
                  ·simp only [Act.put, List.setIfInBounds_toArray, List.set_cons_zero, List.set_cons_succ, i64_w, i32_w]
                   rfl
                  refine pure_ (i := 10) (N := some 87) (v := undef) (a' := ?_) #[true, true, true, true, true, true, true, true, true, true, true, false, false, false, false, false, false, false, false, false, false] rfl rfl (any_of HT_.out zq17) (fun _ _ _ h => h) (Or.inr ⟨zq105, rfl⟩) ?_ ?_
                  rotate_left
                  ·simp only [Act.put, List.setIfInBounds_toArray, List.set_cons_zero, List.set_cons_succ, i64_w, i32_w]
                   rfl
                  refine pure_ (i := 11) (N := some 88) (v := undef) (a' := ?_) #[true, true, true, true, true, true, true, true, true, true, true, true, false, false, false, false, false, false, false, false, false] rfl rfl (any_of HT_.out zq17) (fun _ _ _ h => h) (Or.inr ⟨zq105, rfl⟩) ?_ ?_
                  rotate_left
                  ·simp only [Act.put, List.setIfInBounds_toArray, List.set_cons_zero, List.set_cons_succ, i64_w, i32_w]
                   rfl
                  refine pure_ (i := 12) (N := some 89) (v := undef) (a' := ?_) #[true, true, true, true, true, true, true, true, true, true, true, true, true, false, false, false, false, false, false, false, false] rfl rfl (any_of HT_.out zq17) (fun _ _ _ h => h) (Or.inr ⟨zq105, rfl⟩) ?_ ?_
                  rotate_left
                  ·simp only [Act.put, List.setIfInBounds_toArray, List.set_cons_zero, List.set_cons_succ, i64_w, i32_w]
                   rfl
                  refine pure_ (i := 13) (N := some 90) (v := undef) (a' := ?_) #[true, true, true, true, true, true, true, true, true, true, true, true, true, true, false, false, false, false, false, false, false] rfl rfl (any_of HT_.out zq17) (fun _ _ _ h => h) (Or.inr ⟨zq105, rfl⟩) ?_ ?_
                  rotate_left
                  ·simp only [Act.put, List.setIfInBounds_toArray, List.set_cons_zero, List.set_cons_succ, i64_w, i32_w]
                   rfl
                  refine pure_ (i := 14) (N := some 91) (v := undef) (a' := ?_) #[true, true, true, true, true, true, true, true, true, true, true, true, true, true, true, false, false, false, false, false, false] rfl rfl (any_of HT_.out zq17) (fun _ _ _ h => h) (Or.inr ⟨zq105, rfl⟩) ?_ ?_
                  rotate_left
                  ·simp only [Act.put, List.setIfInBounds_toArray, List.set_cons_zero, List.set_cons_succ, i64_w, i32_w]
                   rfl
                  refine pure_ (i := 15) (N := some 92) (v := undef) (a' := ?_) #[true, true, true, true, true, true, true, true, true, true, true, true, true, true, true, true, false, false, false, false, false] rfl rfl (any_of HT_.out zq17) (fun _ _ _ h => h) (Or.inr ⟨zq105, rfl⟩) ?_ ?_
                  rotate_left
                  ·simp only [Act.put, List.setIfInBounds_toArray, List.set_cons_zero, List.set_cons_succ, i64_w, i32_w]
                   rfl
                  refine pure_ (i := 16) (N := some 93) (v := undef) (a' := ?_) #[true, true, true, true, true, true, true, true, true, true, true, true, true, true, true, true, true, false, false, false, false] rfl rfl (any_of HT_.out zq17) (fun _ _ _ h => h) (Or.inr ⟨zq105, rfl⟩) ?_ ?_
                  rotate_left
                  ·simp only [Act.put, List.setIfInBounds_toArray, List.set_cons_zero, List.set_cons_succ, i64_w, i32_w]
                   rfl
                  refine pure_ (i := 17) (N := some 94) (v := undef) (a' := ?_) #[true, true, true, true, true, true, true, true, true, true, true, true, true, true, true, true, true, true, false, false, false] rfl rfl (any_of HT_.out zq17) (fun _ _ _ h => h) (Or.inr ⟨zq105, rfl⟩) ?_ ?_
                  rotate_left
                  ·simp only [Act.put, List.setIfInBounds_toArray, List.set_cons_zero, List.set_cons_succ, i64_w, i32_w]
                   rfl
                  refine pure_ (i := 18) (N := some 95) (v := undef) (a' := ?_) #[true, true, true, true, true, true, true, true, true, true, true, true, true, true, true, true, true, true, true, false, false] rfl rfl (any_of HT_.out zq17) (fun _ _ _ h => h) (Or.inr ⟨zq105, rfl⟩) ?_ ?_
                  rotate_left
                  ·simp only [Act.put, List.setIfInBounds_toArray, List.set_cons_zero, List.set_cons_succ, i64_w, i32_w]
                   rfl
                  refine pure_ (i := 19) (N := some 96) (v := ?_) (a' := ?_) #[true, true, true, true, true, true, true, true, true, true, true, true, true, true, true, true, true, true, true, true, false] rfl rfl (any_of HT_.out zq17) (fun _ _ _ h => h) (Or.inl ⟨zq105, ?_⟩) ?_ ?_
                  rotate_left
                  ·intro w'
                   go_simp
                   with_reducible rfl
                  rotate_left
                  ·simp only [Act.put, List.setIfInBounds_toArray, List.set_cons_zero, List.set_cons_succ, i64_w, i32_w]
                   rfl
                  refine pure_ (i := 20) (N := some 97) (v := ?_) (a' := ?_) #[true, true, true, true, true, true, true, true, true, true, true, true, true, true, true, true, true, true, true, true, true] rfl rfl (any_of HT_.out zq17) (fun _ _ _ h => h) (Or.inl ⟨zq105, ?_⟩) ?_ ?_
                  rotate_left
                  ·intro w'
                   go_simp
                   with_reducible rfl
                  rotate_left
                  ·simp only [Act.put, List.setIfInBounds_toArray, List.set_cons_zero, List.set_cons_succ, i64_w, i32_w]
                   rfl
                  refine done_ (done_of HT_.out zq17) ?_
                  try go_wp2
                  go_meet
                  case rel => exact ⟨_, (false), zq8, H', ⟨zq122⟩, ⟨zq15⟩, ⟨zq61⟩, ⟨zq23⟩⟩
                ·replace c58 := Bool.eq_false_iff.mpr c58
                 subst c58
                 rw [if_neg (show ¬ (false = true) by decide)] at H
                 have H' := AZ.mk H
                 clear H
                 try go_wp2
                 have n0_ : AZ (Kd.R k78 78 (((w53.setCell ⟨gb123, 0, none⟩ (.int .u8 (bt x0_1 0))).setCell ⟨gb123, 1, none⟩ (.string (x0_1.extract 2 ((wrap64 ((wrap64 (x7_5 - (wrap64 (2 * a1)))) - 1)) : Int).toNat))).setCell ⟨gb123, 2, none⟩ (.string (x0_1.extract ((ji47) : Int).toNat (x7_5 : Int).toNat))) w.heap.size (fun k_ => k_ ≠ gb123) u6 x6_1) := ⟨zq53⟩
                 have n1_ : AZ ((((w53.setCell ⟨gb123, 0, none⟩ (.int .u8 (bt x0_1 0))).setCell ⟨gb123, 1, none⟩ (.string (x0_1.extract 2 ((wrap64 ((wrap64 (x7_5 - (wrap64 (2 * a1)))) - 1)) : Int).toNat))).setCell ⟨gb123, 2, none⟩ (.string (x0_1.extract ((ji47) : Int).toNat (x7_5 : Int).toNat))).heap[gb123]? = some (.cells #[.int .u8 (bt x0_1 0), .string (x0_1.extract 2 ((wrap64 ((wrap64 (x7_5 - (wrap64 (2 * a1)))) - 1)) : Int).toNat), .string (x0_1.extract ((ji47) : Int).toNat (x7_5 : Int).toNat)] 78 (0, 0))) := ⟨zq38⟩
                 have n2_ : AZ (Below w.heap.size w (((w53.setCell ⟨gb123, 0, none⟩ (.int .u8 (bt x0_1 0))).setCell ⟨gb123, 1, none⟩ (.string (x0_1.extract 2 ((wrap64 ((wrap64 (x7_5 - (wrap64 (2 * a1)))) - 1)) : Int).toNat))).setCell ⟨gb123, 2, none⟩ (.string (x0_1.extract ((ji47) : Int).toNat (x7_5 : Int).toNat)))) := ⟨zq23⟩
                 (try clear HO_6)
                 (try clear BK123)
                 (try clear HB)
                 generalize (((w53.setCell ⟨gb123, 0, none⟩ (.int .u8 (bt x0_1 0))).setCell ⟨gb123, 1, none⟩ (.string (x0_1.extract 2 ((wrap64 ((wrap64 (x7_5 - (wrap64 (2 * a1)))) - 1)) : Int).toNat))).setCell ⟨gb123, 2, none⟩ (.string (x0_1.extract ((ji47) : Int).toNat (x7_5 : Int).toNat))) = w69 at n0_ n1_ n2_ ⊢
                 have HO_6 := n0_
                 have BK123 := n1_
                 have HB := n2_
                 clear n0_ n1_ n2_
                 have n0_ := AZ.mk (Kd.R_drew HO_6.out)
                 have n1_ := AZ.mk (blk_drew BK123.out)
                 have n2_ := AZ.mk (below_drew1 HB.out)
                 clear HO_6
                 clear BK123
                 clear HB
                 have HO_6 := n0_
                 have BK123 := n1_
                 have HB := n2_
                 clear n0_ n1_ n2_
                 refine start_ (n := 21) (S := fun w' => w'.cell? ⟨gb123, 0, none⟩ = some (.int .u8 (bt x0_1 0)) ∧ w'.cell? ⟨gb123, 1, none⟩ = some (.string (x0_1.extract 2 ((wrap64 ((wrap64 (x7_5 - (wrap64 (2 * a1)))) - 1)) : Int).toNat)) ∧ w'.cell? ⟨gb123, 2, none⟩ = some (.string (x0_1.extract ((ji47) : Int).toNat (x7_5 : Int).toNat))) (ds := []) #[false, false, false, false, false, false, false, false, false, false, false, false, false, false, false, false, false, false, false, false, false] zq17 rfl rfl ⟨(blk_cell BK123.out 0).trans rfl, (blk_cell BK123.out 1).trans rfl, (blk_cell BK123.out 2).trans rfl⟩ (fun hH => ?_); refine tbW spec_l9Read.tab10 spec_l9Read.bits10 (fun HT_ HW_ => ?_)
                 generalize w69.drew = w70 at HO_6 BK123 HB hH ⊢
                 refine pure_ (i := 0) (N := some 77) (v := ?_) (a' := ?_) #[true, false, false, false, false, false, false, false, false, false, false, false, false, false, false, false, false, false, false, false, false] rfl rfl (any_of HT_.out zq17) (fun _ _ _ h => h) (Or.inl ⟨zq105, ?_⟩) ?_ ?_
                 rotate_left
                 ·intro w'
                  go_simp
                  with_reducible rfl
                 rotate_left
                 ·simp only [Act.put, List.setIfInBounds_toArray, List.set_cons_zero, List.set_cons_succ, i64_w, i32_w]
                  rfl
                 refine take_ (i := 1) (N := some 78) (v := ?_) (a' := ?_) #[true, true, false, false, false, false, false, false, false, false, false, false, false, false, false, false, false, false, false, false, false] rfl rfl (take_ofW HT_.out HW_.out zq17) (fun _ _ _ h => h) (Or.inl ⟨zq105, ?_⟩) hH ?_ ?_
                 rotate_left
                 ·rintro w' ⟨s0, s1, s2⟩
                  go_simp
                  with_reducible rfl
                 rotate_left
                 ·simp only [Act.put, List.setIfInBounds_toArray, List.set_cons_zero, List.set_cons_succ, i64_w, i32_w]
                  rfl
                 refine one_ (i := 2) (N := some 79) #[true, true, true, false, false, false, false, false, false, false, false, false, false, false, false, false, false, false, false, false, false] rfl rfl (one_of HT_.out zq17) zq118 (fun K hK => ?_)
                 refine goes_ Tryd.func74 zq17 rfl #[.string (x0_1.extract 2 ((wrap64 ((wrap64 (x7_5 - (wrap64 (2 * a1)))) - 1)) : Int).toNat), .bool false] zq105 rfl rfl zq2 ?_
                 with_reducible refine (spec_l4PartOk.calls kj10 (x0_1.extract 2 ((wrap64 ((wrap64 (x7_5 - (wrap64 (2 * a1)))) - 1)) : Int).toNat) false false _ A57.out).mono ?_
                 rintro e w' ⟨rfl, ⟨nd, rfl⟩⟩
                 refine ⟨_, rfl, ?_⟩
                 refine hK.out _ _ ⟨(blk_cell BK123.out 0).trans rfl, (blk_cell BK123.out 1).trans rfl, (blk_cell BK123.out 2).trans rfl⟩ (fun hH => ?_)
                 clear hK K
                 refine norm_ (a' := ?_) ?_ ?_
                 rotate_left
                 ·show Act.put _ (some 79) _ = _
                  simp only [Act.put, List.setIfInBounds_toArray, List.set_cons_zero, List.set_cons_succ, i64_w, i32_w]
                  rfl
                 refine pure_ (i := 3) (N := some 80) (v := ?_) (a' := ?_) #[true, true, true, true, false, false, false, false, false, false, false, false, false, false, false, false, false, false, false, false, false] rfl rfl (any_of HT_.out zq17) (fun _ _ _ h => h) (Or.inl ⟨zq105, ?_⟩) ?_ ?_
                 rotate_left
                 ·intro w'
                  go_simp
                  with_reducible rfl
                 rotate_left
                 ·simp only [Act.put, List.setIfInBounds_toArray, List.set_cons_zero, List.set_cons_succ, i64_w, i32_w]
                  rfl
                 refine pure_ (i := 4) (N := some 81) (v := ?_) (a' := ?_) #[true, true, true, true, true, false, false, false, false, false, false, false, false, false, false, false, false, false, false, false, false] rfl rfl (any_of HT_.out zq17) (fun _ _ _ h => h) (Or.inl ⟨zq105, ?_⟩) ?_ ?_
                 rotate_left
                 ·intro w'
                  go_simp
                  with_reducible rfl
                 rotate_left
                 ·simp only [Act.put, List.setIfInBounds_toArray, List.set_cons_zero, List.set_cons_succ, i64_w, i32_w]
                  rfl
                 refine pure_ (i := 5) (N := some 82) (v := undef) (a' := ?_) #[true, true, true, true, true, true, false, false, false, false, false, false, false, false, false, false, false, false, false, false, false] rfl rfl (any_of HT_.out zq17) (fun _ _ _ h => h) (Or.inr ⟨zq105, rfl⟩) ?_ ?_
                 rotate_left
                 ·simp only [Act.put, List.setIfInBounds_toArray, List.set_cons_zero, List.set_cons_succ, i64_w, i32_w]
                  rfl
                 refine pure_ (i := 6) (N := some 83) (v := undef) (a' := ?_) #[true, true, true, true, true, true, true, false, false, false, false, false, false, false, false, false, false, false, false, false, false] rfl rfl (any_of HT_.out zq17) (fun _ _ _ h => h) (Or.inr ⟨zq105, rfl⟩) ?_ ?_
                 rotate_left
                 ·simp only [Act.put, List.setIfInBounds_toArray, List.set_cons_zero, List.set_cons_succ, i64_w, i32_w]
                  rfl
                 refine pure_ (i := 7) (N := some 84) (v := undef) (a' := ?_) #[true, true, true, true, true, true, true, true, false, false, false, false, false, false, false, false, false, false, false, false, false] rfl rfl (any_of HT_.out zq17) (fun _ _ _ h => h) (Or.inr ⟨zq105, rfl⟩) ?_ ?_
                 rotate_left
                 ·simp only [Act.put, List.setIfInBounds_toArray, List.set_cons_zero, List.set_cons_succ, i64_w, i32_w]
                  rfl
                 refine pure_ (i := 8) (N := some 85) (v := undef) (a' := ?_) #[true, true, true, true, true, true, true, true, true, false, false, false, false, false, false, false, false, false, false, false, false] rfl rfl (any_of HT_.out zq17) (fun _ _ _ h => h) (Or.inr ⟨zq105, rfl⟩) ?_ ?_
                 rotate_left
                 ·simp only [Act.put, List.setIfInBounds_toArray, List.set_cons_zero, List.set_cons_succ, i64_w, i32_w]
                  rfl
                 refine pure_ (i := 9) (N := some 86) (v := undef) (a' := ?_) #[true, true, true, true, true, true, true, true, true, true, false, false, false, false, false, false, false, false, false, false, false] rfl rfl (any_of HT_.out zq17) (fun _ _ _ h => h) (Or.inr ⟨zq105, rfl⟩) ?_ ?_
                 rotate_left
                 ·simp only [Act.put, List.setIfInBounds_toArray, List.set_cons_zero, List.set_cons_succ, i64_w, i32_w]
                  rfl
                 refine pure_ (i := 10) (N := some 87) (v := undef) (a' := ?_) #[true, true, true, true, true, true, true, true, true, true, true, false, false, false, false, false, false, false, false, false, false] rfl rfl (any_of HT_.out zq17) (fun _ _ _ h => h) (Or.inr ⟨zq105, rfl⟩) ?_ ?_
                 rotate_left
                 ·simp only [Act.put, List.setIfInBounds_toArray, List.set_cons_zero, List.set_cons_succ, i64_w, i32_w]
                  rfl
                 refine pure_ (i := 11) (N := some 88) (v := undef) (a' := ?_) #[true, true, true, true, true, true, true, true, true, true, true, true, false, false, false, false, false, false, false, false, false] rfl rfl (any_of HT_.out zq17) (fun _ _ _ h => h) (Or.inr ⟨zq105, rfl⟩) ?_ ?_
                 rotate_left
                 ·simp only [Act.put, List.setIfInBounds_toArray, List.set_cons_zero, List.set_cons_succ, i64_w, i32_w]
                  rfl
                 refine pure_ (i := 12) (N := some 89) (v := undef) (a' := ?_) #[true, true, true, true, true, true, true, true, true, true, true, true, true, false, false, false, false, false, false, false, false] rfl rfl (any_of HT_.out zq17) (fun _ _ _ h => h) (Or.inr ⟨zq105, rfl⟩) ?_ ?_
                 rotate_left
                 ·simp only [Act.put, List.setIfInBounds_toArray, List.set_cons_zero, List.set_cons_succ, i64_w, i32_w]
                  rfl
                 refine pure_ (i := 13) (N := some 90) (v := undef) (a' := ?_) #[true, true, true, true, true, true, true, true, true, true, true, true, true, true, false, false, false, false, false, false, false] rfl rfl (any_of HT_.out zq17) (fun _ _ _ h => h) (Or.inr ⟨zq105, rfl⟩) ?_ ?_
                 rotate_left
                 ·simp only [Act.put, List.setIfInBounds_toArray, List.set_cons_zero, List.set_cons_succ, i64_w, i32_w]
                  rfl
                 refine pure_ (i := 14) (N := some 91) (v := undef) (a' := ?_) #[true, true, true, true, true, true, true, true, true, true, true, true, true, true, true, false, false, false, false, false, false] rfl rfl (any_of HT_.out zq17) (fun _ _ _ h => h) (Or.inr ⟨zq105, rfl⟩) ?_ ?_
                 rotate_left
                 ·simp only [Act.put, List.setIfInBounds_toArray, List.set_cons_zero, List.set_cons_succ, i64_w, i32_w]
                  rfl
                 refine pure_ (i := 15) (N := some 92) (v := undef) (a' := ?_) #[true, true, true, true, true, true, true, true, true, true, true, true, true, true, true, true, false, false, false, false, false] rfl rfl (any_of HT_.out zq17) (fun _ _ _ h => h) (Or.inr ⟨zq105, rfl⟩) ?_ ?_
                 rotate_left
                 ·simp only [Act.put, List.setIfInBounds_toArray, List.set_cons_zero, List.set_cons_succ, i64_w, i32_w]
                  rfl
                 refine pure_ (i := 16) (N := some 93) (v := undef) (a' := ?_) #[true, true, true, true, true, true, true, true, true, true, true, true, true, true, true, true, true, false, false, false, false] rfl rfl (any_of HT_.out zq17) (fun _ _ _ h => h) (Or.inr ⟨zq105, rfl⟩) ?_ ?_
                 rotate_left
                 ·simp only [Act.put, List.setIfInBounds_toArray, List.set_cons_zero, List.set_cons_succ, i64_w, i32_w]
                  rfl
                 refine pure_ (i := 17) (N := some 94) (v := undef) (a' := ?_) #[true, true, true, true, true, true, true, true, true, true, true, true, true, true, true, true, true, true, false, false, false] rfl rfl (any_of HT_.out zq17) (fun _ _ _ h => h) (Or.inr ⟨zq105, rfl⟩) ?_ ?_
                 rotate_left
                 ·simp only [Act.put, List.setIfInBounds_toArray, List.set_cons_zero, List.set_cons_succ, i64_w, i32_w]
                  rfl
                 refine pure_ (i := 18) (N := some 95) (v := undef) (a' := ?_) #[true, true, true, true, true, true, true, true, true, true, true, true, true, true, true, true, true, true, true, false, false] rfl rfl (any_of HT_.out zq17) (fun _ _ _ h => h) (Or.inr ⟨zq105, rfl⟩) ?_ ?_
                 rotate_left
                 ·simp only [Act.put, List.setIfInBounds_toArray, List.set_cons_zero, List.set_cons_succ, i64_w, i32_w]
                  rfl
                 refine pure_ (i := 19) (N := some 96) (v := undef) (a' := ?_) #[true, true, true, true, true, true, true, true, true, true, true, true, true, true, true, true, true, true, true, true, false] rfl rfl (any_of HT_.out zq17) (fun _ _ _ h => h) (Or.inr ⟨zq105, rfl⟩) ?_ ?_
                 rotate_left
                 ·simp only [Act.put, List.setIfInBounds_toArray, List.set_cons_zero, List.set_cons_succ, i64_w, i32_w]
                  rfl
                 refine pure_ (i := 20) (N := some 97) (v := ?_) (a' := ?_) #[true, true, true, true, true, true, true, true, true, true, true, true, true, true, true, true, true, true, true, true, true] rfl rfl (any_of HT_.out zq17) (fun _ _ _ h => h) (Or.inl ⟨zq105, ?_⟩) ?_ ?_
                 rotate_left
                 ·intro w'
                  go_simp
                  with_reducible rfl
                 rotate_left
                 ·simp only [Act.put, List.setIfInBounds_toArray, List.set_cons_zero, List.set_cons_succ, i64_w, i32_w]
                  rfl
                 refine done_ (done_of HT_.out zq17) ?_
                 try go_wp2
                 go_meet
                 case rel => exact ⟨_, (true), zq8, H', ⟨zq122⟩, ⟨zq15⟩, ⟨zq61⟩, ⟨zq23⟩⟩
               case rest =>
                clear HC51
                try clear p1
                try clear q1
                try clear hx1
                try clear p2
                try clear c5
                try clear c6
                try clear p6
                try clear c7
                try clear p12
                try clear q12
                try clear hx12
                try clear c58
                try clear c59
                try clear c59b0
                try clear c59b1
                try clear c61
                try clear c61b0
                try clear c62
                try clear c62b0
                try clear p64
                try clear hx125_0
                try clear hx125_1
                try clear hx125_2
                try clear p125
                try clear q125
                obtain ⟨kq, x97_50, rfl, HA, HJ50, HO_6, BK123, HB⟩ := hcut
                cases kq with
                | zero => exact absurd HA.out (by simp [spec_l9Read.j4])
                | succ kj50 =>
                 have H := HA.out
                 clear HA
                 simp only [spec_l9Read.j4] at H
                 by_cases c71 : x97_50 = true
                 ·subst c71
                  rw [if_pos rfl] at H
                  simp only [Option.some.injEq, Prod.mk.injEq] at H
                  obtain ⟨rfl, rfl⟩ := H
                  go_wp2
                  go_ret2
                  exact ⟨_, zq75, zq86, zq23⟩
                 ·replace c71 := Bool.eq_false_iff.mpr c71
                  subst c71
                  rw [if_neg (show ¬ (false = true) by decide)] at H
                  have H' := AZ.mk H
                  clear H
                  go_wp2
                  go_loopg [10] kj50 (fun kq v10 w' => ∃ (x10_5 : Int), v10 = .int .i64 x10_5 ∧ AZ (spec_l9Read.l2 kq x0_1 a1 x6_1 x7_5 x10_5 (bt x0_1 0) (x0_1.extract 2 ((wrap64 ((wrap64 (x7_5 - (wrap64 (2 * a1)))) - 1)) : Int).toNat) (x0_1.extract ((ji47) : Int).toNat (x7_5 : Int).toNat) = some (r1, r2)) ∧ AZ (kq ≤ kj50) ∧ AZ (Kd.R k78 78 w' w.heap.size (fun k_ => k_ ≠ gb123) u6 x6_1) ∧ AZ (w'.heap[gb123]? = some (.cells #[.int .u8 (bt x0_1 0), .string (x0_1.extract 2 ((wrap64 ((wrap64 (x7_5 - (wrap64 (2 * a1)))) - 1)) : Int).toNat), .string (x0_1.extract ((ji47) : Int).toNat (x7_5 : Int).toNat)] 78 (0, 0))) ∧ AZ (Below w.heap.size w w'))
                  case atStart => exact ⟨(0), zq8, H', ⟨Nat.le_refl _⟩, ⟨zq15⟩, ⟨zq61⟩, ⟨zq23⟩⟩
                  case round =>
                   clear H'
                   try clear p1
                   try clear q1
                   try clear hx1
                   try clear p2
                   try clear c5
                   try clear c6
                   try clear p6
                   try clear c7
                   try clear p12
                   try clear q12
                   try clear hx12
                   try clear c58
                   try clear c59
                   try clear c59b0
                   try clear c59b1
                   try clear c61
                   try clear c61b0
                   try clear c62
                   try clear c62b0
                   try clear p64
                   try clear c71
                   try clear hx125_0
                   try clear hx125_1
                   try clear hx125_2
                   try clear p1
                   try clear p12
                   try clear p125
                   try clear p2
                   try clear p6
                   try clear p64
                   try clear q1
                   try clear q12
                   try clear q125
                   obtain ⟨x10_5, rfl, HA, HK5, HO_6, BK123, HB⟩ := hrel
                   cases gk with
                   | zero => exact absurd HA.out (by simp [spec_l9Read.l2])
                   | succ k5 =>
                    have H := HA.out
                    clear HA
                    simp only [spec_l9Read.l2] at H
                    by_cases c72 : x10_5 < ((x0_1.extract ((ji47) : Int).toNat (x7_5 : Int).toNat).size : Int)
                    ·rw [if_pos c72] at H
                     have c72b0 : decide (x10_5 < ((x0_1.extract ((ji47) : Int).toNat (x7_5 : Int).toNat).size : Int)) = true := decide_eq_true c72
                     have c72b3 : (x10_5 < ((x7_5.toNat - ji47.toNat : Nat) : Int)) = True := eq_true zq117
                     clear c72
                     by_cases c73 : 0 ≤ x10_5
                     ·rw [if_pos c73] at H
                      have c73b0 : decide (0 ≤ x10_5) = true := decide_eq_true c73
                      clear c73
                      by_cases c75 : (bt (x0_1.extract ((ji47) : Int).toNat (x7_5 : Int).toNat) x10_5) < 48
                      ·rw [if_pos c75] at H
                       have c75b0 : decide ((bt (x0_1.extract ((ji47) : Int).toNat (x7_5 : Int).toNat) x10_5) < 48) = true := decide_eq_true c75
                       clear c75
                       by_cases c77 : (bt (x0_1.extract ((ji47) : Int).toNat (x7_5 : Int).toNat) x10_5) < 97
                       ·rw [if_pos c77] at H
                        have c77b0 : decide ((bt (x0_1.extract ((ji47) : Int).toNat (x7_5 : Int).toNat) x10_5) < 97) = true := decide_eq_true c77
                        clear c77
                        simp only [Option.some.injEq, Prod.mk.injEq] at H
                        obtain ⟨rfl, rfl⟩ := H
                        have hcz78_0 : wr.cell? ⟨gb123, 0, none⟩ = some (.int .u8 (bt x0_1 0)) := (blk_cell BK123.out 0).trans rfl
                        have hcz78_1 : wr.cell? ⟨gb123, 1, none⟩ = some (.string (x0_1.extract 2 ((wrap64 ((wrap64 (x7_5 - (wrap64 (2 * a1)))) - 1)) : Int).toNat)) := (blk_cell BK123.out 1).trans rfl
                        have hcz78_2 : wr.cell? ⟨gb123, 2, none⟩ = some (.string (x0_1.extract ((ji47) : Int).toNat (x7_5 : Int).toNat)) := (blk_cell BK123.out 2).trans rfl
                        have hfz78_0 := blk_frozen BK123.out 0
                        have hfz78_1 := blk_frozen BK123.out 1
                        have hfz78_2 := blk_frozen BK123.out 2
                        have p74 : 0 ≤ (x10_5 : Int) := of_decide_eq_true zq1
                        have q74 : x10_5 < ((x0_1.extract ((ji47) : Int).toNat (x7_5 : Int).toNat).size : Int) := of_decide_eq_true zq1
                        have hx74 := bt_at (x0_1.extract ((ji47) : Int).toNat (x7_5 : Int).toNat) x10_5
                        replace p74 := eq_true p74
                        replace q74 := eq_true q74
                        have p76 : 0 ≤ (x10_5 : Int) := of_decide_eq_true zq1
                        have q76 : x10_5 < ((x0_1.extract ((ji47) : Int).toNat (x7_5 : Int).toNat).size : Int) := of_decide_eq_true zq1
                        have hx76 := bt_at (x0_1.extract ((ji47) : Int).toNat (x7_5 : Int).toNat) x10_5
                        replace p76 := eq_true p76
                        replace q76 := eq_true q76
                        go_wp2
                        go_ret2
                        exact ⟨_, zq75, zq86, zq23⟩
                       ·rw [if_neg c77] at H
                        have c77b0 : decide ((bt (x0_1.extract ((ji47) : Int).toNat (x7_5 : Int).toNat) x10_5) < 97) = false := decide_eq_false c77
                        clear c77
                        by_cases c80 : (bt (x0_1.extract ((ji47) : Int).toNat (x7_5 : Int).toNat) x10_5) > 102
                        ·rw [if_pos c80] at H
                         have c80b0 : decide (102 < (bt (x0_1.extract ((ji47) : Int).toNat (x7_5 : Int).toNat) x10_5)) = true := decide_eq_true c80
                         clear c80
                         simp only [Option.some.injEq, Prod.mk.injEq] at H
                         obtain ⟨rfl, rfl⟩ := H
                         have hcz81_0 : wr.cell? ⟨gb123, 0, none⟩ = some (.int .u8 (bt x0_1 0)) := (blk_cell BK123.out 0).trans rfl
                         have hcz81_1 : wr.cell? ⟨gb123, 1, none⟩ = some (.string (x0_1.extract 2 ((wrap64 ((wrap64 (x7_5 - (wrap64 (2 * a1)))) - 1)) : Int).toNat)) := (blk_cell BK123.out 1).trans rfl
                         have hcz81_2 : wr.cell? ⟨gb123, 2, none⟩ = some (.string (x0_1.extract ((ji47) : Int).toNat (x7_5 : Int).toNat)) := (blk_cell BK123.out 2).trans rfl
                         have hfz81_0 := blk_frozen BK123.out 0
                         have hfz81_1 := blk_frozen BK123.out 1
                         have hfz81_2 := blk_frozen BK123.out 2
                         have p74 : 0 ≤ (x10_5 : Int) := of_decide_eq_true zq1
                         have q74 : x10_5 < ((x0_1.extract ((ji47) : Int).toNat (x7_5 : Int).toNat).size : Int) := of_decide_eq_true zq1
                         have hx74 := bt_at (x0_1.extract ((ji47) : Int).toNat (x7_5 : Int).toNat) x10_5
                         replace p74 := eq_true p74
                         replace q74 := eq_true q74
                         have p76 : 0 ≤ (x10_5 : Int) := of_decide_eq_true zq1
                         have q76 : x10_5 < ((x0_1.extract ((ji47) : Int).toNat (x7_5 : Int).toNat).size : Int) := of_decide_eq_true zq1
                         have hx76 := bt_at (x0_1.extract ((ji47) : Int).toNat (x7_5 : Int).toNat) x10_5
                         replace p76 := eq_true p76
                         replace q76 := eq_true q76
                         have p79 : 0 ≤ (x10_5 : Int) := of_decide_eq_true zq1
                         have q79 : x10_5 < ((x0_1.extract ((ji47) : Int).toNat (x7_5 : Int).toNat).size : Int) := of_decide_eq_true zq1
                         have hx79 := bt_at (x0_1.extract ((ji47) : Int).toNat (x7_5 : Int).toNat) x10_5
                         replace p79 := eq_true p79
                         replace q79 := eq_true q79
                         go_wp2
                         go_ret2
                         exact ⟨_, zq75, zq86, zq23⟩
                        ·rw [if_neg c80] at H
                         have c80b0 : decide (102 < (bt (x0_1.extract ((ji47) : Int).toNat (x7_5 : Int).toNat) x10_5)) = false := decide_eq_false c80
                         clear c80
                         have H' := AZ.mk H
                         clear H
                         have hcz82_0 : wr.cell? ⟨gb123, 0, none⟩ = some (.int .u8 (bt x0_1 0)) := (blk_cell BK123.out 0).trans rfl
                         have hcz82_1 : wr.cell? ⟨gb123, 1, none⟩ = some (.string (x0_1.extract 2 ((wrap64 ((wrap64 (x7_5 - (wrap64 (2 * a1)))) - 1)) : Int).toNat)) := (blk_cell BK123.out 1).trans rfl
                         have hcz82_2 : wr.cell? ⟨gb123, 2, none⟩ = some (.string (x0_1.extract ((ji47) : Int).toNat (x7_5 : Int).toNat)) := (blk_cell BK123.out 2).trans rfl
                         have hfz82_0 := blk_frozen BK123.out 0
                         have hfz82_1 := blk_frozen BK123.out 1
                         have hfz82_2 := blk_frozen BK123.out 2
                         have p74 : 0 ≤ (x10_5 : Int) := of_decide_eq_true zq1
                         have q74 : x10_5 < ((x0_1.extract ((ji47) : Int).toNat (x7_5 : Int).toNat).size : Int) := of_decide_eq_true zq1
                         have hx74 := bt_at (x0_1.extract ((ji47) : Int).toNat (x7_5 : Int).toNat) x10_5
                         replace p74 := eq_true p74
                         replace q74 := eq_true q74
                         have p76 : 0 ≤ (x10_5 : Int) := of_decide_eq_true zq1
                         have q76 : x10_5 < ((x0_1.extract ((ji47) : Int).toNat (x7_5 : Int).toNat).size : Int) := of_decide_eq_true zq1
                         have hx76 := bt_at (x0_1.extract ((ji47) : Int).toNat (x7_5 : Int).toNat) x10_5
                         replace p76 := eq_true p76
                         replace q76 := eq_true q76
                         have p79 : 0 ≤ (x10_5 : Int) := of_decide_eq_true zq1
                         have q79 : x10_5 < ((x0_1.extract ((ji47) : Int).toNat (x7_5 : Int).toNat).size : Int) := of_decide_eq_true zq1
                         have hx79 := bt_at (x0_1.extract ((ji47) : Int).toNat (x7_5 : Int).toNat) x10_5
                         replace p79 := eq_true p79
                         replace q79 := eq_true q79
                         go_wp2
                         go_roundg k5
                         case measure => have := HK1.out; have := HJ5.out; have := HJ10.out; have := HJ50.out; have := HK5.out; omega
                         case rel => exact ⟨(wrap64 (x10_5 + 1)), zq8, H', ⟨zq114⟩, ⟨zq15⟩, ⟨zq61⟩, ⟨zq23⟩⟩
                      ·rw [if_neg c75] at H
                       have c75b0 : decide ((bt (x0_1.extract ((ji47) : Int).toNat (x7_5 : Int).toNat) x10_5) < 48) = false := decide_eq_false c75
                       clear c75
                       by_cases c84 : (bt (x0_1.extract ((ji47) : Int).toNat (x7_5 : Int).toNat) x10_5) > 57
                       ·rw [if_pos c84] at H
                        have c84b0 : decide (57 < (bt (x0_1.extract ((ji47) : Int).toNat (x7_5 : Int).toNat) x10_5)) = true := decide_eq_true c84
                        clear c84
                        by_cases c86 : (bt (x0_1.extract ((ji47) : Int).toNat (x7_5 : Int).toNat) x10_5) < 97
                        ·rw [if_pos c86] at H
                         have c86b0 : decide ((bt (x0_1.extract ((ji47) : Int).toNat (x7_5 : Int).toNat) x10_5) < 97) = true := decide_eq_true c86
                         clear c86
                         simp only [Option.some.injEq, Prod.mk.injEq] at H
                         obtain ⟨rfl, rfl⟩ := H
                         have hcz87_0 : wr.cell? ⟨gb123, 0, none⟩ = some (.int .u8 (bt x0_1 0)) := (blk_cell BK123.out 0).trans rfl
                         have hcz87_1 : wr.cell? ⟨gb123, 1, none⟩ = some (.string (x0_1.extract 2 ((wrap64 ((wrap64 (x7_5 - (wrap64 (2 * a1)))) - 1)) : Int).toNat)) := (blk_cell BK123.out 1).trans rfl
                         have hcz87_2 : wr.cell? ⟨gb123, 2, none⟩ = some (.string (x0_1.extract ((ji47) : Int).toNat (x7_5 : Int).toNat)) := (blk_cell BK123.out 2).trans rfl
                         have hfz87_0 := blk_frozen BK123.out 0
                         have hfz87_1 := blk_frozen BK123.out 1
                         have hfz87_2 := blk_frozen BK123.out 2
                         have p74 : 0 ≤ (x10_5 : Int) := of_decide_eq_true zq1
                         have q74 : x10_5 < ((x0_1.extract ((ji47) : Int).toNat (x7_5 : Int).toNat).size : Int) := of_decide_eq_true zq1
                         have hx74 := bt_at (x0_1.extract ((ji47) : Int).toNat (x7_5 : Int).toNat) x10_5
                         replace p74 := eq_true p74
                         replace q74 := eq_true q74
                         have p83 : 0 ≤ (x10_5 : Int) := of_decide_eq_true zq1
                         have q83 : x10_5 < ((x0_1.extract ((ji47) : Int).toNat (x7_5 : Int).toNat).size : Int) := of_decide_eq_true zq1
                         have hx83 := bt_at (x0_1.extract ((ji47) : Int).toNat (x7_5 : Int).toNat) x10_5
                         replace p83 := eq_true p83
                         replace q83 := eq_true q83
                         have p85 : 0 ≤ (x10_5 : Int) := of_decide_eq_true zq1
                         have q85 : x10_5 < ((x0_1.extract ((ji47) : Int).toNat (x7_5 : Int).toNat).size : Int) := of_decide_eq_true zq1
                         have hx85 := bt_at (x0_1.extract ((ji47) : Int).toNat (x7_5 : Int).toNat) x10_5
                         replace p85 := eq_true p85
                         replace q85 := eq_true q85
                         go_wp2
                         go_ret2
                         exact ⟨_, zq75, zq86, zq23⟩
                        ·rw [if_neg c86] at H
                         have c86b0 : decide ((bt (x0_1.extract ((ji47) : Int).toNat (x7_5 : Int).toNat) x10_5) < 97) = false := decide_eq_false c86
                         clear c86
                         by_cases c89 : (bt (x0_1.extract ((ji47) : Int).toNat (x7_5 : Int).toNat) x10_5) > 102
                         ·rw [if_pos c89] at H
                          have c89b0 : decide (102 < (bt (x0_1.extract ((ji47) : Int).toNat (x7_5 : Int).toNat) x10_5)) = true := decide_eq_true c89
                          clear c89
                          simp only [Option.some.injEq, Prod.mk.injEq] at H
                          obtain ⟨rfl, rfl⟩ := H
                          have hcz90_0 : wr.cell? ⟨gb123, 0, none⟩ = some (.int .u8 (bt x0_1 0)) := (blk_cell BK123.out 0).trans rfl
                          have hcz90_1 : wr.cell? ⟨gb123, 1, none⟩ = some (.string (x0_1.extract 2 ((wrap64 ((wrap64 (x7_5 - (wrap64 (2 * a1)))) - 1)) : Int).toNat)) := (blk_cell BK123.out 1).trans rfl
                          have hcz90_2 : wr.cell? ⟨gb123, 2, none⟩ = some (.string (x0_1.extract ((ji47) : Int).toNat (x7_5 : Int).toNat)) := (blk_cell BK123.out 2).trans rfl
                          have hfz90_0 := blk_frozen BK123.out 0
                          have hfz90_1 := blk_frozen BK123.out 1
                          have hfz90_2 := blk_frozen BK123.out 2
                          have p74 : 0 ≤ (x10_5 : Int) := of_decide_eq_true zq1
                          have q74 : x10_5 < ((x0_1.extract ((ji47) : Int).toNat (x7_5 : Int).toNat).size : Int) := of_decide_eq_true zq1
                          have hx74 := bt_at (x0_1.extract ((ji47) : Int).toNat (x7_5 : Int).toNat) x10_5
                          replace p74 := eq_true p74
                          replace q74 := eq_true q74
                          have p83 : 0 ≤ (x10_5 : Int) := of_decide_eq_true zq1
                          have q83 : x10_5 < ((x0_1.extract ((ji47) : Int).toNat (x7_5 : Int).toNat).size : Int) := of_decide_eq_true zq1
                          have hx83 := bt_at (x0_1.extract ((ji47) : Int).toNat (x7_5 : Int).toNat) x10_5
                          replace p83 := eq_true p83
                          replace q83 := eq_true q83
                          have p85 : 0 ≤ (x10_5 : Int) := of_decide_eq_true zq1
                          have q85 : x10_5 < ((x0_1.extract ((ji47) : Int).toNat (x7_5 : Int).toNat).size : Int) := of_decide_eq_true zq1
                          have hx85 := bt_at (x0_1.extract ((ji47) : Int).toNat (x7_5 : Int).toNat) x10_5
                          replace p85 := eq_true p85
                          replace q85 := eq_true q85
                          have p88 : 0 ≤ (x10_5 : Int) := of_decide_eq_true zq1
                          have q88 : x10_5 < ((x0_1.extract ((ji47) : Int).toNat (x7_5 : Int).toNat).size : Int) := of_decide_eq_true zq1
                          have hx88 := bt_at (x0_1.extract ((ji47) : Int).toNat (x7_5 : Int).toNat) x10_5
                          replace p88 := eq_true p88
                          replace q88 := eq_true q88
                          go_wp2
                          go_ret2
                          exact ⟨_, zq75, zq86, zq23⟩
                         ·rw [if_neg c89] at H
                          have c89b0 : decide (102 < (bt (x0_1.extract ((ji47) : Int).toNat (x7_5 : Int).toNat) x10_5)) = false := decide_eq_false c89
                          clear c89
                          have H' := AZ.mk H
                          clear H
                          have hcz91_0 : wr.cell? ⟨gb123, 0, none⟩ = some (.int .u8 (bt x0_1 0)) := (blk_cell BK123.out 0).trans rfl
                          have hcz91_1 : wr.cell? ⟨gb123, 1, none⟩ = some (.string (x0_1.extract 2 ((wrap64 ((wrap64 (x7_5 - (wrap64 (2 * a1)))) - 1)) : Int).toNat)) := (blk_cell BK123.out 1).trans rfl
                          have hcz91_2 : wr.cell? ⟨gb123, 2, none⟩ = some (.string (x0_1.extract ((ji47) : Int).toNat (x7_5 : Int).toNat)) := (blk_cell BK123.out 2).trans rfl
                          have hfz91_0 := blk_frozen BK123.out 0
                          have hfz91_1 := blk_frozen BK123.out 1
                          have hfz91_2 := blk_frozen BK123.out 2
                          have p74 : 0 ≤ (x10_5 : Int) := of_decide_eq_true zq1
                          have q74 : x10_5 < ((x0_1.extract ((ji47) : Int).toNat (x7_5 : Int).toNat).size : Int) := of_decide_eq_true zq1
                          have hx74 := bt_at (x0_1.extract ((ji47) : Int).toNat (x7_5 : Int).toNat) x10_5
                          replace p74 := eq_true p74
                          replace q74 := eq_true q74
                          have p83 : 0 ≤ (x10_5 : Int) := of_decide_eq_true zq1
                          have q83 : x10_5 < ((x0_1.extract ((ji47) : Int).toNat (x7_5 : Int).toNat).size : Int) := of_decide_eq_true zq1
                          have hx83 := bt_at (x0_1.extract ((ji47) : Int).toNat (x7_5 : Int).toNat) x10_5
                          replace p83 := eq_true p83
                          replace q83 := eq_true q83
                          have p85 : 0 ≤ (x10_5 : Int) := of_decide_eq_true zq1
                          have q85 : x10_5 < ((x0_1.extract ((ji47) : Int).toNat (x7_5 : Int).toNat).size : Int) := of_decide_eq_true zq1
                          have hx85 := bt_at (x0_1.extract ((ji47) : Int).toNat (x7_5 : Int).toNat) x10_5
                          replace p85 := eq_true p85
                          replace q85 := eq_true q85
                          have p88 : 0 ≤ (x10_5 : Int) := of_decide_eq_true zq1
                          have q88 : x10_5 < ((x0_1.extract ((ji47) : Int).toNat (x7_5 : Int).toNat).size : Int) := of_decide_eq_true zq1
                          have hx88 := bt_at (x0_1.extract ((ji47) : Int).toNat (x7_5 : Int).toNat) x10_5
                          replace p88 := eq_true p88
                          replace q88 := eq_true q88
                          go_wp2
                          go_roundg k5
                          case measure => have := HK1.out; have := HJ5.out; have := HJ10.out; have := HJ50.out; have := HK5.out; omega
                          case rel => exact ⟨(wrap64 (x10_5 + 1)), zq8, H', ⟨zq114⟩, ⟨zq15⟩, ⟨zq61⟩, ⟨zq23⟩⟩
                       ·rw [if_neg c84] at H
                        have c84b0 : decide (57 < (bt (x0_1.extract ((ji47) : Int).toNat (x7_5 : Int).toNat) x10_5)) = false := decide_eq_false c84
                        clear c84
                        have H' := AZ.mk H
                        clear H
                        have hcz92_0 : wr.cell? ⟨gb123, 0, none⟩ = some (.int .u8 (bt x0_1 0)) := (blk_cell BK123.out 0).trans rfl
                        have hcz92_1 : wr.cell? ⟨gb123, 1, none⟩ = some (.string (x0_1.extract 2 ((wrap64 ((wrap64 (x7_5 - (wrap64 (2 * a1)))) - 1)) : Int).toNat)) := (blk_cell BK123.out 1).trans rfl
                        have hcz92_2 : wr.cell? ⟨gb123, 2, none⟩ = some (.string (x0_1.extract ((ji47) : Int).toNat (x7_5 : Int).toNat)) := (blk_cell BK123.out 2).trans rfl
                        have hfz92_0 := blk_frozen BK123.out 0
                        have hfz92_1 := blk_frozen BK123.out 1
                        have hfz92_2 := blk_frozen BK123.out 2
                        have p74 : 0 ≤ (x10_5 : Int) := of_decide_eq_true zq1
                        have q74 : x10_5 < ((x0_1.extract ((ji47) : Int).toNat (x7_5 : Int).toNat).size : Int) := of_decide_eq_true zq1
                        have hx74 := bt_at (x0_1.extract ((ji47) : Int).toNat (x7_5 : Int).toNat) x10_5
                        replace p74 := eq_true p74
                        replace q74 := eq_true q74
                        have p83 : 0 ≤ (x10_5 : Int) := of_decide_eq_true zq1
                        have q83 : x10_5 < ((x0_1.extract ((ji47) : Int).toNat (x7_5 : Int).toNat).size : Int) := of_decide_eq_true zq1
                        have hx83 := bt_at (x0_1.extract ((ji47) : Int).toNat (x7_5 : Int).toNat) x10_5
                        replace p83 := eq_true p83
                        replace q83 := eq_true q83
                        go_wp2
                        go_roundg k5
                        case measure => have := HK1.out; have := HJ5.out; have := HJ10.out; have := HJ50.out; have := HK5.out; omega
                        case rel => exact ⟨(wrap64 (x10_5 + 1)), zq8, H', ⟨zq114⟩, ⟨zq15⟩, ⟨zq61⟩, ⟨zq23⟩⟩
                     ·rw [if_neg c73] at H
                      exact absurd H zq119
                    ·rw [if_neg c72] at H
                     have c72b0 : decide (x10_5 < ((x0_1.extract ((ji47) : Int).toNat (x7_5 : Int).toNat).size : Int)) = false := decide_eq_false c72
                     have c72b3 : (x10_5 < ((x7_5.toNat - ji47.toNat : Nat) : Int)) = False := eq_false zq117
                     clear c72
                     by_cases c93 : x6_1.length < 3518437208883
                     ·rw [if_pos c93] at H
                      have LMc93 := AZ.mk c93
                      clear c93
                      obtain ⟨y126, hy126⟩ : ∃ y_ : List (S78), y_ = (x6_1 ++ [(⟨(bt x0_1 0), (x0_1.extract 2 ((wrap64 ((wrap64 (x7_5 - (wrap64 (2 * a1)))) - 1)) : Int).toNat), (x0_1.extract ((ji47) : Int).toNat (x7_5 : Int).toNat)⟩ : S78)]) := ⟨_, rfl⟩
                      replace H : (if 0 ≤ (wrap64 (x7_5 + 1)) then (if (wrap64 (x7_5 + 1)) ≤ (x0_1.size : Int) then (spec_l9Read.l0 k5 (x0_1.extract ((wrap64 (x7_5 + 1)) : Int).toNat x0_1.size) a1 y126) else (none)) else (none)) = some (r1, r2) := by first | (rw [hy126]; with_reducible exact H) | (have H2_ := (Option.bind_some _ _).symm.trans H; rw [hy126]; with_reducible exact H2_) | (have H2_ := (Option.bind_some _ _).symm.trans H; with_reducible exact H2_) | with_reducible exact H | (rw [hy126]; exact H) | exact H
                      have Ny126 := AZ.mk hy126
                      clear hy126
                      obtain ⟨ji94, hji94⟩ : ∃ j_ : Int, (wrap64 (x7_5 + 1)) = j_ := ⟨_, rfl⟩
                      replace H : (if 0 ≤ (ji94) then (if (ji94) ≤ (x0_1.size : Int) then (spec_l9Read.l0 k5 (x0_1.extract ((ji94) : Int).toNat x0_1.size) a1 y126) else (none)) else (none)) = some (r1, r2) := by first | (rw [hji94] at H; exact H) | (simp only [hji94] at H ⊢; exact H)
                      have hji94w : (IntKind.i64.wrap (x7_5 + 1)) = ji94 := (i64_w _).trans hji94
                      by_cases c95 : 0 ≤ (ji94)
                      ·rw [if_pos c95] at H
                       have c95b0 := eq_true c95
                       have c95b1 : decide (0 ≤ (ji94)) = true := decide_eq_true c95
                       clear c95
                       by_cases c96 : (ji94) ≤ (x0_1.size : Int)
                       ·rw [if_pos c96] at H
                        have c96b0 := eq_true c96
                        have c96b1 : decide ((ji94) ≤ (x0_1.size : Int)) = true := decide_eq_true c96
                        clear c96
                        have H' := AZ.mk H
                        clear H
                        have hcz97_0 : wr.cell? ⟨gb123, 0, none⟩ = some (.int .u8 (bt x0_1 0)) := (blk_cell BK123.out 0).trans rfl
                        have hcz97_1 : wr.cell? ⟨gb123, 1, none⟩ = some (.string (x0_1.extract 2 ((wrap64 ((wrap64 (x7_5 - (wrap64 (2 * a1)))) - 1)) : Int).toNat)) := (blk_cell BK123.out 1).trans rfl
                        have hcz97_2 : wr.cell? ⟨gb123, 2, none⟩ = some (.string (x0_1.extract ((ji47) : Int).toNat (x7_5 : Int).toNat)) := (blk_cell BK123.out 2).trans rfl
                        have hfz97_0 := blk_frozen BK123.out 0
                        have hfz97_1 := blk_frozen BK123.out 1
                        have hfz97_2 := blk_frozen BK123.out 2
                        go_wp2_with (first | ((with_reducible refine gate_builtin (b := .append) (xs := #[.tmp 133, .tmp 135]) rfl ?_); (try (refine gate_guard zq105 ?_; dsimp only)); at_builtin; refine Kd.R_append k78 (w0 := w) w.heap.size rfl (.tmp 133) (.tmp 135) 74 78 (.agg #[(.int .u8 0), (.string ⟨#[]⟩), (.string ⟨#[]⟩)]) 40 rfl Tryd.underlying74 info78 rfl zq118 zq94 u6 x6_1 (⟨(bt x0_1 0), (x0_1.extract 2 ((wrap64 ((wrap64 (x7_5 - (wrap64 (2 * a1)))) - 1)) : Int).toNat), (x0_1.extract ((ji47) : Int).toNat (x7_5 : Int).toNat)⟩ : S78) [.int .u8 (bt x0_1 0), .string (x0_1.extract 2 ((wrap64 ((wrap64 (x7_5 - (wrap64 (2 * a1)))) - 1)) : Int).toNat), .string (x0_1.extract ((ji47) : Int).toNat (x7_5 : Int).toNat)] (fun k_ => k_ ≠ gb123) (fun _ => False) rfl rfl ?aP (fun _ hk => hk.elim) ?aF ?aO ?aB ?aS ?aL ?_; (case aP => exact k78_mkM _ _ _ (⟨(bt x0_1 0), (x0_1.extract 2 ((wrap64 ((wrap64 (x7_5 - (wrap64 (2 * a1)))) - 1)) : Int).toNat), (x0_1.extract ((ji47) : Int).toNat (x7_5 : Int).toNat)⟩ : S78)); (case aB => exact zq23); (case aF => exact (fun k_ hk => Kd.freshB (g := gb123) (o := .cells #[.int .u8 (bt x0_1 0), .string (x0_1.extract 2 ((wrap64 ((wrap64 (x7_5 - (wrap64 (2 * a1)))) - 1)) : Int).toNat), .string (x0_1.extract ((ji47) : Int).toNat (x7_5 : Int).toNat)] 78 (0, 0)) zq61 k_ hk)); (case aO => exact zq15); (case aS => exact (below_size zq23)); (case aL => have := LMc93.out; omega); intro v127 w98 ho hb hg hat; rw [← Ny126.out] at ho; have n0_ := AZ.mk (blk_grown (g := gb123) (o := .cells #[.int .u8 (bt x0_1 0), .string (x0_1.extract 2 ((wrap64 ((wrap64 (x7_5 - (wrap64 (2 * a1)))) - 1)) : Int).toNat), .string (x0_1.extract ((ji47) : Int).toNat (x7_5 : Int).toNat)] 78 (0, 0)) zq61 hg (Kd.R_away HO_6.out (fun _ hk => hk))); have n1_ := AZ.mk (hb); have n2_ := AZ.mk (ho); clear BK123; clear HB; clear HO_6; have BK123 := n0_; have HB := n1_; have HO128 := n2_; clear n0_ n1_ n2_; clear ho hb hg hat))
                        go_roundg k5
                        case measure => have := HK1.out; have := HJ5.out; have := HJ10.out; have := HJ50.out; have := HK5.out; omega
                        case rel => exact ⟨(x0_1.extract ((ji94) : Int).toNat x0_1.size), (y126), (by first | rfl | (simp; done) | (simp only [← hji94] <;> (first | rfl | simp)) | (simp [*]; done)), H', ⟨zq114⟩, ⟨by (with_reducible repeat (first | apply Kd.R_alloc | apply Kd.R_drewN | apply Kd.R_drew)); exact Kd.R_mono HO128.out (fun _ hk => trivial)⟩, ⟨zq23⟩⟩
                       ·rw [if_neg c96] at H
                        exact absurd H zq119
                      ·rw [if_neg c95] at H
                       exact absurd H zq119
                     ·rw [if_neg c93] at H
                      exact absurd H zq119
              ·rw [if_neg c50] at H
               exact absurd H zq119
             ·rw [if_neg c49] at H
              exact absurd H zq119
            ·rw [if_neg c48] at H
             exact absurd H zq119
           ·rw [if_neg c46] at H
            exact absurd H zq119
          ·rw [if_neg c45] at H
           exact absurd H zq119
         ·rw [if_neg c43] at H
          exact absurd H zq119
end Go.Proofs.YtgjipjffpodjlaaDoor.K
namespace Go.Proofs.YtgjipjffpodjlaaDoor.K
open Go.RowKit Go.Proofs.YtgjipjffpodjlaaDoorW.PrintWords Go.Proofs.YtgjipjffpodjlaaDoorW.PrintLast Go.Proofs.YtgjipjffpodjlaaDoorW.PrintMore
attribute [local go_sem] max2_int min2_int max_two min_two max_three min_three max_four min_four   
set_option linter.unusedVariables false
set_option linter.unusedSimpArgs false
mutual
def spec_Sum.l0 : Nat → ByteArray → Int → Int → Int → Option (ByteArray)
 | 0, _, _, _, _ => none
 | k + 1, x0, x1, x5, x6 => if x6 < (x0.size : Int) then (if 0 ≤ x6 then (spec_Sum.l0 k x0 x1 (IntKind.u64.wrap ((Go.bits .xor .u64 x5 (IntKind.u64.wrap (bt x0 x6))) * 1099511628211)) (wrap64 (x6 + 1))) else (none)) else (spec_Sum.l1 k x1 x5 (⟨#[]⟩ : ByteArray) 0)
def spec_Sum.l1 : Nat → Int → Int → ByteArray → Int → Option (ByteArray)
 | 0, _, _, _, _ => none
 | k + 1, x1, x5, x7, x8 => if x8 < x1 then ((some (([(Int.tmod x5 256) % 256] : List Int) : List Int)).bind fun y130 => (if (strOfNums y130).size + x7.size ≤ 9223372036854775807 then (spec_Sum.l1 k x1 (IntKind.u64.wrap (Int.tdiv x5 256)) ((strOfNums y130) ++ x7) (wrap64 (x8 + 1))) else (none))) else (some x7)
end
def spec_Sum.f (k : Nat) (a0 : ByteArray) (a1 : Int) : Option (ByteArray) := (spec_l1In.f a1 1 8).bind fun t129 => (if t129 = true then (spec_Sum.l0 k a0 a1 14695981039346656037 0) else (some (⟨#[]⟩ : ByteArray)))
theorem spec_Sum.mono_l : ∀ k, (∀ y0 y1 y2 y3, LeO (spec_Sum.l0 k y0 y1 y2 y3) (spec_Sum.l0 (k + 1) y0 y1 y2 y3)) ∧ (∀ y0 y1 y2 y3, LeO (spec_Sum.l1 k y0 y1 y2 y3) (spec_Sum.l1 (k + 1) y0 y1 y2 y3))
 | 0 => ⟨fun _ _ _ _ r h => by simp [spec_Sum.l0] at h, fun _ _ _ _ r h => by simp [spec_Sum.l1] at h⟩
 | k + 1 => by
  obtain ⟨ih0, ih1⟩ := spec_Sum.mono_l k
  refine ⟨?_, ?_⟩
  ·intro y0 y1 y2 y3
   unfold spec_Sum.l0
   repeat' first
   | (with_reducible exact ih0 _ _ _ _)
   | (with_reducible exact ih1 _ _ _ _)
   | (with_reducible exact LeO.refl _)
   | (with_reducible exact LeO.none _)
   | (with_reducible refine LeO.ite ?_ ?_)
   | (with_reducible refine LeO.bind ?_ (fun _ => ?_))
   | exact ih0 _ _ _ _
   | exact ih1 _ _ _ _
   | exact LeO.none _
   | refine LeO.ite ?_ ?_
   | refine LeO.bind ?_ (fun _ => ?_)
  ·intro y0 y1 y2 y3
   unfold spec_Sum.l1
   repeat' first
   | (with_reducible exact ih0 _ _ _ _)
   | (with_reducible exact ih1 _ _ _ _)
   | (with_reducible exact LeO.refl _)
   | (with_reducible exact LeO.none _)
   | (with_reducible refine LeO.ite ?_ ?_)
   | (with_reducible refine LeO.bind ?_ (fun _ => ?_))
   | exact ih0 _ _ _ _
   | exact ih1 _ _ _ _
   | exact LeO.none _
   | refine LeO.ite ?_ ?_
   | refine LeO.bind ?_ (fun _ => ?_)
theorem spec_Sum.mono : ∀ a0 a1 k, LeO (spec_Sum.f k a0 a1) (spec_Sum.f (k + 1) a0 a1) := by
 intro a0 a1 k
 obtain ⟨ih0, ih1⟩ := spec_Sum.mono_l k
 unfold spec_Sum.f
 repeat' first
   | (with_reducible exact ih0 _ _ _ _)
   | (with_reducible exact ih1 _ _ _ _)
   | (with_reducible exact LeO.refl _)
   | (with_reducible exact LeO.none _)
   | (with_reducible refine LeO.ite ?_ ?_)
   | (with_reducible refine LeO.bind ?_ (fun _ => ?_))
   | exact ih0 _ _ _ _
   | exact ih1 _ _ _ _
   | exact LeO.none _
   | refine LeO.ite ?_ ?_
   | refine LeO.bind ?_ (fun _ => ?_)
set_option maxHeartbeats 2000000 in
set_option maxRecDepth 100000 in
theorem spec_Sum.calls (k : Nat) (a0 : ByteArray) (a1 : Int) (r : ByteArray) (w : World) (h : spec_Sum.f k a0 a1 = some r) :
  Calls Tryd.prog 41 #[.string a0, .int .i64 a1] w fun e w' => e = .returned (.string r) ∧ Below w.heap.size w w' := by
 have HB := AZ.mk (Below.refl w.heap.size w)
 have H : ((spec_l1In.f a1 1 8).bind fun t129 => (if t129 = true then (spec_Sum.l0 k a0 a1 14695981039346656037 0) else (some (⟨#[]⟩ : ByteArray)))) = some r := h
 clear h
 replace H := Option.bind_eq_some_iff.mp H
 obtain ⟨t129, A30, H⟩ := H
 try dsimp only at H
 have A3 := AZ.mk A30
 clear A30
 by_cases c4 : t129 = true
 ·subst c4
  rw [if_pos rfl] at H
  have H' := AZ.mk H
  clear H
  go_enter Tryd.func41, Tryd.ntmps41
  go_wp2_with (first | ((with_reducible refine gate_callee (f := 39) rfl ?_); refine goesL_ (some 10) rfl rfl Tryd.func39 zq17 rfl #[.int .i64 a1, .int .i64 1, .int .i64 8] rfl zq2 ?_; (with_reducible refine (spec_l1In.calls a1 1 8 true _ A3.out).mono ?_); rintro e w' ⟨rfl, ⟨nd, rfl⟩⟩; refine ⟨_, rfl, ?_⟩))
  go_loopg [5, 6] k (fun kq v5 v6 w' => ∃ (x5_1 : Int) (x6_1 : Int), v5 = .int .u64 x5_1 ∧ v6 = .int .i64 x6_1 ∧ AZ (spec_Sum.l0 kq a0 a1 x5_1 x6_1 = some r) ∧ AZ (kq ≤ k) ∧ AZ (Below w.heap.size w w'))
  case atStart => exact ⟨(14695981039346656037), (0), zq8, zq8, H', ⟨Nat.le_refl _⟩, ⟨zq0⟩⟩
  case round =>
   clear H'
   try clear p2
   try clear c3
   try clear c4
   obtain ⟨x5_1, x6_1, rfl, rfl, HA, HK1, HB⟩ := hrel
   cases gk with
   | zero => exact absurd HA.out (by simp [spec_Sum.l0])
   | succ k1 =>
    have H := HA.out
    clear HA
    simp only [spec_Sum.l0] at H
    by_cases c5 : x6_1 < (a0.size : Int)
    ·rw [if_pos c5] at H
     have c5b0 : decide (x6_1 < (a0.size : Int)) = true := decide_eq_true c5
     clear c5
     by_cases c6 : 0 ≤ x6_1
     ·rw [if_pos c6] at H
      have c6b0 : decide (0 ≤ x6_1) = true := decide_eq_true c6
      clear c6
      have H' := AZ.mk H
      clear H
      have p7 : 0 ≤ (x6_1 : Int) := of_decide_eq_true zq1
      have q7 : x6_1 < (a0.size : Int) := of_decide_eq_true zq1
      have hx7 := bt_at a0 x6_1
      replace p7 := eq_true p7
      replace q7 := eq_true q7
      go_wp2
      go_roundg k1
      case measure => have := HK1.out; omega
      case rel => exact ⟨(IntKind.u64.wrap ((Go.bits .xor .u64 x5_1 (IntKind.u64.wrap (bt a0 x6_1))) * 1099511628211)), (wrap64 (x6_1 + 1)), zq8, zq8, H', ⟨zq121⟩, ⟨zq0⟩⟩
     ·rw [if_neg c6] at H
      exact absurd H zq119
    ·rw [if_neg c5] at H
     have c5b0 : decide (x6_1 < (a0.size : Int)) = false := decide_eq_false c5
     clear c5
     have H' := AZ.mk H
     clear H
     go_wp2
     go_loopg [5, 7, 8] k1 (fun kq v5 v7 v8 w' => ∃ (x5_2 : Int) (x7_2 : ByteArray) (x8_2 : Int), v5 = .int .u64 x5_2 ∧ v7 = .string x7_2 ∧ v8 = .int .i64 x8_2 ∧ AZ (spec_Sum.l1 kq a1 x5_2 x7_2 x8_2 = some r) ∧ AZ (kq ≤ k1) ∧ AZ (Below w.heap.size w w'))
     case atStart => exact ⟨(x5_1), ((⟨#[]⟩ : ByteArray)), (0), zq8, zq8, zq8, H', ⟨Nat.le_refl _⟩, ⟨zq0⟩⟩
     case round =>
      clear H'
      try clear p2
      try clear c3
      try clear c4
      try clear c5
      try clear c5b0
      try clear c6
      try clear c6b0
      try clear p6
      try clear p7
      try clear q7
      try clear hx7
      try clear p2
      try clear p7
      try clear q7
      obtain ⟨x5_2, x7_2, x8_2, rfl, rfl, rfl, HA, HK2, HB⟩ := hrel
      cases gk with
      | zero => exact absurd HA.out (by simp [spec_Sum.l1])
      | succ k2 =>
       have H := HA.out
       clear HA
       simp only [spec_Sum.l1] at H
       by_cases c8 : x8_2 < a1
       ·rw [if_pos c8] at H
        have c8b0 : decide (x8_2 < a1) = true := decide_eq_true c8
        clear c8
        obtain ⟨y130, hy130⟩ : ∃ y_ : List Int, y_ = (([(Int.tmod x5_2 256) % 256] : List Int)) := ⟨_, rfl⟩
        replace H : (if (strOfNums y130).size + x7_2.size ≤ 9223372036854775807 then (spec_Sum.l1 k2 a1 (IntKind.u64.wrap (Int.tdiv x5_2 256)) ((strOfNums y130) ++ x7_2) (wrap64 (x8_2 + 1))) else (none)) = some r := by first | (rw [hy130]; with_reducible exact H) | (have H2_ := (Option.bind_some _ _).symm.trans H; rw [hy130]; with_reducible exact H2_) | (have H2_ := (Option.bind_some _ _).symm.trans H; with_reducible exact H2_) | with_reducible exact H | (rw [hy130]; exact H) | exact H
        have Ny130 := AZ.mk hy130
        clear hy130
        by_cases c9 : (strOfNums y130).size + x7_2.size ≤ 9223372036854775807
        ·rw [if_pos c9] at H
         have c9b0 := eq_true c9
         have c9b1 : decide ((strOfNums y130).size + x7_2.size ≤ 9223372036854775807) = true := decide_eq_true c9
         try have c9b2 : (9223372036854775807 < (strOfNums y130).size + x7_2.size) = False := eq_false (Nat.not_lt.2 c9)
         have H' := AZ.mk H
         clear H
         go_wp2_with (first | ((with_reducible refine gate_dst (N := 33) rfl ?_); refine Kd.R_lit (Kd.int .u8) _ 5 ?hg (N := 33) ?hd (xs := ([(Int.tmod x5_2 256) % 256] : List Int)) (inner := [.int .u8 ((Int.tmod x5_2 256) % 256)]) (ok := fun _ => True) (okp := fun _ => True) ?hr ?hp (fun _ hk => hk) trivial (Below.refl _ _) (Nat.le_refl _) zq119 ?_; (case hd => rfl); (case hg => rfl); (case hr => first | (go_simp; done) | (go_simp; rfl)); (case hp => exact (Reps.one (show Kd.M (Kd.int .u8) _ _ _ ((Int.tmod x5_2 256) % 256) [.int .u8 ((Int.tmod x5_2 256) % 256)] from rfl) (Reps.none _ _))); intro v131 w10 ho11 hb hg_ hnew_; clear hg_ hnew_; (first | rw [← Ny130.out] at ho11 | (simp only [Int.reduceToNat] at ho11; rw [← Ny130.out] at ho11)); have n0_ := AZ.mk (Kd.R_lower ho11 (below_size zq0)); have n1_ := AZ.mk (below_step zq0 hb); clear HB; have HO132 := n0_; have HB := n1_; clear n0_ n1_; clear hb ho11; have hcv12 := own_string (P := Tryd.prog) Tryd.underlying25 Tryd.underlying5 Tryd.underlying9 (Kd.own_of_R HO132.out)))
         go_roundg k2
         case measure => have := HK1.out; have := HK2.out; omega
         case rel => exact ⟨(IntKind.u64.wrap (Int.tdiv x5_2 256)), ((strOfNums y130) ++ x7_2), (wrap64 (x8_2 + 1)), zq8, zq8, zq8, H', ⟨by have := HK1.out; have := HK2.out; omega⟩, ⟨zq0⟩⟩
        ·rw [if_neg c9] at H
         exact absurd H zq119
       ·rw [if_neg c8] at H
        have c8b0 : decide (x8_2 < a1) = false := decide_eq_false c8
        clear c8
        obtain rfl := Option.some.inj H
        go_wp2
        go_ret
        exact ⟨zq7, zq0⟩
 ·replace c4 := Bool.eq_false_iff.mpr c4
  subst c4
  rw [if_neg (show ¬ (false = true) by decide)] at H
  obtain rfl := Option.some.inj H
  go_enter Tryd.func41, Tryd.ntmps41
  go_wp2_with (first | ((with_reducible refine gate_callee (f := 39) rfl ?_); refine goesL_ (some 10) rfl rfl Tryd.func39 zq17 rfl #[.int .i64 a1, .int .i64 1, .int .i64 8] rfl zq2 ?_; (with_reducible refine (spec_l1In.calls a1 1 8 false _ A3.out).mono ?_); rintro e w' ⟨rfl, ⟨nd, rfl⟩⟩; refine ⟨_, rfl, ?_⟩))
  go_ret
  exact ⟨zq7, zq0⟩
end Go.Proofs.YtgjipjffpodjlaaDoor.K
namespace Go.Proofs.YtgjipjffpodjlaaDoor.K
open Go.RowKit Go.Proofs.YtgjipjffpodjlaaDoorW.PrintWords Go.Proofs.YtgjipjffpodjlaaDoorW.PrintLast Go.Proofs.YtgjipjffpodjlaaDoorW.PrintMore
attribute [local go_sem] max2_int min2_int max_two min_two max_three min_three max_four min_four   
set_option linter.unusedVariables false
set_option linter.unusedSimpArgs false
def spec_l9Find.l0 : Nat → List (S78) → ByteArray → Int → Option (Int × ByteArray × ByteArray)
 | 0, _, _, _ => none
 | k + 1, x0, x1, x5 => if x5 < (x0.length : Int) then (if 0 ≤ x5 then (if ((rd_T78 x0 x5).f1).toList = x1.toList then (some ((rd_T78 x0 x5).f0, (rd_T78 x0 x5).f1, (rd_T78 x0 x5).f2)) else (spec_l9Find.l0 k x0 x1 (wrap64 (x5 + 1)))) else (none)) else (some (0, (⟨#[]⟩ : ByteArray), (⟨#[]⟩ : ByteArray)))
def spec_l9Find.f (k : Nat) (l0 : List (S78)) (a1 : ByteArray) : Option (Int × ByteArray × ByteArray) := spec_l9Find.l0 k l0 a1 0
theorem spec_l9Find.mono_l : ∀ k, (∀ y0 y1 y2, LeO (spec_l9Find.l0 k y0 y1 y2) (spec_l9Find.l0 (k + 1) y0 y1 y2))
 | 0 => fun _ _ _ r h => by simp [spec_l9Find.l0] at h
 | k + 1 => by
  have ih0 := spec_l9Find.mono_l k
  ·intro y0 y1 y2
   unfold spec_l9Find.l0
   repeat' first
   | (with_reducible exact ih0 _ _ _)
   | (with_reducible exact LeO.refl _)
   | (with_reducible exact LeO.none _)
   | (with_reducible refine LeO.ite ?_ ?_)
   | (with_reducible refine LeO.bind ?_ (fun _ => ?_))
   | exact ih0 _ _ _
   | exact LeO.none _
   | refine LeO.ite ?_ ?_
   | refine LeO.bind ?_ (fun _ => ?_)
theorem spec_l9Find.mono : ∀ a0 a1 k, LeO (spec_l9Find.f k a0 a1) (spec_l9Find.f (k + 1) a0 a1) := by
 intro a0 a1 k
 have ih0 := spec_l9Find.mono_l k
 unfold spec_l9Find.f
 repeat' first
   | (with_reducible exact ih0 _ _ _)
   | (with_reducible exact LeO.refl _)
   | (with_reducible exact LeO.none _)
   | (with_reducible refine LeO.ite ?_ ?_)
   | (with_reducible refine LeO.bind ?_ (fun _ => ?_))
   | exact ih0 _ _ _
   | exact LeO.none _
   | refine LeO.ite ?_ ?_
   | refine LeO.bind ?_ (fun _ => ?_)
set_option maxHeartbeats 2000000 in
set_option maxRecDepth 100000 in
theorem spec_l9Find.calls (k : Nat) (A0 : Option Addr) (c0 : Nat) (l0 : List (S78)) (a1 : ByteArray) (r1 : Int) (r2 : ByteArray) (r3 : ByteArray) (w : World) (hr0 : Kd.C k78 w A0 l0.length l0) (hc0 : l0.length ≤ c0) (h : spec_l9Find.f k l0 a1 = some (r1, r2, r3)) :
  Calls Tryd.prog 43 #[.slice A0 l0.length c0, .string a1] w fun e w' => e = .returned (.agg #[.int .u8 r1, .string r2, .string r3]) ∧ Below w.heap.size w w' := by
 have hu78 := Tryd.underlying78
 have HR0 := AZ.mk hr0
 have HC0 := AZ.mk hc0
 clear hr0 hc0
 have HB := AZ.mk (Below.refl w.heap.size w)
 have H : (spec_l9Find.l0 k l0 a1 0) = some (r1, r2, r3) := h
 clear h
 have H' := AZ.mk H
 clear H
 go_enter Tryd.func43, Tryd.ntmps43
 go_wp2_with (first | ((with_reducible refine gate_dst (N := 4) rfl ?_); refine box_event ?hg (N := 4) ?hd (cs := #[.int .u8 0, .string (⟨#[]⟩ : ByteArray), .string (⟨#[]⟩ : ByteArray)]) (t := 78) ?hr ?_; (case hd => rfl); (case hg => rfl); (case hr => first | (go_simp; done) | (go_simp; rfl)); intro gb133 hg w3 hbox hb; have n0_ := AZ.mk (below_step zq0 hb); have n1_ := AZ.mk (hbox); have n2_ := AZ.mk ((by rw [hg]; exact (below_size zq0) : w.heap.size ≤ gb133)); have n3_ := AZ.mk ((by rw [hg]; exact (below_size zq0) : w.heap.size ≤ gb133)); clear HB; have HB := n0_; have BK133 := n1_; have GW133 := n2_; have GE133 := n3_; clear n0_ n1_ n2_ n3_; clear hb hbox hg))
 go_loopg [5] k (fun kq v5 w' => ∃ (x5_1 : Int) (x134000_1 : Int) (x134001_1 : ByteArray) (x134002_1 : ByteArray), v5 = .int .i64 x5_1 ∧ AZ (spec_l9Find.l0 kq l0 a1 x5_1 = some (r1, r2, r3)) ∧ AZ (kq ≤ k) ∧ AZ (w'.heap[gb133]? = some (.cells #[.int .u8 x134000_1, .string x134001_1, .string x134002_1] 78 (0, 0))) ∧ AZ (Below w.heap.size w w'))
 case atStart => exact ⟨(0), (0), ((⟨#[]⟩ : ByteArray)), ((⟨#[]⟩ : ByteArray)), zq8, H', ⟨Nat.le_refl _⟩, ⟨zq140⟩, ⟨zq96⟩⟩
 case round =>
  clear H'
  try clear p2
  obtain ⟨x5_1, x134000_1, x134001_1, x134002_1, rfl, HA, HK1, BK133, HB⟩ := hrel
  cases gk with
  | zero => exact absurd HA.out (by simp [spec_l9Find.l0])
  | succ k1 =>
   have H := HA.out
   clear HA
   simp only [spec_l9Find.l0] at H
   by_cases c4 : x5_1 < (l0.length : Int)
   ·rw [if_pos c4] at H
    have c4b0 : decide (x5_1 < (l0.length : Int)) = true := decide_eq_true c4
    clear c4
    by_cases c5 : 0 ≤ x5_1
    ·rw [if_pos c5] at H
     have c5b0 : decide (0 ≤ x5_1) = true := decide_eq_true c5
     clear c5
     by_cases c6 : ((rd_T78 l0 x5_1).f1).toList = a1.toList
     ·rw [if_pos c6] at H
      have c6b0 : (((rd_T78 l0 x5_1).f1).toList == a1.toList) = true := beq_iff_eq.mpr c6
      have c6b1 : (((rd_T78 l0 x5_1).f1).toList != a1.toList) = false := bne_eq_false_iff_eq.mpr c6
      clear c6
      simp only [Option.some.injEq, Prod.mk.injEq] at H
      obtain ⟨rfl, rfl, rfl⟩ := H
      have p134 : 0 ≤ (x5_1 : Int) := of_decide_eq_true zq1
      have q134 : x5_1 < (l0.length : Int) := of_decide_eq_true zq1
      obtain ⟨ad134, e134, hx134_0, hx134_1, hx134_2⟩ := at_T78 HR0.out x5_1 p134 q134
      cases e134
      replace hx134_0 := (HB.out.cell (World.block_lt_of_cell? w _ hx134_0)).trans hx134_0
      replace hx134_1 := (HB.out.cell (World.block_lt_of_cell? w _ hx134_1)).trans hx134_1
      replace hx134_2 := (HB.out.cell (World.block_lt_of_cell? w _ hx134_2)).trans hx134_2
      replace p134 := eq_true p134
      replace q134 := eq_true q134
      have p135 : 0 ≤ (x5_1 : Int) := of_decide_eq_true zq1
      have q135 : x5_1 < (l0.length : Int) := of_decide_eq_true zq1
      obtain ⟨ad135, e135, hx135_0, hx135_1, hx135_2⟩ := at_T78 HR0.out x5_1 p135 q135
      obtain rfl : ad134 = ad135 := (by injection e135)
      replace hx135_0 := (HB.out.cell (World.block_lt_of_cell? w _ hx135_0)).trans hx135_0
      replace hx135_1 := (HB.out.cell (World.block_lt_of_cell? w _ hx135_1)).trans hx135_1
      replace hx135_2 := (HB.out.cell (World.block_lt_of_cell? w _ hx135_2)).trans hx135_2
      replace p135 := eq_true p135
      replace q135 := eq_true q135
      have hcz7_0 : wr.cell? ⟨gb133, 0, none⟩ = some (.int .u8 x134000_1) := (blk_cell BK133.out 0).trans rfl
      have hcz7_1 : wr.cell? ⟨gb133, 1, none⟩ = some (.string x134001_1) := (blk_cell BK133.out 1).trans rfl
      have hcz7_2 : wr.cell? ⟨gb133, 2, none⟩ = some (.string x134002_1) := (blk_cell BK133.out 2).trans rfl
      have hfz7_0 := blk_frozen BK133.out 0
      have hfz7_1 := blk_frozen BK133.out 1
      have hfz7_2 := blk_frozen BK133.out 2
      go_wp2
      refine bodyPost_ret (results_cell_row rfl _ _ gb133 78 #[.int .u8 ((rd_T78 l0 x5_1).f0), .string ((rd_T78 l0 x5_1).f1), .string ((rd_T78 l0 x5_1).f2)] (0, 0) _ rfl (by (with_reducible repeat (first | refine blk_drewN ?_ _ | refine blk_drew ?_ | refine blk_alloc ?_ _)); refine blk_put (cs := #[.int .u8 ((rd_T78 l0 x5_1).f0), .string ((rd_T78 l0 x5_1).f1), .string x134002_1]) ?_ 2 _ rfl; (with_reducible repeat (first | refine blk_drewN ?_ _ | refine blk_drew ?_ | refine blk_alloc ?_ _)); refine blk_put (cs := #[.int .u8 ((rd_T78 l0 x5_1).f0), .string x134001_1, .string x134002_1]) ?_ 1 _ rfl; (with_reducible repeat (first | refine blk_drewN ?_ _ | refine blk_drew ?_ | refine blk_alloc ?_ _)); refine blk_put (cs := #[.int .u8 x134000_1, .string x134001_1, .string x134002_1]) ?_ 0 _ rfl; (with_reducible repeat (first | refine blk_drewN ?_ _ | refine blk_drew ?_ | refine blk_alloc ?_ _)); exact BK133.out) Tryd.underlying78 rfl zq17) rfl ?_
      exact ⟨zq7, zq96⟩
     ·rw [if_neg c6] at H
      have c6b0 : (((rd_T78 l0 x5_1).f1).toList == a1.toList) = false := beq_eq_false_iff_ne.mpr c6
      have c6b1 : (((rd_T78 l0 x5_1).f1).toList != a1.toList) = true := bne_iff_ne.mpr c6
      have H' := AZ.mk H
      clear H
      have p134 : 0 ≤ (x5_1 : Int) := of_decide_eq_true zq1
      have q134 : x5_1 < (l0.length : Int) := of_decide_eq_true zq1
      obtain ⟨ad134, e134, hx134_0, hx134_1, hx134_2⟩ := at_T78 HR0.out x5_1 p134 q134
      cases e134
      replace hx134_0 := (HB.out.cell (World.block_lt_of_cell? w _ hx134_0)).trans hx134_0
      replace hx134_1 := (HB.out.cell (World.block_lt_of_cell? w _ hx134_1)).trans hx134_1
      replace hx134_2 := (HB.out.cell (World.block_lt_of_cell? w _ hx134_2)).trans hx134_2
      replace p134 := eq_true p134
      replace q134 := eq_true q134
      go_wp2
      go_roundg k1
      case measure => have := HK1.out; omega
      case rel => exact ⟨(wrap64 (x5_1 + 1)), (x134000_1), (x134001_1), (x134002_1), zq8, H', ⟨zq121⟩, ⟨zq140⟩, ⟨zq96⟩⟩
    ·rw [if_neg c5] at H
     exact absurd H zq119
   ·rw [if_neg c4] at H
    have c4b0 : decide (x5_1 < (l0.length : Int)) = false := decide_eq_false c4
    clear c4
    simp only [Option.some.injEq, Prod.mk.injEq] at H
    obtain ⟨rfl, rfl, rfl⟩ := H
    have hcz8_0 : wr.cell? ⟨gb133, 0, none⟩ = some (.int .u8 x134000_1) := (blk_cell BK133.out 0).trans rfl
    have hcz8_1 : wr.cell? ⟨gb133, 1, none⟩ = some (.string x134001_1) := (blk_cell BK133.out 1).trans rfl
    have hcz8_2 : wr.cell? ⟨gb133, 2, none⟩ = some (.string x134002_1) := (blk_cell BK133.out 2).trans rfl
    have hfz8_0 := blk_frozen BK133.out 0
    have hfz8_1 := blk_frozen BK133.out 1
    have hfz8_2 := blk_frozen BK133.out 2
    go_wp2
    refine bodyPost_ret (results_cell_row rfl _ _ gb133 78 #[.int .u8 0, .string (⟨#[]⟩ : ByteArray), .string (⟨#[]⟩ : ByteArray)] (0, 0) _ rfl (by (with_reducible repeat (first | refine blk_drewN ?_ _ | refine blk_drew ?_ | refine blk_alloc ?_ _)); refine blk_put (cs := #[.int .u8 0, .string (⟨#[]⟩ : ByteArray), .string x134002_1]) ?_ 2 _ rfl; (with_reducible repeat (first | refine blk_drewN ?_ _ | refine blk_drew ?_ | refine blk_alloc ?_ _)); refine blk_put (cs := #[.int .u8 0, .string x134001_1, .string x134002_1]) ?_ 1 _ rfl; (with_reducible repeat (first | refine blk_drewN ?_ _ | refine blk_drew ?_ | refine blk_alloc ?_ _)); refine blk_put (cs := #[.int .u8 x134000_1, .string x134001_1, .string x134002_1]) ?_ 0 _ rfl; (with_reducible repeat (first | refine blk_drewN ?_ _ | refine blk_drew ?_ | refine blk_alloc ?_ _)); exact BK133.out) Tryd.underlying78 rfl zq17) rfl ?_
    exact ⟨zq7, zq96⟩
end Go.Proofs.YtgjipjffpodjlaaDoor.K
