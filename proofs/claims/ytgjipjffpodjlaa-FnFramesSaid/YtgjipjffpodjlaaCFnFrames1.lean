import Derived.WalkKit
import Derived.Lib.Strings
import Derived.Test.YtgjipjffpodjlaaCFnFrames0
namespace Go.Proofs.Ytgjipjffpodjlaa.U
open Go.RowKit Go.Proofs.YtgjipjffpodjlaaW.PrintWords Go.Proofs.YtgjipjffpodjlaaW.PrintLast Go.Proofs.YtgjipjffpodjlaaW.PrintMore
def Tot {α : Type} (g : Nat → Option α) (P : α → Prop) : Prop := ∃ r, Ev g r ∧ P r
section
variable {α β : Type} {P P' : α → Prop} {Q : β → Prop}
theorem Tot.now {r : α} (h : P r) : Tot (fun _ => some r) P := ⟨r, Ev.now r, h⟩
theorem Tot.bind {g : Nat → Option α} {f : Nat → α → Option β} (h : Tot g P) (k : ∀ a, P a → Tot (fun n => f n a) Q) : Tot (fun n => (g n).bind (f n)) Q := by
  obtain ⟨a, ha, hp⟩ := h
  obtain ⟨r, hr, hq⟩ := k a hp
  exact ⟨r, Ev.bind ha hr, hq⟩
theorem Tot.ev {g : Nat → Option α} {r : α} (h : Ev g r) : Tot g (fun x => x = r) := ⟨r, h, rfl⟩
theorem Tot.bindEv {g : Nat → Option α} {f : Nat → α → Option β} {a : α} (h : Ev g a) (k : Tot (fun n => f n a) Q) : Tot (fun n => (g n).bind (f n)) Q :=
  Tot.bind (Tot.ev h) (fun x hx => by subst hx; exact k)
theorem Tot.bindSome {a : α} {f : Nat → α → Option β} (k : Tot (fun n => f n a) Q) : Tot (fun n => (some a).bind (f n)) Q := k
theorem Tot.bindC {o : Option α} {a : α} {f : Nat → α → Option β} (h : o = some a) (k : Tot (fun n => f n a) Q) : Tot (fun n => o.bind (f n)) Q := by subst h; exact k
theorem Tot.ite {c : Prop} [Decidable c] {a b : Nat → Option α} (h1 : c → Tot a P) (h2 : ¬ c → Tot b P) : Tot (fun n => if c then a n else b n) P := by
  by_cases h : c
  · simpa only [if_pos h] using h1 h
  · simpa only [if_neg h] using h2 h
theorem Tot.pos {c : Prop} [Decidable c] {a b : Nat → Option α} (h : c) (k : Tot a P) : Tot (fun n => if c then a n else b n) P := by simpa only [if_pos h] using k
theorem Tot.neg {c : Prop} [Decidable c] {a b : Nat → Option α} (h : ¬ c) (k : Tot b P) : Tot (fun n => if c then a n else b n) P := by simpa only [if_neg h] using k
theorem Tot.mono {g : Nat → Option α} (h : Tot g P) (k : ∀ r, P r → P' r) : Tot g P' := by obtain ⟨r, hr, hp⟩ := h; exact ⟨r, hr, k r hp⟩
theorem Tot.step {g f : Nat → Option α} (h : ∀ k, g (k + 1) = f k) (k : Tot f P) : Tot g P := by obtain ⟨r, hr, hp⟩ := k; exact ⟨r, Ev.step h hr, hp⟩
theorem Tot.out {g : Nat → Option α} (h : Tot g P) : ∃ r, Ev g r ∧ P r := h
theorem Ev.uniq {g : Nat → Option α} {r r' : α} (h : Ev g r) (h' : Ev g r') : r = r' := by
  obtain ⟨K, h⟩ := h
  obtain ⟨K', h'⟩ := h'
  have := (h (max K K') (Nat.le_max_left _ _)).symm.trans (h' (max K K') (Nat.le_max_right _ _))
  exact Option.some.inj this
theorem Tot.toEv {g : Nat → Option α} {r : α} (h : Tot g (fun x => x = r)) : Ev g r := by obtain ⟨x, hx, rfl⟩ := h; exact hx
theorem Ev.pos {c : Prop} [Decidable c] {a b : Nat → Option α} {r : α} (h : c) (k : Ev a r) : Ev (fun n => if c then a n else b n) r := by simpa only [if_pos h] using k
theorem Ev.neg {c : Prop} [Decidable c] {a b : Nat → Option α} {r : α} (h : ¬ c) (k : Ev b r) : Ev (fun n => if c then a n else b n) r := by simpa only [if_neg h] using k
theorem Ev.bindC {o : Option α} {a : α} {f : Nat → α → Option β} {r : β} (h : o = some a) (k : Ev (fun n => f n a) r) : Ev (fun n => o.bind (f n)) r := by subst h; exact k
theorem Ev.const {o : Option α} {a : α} (h : o = some a) : Ev (fun _ => o) a := by subst h; exact Ev.now a
end
theorem w64 {n : Int} (h : -9223372036854775808 ≤ n ∧ n ≤ 9223372036854775807) : wrap64 n = n := IntWalk.wrap64_in n h
theorem u64 {n : Int} (h : 0 ≤ n ∧ n ≤ 18446744073709551615) : IntKind.u64.wrap n = n := IntWalk.u64_in n h
theorem size_app (a b : ByteArray) : (a ++ b).size = a.size + b.size := ByteArray.size_append
theorem size_ext (a : ByteArray) (i j : Nat) : (a.extract i j).size = min j a.size - i := ByteArray.size_extract
theorem text_ext {a b : ByteArray} (h : a.data.toList = b.data.toList) : a = b := by
  rcases a with ⟨⟨a⟩⟩
  rcases b with ⟨⟨b⟩⟩
  simp at h
  subst h
  rfl
theorem toList_app (a b : ByteArray) : (a ++ b).data.toList = a.data.toList ++ b.data.toList := by simp
theorem toList_ext (a : ByteArray) (i j : Nat) : (a.extract i j).data.toList = (a.data.toList.take j).drop i := by
  rw [ByteArray.data_extract, Array.toList_extract, List.extract_eq_take_drop, List.drop_take]
theorem size_list (a : ByteArray) : a.data.toList.length = a.size := by rw [Array.length_toList]; rfl
theorem toList_eq (a : ByteArray) : a.toList = a.data.toList := by
  rw [Lib.toList_data]
theorem text_inj {a b : ByteArray} : a.toList = b.toList ↔ a = b := by
  rw [toList_eq, toList_eq]
  exact ⟨text_ext, fun h => by rw [h]⟩
end Go.Proofs.Ytgjipjffpodjlaa.U
