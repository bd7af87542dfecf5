/- Plain laws of lists and of the printed functions' rounds: what copies, compares and looks through lists of whole numbers. -/
import Derived.Test.YtliafedmhgkciaaDoorCP0
set_option linter.unusedVariables false
set_option linter.unusedSimpArgs false
namespace Go.Proofs.YtliafedmhgkciaaDoor.Pure
open Go.RowKit Go.Proofs.YtliafedmhgkciaaDoor.P Go.Proofs.YtliafedmhgkciaaDoorW.PrintWords

theorem w64 {x : Int} (h : -9223372036854775808 ≤ x) (h2 : x ≤ 9223372036854775807) : wrap64 x = x := by unfold wrap64; omega
theorem Ev.pos {α : Type} {c : Prop} [Decidable c] {f g : Nat → Option α} {r : α} (h : c) (k : Ev f r) : Ev (fun n => if c then f n else g n) r := Ev.congr (fun _ => if_pos h) k
theorem Ev.neg {α : Type} {c : Prop} [Decidable c] {f g : Nat → Option α} {r : α} (h : ¬ c) (k : Ev g r) : Ev (fun n => if c then f n else g n) r := Ev.congr (fun _ => if_neg h) k
theorem Ev.some' {α : Type} {a r : α} (h : a = r) : Ev (fun _ => some a) r := h ▸ Ev.now a
theorem Ev.bind0 {α β : Type} {g : Option α} {f : Nat → α → Option β} {a : α} {r : β} (h : g = some a) (k : Ev (fun n => f n a) r) : Ev (fun n => g.bind (f n)) r := by
 subst h
 exact k
theorem Ev.eq0 {α : Type} {g : Option α} {r : α} (h : g = some r) : Ev (fun _ => g) r := h ▸ Ev.now r
theorem Ev.get {α : Type} {g : Nat → Option α} {r : α} (h : Ev g r) : ∃ k, g k = some r := Ev.rounds h

theorem rd_eq (l : List Int) {i : Nat} (h : i < l.length) : rd l (i : Int) = l[i] := rd_get l i h
theorem rd_eqI (l : List Int) {i : Int} (h0 : 0 ≤ i) (h : i < (l.length : Int)) : rd l i = l[i.toNat]'(by omega) := by
 obtain ⟨n, rfl⟩ := Int.eq_ofNat_of_zero_le h0
 exact rd_get l n (by omega)
theorem drop_cons {α : Type} (l : List α) {i : Nat} (h : i < l.length) : l.drop i = l[i] :: l.drop (i + 1) := List.drop_eq_getElem_cons h

theorem take_set_step {α : Type} (x0 x3 : List α) (i : Nat) (hi : i < x0.length) (hl : x3.length = x0.length) (h : x3.take i = x0.take i) : (x3.set i x0[i]).take (i + 1) = x0.take (i + 1) := by
 apply List.ext_getElem?
 intro j
 by_cases hj : j < i + 1
 ·rw [List.getElem?_take_of_lt hj, List.getElem?_take_of_lt hj]
  by_cases hji : j = i
  ·subst hji
   rw [List.getElem?_set_self (by omega), List.getElem?_eq_getElem hi]
  ·rw [List.getElem?_set_ne (by omega)]
   have h1 : (x3.take i)[j]? = (x0.take i)[j]? := congrArg (fun l => l[j]?) h
   rwa [List.getElem?_take_of_lt (by omega), List.getElem?_take_of_lt (by omega)] at h1
 ·rw [List.getElem?_eq_none (by rw [List.length_take]; omega), List.getElem?_eq_none (by rw [List.length_take]; omega)]

end Go.Proofs.YtliafedmhgkciaaDoor.Pure
