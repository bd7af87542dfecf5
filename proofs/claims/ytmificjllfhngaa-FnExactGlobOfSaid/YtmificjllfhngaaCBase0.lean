/- Plain laws of lists and of the printed functions' rounds: what copies, compares and looks through lists of whole numbers. -/
import Derived.Test.YtmificjllfhngaaCP0
import Derived.Test.YtmificjllfhngaaC0
import Derived.Test.YtmificjllfhngaaC1
set_option linter.unusedVariables false
set_option linter.unusedSimpArgs false
namespace Go.Proofs.Ytmificjllfhngaa.Pure
open Go.RowKit Go.Proofs.Ytmificjllfhngaa.P Go.Proofs.YtmificjllfhngaaW.PrintWords

theorem w64 {x : Int} (h : -9223372036854775808 ≤ x) (h2 : x ≤ 9223372036854775807) : wrap64 x = x := by unfold wrap64; omega
theorem Ev.pos {α : Type} {c : Prop} [Decidable c] {f g : Nat → Option α} {r : α} (h : c) (k : Ev f r) : Ev (fun n => if c then f n else g n) r := Ev.congr (fun _ => if_pos h) k
theorem Ev.neg {α : Type} {c : Prop} [Decidable c] {f g : Nat → Option α} {r : α} (h : ¬ c) (k : Ev g r) : Ev (fun n => if c then f n else g n) r := Ev.congr (fun _ => if_neg h) k
theorem Ev.some' {α : Type} {a r : α} (h : a = r) : Ev (fun _ => some a) r := h ▸ Ev.now a
theorem Ev.bind0 {α β : Type} {g : Option α} {f : Nat → α → Option β} {a : α} {r : β} (h : g = some a) (k : Ev (fun n => f n a) r) : Ev (fun n => g.bind (f n)) r := by
 subst h
 exact k
theorem Ev.eq0 {α : Type} {g : Option α} {r : α} (h : g = some r) : Ev (fun _ => g) r := h ▸ Ev.now r
theorem Ev.get {α : Type} {g : Nat → Option α} {r : α} (h : Ev g r) : ∃ k, g k = some r := Ev.rounds h

theorem rd_eq (l : List Int) {i : Nat} (h : i < l.length) : rd l (i : Int) = l[i] := rd_get l i h
theorem rd_eqI (l : List Int) {i : Int} (h0 : 0 ≤ i) (h : i < (l.length : Int)) : rd l i = l[i.toNat]'(by omega) := by
 obtain ⟨n, rfl⟩ := Int.eq_ofNat_of_zero_le h0
 exact rd_get l n (by omega)
theorem drop_cons {α : Type} (l : List α) {i : Nat} (h : i < l.length) : l.drop i = l[i] :: l.drop (i + 1) := List.drop_eq_getElem_cons h

theorem take_set_step {α : Type} (x0 x3 : List α) (i : Nat) (hi : i < x0.length) (hl : x3.length = x0.length) (h : x3.take i = x0.take i) : (x3.set i x0[i]).take (i + 1) = x0.take (i + 1) := by
 apply List.ext_getElem?
 intro j
 by_cases hj : j < i + 1
 ·rw [List.getElem?_take_of_lt hj, List.getElem?_take_of_lt hj]
  by_cases hji : j = i
  ·subst hji
   rw [List.getElem?_set_self (by omega), List.getElem?_eq_getElem hi]
  ·rw [List.getElem?_set_ne (by omega)]
   have h1 : (x3.take i)[j]? = (x0.take i)[j]? := congrArg (fun l => l[j]?) h
   rwa [List.getElem?_take_of_lt (by omega), List.getElem?_take_of_lt (by omega)] at h1
 ·rw [List.getElem?_eq_none (by rw [List.length_take]; omega), List.getElem?_eq_none (by rw [List.length_take]; omega)]
theorem toIntS_l (x0 : List Int) (hs : x0.length ≤ 1000000000000) : ∀ (d i : Nat) (x3 : List Int), i + d = x0.length → x3.length = x0.length → x3.take i = x0.take i → Ev (fun k => laws_toIntS.l0 k x0 x3 (i : Int)) x0
 | 0, i, x3, hd, hl, ht => by
  refine Ev.step (fun k => laws_toIntS.l0.eq_2 ..) (Ev.neg (by omega) (Ev.some' ?_))
  rw [List.take_of_length_le (by omega), List.take_of_length_le (by omega)] at ht
  exact ht
 | d + 1, i, x3, hd, hl, ht => by
  refine Ev.step (fun k => laws_toIntS.l0.eq_2 ..) (Ev.pos (by omega) (Ev.pos (by omega) (Ev.pos (by omega) ?_)))
  rw [w64 (by omega) (by omega), rd_eq x0 (show i < x0.length by omega), Int.toNat_natCast]
  exact toIntS_l x0 hs d (i + 1) _ (by omega) (by simpa using hl) (take_set_step x0 x3 i (by omega) hl ht)
theorem toIntS (l : List Int) (hs : l.length ≤ 1000000000000) : Ev (fun k => laws_toIntS.f k l) l := by
 unfold laws_toIntS.f
 exact Ev.pos (by omega) (Ev.pos (by omega) (toIntS_l l hs l.length 0 _ (by omega) (by simp) (by simp)))

theorem eqIntS_l (a b : List Int) (hs : a.length ≤ 1000000000000) (hl : a.length = b.length) : ∀ (d i : Nat), i + d = a.length → a.take i = b.take i → Ev (fun k => laws_eqIntS.l0 k a b (i : Int)) (decide (a = b))
 | 0, i, hd, ht => by
  refine Ev.step (fun k => laws_eqIntS.l0.eq_2 ..) (Ev.neg (by omega) (Ev.some' ?_))
  rw [List.take_of_length_le (by omega), List.take_of_length_le (by omega)] at ht
  simp [ht]
 | d + 1, i, hd, ht => by
  refine Ev.step (fun k => laws_eqIntS.l0.eq_2 ..) (Ev.pos (by omega) (Ev.pos (by omega) (Ev.pos (by omega) ?_)))
  rw [rd_eq a (show i < a.length by omega), rd_eq b (show i < b.length by omega)]
  by_cases h : a[i]'(by omega) = b[i]'(by omega)
  ·refine Ev.pos h ?_
   rw [w64 (by omega) (by omega)]
   refine eqIntS_l a b hs hl d (i + 1) (by omega) ?_
   rw [List.take_succ_eq_append_getElem (by omega), List.take_succ_eq_append_getElem (by omega), ht, h]
  ·refine Ev.neg h (Ev.some' ?_)
   symm
   rw [decide_eq_false_iff_not]
   rintro rfl
   exact h rfl
theorem eqIntS (a b : List Int) (hs : a.length ≤ 1000000000000) : Ev (fun k => laws_eqIntS.f k a b) (decide (a = b)) := by
 unfold laws_eqIntS.f
 by_cases hl : a.length = b.length
 ·exact Ev.pos (by omega) (eqIntS_l a b hs hl a.length 0 (by omega) (by simp))
 ·refine Ev.neg (by omega) (Ev.some' ?_)
  symm
  rw [decide_eq_false_iff_not]
  rintro rfl
  exact hl rfl
theorem eqIntS_self (a : List Int) (hs : a.length ≤ 1000000000000) : Ev (fun k => laws_eqIntS.f k a a) true := by
 have := eqIntS a a hs
 simpa using this
end Go.Proofs.Ytmificjllfhngaa.Pure
