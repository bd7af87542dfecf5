/- Plain laws of what is drawn: sets of runes. Only that they are drawn, and that they are short. -/
import Derived.Test.YtkpeihdlmjdejaaCP0
import Derived.Test.YtkpeihdlmjdejaaC4
import Derived.Test.YtkpeihdlmjdejaaC5
import Derived.Test.YtkpeihdlmjdejaaCCur1
import Derived.Test.YtkpeihdlmjdejaaCBase0
set_option linter.unusedVariables false
set_option linter.unusedSimpArgs false
namespace Go.Proofs.Ytkpeihdlmjdejaa.Pure
open Go.RowKit Go.Proofs.Ytkpeihdlmjdejaa.P Go.Proofs.YtkpeihdlmjdejaaW.PrintWords
theorem l1Own_eq (l : List Int) (h : l.length < 1000000) : spec_l1Own.f l = some l := by
 unfold spec_l1Own.f
 rw [Option.bind_some, if_pos (by simp only [List.length_nil]; omega)]
 rfl
theorem l1Least_tot (a b : Int) : ∃ r, spec_l1Least.f a b = some r := by
 unfold spec_l1Least.f
 split <;> exact ⟨_, rfl⟩
theorem l1Most_tot (a b : Int) : ∃ r, spec_l1Most.f a b = some r := by
 unfold spec_l1Most.f
 split <;> exact ⟨_, rfl⟩
theorem l4Add_end (out : List Int) (lo hi : Int) (he : out.length % 2 = 0) (hl : out.length ≤ 1000) (i : Nat) (hi' : i ≤ out.length) : ∃ r : List Int, Ev (fun _ => (spec_l1Own.f (out.take ((i : Int)).toNat)).bind fun t => ((some (([lo, hi] : List Int) : List Int)).bind fun y => (if t.length + y.length < 17592186044416 then ((some (t ++ y : List Int)).bind fun y2 => ((some (out.drop ((i : Int)).toNat : List Int)).bind fun y3 => (if y2.length + y3.length < 17592186044416 then (some (y2 ++ y3)) else (none)))) else (none)))) r ∧ r.length = out.length + 2 := by
 refine ⟨out.take i ++ [lo, hi] ++ out.drop i, ?_, by simp; omega⟩
 rw [Int.toNat_natCast]
 refine Ev.bind0 (l1Own_eq _ (by simp; omega)) (Ev.bind0 rfl (Ev.pos (by simp; omega) (Ev.bind0 rfl (Ev.bind0 rfl (Ev.pos (by simp; omega) (Ev.now _))))))
theorem l4Add_l1 (out : List Int) (lo hi : Int) (he : out.length % 2 = 0) (hl : out.length ≤ 1000) : ∀ (d i : Nat), i + 2 * d = out.length → ∃ r : List Int, Ev (fun k => spec_l4Add.l1 k lo hi out (i : Int)) r ∧ r.length = out.length + 2
 | 0, i, hd => by
  obtain ⟨r, hr, hl⟩ := l4Add_end out lo hi he hl i (by omega)
  exact ⟨r, Ev.step (fun k => spec_l4Add.l1.eq_2 ..) (Ev.neg (by omega) (Ev.pos (by omega) (Ev.pos (by omega) hr))), hl⟩
 | d + 1, i, hd => by
  by_cases c : rd out (i : Int) < lo
  ·obtain ⟨r, hr, h2⟩ := l4Add_l1 out lo hi he hl d (i + 2) (by omega)
   refine ⟨r, Ev.step (fun k => spec_l4Add.l1.eq_2 ..) (Ev.pos (by omega) (Ev.pos (by omega) (Ev.pos c ?_))), h2⟩
   rw [w64 (x := (i : Int) + 2) (by omega) (by omega)]
   exact hr
  ·obtain ⟨r, hr, h2⟩ := l4Add_end out lo hi he hl i (by omega)
   exact ⟨r, Ev.step (fun k => spec_l4Add.l1.eq_2 ..) (Ev.pos (by omega) (Ev.pos (by omega) (Ev.neg c (Ev.pos (by omega) hr)))), h2⟩
theorem l4Add_l0 (s : List Int) (he : s.length % 2 = 0) (hl : s.length ≤ 900) : ∀ (d i : Nat) (lo hi : Int) (out : List Int), i + 2 * d = s.length → out.length % 2 = 0 → out.length ≤ i → ∃ r : List Int, Ev (fun k => spec_l4Add.l0 k s lo hi out (i : Int)) r ∧ r.length % 2 = 0 ∧ r.length ≤ s.length + 2
 | 0, i, lo, hi, out, hd, h1, h2 => by
  obtain ⟨r, hr, h3⟩ := l4Add_l1 out lo hi h1 (by omega) (out.length / 2) 0 (by omega)
  exact ⟨r, Ev.step (fun k => spec_l4Add.l0.eq_2 ..) (Ev.neg (by omega) hr), by omega, by omega⟩
 | d + 1, i, lo, hi, out, hd, h1, h2 => by
  have hw : wrap64 ((i : Int) + 1) = (i : Int) + 1 := w64 (by omega) (by omega)
  have hw2 : wrap64 ((i : Int) + 2) = ((i + 2 : Nat) : Int) := by rw [w64 (by omega) (by omega)]; omega
  have hj : ∀ b : Bool, ∃ r : List Int, Ev (fun k => spec_l4Add.j1 k s lo hi out (i : Int) b) r ∧ r.length % 2 = 0 ∧ r.length ≤ s.length + 2 := fun b => by
   cases b
   ·obtain ⟨lo', h3⟩ := l1Least_tot lo (rd s (i : Int))
    obtain ⟨hi', h4⟩ := l1Most_tot hi (rd s ((i : Int) + 1))
    obtain ⟨r, hr, h5⟩ := l4Add_l0 s he hl d (i + 2) lo' hi' out (by omega) h1 (by omega)
    refine ⟨r, Ev.step (fun k => spec_l4Add.j1.eq_2 ..) (Ev.neg (by simp) ?_), h5⟩
    rw [hw, hw2]
    exact Ev.pos (by omega) (Ev.pos (by omega) (Ev.bind0 h3 (Ev.pos (by omega) (Ev.pos (by omega) (Ev.bind0 h4 hr)))))
   ·obtain ⟨r, hr, h5⟩ := l4Add_l0 s he hl d (i + 2) lo hi (out ++ [rd s (i : Int), rd s ((i : Int) + 1)]) (by omega) (by simp; omega) (by simp; omega)
    refine ⟨r, Ev.step (fun k => spec_l4Add.j1.eq_2 ..) (Ev.pos rfl ?_), h5⟩
    rw [hw, hw2]
    exact Ev.pos (by omega) (Ev.pos (by omega) (Ev.pos (by omega) (Ev.pos (by omega) (Ev.bind0 rfl (Ev.pos (by simp; omega) hr)))))
  by_cases c : rd s ((i : Int) + 1) < wrap64 (lo - 1)
  ·obtain ⟨r, hr, h5⟩ := hj true
   refine ⟨r, Ev.step (fun k => spec_l4Add.l0.eq_2 ..) (Ev.pos (by omega) ?_), h5⟩
   rw [hw]
   exact Ev.pos (by omega) (Ev.pos (by omega) (Ev.pos c hr))
  ·obtain ⟨r, hr, h5⟩ := hj (decide (rd s (i : Int) > wrap64 (hi + 1)))
   refine ⟨r, Ev.step (fun k => spec_l4Add.l0.eq_2 ..) (Ev.pos (by omega) ?_), h5⟩
   rw [hw]
   exact Ev.pos (by omega) (Ev.pos (by omega) (Ev.neg c (Ev.pos (by omega) hr)))
theorem l4Add_tot (s : List Int) (lo hi : Int) (he : s.length % 2 = 0) (hl : s.length ≤ 900) : ∃ r : List Int, Ev (fun k => spec_l4Add.f k s lo hi) r ∧ r.length % 2 = 0 ∧ r.length ≤ s.length + 2 := by
 unfold spec_l4Add.f
 exact l4Add_l0 s he hl (s.length / 2) 0 lo hi [] (by omega) (by simp) (by simp)
theorem l4Not_l (s : List Int) (he : s.length % 2 = 0) (hl : s.length ≤ 900) : ∀ (d i : Nat) (from_ : Int) (out : List Int), i + 2 * d = s.length → out.length % 2 = 0 → out.length ≤ i → ∃ r : List Int, Ev (fun k => spec_l4Not.l0 k s out from_ (i : Int)) r ∧ r.length % 2 = 0 ∧ r.length ≤ s.length + 2
 | 0, i, from_, out, hd, h1, h2 => by
  by_cases c : from_ ≤ 1114111
  ·exact ⟨out ++ [from_, 1114111], Ev.step (fun k => spec_l4Not.l0.eq_2 ..) (Ev.neg (by omega) (Ev.pos c (Ev.bind0 rfl (Ev.pos (by simp; omega) (Ev.now _))))), by simp; omega, by simp; omega⟩
  ·exact ⟨out, Ev.step (fun k => spec_l4Not.l0.eq_2 ..) (Ev.neg (by omega) (Ev.neg c (Ev.now _))), h1, by omega⟩
 | d + 1, i, from_, out, hd, h1, h2 => by
  have hw : wrap64 ((i : Int) + 1) = (i : Int) + 1 := w64 (by omega) (by omega)
  have hw2 : wrap64 ((i : Int) + 2) = ((i + 2 : Nat) : Int) := by rw [w64 (by omega) (by omega)]; omega
  by_cases c : rd s (i : Int) > from_
  ·obtain ⟨r, hr, h5⟩ := l4Not_l s he hl d (i + 2) (wrap64 (rd s ((i : Int) + 1) + 1)) (out ++ [from_, wrap64 (rd s (i : Int) - 1)]) (by omega) (by simp; omega) (by simp; omega)
   refine ⟨r, Ev.step (fun k => spec_l4Not.l0.eq_2 ..) (Ev.pos (by omega) (Ev.pos (by omega) (Ev.pos c (Ev.bind0 rfl (Ev.pos (by simp; omega) ?_))))), h5⟩
   rw [hw, hw2]
   exact Ev.pos (by omega) (Ev.pos (by omega) hr)
  ·obtain ⟨r, hr, h5⟩ := l4Not_l s he hl d (i + 2) (wrap64 (rd s ((i : Int) + 1) + 1)) out (by omega) h1 (by omega)
   refine ⟨r, Ev.step (fun k => spec_l4Not.l0.eq_2 ..) (Ev.pos (by omega) (Ev.pos (by omega) (Ev.neg c ?_))), h5⟩
   rw [hw, hw2]
   exact Ev.pos (by omega) (Ev.pos (by omega) hr)
theorem l4Not_tot (s : List Int) (he : s.length % 2 = 0) (hl : s.length ≤ 900) : ∃ r : List Int, Ev (fun k => spec_l4Not.f k s) r ∧ r.length % 2 = 0 ∧ r.length ≤ s.length + 2 := by
 unfold spec_l4Not.f
 exact l4Not_l s he hl (s.length / 2) 0 0 [] (by omega) (by simp) (by simp)
theorem cur_set_j1 {c : List Int} (hc : isBytes c) (x : List Int) (at_ s : Int) (h0 : 0 ≤ at_) (h1 : at_ ≤ 1000000000000) : ∃ l at' s', Ev (fun k => spec_l1Cur_set.j1 k x c at_ s) (l, at', s') ∧ l.length = x.length ∧ at_ ≤ at' ∧ at' ≤ at_ + 4 := by
 by_cases c1 : (x.length : Int) > 0
 ·obtain ⟨b, at1, s1, h, g1, g2⟩ := cur_one hc at_ s 30 h0 (by omega) (by omega)
  cases b
  ·exact ⟨x, at1, s1, Ev.step (fun k => spec_l1Cur_set.j1.eq_2 ..) (Ev.pos c1 (Ev.bind0 h (Ev.neg (by simp) (Ev.now _)))), rfl, by omega, by omega⟩
  ·obtain ⟨v, at2, s2, h2, g3, g4, g5⟩ := cur_among hc at1 s1 [(-1), 1114112, 64] (by decide) (by decide) (by omega) (by omega)
   exact ⟨x.set (0 : Int).toNat v, at2, s2, Ev.step (fun k => spec_l1Cur_set.j1.eq_2 ..) (Ev.pos c1 (Ev.bind0 h (Ev.pos rfl (Ev.bind0 h2 (Ev.pos (by omega) (Ev.now _)))))), by simp, by omega, by omega⟩
 ·exact ⟨x, at_, s, Ev.step (fun k => spec_l1Cur_set.j1.eq_2 ..) (Ev.neg c1 (Ev.now _)), rfl, by omega, by omega⟩
theorem cur_set_l {c : List Int} (hc : isBytes c) : ∀ (d : Nat) (x : List Int) (at_ s : Int), 0 ≤ at_ → at_ + 4 * d ≤ 100000000000 → x.length % 2 = 0 → x.length + 2 * d ≤ 800 → ∃ l at' s', Ev (fun k => spec_l1Cur_set.l0 k x (d : Int) c at_ s) (l, at', s') ∧ l.length ≤ x.length + 2 * d + 2 ∧ at_ ≤ at' ∧ at' ≤ at_ + 4 * d + 6
 | 0, x, at_, s, h0, h1, h2, h3 => by
  obtain ⟨b, at1, s1, h, g1, g2⟩ := cur_one hc at_ s 12 h0 (by omega) (by omega)
  cases b
  ·obtain ⟨l, at2, s2, h4, g3, g4, g5⟩ := cur_set_j1 hc x at1 s1 (by omega) (by omega)
   exact ⟨l, at2, s2, Ev.step (fun k => spec_l1Cur_set.l0.eq_2 ..) (Ev.neg (by omega) (Ev.bind0 h (Ev.neg (by simp) h4))), by omega, by omega, by omega⟩
  ·obtain ⟨r, hr, g6, g7⟩ := l4Not_tot x h2 (by omega)
   obtain ⟨l, at2, s2, h4, g3, g4, g5⟩ := cur_set_j1 hc r at1 s1 (by omega) (by omega)
   exact ⟨l, at2, s2, Ev.step (fun k => spec_l1Cur_set.l0.eq_2 ..) (Ev.neg (by omega) (Ev.bind0 h (Ev.pos rfl (Ev.bind hr h4)))), by omega, by omega, by omega⟩
 | d + 1, x, at_, s, h0, h1, h2, h3 => by
  obtain ⟨v, at1, s1, e1, _, g2, g3⟩ := cur_among hc at_ s [0, 48, 65, 70, 90, 97, 98, 110, 122, 200, 12354, 1114111] (by decide) (by decide) h0 (by omega)
  obtain ⟨v2, at2, s2, e2, _, g5, g6⟩ := cur_among hc at1 s1 [0, 0, 1, 2, 9, 25, 300] (by decide) (by decide) (by omega) (by omega)
  obtain ⟨m, e3⟩ := l1Least_tot 1114111 (wrap64 (v + v2))
  obtain ⟨r, e4, g7, g8⟩ := l4Add_tot x v m h2 (by omega)
  obtain ⟨l, at3, s3, e5, g9, g10, g11⟩ := cur_set_l hc d r at2 s2 (by omega) (by omega) g7 (by omega)
  refine ⟨l, at3, s3, Ev.step (fun k => spec_l1Cur_set.l0.eq_2 ..) (Ev.pos (by omega) (Ev.bind0 e1 (Ev.bind0 e2 (Ev.bind0 e3 (Ev.bind e4 ?_))))), by omega, by omega, by omega⟩
  rw [w64 (by omega) (by omega), show ((d + 1 : Nat) : Int) - 1 = (d : Int) from by omega]
  exact e5
theorem cur_set {c : List Int} (hc : isBytes c) (at_ s : Int) (h0 : 0 ≤ at_) (h1 : at_ ≤ 1000000000) : ∃ l at' s', Ev (fun k => spec_l1Cur_set.f k c at_ s) (l, at', s') ∧ l.length ≤ 10 ∧ at_ ≤ at' ∧ at' ≤ at_ + 30 := by
 unfold spec_l1Cur_set.f
 obtain ⟨v, at1, s1, h, g1, g2, g3, g4⟩ := cur_pick hc at_ s 4 h0 (by omega) (by omega)
 obtain ⟨l, at2, s2, e, e1, e2, e3⟩ := cur_set_l hc v.toNat [] at1 s1 (by omega) (by omega) (by simp) (by simp; omega)
 rw [Int.toNat_of_nonneg g1] at e
 simp only [List.length_nil] at e1
 exact ⟨l, at2, s2, Ev.bind0 h e, by omega, by omega, by omega⟩
end Go.Proofs.Ytkpeihdlmjdejaa.Pure
