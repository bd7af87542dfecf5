/- Plain laws of borders: what the program's rounds leave is the longest border of each beginning, as the reference looks for it (Knuth, Morris and Pratt). -/
import Derived.Test.YtidimlopdgcklaaP10
import Derived.Test.YtidimlopdgcklaaP9
import Derived.Test.YtidimlopdgcklaaBase
import Derived.Test.YtidimlopdgcklaaRunes
set_option linter.unusedVariables false
set_option linter.unusedSimpArgs false
namespace Go.Proofs.Ytidimlopdgcklaa.Pure
open Go.RowKit Go.Proofs.Ytidimlopdgcklaa.P Go.Proofs.YtidimlopdgcklaaW.PrintWords

/-- What begins the list up to m, of length n, ends it there, too. -/
def isB (l : List Int) (m n : Nat) : Prop := n ≤ m ∧ ∀ j, j < n → l[j]? = l[m - n + j]?
theorem isB_iff (l : List Int) (m n : Nat) (hm : m ≤ l.length) (hn : n ≤ m) : l.take n = (l.take m).drop (m - n) ↔ isB l m n := by
  constructor
  · intro h
    refine ⟨hn, fun j hj => ?_⟩
    have h1 : (l.take n)[j]? = ((l.take m).drop (m - n))[j]? := congrArg (fun x => x[j]?) h
    rwa [List.getElem?_take_of_lt hj, List.getElem?_drop, List.getElem?_take_of_lt (by omega)] at h1
  · intro h
    apply List.ext_getElem?
    intro j
    by_cases hj : j < n
    · rw [List.getElem?_take_of_lt hj, List.getElem?_drop, List.getElem?_take_of_lt (by omega)]
      exact h.2 j hj
    · rw [List.getElem?_eq_none (by rw [List.length_take]; omega), List.getElem?_eq_none (by rw [List.length_drop, List.length_take]; omega)]
theorem isB_zero (l : List Int) (m : Nat) : isB l m 0 := ⟨Nat.zero_le _, fun j hj => by omega⟩
theorem isB_trans {l : List Int} {m n k : Nat} (h : isB l m n) (h2 : isB l n k) : isB l m k := by
  obtain ⟨a, b⟩ := h
  obtain ⟨c, d⟩ := h2
  refine ⟨by omega, fun j hj => ?_⟩
  rw [d j hj, b (n - k + j) (by omega)]
  congr 1
  omega
theorem isB_down {l : List Int} {m n k : Nat} (h : isB l m n) (h2 : isB l m k) (hk : k ≤ n) : isB l n k := by
  obtain ⟨a, b⟩ := h
  obtain ⟨c, d⟩ := h2
  refine ⟨hk, fun j hj => ?_⟩
  rw [d j hj, b (n - k + j) (by omega)]
  congr 1
  omega
theorem isB_succ {l : List Int} {m k : Nat} : isB l (m + 1) (k + 1) ↔ (isB l m k ∧ l[k]? = l[m]?) := by
  constructor
  · rintro ⟨a, b⟩
    refine ⟨⟨by omega, fun j hj => ?_⟩, ?_⟩
    · have := b j (by omega)
      rw [show m + 1 - (k + 1) + j = m - k + j by omega] at this
      exact this
    · have := b k (by omega)
      rw [show m + 1 - (k + 1) + k = m by omega] at this
      exact this
  · rintro ⟨⟨a, b⟩, c⟩
    refine ⟨by omega, fun j hj => ?_⟩
    rw [show m + 1 - (k + 1) + j = m - k + j by omega]
    by_cases h : j < k
    · exact b j h
    · obtain rfl : j = k := by omega
      rw [c]
      congr 1
      omega
theorem bestB_le (l : List Int) (k : Nat) : ∀ n, bestB l k n ≤ n
  | 0 => by simp [bestB]
  | n + 1 => by
    have := bestB_le l k n
    unfold bestB
    split <;> omega
theorem bestB_is (l : List Int) (k : Nat) (hk : k < l.length) : ∀ n, n ≤ k → isB l (k + 1) (bestB l k n)
  | 0, _ => by simp only [bestB]; exact isB_zero _ _
  | n + 1, hn => by
    unfold bestB
    split
    · rename_i h
      rw [show k - n = k + 1 - (n + 1) by omega] at h
      exact (isB_iff l (k + 1) (n + 1) (by omega) (by omega)).1 h
    · exact bestB_is l k hk n (by omega)
theorem bestB_max (l : List Int) (k : Nat) (hk : k < l.length) : ∀ n, n ≤ k → ∀ m, m ≤ n → isB l (k + 1) m → m ≤ bestB l k n
  | 0, _, m, hm, _ => by omega
  | n + 1, hn, m, hm, h => by
    unfold bestB
    split
    · exact hm
    · rename_i h2
      by_cases he : m = n + 1
      · subst he
        exact absurd (by rw [show k - n = k + 1 - (n + 1) by omega]; exact (isB_iff l (k + 1) (n + 1) (by omega) (by omega)).2 h) h2
      · exact bestB_max l k hk n (by omega) m (by omega) h
theorem bestB_eq (l : List Int) (k n : Nat) (hk : k < l.length) (hn : n ≤ k) (h : isB l (k + 1) n) (hmax : ∀ m, n < m → m ≤ k → ¬ isB l (k + 1) m) : bestB l k k = n := by
  have h1 := bestB_max l k hk k (Nat.le_refl _) n hn h
  have h2 := bestB_is l k hk k (Nat.le_refl _)
  have h3 := bestB_le l k k
  rcases Nat.lt_or_ge n (bestB l k k) with h4 | h4
  · exact absurd h2 (hmax _ h4 h3)
  · omega
def outB (l : List Int) (i : Nat) : List Int := (List.range i).map fun k => (bestB l k k : Int)
theorem outB_length (l : List Int) (i : Nat) : (outB l i).length = i := by simp [outB]
theorem outB_succ (l : List Int) (i : Nat) : outB l (i + 1) = outB l i ++ [(bestB l i i : Int)] := by simp [outB, List.range_succ]
theorem outB_rd (l : List Int) (i j : Nat) (h : j < i) : rd (outB l i) (j : Int) = (bestB l j j : Int) := by
  rw [rd_eq _ (show j < (outB l i).length by rw [outB_length]; exact h)]
  simp [outB]
/-- The rounds behind one rune: from a border n of what stands ahead on, all longer ones of which don't go on. -/
theorem bordersOf_in (l : List Int) (hs : l.length ≤ 1000000000) (i : Nat) (hi : i < l.length) (R : List Int)
    (next : Ev (fun k => impl_bordersOf.l0 k l (outB l (i + 1)) (bestB l i i : Int) l (l.length : Int) ((i : Int) + 1)) R) :
    ∀ (n : Nat), n ≤ i → (i = 0 → n = 0) → (0 < i → n < i) → isB l i n → (∀ m, n < m → m < i → isB l i m → l[m]? ≠ l[i]?) →
      Ev (fun k => impl_bordersOf.l1 k l (outB l i) (n : Int) (i : Int) (rd l (i : Int)) l (l.length : Int) (i : Int)) R := by
  intro n
  induction n using Nat.strongRecOn with
  | _ n ih =>
    intro hn h0 hp hB hm
    have hgi : rd l (i : Int) = l[i] := rd_eq l hi
    have hgn : rd l (n : Int) = l[n]'(by omega) := rd_eq l (by omega)
    have hwi : wrap64 ((i : Int) + 1) = (i : Int) + 1 := w64 (by omega) (by omega)
    have hwn : wrap64 ((n : Int) + 1) = (n : Int) + 1 := w64 (by omega) (by omega)
    refine Ev.step (fun k => impl_bordersOf.l1.eq_2 ..) ?_
    by_cases hi0 : 0 < i
    · refine Ev.pos (by omega) ?_
      have hout : (outB l i).length < 17592186044416 := by rw [outB_length]; omega
      by_cases hlt : l[n]'(by omega) = l[i]
      · have hbest : bestB l i i = n + 1 := by
          refine bestB_eq l i (n + 1) hi (by have := hp hi0; omega) (isB_succ.2 ⟨hB, ?_⟩) (fun m h1 h2 h3 => ?_)
          · rw [List.getElem?_eq_getElem (by omega), List.getElem?_eq_getElem hi, hlt]
          · obtain ⟨q, rfl⟩ : ∃ q, m = q + 1 := ⟨m - 1, by omega⟩
            obtain ⟨h4, h5⟩ := isB_succ.1 h3
            exact hm q (by omega) (by omega) h4 h5
        have hnext : Ev (fun k => impl_bordersOf.l0 k l (outB l i ++ [wrap64 ((n : Int) + 1)]) (wrap64 ((n : Int) + 1)) l (l.length : Int) (wrap64 ((i : Int) + 1))) R := by
          rw [hwn, hwi, show ((n : Int) + 1) = ((bestB l i i : Nat) : Int) from by rw [hbest]; rfl, ← outB_succ]
          exact next
        by_cases hn0 : 0 < n
        · refine Ev.pos (by omega) (Ev.pos (by omega) (Ev.pos (by omega) (Ev.pos (by rw [hgn, hgi, hlt]) (Ev.pos hout hnext))))
        · refine Ev.neg (by omega) (Ev.pos (by omega) (Ev.pos (by omega) (Ev.pos (by rw [hgn, hgi, hlt]) (Ev.pos hout hnext))))
      · have hne : ¬ rd l (n : Int) = rd l (i : Int) := by rw [hgn, hgi]; exact hlt
        have hne? : l[n]? ≠ l[i]? := by
          rw [List.getElem?_eq_getElem (by omega), List.getElem?_eq_getElem hi]
          intro h
          exact hlt (Option.some.inj h)
        by_cases hn0 : 0 < n
        · have hw1 : wrap64 ((n : Int) - 1) = ((n - 1 : Nat) : Int) := by rw [w64 (by omega) (by omega)]; omega
          refine Ev.pos (by omega) (Ev.pos (by omega) (Ev.pos (by omega) (Ev.neg hne ?_)))
          refine Ev.pos (by rw [hw1]; omega) (Ev.pos (by rw [hw1, outB_length]; omega) ?_)
          rw [hw1, outB_rd l i (n - 1) (by omega)]
          have hle := bestB_le l (n - 1) (n - 1)
          have his := bestB_is l (n - 1) (by omega) (n - 1) (Nat.le_refl _)
          rw [show n - 1 + 1 = n by omega] at his
          refine ih (bestB l (n - 1) (n - 1)) (by omega) (by omega) (fun h => by omega) (fun _ => by omega) (isB_trans hB his) (fun m h1 h2 h3 => ?_)
          rcases Nat.lt_trichotomy m n with h4 | h4 | h4
          · have h5 := isB_down hB h3 (by omega)
            have h6 := bestB_max l (n - 1) (by omega) (n - 1) (Nat.le_refl _) m (by omega) (by rw [show n - 1 + 1 = n by omega]; exact h5)
            omega
          · subst h4
            exact hne?
          · exact hm m h4 h2 h3
        · obtain rfl : n = 0 := by omega
          have hbest : bestB l i i = 0 := by
            refine bestB_eq l i 0 hi (by omega) (isB_zero _ _) (fun m h1 h2 h3 => ?_)
            obtain ⟨q, rfl⟩ : ∃ q, m = q + 1 := ⟨m - 1, by omega⟩
            obtain ⟨h4, h5⟩ := isB_succ.1 h3
            by_cases hq : q = 0
            · subst hq
              exact hne? h5
            · exact hm q (by omega) (by omega) h4 h5
          refine Ev.neg (by omega) (Ev.pos (by omega) (Ev.pos (by omega) (Ev.neg hne (Ev.pos hout ?_))))
          rw [hwi]
          rw [hbest, outB_succ, hbest] at next
          exact next
    · obtain rfl : i = 0 := by omega
      obtain rfl : n = 0 := h0 rfl
      refine Ev.neg (by omega) (Ev.pos (by rw [outB_length]; omega) ?_)
      rw [hwi]
      have hb : bestB l 0 0 = 0 := rfl
      rw [hb, outB_succ, hb] at next
      exact next
theorem bordersOf_l (l : List Int) (hs : l.length ≤ 1000000000) : ∀ (d i n : Nat), i + d = l.length → (i = 0 → n = 0) → (0 < i → n = bestB l (i - 1) (i - 1)) → Ev (fun k => impl_bordersOf.l0 k l (outB l i) (n : Int) l (l.length : Int) (i : Int)) (bordersB l)
  | 0, i, n, hd, _, _ => by
    refine Ev.step (fun k => impl_bordersOf.l0.eq_2 ..) (Ev.neg (by omega) (Ev.some' ?_))
    rw [show i = l.length by omega]
    rfl
  | d + 1, i, n, hd, h0, hb => by
    refine Ev.step (fun k => impl_bordersOf.l0.eq_2 ..) (Ev.pos (by omega) (Ev.pos (by omega) (Ev.pos (by omega) ?_)))
    have next := bordersOf_l l hs d (i + 1) (bestB l i i) (by omega) (fun h => by omega) (fun _ => by simp)
    rw [show (((i + 1 : Nat)) : Int) = (i : Int) + 1 from by omega] at next
    by_cases hi : 0 < i
    · have e := hb hi
      have hle := bestB_le l (i - 1) (i - 1)
      have his := bestB_is l (i - 1) (by omega) (i - 1) (Nat.le_refl _)
      rw [show i - 1 + 1 = i by omega] at his
      refine bordersOf_in l hs i (by omega) _ next n (by omega) (fun h => by omega) (fun _ => by omega) (by rw [e]; exact his) (fun m h1 h2 h3 => ?_)
      have := bestB_max l (i - 1) (by omega) (i - 1) (Nat.le_refl _) m (by omega) (by rw [show i - 1 + 1 = i by omega]; exact h3)
      omega
    · obtain rfl : i = 0 := by omega
      obtain rfl : n = 0 := h0 rfl
      exact bordersOf_in l hs 0 (by omega) _ next 0 (by omega) (fun _ => rfl) (fun h => by omega) (isB_zero _ _) (fun m h1 h2 h3 => by omega)
theorem bordersOf (l : List Int) (hs : l.length ≤ 1000000000) : Ev (fun k => impl_bordersOf.f k l) (bordersB l) := by
  unfold impl_bordersOf.f
  exact bordersOf_l l hs l.length 0 0 (by omega) (fun _ => rfl) (fun h => by omega)
theorem bordersB_length (l : List Int) : (bordersB l).length = l.length := by simp [bordersB]
theorem bordersB_rd (l : List Int) (j : Nat) (h : j < l.length) : rd (bordersB l) (j : Int) = (bestB l j j : Int) := outB_rd l l.length j h
end Go.Proofs.Ytidimlopdgcklaa.Pure
