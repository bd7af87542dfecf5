/- A list has the period that is told and none that is shorter, and what begins and ends it is as long as is told, for drawn lists: for all bytes of choices, no condition. -/
import Derived.Test.YtidimlopdgcklaaStFnBorders
import Derived.Test.YtidimlopdgcklaaP30
import Derived.Test.YtidimlopdgcklaaPeriod
import Derived.Test.YtidimlopdgcklaaBord
import Derived.Test.YtidimlopdgcklaaPlaces
import Derived.Test.YtidimlopdgcklaaCurSmall
import Derived.Test.YtidimlopdgcklaaSameInts
set_option linter.unusedVariables false
set_option linter.unusedSimpArgs false
namespace Go.Proofs.Ytidimlopdgcklaa.Pure
open Go.RowKit Go.Proofs.Ytidimlopdgcklaa.P Go.Proofs.YtidimlopdgcklaaW.PrintWords
theorem drawBorders {c : List Int} (hc : isBytes c) : ∃ l, Ev (fun k => spec_DrawBordersOf.f k c) l ∧ l.length ≤ 100 := by
  unfold spec_DrawBordersOf.f
  obtain ⟨l, a1, s1, h, hl, _, b1, b2⟩ := cur_small hc 0 0 4 (by omega) (by omega) (by omega)
  obtain ⟨b, a2, s2, h2, d1, d2⟩ := cur_one hc a1 s1 2 (by omega) (by omega) (by omega)
  obtain ⟨l2, a3, s3, h3, hl3, _, _, _⟩ := cur_small hc a2 s2 2 (by omega) (by omega) (by omega)
  cases b with
  | true => exact ⟨l ++ l ++ l ++ l2, Ev.bind h (Ev.bind0 h2 (Ev.pos rfl (Ev.pos (by simp only []; omega) (Ev.bind0 rfl (Ev.pos (by simp only [List.length_append]; omega) (Ev.bind0 rfl (Ev.bind h3 (Ev.pos (by simp only [List.length_append]; omega) (Ev.now _))))))))), by simp only [List.length_append]; omega⟩
  | false => exact ⟨l ++ l2, Ev.bind h (Ev.bind0 h2 (Ev.neg (by simp) (Ev.bind h3 (Ev.pos (by simp only []; omega) (Ev.now _))))), by simp only [List.length_append]; omega⟩
theorem drawPlaces {c : List Int} (hc : isBytes c) : ∃ t w, Ev (fun k => spec_DrawPlacesOf.f k c) (t, w) ∧ t.length ≤ 100 ∧ w.length ≤ 100 := by
  unfold spec_DrawPlacesOf.f
  obtain ⟨l, a1, s1, h, hl, _, b1, b2⟩ := cur_small hc 0 0 12 (by omega) (by omega) (by omega)
  obtain ⟨l2, a3, s3, h3, hl3, _, _, _⟩ := cur_small hc a1 s1 2 (by omega) (by omega) (by omega)
  exact ⟨l, l2, Ev.bind h (Ev.bind h3 (Ev.now _)), by omega, by omega⟩
theorem placesG_mem (l w : List Int) : ∀ (d p : Nat) (acc : List Int), p + d + w.length ≤ l.length + 1 → (∀ x ∈ acc, ∃ q : Nat, x = q ∧ q + w.length ≤ l.length ∧ (l.take (q + w.length)).drop q = w) → ∀ x ∈ placesG l w d p acc, ∃ q : Nat, x = q ∧ q + w.length ≤ l.length ∧ (l.take (q + w.length)).drop q = w
  | 0, p, acc, _, h => by simpa [placesG] using h
  | d + 1, p, acc, hp, h => by
    unfold placesG
    refine placesG_mem l w d (p + 1) _ (by omega) ?_
    split
    · rename_i hd
      intro x hx
      rcases List.mem_append.1 hx with hx | hx
      · exact h x hx
      · rw [List.mem_singleton.1 hx]
        exact ⟨p, rfl, by omega, by simpa using hd⟩
    · exact h
theorem placesR_mem (l w : List Int) : ∀ x ∈ (placesR l w).1, ∃ q : Nat, x = q ∧ q + w.length ≤ l.length ∧ (l.take (q + w.length)).drop q = w := by
  unfold placesR
  cases h : askedP l w
  · simp
  · have hw : 0 < w.length := by
      unfold askedP at h
      simp at h
      omega
    by_cases hwl : w.length ≤ l.length + 1
    · exact placesG_mem l w _ 0 [] (by omega) (by simp)
    · rw [show l.length + 1 - (0 + w.length) = 0 from by omega]
      simp [placesG]
/-- A shift by q leaves the list as it is. -/
def shiftB (l : List Int) (q : Nat) : Bool := allFrom (fun k => decide (rd l (k : Int) = rd l ((k : Int) - (q : Int)))) q (l.length - q)
theorem shiftB_iff (l : List Int) (q : Nat) (hq : q ≤ l.length) : shiftB l q = true ↔ isB l l.length (l.length - q) := by
  unfold shiftB
  rw [allFrom_iff]
  constructor
  · intro h
    refine ⟨by omega, fun j hj => ?_⟩
    have := h (q + j) (by omega) (by omega)
    rw [decide_eq_true_eq, show ((q + j : Nat) : Int) - (q : Int) = (j : Int) from by omega, rd_eq l (show q + j < l.length by omega), rd_eq l (show j < l.length by omega)] at this
    rw [show l.length - (l.length - q) + j = q + j from by omega, List.getElem?_eq_getElem (by omega), List.getElem?_eq_getElem (by omega), this]
  · intro h k h1 h2
    have := h.2 (k - q) (by omega)
    rw [show l.length - (l.length - q) + (k - q) = k from by omega, List.getElem?_eq_getElem (by omega), List.getElem?_eq_getElem (by omega)] at this
    rw [decide_eq_true_eq, show (k : Int) - (q : Int) = ((k - q : Nat) : Int) from by omega, rd_eq l (show k < l.length by omega), rd_eq l (show k - q < l.length by omega)]
    exact (Option.some.inj this).symm
theorem FnBorders : FnBorders_Pure := by
  intro c1 c2 w1 w2
  refine Ev.get (g := fun k => laws_FnBorders.f k c1 c2) ?_
  unfold laws_FnBorders.f
  rcases big_cases c1 c2 (by omega) (by omega) with h | ⟨h, hb1, hb2⟩
  · exact Ev.bind0 h (Ev.pos rfl (Ev.now _))
  refine Ev.bind0 h (Ev.neg (by simp) ?_)
  obtain ⟨l, hl, hlen⟩ := drawBorders (isBytes_of w1 (by omega))
  obtain ⟨t, w, htw, ht, hw⟩ := drawPlaces (isBytes_of w2 (by omega))
  have hP := placesR_length t w
  have hmem := placesR_mem t w
  have e3 := specPlaces t w (by omega) (by omega)
  have e4 := implPlaces t w (by omega) (by omega)
  generalize placesR t w = R at hP hmem e3 e4
  have j5 : Ev (fun k => laws_FnBorders.j5 k t w R.1 false) true := by
    refine Ev.step (fun k => laws_FnBorders.j5.eq_2 ..) (Ev.neg (by simp) ?_)
    have := Ev.andLoop (g := fun k i => laws_FnBorders.l3 k t w R.1 (R.1.length : Int) (i : Int)) (p := fun _ => true) (n := R.1.length) (r := true)
      (Ev.step (fun k => laws_FnBorders.l3.eq_2 ..) (Ev.neg (by omega) (Ev.now _)))
      (fun i v hi hv => by
        refine Ev.step (fun k => laws_FnBorders.l3.eq_2 ..) (Ev.pos (by omega) (Ev.pos (by omega) (Ev.pos (by omega) ?_)))
        obtain ⟨q, hq, hq1, hq2⟩ := hmem (rd R.1 (i : Int)) (by rw [rd_eq R.1 hi]; exact List.getElem_mem hi)
        rw [hq, w64 (x := (q : Int) + (w.length : Int)) (by omega) (by omega), w64s (by omega)]
        refine Ev.pos (by omega) (Ev.pos (by omega) (Ev.pos (by omega) ?_))
        rw [show ((q : Int) + (w.length : Int)).toNat = q + w.length from by omega, Int.toNat_natCast, hq2]
        exact Ev.bind (sameInts_self w (by omega)) (Ev.pos rfl hv))
      R.1.length 0 (by omega)
    have e : allFrom (fun _ => true) 0 R.1.length = true := (allFrom_iff _ _ _).2 (fun _ _ _ => rfl)
    rw [e] at this
    exact this
  have j4 : Ev (fun k => laws_FnBorders.j4 k c2) true := by
    refine Ev.step (fun k => laws_FnBorders.j4.eq_2 ..) (Ev.bind htw (Ev.bind e4 (Ev.bind e3 (Ev.neg (by simp) (Ev.bind (sameInts_self R.1 (by omega)) j5)))))
  have hBl := bordersR_length l
  have b1 := specBordersOf l (by omega)
  have b2 := implBordersOf l (by omega)
  have b3 := spec_LeastPeriod_ev l (by omega)
  have b4 := impl_LeastPeriod_ev l (by omega)
  generalize bordersR l = B at hBl b1 b2
  refine Ev.bind hl (Ev.bind b2 (Ev.bind b1 (Ev.bind b4 (Ev.bind b3 (Ev.neg (by simp) (Ev.bind (sameInts_self B.1 (by omega)) (Ev.pos rfl (Ev.neg (by simp) ?_))))))))
  rw [show ((periodOf l).1 != (periodOf l).1) = false from by simp]
  refine Ev.step (fun k => laws_FnBorders.j0.eq_2 ..) (Ev.neg (by simp) ?_)
  cases hp2 : (periodOf l).2
  · exact Ev.neg (by simp) j4
  refine Ev.pos rfl ?_
  obtain ⟨p, hp, hp0, hpl, hpB, hpmin⟩ : ∃ p : Nat, (periodOf l).1 = p ∧ 0 < p ∧ p ≤ l.length ∧ shiftB l p = true ∧ ∀ q, 0 < q → q < p → shiftB l q = false := by
    unfold periodOf at hp2 ⊢
    by_cases h0 : l.length = 0
    · rw [if_pos h0] at hp2
      simp at hp2
    rw [if_neg h0] at hp2 ⊢
    split at hp2
    case isFalse => simp at hp2
    rename_i hh
    rw [if_pos hh]
    have hle := bestB_le l (l.length - 1) (l.length - 1)
    have his := bestB_is l (l.length - 1) (by omega) (l.length - 1) (by omega)
    have hmax := bestB_max l (l.length - 1) (by omega) (l.length - 1) (by omega)
    rw [show l.length - 1 + 1 = l.length from by omega] at his hmax
    generalize bestB l (l.length - 1) (l.length - 1) = b at *
    refine ⟨l.length - b, by simp only []; omega, by omega, by omega, ?_, fun q h1 h2 => ?_⟩
    · rw [shiftB_iff l _ (by omega), show l.length - (l.length - b) = b from by omega]
      exact his
    · cases hs : shiftB l q
      · rfl
      · rw [shiftB_iff l q (by omega)] at hs
        have := hmax (l.length - q) (by omega) hs
        omega
  rw [hp]
  have l1 : Ev (fun k => laws_FnBorders.l1 k c2 l (p : Int) 1) true := by
    have := Ev.andFrom (g := fun k q => laws_FnBorders.l1 k c2 l (p : Int) (q : Int)) (p := fun _ => true) (m := 1) (n := p) (r := true)
      (Ev.step (fun k => laws_FnBorders.l1.eq_2 ..) (Ev.neg (by omega) j4))
      (fun q v hq1 hq hv => by
        have hsh := hpmin q (by omega) hq
        refine Ev.step (fun k => laws_FnBorders.l1.eq_2 ..) (Ev.pos (by omega) ?_)
        have end_ : ∀ all : Bool, Ev (fun k => laws_FnBorders.l2 k c2 l (p : Int) (q : Int) all (l.length : Int)) (!all && v) := fun all => by
          refine Ev.step (fun k => laws_FnBorders.l2.eq_2 ..) (Ev.neg (by omega) ?_)
          cases all
          · refine Ev.neg (by simp) ?_
            rw [w64s (by omega)]
            simpa using hv
          · exact Ev.pos rfl (Ev.now _)
        have fl : ∀ (d i : Nat), i + d = l.length → Ev (fun k => laws_FnBorders.l2 k c2 l (p : Int) (q : Int) false (i : Int)) v := fun d => by
          induction d with
          | zero =>
            intro i hi
            have := end_ false
            rw [show l.length = i from by omega] at this
            simpa using this
          | succ d ih =>
            intro i hi
            refine Ev.step (fun k => laws_FnBorders.l2.eq_2 ..) (Ev.pos (by omega) (Ev.neg (by simp) ?_))
            rw [w64s (by omega)]
            exact ih (i + 1) (by omega)
        have tl : ∀ (d i : Nat), q ≤ i → i + d = l.length → Ev (fun k => laws_FnBorders.l2 k c2 l (p : Int) (q : Int) true (i : Int)) (!(allFrom (fun k => decide (rd l (k : Int) = rd l ((k : Int) - (q : Int)))) i d) && v) := fun d => by
          induction d with
          | zero =>
            intro i hqi hi
            have := end_ true
            rw [show l.length = i from by omega] at this
            simpa [allFrom] using this
          | succ d ih =>
            intro i hqi hi
            refine Ev.step (fun k => laws_FnBorders.l2.eq_2 ..) (Ev.pos (by omega) (Ev.pos rfl (Ev.pos (by omega) ?_)))
            rw [w64 (x := (i : Int) - (q : Int)) (by omega) (by omega), w64s (by omega)]
            refine Ev.pos (by omega) (Ev.pos (by omega) ?_)
            simp only [allFrom]
            by_cases hc : rd l (i : Int) = rd l ((i : Int) - (q : Int))
            · rw [show (rd l (i : Int) == rd l ((i : Int) - (q : Int))) = true from beq_iff_eq.mpr hc, decide_eq_true hc, Bool.true_and]
              exact ih (i + 1) (by omega) (by omega)
            · rw [show (rd l (i : Int) == rd l ((i : Int) - (q : Int))) = false from beq_eq_false_iff_ne.mpr hc, decide_eq_false hc]
              simpa using fl d (i + 1) (by omega)
        have := tl (l.length - q) q (by omega) (by omega)
        unfold shiftB at hsh
        rw [hsh] at this
        simpa using this)
      (p - 1) 1 (by omega) (by omega)
    have e : allFrom (fun _ => true) 1 (p - 1) = true := (allFrom_iff _ _ _).2 (fun _ _ _ => rfl)
    rw [e] at this
    exact this
  have := Ev.andFrom (g := fun k i => laws_FnBorders.l0 k c2 l (p : Int) (i : Int)) (p := fun k => decide (rd l (k : Int) = rd l ((k : Int) - (p : Int)))) (m := p) (n := l.length) (r := true)
    (Ev.step (fun k => laws_FnBorders.l0.eq_2 ..) (Ev.neg (by omega) l1))
    (fun i v hpi hi hv => by
      refine Ev.step (fun k => laws_FnBorders.l0.eq_2 ..) (Ev.pos (by omega) (Ev.pos (by omega) ?_))
      rw [w64 (x := (i : Int) - (p : Int)) (by omega) (by omega), w64s (by omega)]
      refine Ev.pos (by omega) (Ev.pos (by omega) ?_)
      by_cases hc : rd l (i : Int) = rd l ((i : Int) - (p : Int))
      · rw [decide_eq_true hc, Bool.true_and]
        exact Ev.pos hc hv
      · rw [decide_eq_false hc]
        exact Ev.neg hc (Ev.now _))
    (l.length - p) p (by omega) (by omega)
  unfold shiftB at hpB
  rw [hpB] at this
  exact this
end Go.Proofs.Ytidimlopdgcklaa.Pure
