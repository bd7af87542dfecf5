/- The program's GoodPeer answers as the reference's, for every list of chunks: no condition. -/
import Derived.Test.YtidimlopdgcklaaStFnExactGoodPeer
import Derived.Test.YtidimlopdgcklaaP3
import Derived.Test.YtidimlopdgcklaaP4
import Derived.Test.YtidimlopdgcklaaRunes
set_option linter.unusedVariables false
set_option linter.unusedSimpArgs false
namespace Go.Proofs.Ytidimlopdgcklaa.Pure
open Go.RowKit Go.Proofs.Ytidimlopdgcklaa.P Go.Proofs.YtidimlopdgcklaaW.PrintWords
abbrev LC := S79
abbrev IC := S80
def convC (c : LC) : IC := ⟨c.f0, c.f1, c.f2⟩
theorem rdL_eq (l : List LC) {i : Nat} (h : i < l.length) : rd_T79 l (i : Int) = l[i] := by
  unfold rd_T79
  rw [Int.toNat_natCast, List.getD_eq_getElem?_getD, List.getElem?_eq_getElem h]
  rfl
theorem rdC_eq (l : List IC) {i : Nat} (h : i < l.length) : rd_T80 l (i : Int) = l[i] := by
  unfold rd_T80
  rw [Int.toNat_natCast, List.getD_eq_getElem?_getD, List.getElem?_eq_getElem h]
  rfl
theorem szChunkS_l (l : List LC) (hs : l.length ≤ 1000000000) (hb : ∀ c ∈ l, c.f1.size ≤ 140737488351232) : ∀ (d i : Nat) (x : Int), i + d = l.length → 0 ≤ x → x ≤ 1048576 → ∃ v, Ev (fun k => laws_szChunkS.l0 k l x (i : Int)) v
  | 0, i, x, hd, _, _ => ⟨x, Ev.step (fun k => laws_szChunkS.l0.eq_2 ..) (Ev.neg (by omega) (Ev.now _))⟩
  | d + 1, i, x, hd, h0, h1 => by
    have hi : i < l.length := by omega
    have hc := hb _ (List.getElem_mem hi)
    have hz : laws_szChunk.f (l[i]).f0 (l[i]).f1 (l[i]).f2 x = some (if x - ((l[i]).f1.size : Int) < 0 then -1 else x - ((l[i]).f1.size : Int)) := by
      unfold laws_szChunk.f
      rw [w64 (by omega) (by omega)]
      split <;> rfl
    by_cases hn : x - ((l[i]).f1.size : Int) < 0
    · rw [if_pos hn] at hz
      refine ⟨-1, Ev.step (fun k => laws_szChunkS.l0.eq_2 ..) (Ev.pos (by omega) (Ev.pos (by omega) ?_))⟩
      rw [rdL_eq l hi]
      exact Ev.bind0 hz (Ev.pos (by omega) (Ev.now _))
    · rw [if_neg hn] at hz
      obtain ⟨v, hv⟩ := szChunkS_l l hs hb d (i + 1) (x - ((l[i]).f1.size : Int)) (by omega) (by omega) (by omega)
      refine ⟨v, Ev.step (fun k => laws_szChunkS.l0.eq_2 ..) (Ev.pos (by omega) (Ev.pos (by omega) ?_))⟩
      rw [rdL_eq l hi, w64 (by omega) (by omega)]
      exact Ev.bind0 hz (Ev.neg (by omega) hv)
theorem toChunkS_l (l : List LC) (hs : l.length ≤ 1000000000) : ∀ (d i : Nat) (xs : List IC), i + d = l.length → xs.length = l.length → xs.take i = (l.map convC).take i → Ev (fun k => laws_toChunkS.l0 k l xs (i : Int)) (l.map convC)
  | 0, i, xs, hd, hl, ht => by
    refine Ev.step (fun k => laws_toChunkS.l0.eq_2 ..) (Ev.neg (by omega) (Ev.some' ?_))
    rw [List.take_of_length_le (by omega), List.take_of_length_le (by rw [List.length_map]; omega)] at ht
    exact ht
  | d + 1, i, xs, hd, hl, ht => by
    have hi : i < l.length := by omega
    refine Ev.step (fun k => laws_toChunkS.l0.eq_2 ..) (Ev.pos (by omega) (Ev.pos (by omega) ?_))
    rw [rdL_eq l hi]
    refine Ev.bind0 (a := ((l[i]).f0, (l[i]).f1, (l[i]).f2)) rfl (Ev.pos (by omega) ?_)
    rw [w64 (by omega) (by omega), Int.toNat_natCast]
    refine toChunkS_l l hs d (i + 1) _ (by omega) (by simpa using hl) ?_
    have h := take_set_step (l.map convC) xs i (by simpa using hi) (by simpa using hl) ht
    rw [List.getElem_map] at h
    exact h
theorem toChunkS (l : List LC) (hs : l.length ≤ 1000000000) : Ev (fun k => laws_toChunkS.f k l) (l.map convC) := by
  unfold laws_toChunkS.f
  exact Ev.pos (by omega) (Ev.pos (by omega) (toChunkS_l l hs l.length 0 _ (by omega) (by simp) (by simp)))
theorem eqChunkS_l (l : List IC) (hs : l.length ≤ 1000000000) : ∀ (d i : Nat), i + d = l.length → Ev (fun k => laws_eqChunkS.l0 k l l (i : Int)) true
  | 0, i, hd => Ev.step (fun k => laws_eqChunkS.l0.eq_2 ..) (Ev.neg (by omega) (Ev.now _))
  | d + 1, i, hd => by
    refine Ev.step (fun k => laws_eqChunkS.l0.eq_2 ..) (Ev.pos (by omega) (Ev.pos (by omega) (Ev.pos (by omega) ?_)))
    rw [rdC_eq l (show i < l.length by omega), w64 (by omega) (by omega)]
    have he : ∀ (a : Int) (s : ByteArray) (b : Bool), laws_eqChunk.f a s b a s b = some true := fun a s b => by
      unfold laws_eqChunk.f
      rw [if_pos rfl, if_pos rfl, if_neg (by simp)]
    exact Ev.bind0 (he _ _ _) (Ev.pos rfl (eqChunkS_l l hs d (i + 1) (by omega)))
theorem eqChunkS (l : List IC) (hs : l.length ≤ 1000000000) : Ev (fun k => laws_eqChunkS.f k l l) true := by
  unfold laws_eqChunkS.f
  exact Ev.pos rfl (eqChunkS_l l hs l.length 0 (by omega))
/-- Good from a place on, behind a tick. -/
def peerG : Int → List IC → Bool
  | _, [] => true
  | p, c :: r => inB c.f0 p 10000 && decide (c.f1.size ≤ 1000) && (!c.f2 || (c.f1.toList == [] && r.isEmpty)) && peerG c.f0 r
theorem implPeer_l (l : List IC) (hs : l.length ≤ 1000000000) : ∀ (d i : Nat) (p : Int), i + d = l.length → Ev (fun k => impl_GoodPeer.l0 k l p l (l.length : Int) (i : Int)) (peerG p (l.drop i) && decide ((l.length : Int) ≤ 20))
  | 0, i, p, hd => by
    refine Ev.step (fun k => impl_GoodPeer.l0.eq_2 ..) (Ev.neg (by omega) (Ev.some' ?_))
    rw [List.drop_eq_nil_of_le (by omega)]
    rfl
  | d + 1, i, p, hd => by
    have hi : i < l.length := by omega
    refine Ev.step (fun k => impl_GoodPeer.l0.eq_2 ..) (Ev.pos (by omega) (Ev.pos (by omega) (Ev.pos (by omega) ?_)))
    rw [rdC_eq l hi, drop_cons l hi, show wrap64 ((i : Int) + 1) = ((i + 1 : Nat) : Int) from by rw [w64 (by omega) (by omega)]; omega, w64 (x := (l.length : Int) - 1) (by omega) (by omega)]
    have next := implPeer_l l hs d (i + 1) (l[i]).f0 (by omega)
    refine Ev.bind0 (inRange_eq _ _ _) ?_
    unfold peerG
    cases h1 : inB (l[i]).f0 p 10000
    · exact Ev.neg (by simp) (Ev.now _)
    refine Ev.pos rfl ?_
    by_cases h2 : (((l[i]).f1.size : Int)) > 1000
    · refine Ev.pos h2 (Ev.some' ?_)
      rw [decide_eq_false (show ¬ (l[i]).f1.size ≤ 1000 by omega)]
      rfl
    refine Ev.neg h2 ?_
    rw [decide_eq_true (show (l[i]).f1.size ≤ 1000 by omega)]
    cases h3 : (l[i]).f2
    · exact Ev.neg (by simp) (by simpa using next)
    refine Ev.pos rfl ?_
    by_cases h4 : (l[i]).f1.toList = []
    · refine Ev.pos h4 ?_
      rw [h4]
      by_cases h5 : (i : Int) < (l.length : Int) - 1
      · refine Ev.pos h5 (Ev.some' ?_)
        have : (l.drop (i + 1)).isEmpty = false := by rw [drop_cons l (show i + 1 < l.length by omega)]; rfl
        rw [this]
        rfl
      · refine Ev.neg h5 ?_
        have : l.drop (i + 1) = [] := List.drop_eq_nil_of_le (by omega)
        rw [this] at next ⊢
        simpa using next
    · refine Ev.neg h4 (Ev.some' ?_)
      have : ((l[i]).f1.toList == []) = false := by simpa using h4
      rw [this]
      simp
theorem specPeer_l (l : List IC) (hs : l.length ≤ 1000000000) : ∀ (d i : Nat) (p : Int), i + d = l.length → 0 ≤ p → (i = 0 → p = 0) → (∀ h : i - 1 < l.length, 0 < i → p = (l[i - 1]).f0) → Ev (fun k => spec_GoodPeer.l0 k l l (l.length : Int) (i : Int)) (peerG p (l.drop i) && decide ((l.length : Int) ≤ 20))
  | 0, i, p, hd, _, _, _ => by
    refine Ev.step (fun k => spec_GoodPeer.l0.eq_2 ..) (Ev.neg (by omega) (Ev.some' ?_))
    rw [List.drop_eq_nil_of_le (by omega)]
    rfl
  | d + 1, i, p, hd, hp, hp0, hp1 => by
    have hi : i < l.length := by omega
    refine Ev.step (fun k => spec_GoodPeer.l0.eq_2 ..) (Ev.pos (by omega) (Ev.pos (by omega) (Ev.pos (by omega) ?_)))
    rw [rdC_eq l hi, drop_cons l hi]
    refine Ev.bind0 (l1In_eq _ _ _) ?_
    have bad : ∀ x : Bool, x = false → Ev (fun k => spec_GoodPeer.j1 k l (i : Int) l (l.length : Int) (i : Int) true (l[i]).f0 (l[i]).f1 (l[i]).f2) (x && decide ((l.length : Int) ≤ 20)) := fun x hx => by
      subst hx
      exact Ev.step (fun k => spec_GoodPeer.j1.eq_2 ..) (Ev.pos rfl (Ev.now _))
    unfold peerG
    cases h1 : inB (l[i]).f0 0 10000
    · refine Ev.neg (by simp) (bad _ ?_)
      have : inB (l[i]).f0 p 10000 = false := by
        unfold inB at h1 ⊢
        simp at h1 ⊢
        omega
      rw [this]
      rfl
    refine Ev.pos rfl ?_
    by_cases h2 : ((l[i]).f1.size : Int) ≤ 1000
    · refine Ev.bind0 (a := true) (by unfold spec_l1Text.f; rw [decide_eq_true h2]) (Ev.pos rfl ?_)
      rw [decide_eq_true (show (l[i]).f1.size ≤ 1000 by omega)]
      have h1' : 0 ≤ (l[i]).f0 ∧ (l[i]).f0 ≤ 10000 := by unfold inB at h1; simpa using h1
      have good : inB (l[i]).f0 p 10000 = true → Ev (fun k => spec_GoodPeer.j1 k l (i : Int) l (l.length : Int) (i : Int) false (l[i]).f0 (l[i]).f1 (l[i]).f2) (inB (l[i]).f0 p 10000 && true && (!(l[i]).f2 || ((l[i]).f1.toList == [] && (l.drop (i + 1)).isEmpty)) && peerG (l[i]).f0 (l.drop (i + 1)) && decide ((l.length : Int) ≤ 20)) := fun hg => by
        have next := specPeer_l l hs d (i + 1) (l[i]).f0 (by omega) h1'.1 (fun h => by omega) (fun h _ => by simp)
        rw [hg]
        refine Ev.step (fun k => spec_GoodPeer.j1.eq_2 ..) (Ev.neg (by simp) ?_)
        rw [show wrap64 ((i : Int) + 1) = ((i + 1 : Nat) : Int) from by rw [w64 (by omega) (by omega)]; omega, w64 (x := (l.length : Int) - 1) (by omega) (by omega)]
        cases h3 : (l[i]).f2
        · exact Ev.neg (by simp) (by simpa using next)
        refine Ev.pos rfl ?_
        by_cases h4 : (l[i]).f1.toList = []
        · refine Ev.pos h4 ?_
          rw [h4]
          by_cases h5 : (i : Int) < (l.length : Int) - 1
          · refine Ev.pos h5 (Ev.some' ?_)
            have : (l.drop (i + 1)).isEmpty = false := by rw [drop_cons l (show i + 1 < l.length by omega)]; rfl
            rw [this]
            rfl
          · refine Ev.neg h5 ?_
            have : l.drop (i + 1) = [] := List.drop_eq_nil_of_le (by omega)
            rw [this] at next ⊢
            simpa using next
        · refine Ev.neg h4 (Ev.some' ?_)
          have : ((l[i]).f1.toList == []) = false := by simpa using h4
          rw [this]
          simp
      by_cases hi0 : (i : Int) > 0
      · have hw : wrap64 ((i : Int) - 1) = ((i - 1 : Nat) : Int) := by rw [w64 (by omega) (by omega)]; omega
        refine Ev.pos hi0 (Ev.pos (by rw [hw]; omega) (Ev.pos (by rw [hw]; omega) ?_))
        rw [hw, rdC_eq l (show i - 1 < l.length by omega), ← hp1 (by omega) (by omega)]
        by_cases h6 : p > (l[i]).f0
        · rw [decide_eq_true h6]
          refine bad _ ?_
          have : inB (l[i]).f0 p 10000 = false := by
            unfold inB
            simp
            omega
          rw [this]
          rfl
        · rw [decide_eq_false h6]
          refine good ?_
          unfold inB
          simp
          omega
      · refine Ev.neg hi0 (good ?_)
        rw [hp0 (by omega)]
        exact h1
    · refine Ev.bind0 (a := false) (by unfold spec_l1Text.f; rw [decide_eq_false h2]) (Ev.neg (by simp) (bad _ ?_))
      rw [decide_eq_false (show ¬ (l[i]).f1.size ≤ 1000 by omega)]
      simp
theorem FnExactGoodPeer : FnExactGoodPeer_Pure := by
  intro l hw
  refine Ev.get (g := fun k => laws_FnExactGoodPeer.f k l) ?_
  unfold laws_FnExactGoodPeer.f
  have hb : ∀ c ∈ l, c.f1.size ≤ 140737488351232 := fun c hc => (hw.2 c hc).2.1
  have hl := hw.1
  by_cases hs : (1048576 : Int) - (l.length : Int) < 0
  · have hz : Ev (fun k => laws_szChunkS.f k l 1048576) (-1) := by
      unfold laws_szChunkS.f
      exact Ev.pos (by rw [w64 (by omega) (by omega)]; exact hs) (Ev.now _)
    exact Ev.bind hz (Ev.pos (by omega) (Ev.now _))
  · obtain ⟨v, hv⟩ := szChunkS_l l (by omega) hb l.length 0 (1048576 - (l.length : Int)) (by omega) (by omega) (by omega)
    have hz : Ev (fun k => laws_szChunkS.f k l 1048576) v := by
      unfold laws_szChunkS.f
      rw [w64 (by omega) (by omega)]
      exact Ev.neg hs hv
    refine Ev.bind hz ?_
    by_cases h0 : v < 0
    · exact Ev.pos h0 (Ev.now _)
    have t := toChunkS l (by omega)
    have sp : Ev (fun k => spec_GoodPeer.f k (l.map convC)) (peerG 0 (l.map convC) && decide (((l.map convC).length : Int) ≤ 20)) := by
      unfold spec_GoodPeer.f
      simpa using specPeer_l (l.map convC) (by simp; omega) (l.map convC).length 0 0 (by omega) (by omega) (fun _ => rfl) (fun _ h => by omega)
    have im : Ev (fun k => impl_GoodPeer.f k (l.map convC)) (peerG 0 (l.map convC) && decide (((l.map convC).length : Int) ≤ 20)) := by
      unfold impl_GoodPeer.f
      simpa using implPeer_l (l.map convC) (by simp; omega) (l.map convC).length 0 0 (by omega)
    exact Ev.neg h0 (Ev.bind t (Ev.bind sp (Ev.bind t (Ev.bind im (Ev.neg (by simp) (Ev.bind t (Ev.bind (eqChunkS _ (by simp; omega)) (Ev.pos rfl (Ev.now _)))))))))
end Go.Proofs.Ytidimlopdgcklaa.Pure
