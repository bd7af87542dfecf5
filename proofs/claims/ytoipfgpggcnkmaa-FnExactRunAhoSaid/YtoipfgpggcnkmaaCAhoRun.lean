/- Plain laws of runs of machines of words: how long a state's list is, how long a word, and what is found. -/
import Derived.Test.YtoipfgpggcnkmaaCP0
import Derived.Test.YtoipfgpggcnkmaaC1
import Derived.Test.YtoipfgpggcnkmaaCAhoMark
set_option linter.unusedVariables false
set_option linter.unusedSimpArgs false
namespace Go.Proofs.Ytoipfgpggcnkmaa.Pure
open Go.RowKit Go.Proofs.Ytoipfgpggcnkmaa.P Go.Proofs.YtoipfgpggcnkmaaW.PrintWords
def dep (P : List Int) : Nat → Nat → Nat
 | 0, _ => 0
 | f + 1, i => if i = 0 then 0 else dep P f (rd P i).toNat + 1
theorem dep_le (P : List Int) : ∀ (f i : Nat), dep P f i ≤ f
 | 0, _ => Nat.le_refl _
 | f + 1, i => by
  have := dep_le P f (rd P i).toNat
  unfold dep
  split <;> omega
theorem dep_same {P B F : List Int} {E : List (List Int)} (h : GoodA P B F E) : ∀ (f g i : Nat), i < P.length → i ≤ f → i ≤ g → dep P f i = dep P g i
 | 0, g, i, hi, hf, hg => by
  have e : i = 0 := by omega
  subst e
  cases g <;> simp [dep]
 | f + 1, 0, i, hi, hf, hg => by
  have e : i = 0 := by omega
  subst e
  simp [dep]
 | f + 1, g + 1, i, hi, hf, hg => by
  unfold dep
  by_cases c : i = 0
  ·rw [if_pos c, if_pos c]
  ·rw [if_neg c, if_neg c]
   have hp := h.parent hi (by omega)
   rw [dep_same h f g (rd P i).toNat (by omega) (by omega) (by omega)]
theorem specLong_l {P B F : List Int} {E : List (List Int)} (h : GoodA P B F E) : ∀ (f i : Nat) (a : Int), i < P.length → i ≤ f → 0 ≤ a → a + (f : Int) ≤ 1000000000 → Ev (fun k => spec_l8Long.l0 k (i : Int) a P B F E) (a + (dep P f i : Int))
 | 0, i, a, hi, hf, h0, h1 => by
  refine Ev.step (fun k => spec_l8Long.l0.eq_2 ..) (Ev.neg (by omega) (Ev.some' ?_))
  simp [dep]
 | f + 1, i, a, hi, hf, h0, h1 => by
  by_cases c : i = 0
  ·refine Ev.step (fun k => spec_l8Long.l0.eq_2 ..) (Ev.neg (by omega) (Ev.some' ?_))
   simp [dep, c]
  ·have hp := h.parent hi (by omega)
   refine Ev.step (fun k => spec_l8Long.l0.eq_2 ..) (Ev.pos (by omega) (Ev.pos (by omega) (Ev.pos (by omega) ?_)))
   have ih := specLong_l h f (rd P i).toNat (a + 1) (by omega) (by omega) (by omega) (by omega)
   rw [Int.toNat_of_nonneg hp.1] at ih
   rw [w64 (by omega) (by omega)]
   refine Ev.eq' ih ?_
   rw [show dep P (f + 1) i = dep P f (rd P i).toNat + 1 from by rw [dep, if_neg c]]
   omega
theorem specLong {P B F : List Int} {E : List (List Int)} (h : GoodA P B F E) (i : Nat) (hi : i < P.length) : Ev (fun k => spec_l8Long.f k P B F E (i : Int)) (dep P P.length i : Int) := by
 unfold spec_l8Long.f
 have hn := h.n100
 exact Ev.eq' (specLong_l h P.length i 0 hi (by omega) (by omega) (by omega)) (by omega)
theorem Ev.anyList {α : Type} (l : List α) (p : α → Bool) (g : Nat → Nat → Option Bool) (h0 : Ev (fun k => g k l.length) false)
  (hs : ∀ (i : Nat) (hi : i < l.length) (v : Bool), Ev (fun k => g k (i + 1)) v → Ev (fun k => g k i) (p (l[i]'hi) || v)) : ∀ (d i : Nat), i + d = l.length → Ev (fun k => g k i) ((l.drop i).any p)
 | 0, i, hd => by
  have e : i = l.length := by omega
  subst e
  rw [List.drop_length]
  exact h0
 | d + 1, i, hd => by
  rw [drop_cons l (show i < l.length by omega), List.any_cons]
  exact hs i (by omega) _ (Ev.anyList l p g h0 hs d (i + 1) (by omega))
def hasM (l : List Int) (x : Int) : Bool := l.any fun y => decide (y = x)
theorem specHas (l : List Int) (x : Int) (hs : l.length ≤ 1000000000) : Ev (fun k => spec_l1Has.f k l x) (hasM l x) := by
 unfold spec_l1Has.f hasM
 have h := Ev.anyList l (fun y => decide (y = x)) (fun k i => spec_l1Has.l0 k x l (l.length : Int) (i : Int))
  (Ev.step (fun k => spec_l1Has.l0.eq_2 ..) (Ev.neg (by omega) (Ev.now _)))
  (fun i hi v hv => by
   refine Ev.step (fun k => spec_l1Has.l0.eq_2 ..) (Ev.pos (by omega) (Ev.pos (by omega) (Ev.pos (by omega) ?_)))
   rw [rd_eq l hi, w64s (by omega)]
   by_cases c : l[i] = x
   ·exact Ev.pos c (Ev.some' (by simp [c]))
   ·exact Ev.neg c (by simpa [c] using hv)) l.length 0 (by omega)
 rw [List.drop_zero] at h
 exact h
def wlF (P : List Int) (E : List (List Int)) (x : Int) : Nat → Nat → Int → Int
 | 0, _, b => b
 | d + 1, i, b => wlF P E x d (i + 1) (if hasM (E.getD i []) x && (decide (b < 0) || decide ((dep P P.length i : Int) < b)) then (dep P P.length i : Int) else b)
def wlM (P : List Int) (E : List (List Int)) (x : Int) : Int := wlF P E x E.length 0 (-1)
theorem specWordLong {P B F : List Int} {E : List (List Int)} (h : GoodA P B F E) (hs : ∀ x ∈ E, x.length ≤ 1048576) (x : Int) : ∀ (d i : Nat) (b : Int), i + d = E.length → Ev (fun k => spec_l8WordLong.l0 k x b E (E.length : Int) (i : Int) P B F E) (wlF P E x d i b)
 | 0, i, b, hd => Ev.step (fun k => spec_l8WordLong.l0.eq_2 ..) (Ev.neg (by omega) (Ev.now _))
 | d + 1, i, b, hd => by
  have hi : i < E.length := by omega
  have hn := h.n100
  have he := h.e
  have hl := specLong h i (by omega)
  have e1 : E.getD i [] = E[i] := by rw [List.getD_eq_getElem?_getD, List.getElem?_eq_getElem hi]; rfl
  refine Ev.step (fun k => spec_l8WordLong.l0.eq_2 ..) (Ev.pos (by omega) (Ev.pos (by omega) (Ev.pos (by omega) ?_)))
  rw [rdL_eq E hi]
  refine Ev.bind (specHas E[i] x (by have := hs _ (List.getElem_mem hi); omega)) ?_
  unfold wlF
  rw [e1, w64s (by omega)]
  cases hasM E[i] x
  ·exact Ev.neg (by simp) (by simpa using specWordLong h hs x d (i + 1) b (by omega))
  ·refine Ev.pos rfl ?_
   by_cases c : b < 0
   ·exact Ev.pos c (Ev.bind hl (by simpa [c] using specWordLong h hs x d (i + 1) (dep P P.length i : Int) (by omega)))
   ·refine Ev.neg c (Ev.bind hl ?_)
    by_cases c2 : (dep P P.length i : Int) < b
    ·exact Ev.pos c2 (Ev.bind hl (by simpa [c2] using specWordLong h hs x d (i + 1) (dep P P.length i : Int) (by omega)))
    ·exact Ev.neg c2 (by simpa [c, c2] using specWordLong h hs x d (i + 1) b (by omega))
theorem stepA_lt {P B F : List Int} {E : List (List Int)} (h : GoodA P B F E) (r : Int) : ∀ (d : Nat) (s : Int), 0 ≤ s → s < P.length → 0 ≤ stepA P B F r d s ∧ stepA P B F r d s < P.length
 | 0, s, h0, h1 => by
  have := h.n1
  simp only [stepA]
  omega
 | d + 1, s, h0, h1 => by
  have hn := h.n1
  simp only [stepA]
  split
  ·rename_i hq
   rcases findFrom_cases (p := pairAt P B s r) (v := fun j => (j : Int)) (z := -1) (P.length - 1) 1 with ⟨h3, _⟩ | ⟨m, h3, h4, _, _, h7⟩
   ·rw [h3] at hq
    omega
   ·rw [h7]
    omega
  ·split
   ·omega
   ·obtain ⟨n, rfl⟩ := Int.eq_ofNat_of_zero_le h0
    have hf := h.fail (i := n) (by omega) (by omega)
    exact stepA_lt h r d _ hf.1 (by omega)
abbrev HIT := S59
def hitM (P : List Int) (E : List (List Int)) (i : Nat) (x : Int) : HIT := ⟨x, ((i + 1 : Nat) : Int) - wlM P E x, ((i + 1 : Nat) : Int)⟩
def runM (P B F : List Int) (E : List (List Int)) : List Int → Nat → Int → List HIT → List HIT
 | [], _, _, acc => acc
 | r :: l, i, s, acc => runM P B F E l (i + 1) (stepA P B F r P.length s) (acc ++ (E.getD (stepA P B F r P.length s).toNat []).map (hitM P E i))
theorem wlF_le (P : List Int) (E : List (List Int)) (x : Int) (hP : P.length ≤ 100) : ∀ (d i : Nat) (b : Int), -1 ≤ b → b ≤ 100 → -1 ≤ wlF P E x d i b ∧ wlF P E x d i b ≤ 100
 | 0, _, b, h0, h1 => ⟨h0, h1⟩
 | d + 1, i, b, h0, h1 => by
  have hd := dep_le P P.length i
  unfold wlF
  apply wlF_le P E x hP d (i + 1)
  ·split <;> omega
  ·split <;> omega
theorem specHits {P B F : List Int} {E : List (List Int)} (h : GoodA P B F E) (hs : ∀ x ∈ E, x.length ≤ 1048576) (l row : List Int) (i m : Nat) (hi : i ≤ 1000) (hm : m ≤ 1048576000) (s : Int) (R : List HIT × Bool) (hr : row.length ≤ 1048576) : ∀ (d j : Nat) (acc : List HIT), j + d = row.length → acc.length ≤ m + j →
  Ev (fun k => spec_RunAho.l0 k (acc ++ (row.drop j).map (hitM P E i)) s l (l.length : Int) ((i + 1 : Nat) : Int) P B F E) R → Ev (fun k => spec_RunAho.l1 k acc s (i : Int) l (l.length : Int) (i : Int) row (row.length : Int) (j : Int) P B F E) R
 | 0, j, acc, hd, ha, hK => by
  rw [List.drop_eq_nil_of_le (by omega), List.map_nil, List.append_nil] at hK
  refine Ev.step (fun k => spec_RunAho.l1.eq_2 ..) (Ev.neg (by omega) ?_)
  rw [w64s (by omega)]
  exact hK
 | d + 1, j, acc, hd, ha, hK => by
  have hj : j < row.length := by omega
  have hw := specWordLong h hs row[j] E.length 0 (-1) (by omega)
  have hb := wlF_le P E row[j] h.n100 E.length 0 (-1) (by omega) (by omega)
  rw [drop_cons row hj, List.map_cons] at hK
  refine Ev.step (fun k => spec_RunAho.l1.eq_2 ..) (Ev.pos (by omega) (Ev.pos (by omega) (Ev.pos (by omega) ?_)))
  rw [rd_eq row hj]
  refine Ev.bind (a := wlM P E row[j]) (by unfold spec_l8WordLong.f; exact hw) (Ev.pos (by omega) ?_)
  rw [w64s (show i < 1000000000000000 by omega), w64s (show j < 1000000000000000 by omega), w64 (x := ((i + 1 : Nat) : Int) - wlM P E row[j]) (by unfold wlM; omega) (by unfold wlM; omega)]
  refine specHits h hs l row i m hi hm s R hr d (j + 1) _ (by omega) (by simp; omega) ?_
  rw [List.append_assoc]
  exact hK
theorem specRun_l {P B F : List Int} {E : List (List Int)} (h : GoodA P B F E) (hs : ∀ x ∈ E, x.length ≤ 1048576) (l : List Int) (hl : l.length ≤ 1000) : ∀ (d i : Nat) (s : Nat) (acc : List HIT), i + d = l.length → s < P.length → acc.length + d * 1048576 ≤ 1048576000 →
  Ev (fun k => spec_RunAho.l0 k acc (s : Int) l (l.length : Int) (i : Int) P B F E) (runM P B F E (l.drop i) i (s : Int) acc, true)
 | 0, i, s, acc, hd, h1, ha => by
  rw [List.drop_eq_nil_of_le (by omega)]
  exact Ev.step (fun k => spec_RunAho.l0.eq_2 ..) (Ev.neg (by omega) (Ev.now _))
 | d + 1, i, s, acc, hd, h1, ha => by
  have hi : i < l.length := by omega
  have he := h.e
  have hst := stepA_lt h l[i] P.length (s : Int) (by omega) (by omega)
  have hsp := specStep h l[i] P.length s h1 h1
  rw [drop_cons l hi]
  unfold runM
  refine Ev.step (fun k => spec_RunAho.l0.eq_2 ..) (Ev.pos (by omega) (Ev.pos (by omega) (Ev.pos (by omega) ?_)))
  rw [rd_eq l hi]
  refine Ev.bind hsp ?_
  generalize stepA P B F l[i] P.length (s : Int) = q at hst ⊢
  obtain ⟨m, rfl⟩ := Int.eq_ofNat_of_zero_le hst.1
  have hm : m < E.length := by omega
  refine Ev.pos (by omega) (Ev.pos (by omega) ?_)
  have e1 : E.getD m [] = E[m] := by rw [List.getD_eq_getElem?_getD, List.getElem?_eq_getElem hm]; rfl
  rw [rdL_eq E hm, Int.toNat_natCast, e1]
  have hrow := hs _ (List.getElem_mem hm)
  have hacc : (acc ++ (E[m].drop 0).map (hitM P E i)).length + d * 1048576 ≤ 1048576000 := by
   rw [List.length_append, List.length_map, List.drop_zero]
   rw [Nat.succ_mul] at ha
   omega
  have hK := specRun_l h hs l hl d (i + 1) m _ (by omega) (by omega) hacc
  rw [List.drop_zero] at hK
  have hin := specHits h hs l E[m] i acc.length (by omega) (by omega) (m : Int) _ hrow E[m].length 0 acc (by omega) (Nat.le_refl _) (by rw [List.drop_zero]; exact hK)
  exact hin
def runR (P B F : List Int) (E : List (List Int)) (l : List Int) : List HIT × Bool := if goodAhoB P B F E && (decide ((l.length : Int) ≤ 120) && l.all runeB) then (runM P B F E l 0 0 [], true) else ([], false)
end Go.Proofs.Ytoipfgpggcnkmaa.Pure
