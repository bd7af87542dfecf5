/- The program's RunAho answers as the reference's, for every machine of words and every list: no condition. -/
import Derived.Test.YtoipfgpggcnkmaaCP0
import Derived.Test.YtoipfgpggcnkmaaC5
import Derived.Test.YtoipfgpggcnkmaaC6
import Derived.Test.YtoipfgpggcnkmaaCStFnExactRunAho
import Derived.Test.YtoipfgpggcnkmaaCAhoRun2
import Derived.Test.YtoipfgpggcnkmaaCAhoRun3
import Derived.Test.YtoipfgpggcnkmaaCMarkSS
import Derived.Test.YtoipfgpggcnkmaaCMarkHit
set_option linter.unusedVariables false
set_option linter.unusedSimpArgs false
namespace Go.Proofs.Ytoipfgpggcnkmaa.Pure
open Go.RowKit Go.Proofs.Ytoipfgpggcnkmaa.P Go.Proofs.YtoipfgpggcnkmaaW.PrintWords
theorem implHits {P B F : List Int} {E : List (List Int)} (h : GoodA P B F E) (lg : List Int) (l row : List Int) (i m : Nat) (hi : i ≤ 1000) (hm : m ≤ 1048576000) (s : Int) (R : List HIT × Bool) (hr : row.length ≤ 1048576) (hx : ∀ x ∈ row, 0 ≤ x ∧ x < 8) (hlg : ∀ x ∈ row, rd lg x = wlM P E x) : ∀ (d j : Nat) (acc : List HIT), j + d = row.length → acc.length ≤ m + j →
  Ev (fun k => impl_RunAho.l0 k (acc ++ (row.drop j).map (hitM P E i)) s l ((i + 1 : Nat) : Int) P B F E lg) R → Ev (fun k => impl_RunAho.l1 k acc s l (i : Int) row (j : Int) P B F E lg) R
 | 0, j, acc, hd, ha, hK => by
  rw [List.drop_eq_nil_of_le (by omega), List.map_nil, List.append_nil] at hK
  refine Ev.step (fun k => impl_RunAho.l1.eq_2 ..) (Ev.neg (by omega) ?_)
  rw [w64s (by omega)]
  exact hK
 | d + 1, j, acc, hd, ha, hK => by
  have hj : j < row.length := by omega
  have hb := wlF_le P E row[j] h.n100 E.length 0 (-1) (by omega) (by omega)
  have h8 := hx _ (List.getElem_mem hj)
  rw [drop_cons row hj, List.map_cons] at hK
  refine Ev.step (fun k => impl_RunAho.l1.eq_2 ..) (Ev.pos (by omega) (Ev.pos (by omega) ?_))
  rw [rd_eq row hj, hlg _ (List.getElem_mem hj)]
  refine Ev.pos h8.1 (Ev.pos h8.2 (Ev.pos (by omega) ?_))
  rw [w64s (show i < 1000000000000000 by omega), w64s (show j < 1000000000000000 by omega), w64 (x := ((i + 1 : Nat) : Int) - wlM P E row[j]) (by unfold wlM; omega) (by unfold wlM; omega)]
  refine implHits h lg l row i m hi hm s R hr hx hlg d (j + 1) _ (by omega) (by simp; omega) ?_
  rw [List.append_assoc]
  exact hK
theorem implRun_l {P B F : List Int} {E : List (List Int)} (h : GoodA P B F E) (hs : ∀ x ∈ E, x.length ≤ 1048576) (hx : ∀ x ∈ E, ∀ y ∈ x, 0 ≤ y ∧ y < 8) (lg : List Int) (hlg : ∀ row ∈ E, ∀ x ∈ row, rd lg x = wlM P E x) (l : List Int) (hl : l.length ≤ 1000) : ∀ (d i : Nat) (s : Nat) (acc : List HIT), i + d = l.length → s < P.length → acc.length + d * 1048576 ≤ 1048576000 →
  Ev (fun k => impl_RunAho.l0 k acc (s : Int) l (i : Int) P B F E lg) (runM P B F E (l.drop i) i (s : Int) acc, true)
 | 0, i, s, acc, hd, h1, ha => by
  rw [List.drop_eq_nil_of_le (by omega)]
  exact Ev.step (fun k => impl_RunAho.l0.eq_2 ..) (Ev.neg (by omega) (Ev.now _))
 | d + 1, i, s, acc, hd, h1, ha => by
  have hi : i < l.length := by omega
  have he := h.e
  have hst := stepA_lt h l[i] P.length (s : Int) (by omega) (by omega)
  have hsp := implStep h l[i] P.length s h1 h1
  rw [drop_cons l hi]
  unfold runM
  refine Ev.step (fun k => impl_RunAho.l0.eq_2 ..) (Ev.pos (by omega) (Ev.pos (by omega) ?_))
  rw [rd_eq l hi]
  refine Ev.bind hsp ?_
  generalize stepA P B F l[i] P.length (s : Int) = q at hst ⊢
  obtain ⟨m, rfl⟩ := Int.eq_ofNat_of_zero_le hst.1
  have hm : m < E.length := by omega
  refine Ev.pos (by omega) (Ev.pos (by omega) ?_)
  have e1 : E.getD m [] = E[m] := by rw [List.getD_eq_getElem?_getD, List.getElem?_eq_getElem hm]; rfl
  rw [rdL_eq E hm, Int.toNat_natCast, e1]
  have hrow := hs _ (List.getElem_mem hm)
  have hacc : (acc ++ (E[m].drop 0).map (hitM P E i)).length + d * 1048576 ≤ 1048576000 := by
   rw [List.length_append, List.length_map, List.drop_zero]
   rw [Nat.succ_mul] at ha
   omega
  have hK := implRun_l h hs hx lg hlg l hl d (i + 1) m _ (by omega) (by omega) hacc
  rw [List.drop_zero] at hK
  exact implHits h lg l E[m] i acc.length (by omega) (by omega) (m : Int) _ hrow (hx _ (List.getElem_mem hm)) (hlg _ (List.getElem_mem hm)) E[m].length 0 acc (by omega) (Nat.le_refl _) (by rw [List.drop_zero]; exact hK)
theorem risingB_in : ∀ (l : List Int) (a b : Int), risingB l a b = true → ∀ x ∈ l, a ≤ x ∧ x ≤ b := by
 intro l a b h x hx
 obtain ⟨i, hi, rfl⟩ := List.getElem_of_mem hx
 unfold risingB at h
 have ha := (allFrom_iff _ _ _).1 h i (by omega) (by omega)
 unfold riseAt inB at ha
 rw [rd_eq l hi] at ha
 simp only [Bool.and_eq_true, decide_eq_true_eq] at ha
 exact ha.1
theorem rising_ge (l : List Int) (b : Int) (h : risingB l 0 b = true) : ∀ (i : Nat) (hi : i < l.length), (i : Int) ≤ l[i]
 | 0, hi => (risingB_in l 0 b h _ (List.getElem_mem hi)).1
 | i + 1, hi => by
  have ih := rising_ge l b h i (by omega)
  unfold risingB at h
  have ha := (allFrom_iff _ _ _).1 h (i + 1) (by omega) (by omega)
  unfold riseAt at ha
  rw [rd_eq l hi, show (((i + 1 : Nat) : Int) - 1) = (i : Int) by omega, rd_eq l (show i < l.length by omega)] at ha
  simp only [Bool.and_eq_true, Bool.or_eq_true, decide_eq_true_eq] at ha
  omega
theorem rising_len (l : List Int) (h : risingB l 0 7 = true) : l.length ≤ 8 := by
 by_cases c : l.length = 0
 ·omega
 have h1 := rising_ge l 7 h (l.length - 1) (by omega)
 have h2 := risingB_in l 0 7 h _ (List.getElem_mem (show l.length - 1 < l.length by omega))
 omega
theorem GoodA.rows {P B F : List Int} {E : List (List Int)} (h : GoodA P B F E) : ∀ x ∈ E, ∀ y ∈ x, 0 ≤ y ∧ y < 8 := by
 intro x hx y hy
 obtain ⟨i, hi, rfl⟩ := List.getElem_of_mem hx
 have ha := h.at_ i (by have := h.e; omega)
 unfold ahoAt at ha
 rw [Bool.and_eq_true, rdL_eq E hi] at ha
 have := risingB_in _ 0 7 ha.1 y hy
 omega
theorem GoodA.short {P B F : List Int} {E : List (List Int)} (h : GoodA P B F E) (i : Nat) : (E.getD i []).length ≤ 8 := by
 rw [List.getD_eq_getElem?_getD]
 by_cases hi : i < E.length
 ·rw [List.getElem?_eq_getElem hi]
  have ha := h.at_ i (by have := h.e; omega)
  unfold ahoAt at ha
  rw [Bool.and_eq_true, rdL_eq E hi] at ha
  exact rising_len _ ha.1
 ·rw [List.getElem?_eq_none (by omega)]
  simp
theorem runM_len {P B F : List Int} {E : List (List Int)} (h : GoodA P B F E) : ∀ (l : List Int) (i : Nat) (s : Int) (acc : List HIT), (runM P B F E l i s acc).length ≤ acc.length + 8 * l.length
 | [], _, _, acc => by simp [runM]
 | r :: l, i, s, acc => by
  unfold runM
  have := runM_len h l (i + 1) (stepA P B F r P.length s) (acc ++ (E.getD (stepA P B F r P.length s).toNat []).map (hitM P E i))
  have := h.short (stepA P B F r P.length s).toNat
  rw [List.length_append, List.length_map] at *
  rw [List.length_cons]
  omega
theorem implRunAho (P B F : List Int) (E : List (List Int)) (l : List Int) (h : SmallA P B F E) (hl : l.length ≤ 1000000000) : Ev (fun k => impl_RunAho.f k P B F E l) (runR P B F E l) := by
 unfold impl_RunAho.f runR
 refine Ev.bind (implGoodAho P B F E h.row) ?_
 cases c1 : goodAhoB P B F E
 ·exact Ev.neg (by simp) (Ev.now _)
 refine Ev.pos rfl (Ev.bind (a := (decide ((l.length : Int) ≤ 120) && l.all runeB)) (Ev.congr (fun k => areRunes l 120 k) (Ev.now _)) ?_)
 rw [Bool.true_and]
 cases c2 : (decide ((l.length : Int) ≤ 120) && l.all runeB)
 ·exact Ev.neg (by simp) (Ev.now _)
 ·rw [Bool.and_eq_true, decide_eq_true_eq] at c2
  have g := goodA_of c1
  have hn := g.n1
  obtain ⟨lg, ⟨h8, hlg⟩, hE⟩ := lengths_eq g h.es g.rows
  refine Ev.pos rfl (Ev.bind hE ?_)
  have hr := implRun_l g h.es g.rows lg hlg l (by omega) l.length 0 0 [] (by omega) (by omega) (by simp; omega)
  rw [List.drop_zero] at hr
  exact hr
theorem runR_len (P B F : List Int) (E : List (List Int)) (l : List Int) (h : SmallA P B F E) : (runR P B F E l).1.length ≤ 1000000 := by
 unfold runR
 cases c1 : goodAhoB P B F E
 ·simp
 rw [Bool.true_and]
 cases c2 : (decide ((l.length : Int) ≤ 120) && l.all runeB)
 ·simp
 rw [Bool.and_eq_true, decide_eq_true_eq] at c2
 have := runM_len (goodA_of c1) l 0 0 []
 rw [if_pos rfl]
 simp only [List.length_nil] at this
 show (runM P B F E l 0 0 []).length ≤ 1000000
 omega
theorem markAho (P B F : List Int) (E : List (List Int)) (h : SmallA P B F E) : Ev (fun k => laws_markAho.f k P B F E 1) (1 + (P.length : Int) + (B.length : Int) + (F.length : Int) + (sumLen E : Int), marked 1 P.length, marked (1 + (P.length : Int)) B.length, marked (1 + (P.length : Int) + (B.length : Int)) F.length, markedSS (1 + (P.length : Int) + (B.length : Int) + (F.length : Int)) E) := by
 have h1 := h.p
 have h2 := h.b
 have h3 := h.f
 have h4 := h.ns
 have h5 := h.e
 unfold laws_markAho.f
 exact Ev.bind (markIntS P 1 (by omega) (by omega) (by omega)) (Ev.bind (markIntS B _ (by omega) (by omega) (by omega)) (Ev.bind (markIntS F _ (by omega) (by omega) (by omega)) (Ev.bind (markIntSS E _ (by omega) (by omega) (by omega)) (Ev.now _))))
theorem FnExactRunAho : FnExactRunAho_Pure := by
 intro P B F E l w1 w2 w3 w4 w5
 refine Ev.get (g := fun k => laws_FnExactRunAho.f k P B F E l) ?_
 unfold laws_FnExactRunAho.f
 by_cases c0 : (l.length : Int) > 1048576
 ·exact Ev.pos c0 (Ev.now _)
 refine Ev.neg c0 ?_
 obtain ⟨q, hr, hc⟩ := szAho_cases P B F E (by omega) (by omega) (by omega) (by omega) (fun x hx => by have := (w4.2 x hx).1; omega)
 refine Ev.bind hr ?_
 rcases hc with hc | ⟨h0, hz⟩
 ·exact Ev.pos hc (Ev.now _)
 have t := toAho P B F E hz
 have tl := toIntS l (by omega)
 have s := specRunAho P B F E l hz (by omega)
 have p := implRunAho P B F E l hz (by omega)
 have hn := runR_len P B F E l hz
 have e := eqHitS_self (runR P B F E l).1 hn
 have z1 := hz.p
 have z2 := hz.b
 have z3 := hz.f
 have z4 := hz.ns
 have m := markHitS (runR P B F E l).1 1 (by omega) (by omega) hn
 have g := heldHitS (runR P B F E l).1.length 1 (by omega) (by omega) hn
 have ml := markIntS l (1 + (P.length : Int) + (B.length : Int) + (F.length : Int) + (sumLen E : Int)) (by omega) (by omega) (by omega)
 refine Ev.neg (by omega) (Ev.bind t (Ev.bind tl (Ev.bind s (Ev.bind t (Ev.bind tl (Ev.bind p (Ev.bind e (Ev.pos rfl (Ev.pos rfl (Ev.bind t (Ev.bind (eqAho_self P B F E hz) (Ev.pos rfl (Ev.bind tl (Ev.bind (eqIntS_self l (by omega)) (Ev.pos rfl (Ev.bind (markAho P B F E hz) (Ev.bind ml (Ev.neg (by omega) ?_))))))))))))))))))
 refine Ev.bind e (Ev.pos rfl (Ev.pos rfl (Ev.bind m (Ev.bind g (Ev.neg (by omega) (Ev.pos rfl ?_))))))
 exact Ev.bind t (Ev.bind tl (Ev.bind p (Ev.bind e (Ev.pos rfl (Ev.pos rfl (Ev.bind g (Ev.neg (by omega) (Ev.pos rfl (Ev.now _)))))))))
end Go.Proofs.Ytoipfgpggcnkmaa.Pure
