/- The lengths of the words, as the program finds them. -/
import Derived.Test.YtoipfgpggcnkmaaCP0
import Derived.Test.YtoipfgpggcnkmaaC4
import Derived.Test.YtoipfgpggcnkmaaCAhoRun
set_option linter.unusedVariables false
set_option linter.unusedSimpArgs false
namespace Go.Proofs.Ytoipfgpggcnkmaa.Pure
open Go.RowKit Go.Proofs.Ytoipfgpggcnkmaa.P Go.Proofs.YtoipfgpggcnkmaaW.PrintWords
structure Known (o : List Int) (kn : List Bool) (b : Int → Int) : Prop where
 lo : o.length = 8
 lk : kn.length = 8
 kn : ∀ x : Int, 0 ≤ x → x < 8 → rdOf false kn x = decide (0 ≤ b x)
 o : ∀ x : Int, 0 ≤ x → x < 8 → 0 ≤ b x → rd o x = b x
def updB (b : Int → Int) (dp no : Int) : Int → Int := fun x => if x = no ∧ (b x < 0 ∨ dp < b x) then dp else b x
theorem foldB (dp : Int) (hd : 0 ≤ dp) : ∀ (row : List Int) (b : Int → Int) (x : Int), (row.foldl (fun b no => updB b dp no) b) x = if hasM row x && (decide (b x < 0) || decide (dp < b x)) then dp else b x
 | [], b, x => by simp [hasM]
 | y :: row, b, x => by
  rw [List.foldl_cons, foldB dp hd row (updB b dp y) x]
  by_cases c : y = x
  ·subst c
   by_cases c2 : b y < 0 ∨ dp < b y
   ·have e : updB b dp y y = dp := by simp [updB, c2]
    rw [e]
    have e2 : (decide (dp < 0) || decide (dp < dp)) = false := by simp; omega
    have e3 : (decide (b y < 0) || decide (dp < b y)) = true := by simpa using c2
    rw [e2, e3]
    simp [hasM]
   ·have e : updB b dp y y = b y := by simp [updB, c2]
    rw [e]
    have e3 : (decide (b y < 0) || decide (dp < b y)) = false := by simpa using c2
    rw [e3]
    simp
  ·have e : updB b dp y x = b x := by simp [updB, Ne.symm c]
   rw [e]
   simp [hasM, c]
theorem rdOf_set {α : Type} (d : α) (l : List α) (x y : Int) (v : α) (h0 : 0 ≤ x) (h : x < (l.length : Int)) (hy : 0 ≤ y) : rdOf d (l.set x.toNat v) y = if y = x then v else rdOf d l y := by
 unfold rdOf
 rw [List.getD_eq_getElem?_getD, List.getD_eq_getElem?_getD]
 by_cases c : y = x
 ·subst c
  rw [if_pos rfl, List.getElem?_set_self (by omega)]
  rfl
 ·rw [if_neg c, List.getElem?_set_ne (by omega)]
theorem rd_set (l : List Int) (x y v : Int) (h0 : 0 ≤ x) (h : x < (l.length : Int)) (hy : 0 ≤ y) : rd (l.set x.toNat v) y = if y = x then v else rd l y := by
 unfold rd
 rw [List.getD_eq_getElem?_getD, List.getD_eq_getElem?_getD]
 by_cases c : y = x
 ·subst c
  rw [if_pos rfl, List.getElem?_set_self (by omega)]
  rfl
 ·rw [if_neg c, List.getElem?_set_ne (by omega)]
theorem Known.upd {o : List Int} {kn : List Bool} {b : Int → Int} (h : Known o kn b) (dp no : Int) (hd : 0 ≤ dp) (h0 : 0 ≤ no) (h8 : no < 8) (hc : b no < 0 ∨ dp < b no) : Known (o.set no.toNat dp) (kn.set no.toNat true) (updB b dp no) := by
 have e1 := h.lo
 have e2 := h.lk
 refine ⟨by simpa using h.lo, by simpa using h.lk, fun x hx hx8 => ?_, fun x hx hx8 hb => ?_⟩
 ·rw [rdOf_set false kn no x true h0 (by omega) hx]
  by_cases c : x = no
  ·subst c
   simp [updB, hc, hd]
  ·rw [if_neg c, h.kn x hx hx8]
   simp [updB, c]
 ·rw [rd_set o no x dp h0 (by omega) hx]
  by_cases c : x = no
  ·subst c
   simp [updB, hc]
  ·rw [if_neg c]
   have e : updB b dp no x = b x := by simp [updB, c]
   rw [e] at hb ⊢
   exact h.o x hx hx8 hb
theorem updB_same {b : Int → Int} {dp no : Int} (h : ¬ (b no < 0 ∨ dp < b no)) : updB b dp no = b := by
 funext x
 unfold updB
 split
 ·rename_i c
  rw [c.1] at c
  exact absurd c.2 h
 ·rfl
theorem len_inner {P : List Int} {E : List (List Int)} (lg row : List Int) (i : Nat) (hi : i < lg.length) (dp : Int) (hdp : rd lg (i : Int) = dp) (hd0 : 0 ≤ dp) (hrow : ∀ x ∈ row, 0 ≤ x ∧ x < 8) (hl : row.length ≤ 1048576) (R : (Int → Int) → List Int → Prop) (b0 : Int → Int)
  (hK : ∀ o kn b, b = row.foldl (fun b no => updB b dp no) b0 → Known o kn b → ∃ r, R b r ∧ Ev (fun k => impl_Aho_lengths.l0 k o kn lg (wrap64 ((i : Int) + 1)) P E) r) :
  ∀ (d j : Nat) (o : List Int) (kn : List Bool) (b : Int → Int), j + d = row.length → Known o kn b → (row.drop j).foldl (fun b no => updB b dp no) b = row.foldl (fun b no => updB b dp no) b0 → ∃ r, (∃ b, b = row.foldl (fun b no => updB b dp no) b0 ∧ R b r) ∧ Ev (fun k => impl_Aho_lengths.l1 k o kn lg (i : Int) row (j : Int) P E) r
 | 0, j, o, kn, b, hd, h, he => by
  rw [List.drop_eq_nil_of_le (by omega), List.foldl_nil] at he
  obtain ⟨r, h1, h2⟩ := hK o kn b he h
  exact ⟨r, ⟨b, he, h1⟩, Ev.step (fun k => impl_Aho_lengths.l1.eq_2 ..) (Ev.neg (by omega) h2)⟩
 | d + 1, j, o, kn, b, hd, h, he => by
  have hj : j < row.length := by omega
  have hx := hrow _ (List.getElem_mem hj)
  have hk := h.kn _ hx.1 hx.2
  rw [drop_cons row hj, List.foldl_cons] at he
  by_cases c : b row[j] < 0 ∨ dp < b row[j]
  ·obtain ⟨r, h1, h2⟩ := len_inner lg row i hi dp hdp hd0 hrow hl R b0 hK d (j + 1) (o.set (row[j]).toNat dp) (kn.set (row[j]).toNat true) (updB b dp row[j]) (by omega) (h.upd dp _ hd0 hx.1 hx.2 c) he
   refine ⟨r, h1, Ev.step (fun k => impl_Aho_lengths.l1.eq_2 ..) (Ev.pos (by omega) (Ev.pos (by omega) ?_))⟩
   rw [rd_eq row hj, w64s (by omega), hdp]
   refine Ev.pos hx.1 (Ev.pos hx.2 (Ev.pos (by omega) ?_))
   by_cases c2 : b row[j] < 0
   ·exact Ev.pos (by rw [hk]; simp; omega) h2
   ·refine Ev.neg (by rw [hk]; simp; omega) (Ev.pos ?_ h2)
    rw [h.o _ hx.1 hx.2 (by omega)]
    omega
  ·rw [updB_same c] at he
   obtain ⟨r, h1, h2⟩ := len_inner lg row i hi dp hdp hd0 hrow hl R b0 hK d (j + 1) o kn b (by omega) h he
   refine ⟨r, h1, Ev.step (fun k => impl_Aho_lengths.l1.eq_2 ..) (Ev.pos (by omega) (Ev.pos (by omega) ?_))⟩
   rw [rd_eq row hj, w64s (by omega), hdp]
   refine Ev.pos hx.1 (Ev.pos hx.2 (Ev.pos (by omega) (Ev.neg (by rw [hk]; simp; omega) (Ev.neg ?_ h2))))
   rw [h.o _ hx.1 hx.2 (by omega)]
   omega
theorem len_outer {P B F : List Int} {E : List (List Int)} (h : GoodA P B F E) (hs : ∀ x ∈ E, x.length ≤ 1048576) (hrow : ∀ x ∈ E, ∀ y ∈ x, 0 ≤ y ∧ y < 8) : ∀ (d i : Nat) (o : List Int) (kn : List Bool) (lg : List Int) (b : Int → Int), i + d = E.length → Known o kn b → lg.length = P.length → (∀ j, j < i → rd lg (j : Int) = (dep P P.length j : Int)) → (i = 0 → rd lg 0 = 0) →
  ∃ r, (r.length = 8 ∧ ∀ x : Int, 0 ≤ x → x < 8 → 0 ≤ wlF P E x d i (b x) → rd r x = wlF P E x d i (b x)) ∧ Ev (fun k => impl_Aho_lengths.l0 k o kn lg (i : Int) P E) r
 | 0, i, o, kn, lg, b, hd, hk, hl, hg, hz => ⟨o, ⟨hk.lo, fun x h0 h8 hb => hk.o x h0 h8 hb⟩, Ev.step (fun k => impl_Aho_lengths.l0.eq_2 ..) (Ev.neg (by omega) (Ev.now _))⟩
 | d + 1, i, o, kn, lg, b, hd, hk, hl, hg, hz => by
  have hi : i < E.length := by omega
  have hn := h.n100
  have he := h.e
  have e1 : E.getD i [] = E[i] := by rw [List.getD_eq_getElem?_getD, List.getElem?_eq_getElem hi]; rfl
  have key : ∀ lg2 : List Int, lg2.length = P.length → (∀ j, j < i + 1 → rd lg2 (j : Int) = (dep P P.length j : Int)) → ∃ r, (r.length = 8 ∧ ∀ x : Int, 0 ≤ x → x < 8 → 0 ≤ wlF P E x (d + 1) i (b x) → rd r x = wlF P E x (d + 1) i (b x)) ∧ Ev (fun k => impl_Aho_lengths.l1 k o kn lg2 (i : Int) E[i] 0 P E) r := by
   intro lg2 hl2 hg2
   have hdp := hg2 i (by omega)
   obtain ⟨r, ⟨b2, hb2, hr⟩, hE⟩ := len_inner (P := P) (E := E) lg2 E[i] i (by omega) (dep P P.length i : Int) hdp (by omega) (hrow _ (List.getElem_mem hi)) (hs _ (List.getElem_mem hi))
    (fun b2 r => r.length = 8 ∧ ∀ x : Int, 0 ≤ x → x < 8 → 0 ≤ wlF P E x d (i + 1) (b2 x) → rd r x = wlF P E x d (i + 1) (b2 x)) b
    (fun o2 kn2 b2 _ hk2 => by
     obtain ⟨r, h1, h2⟩ := len_outer h hs hrow d (i + 1) o2 kn2 lg2 b2 (by omega) hk2 hl2 hg2 (by omega)
     refine ⟨r, h1, ?_⟩
     rw [w64s (by omega)]
     exact h2) E[i].length 0 o kn b (by omega) hk (by rw [List.drop_zero])
   refine ⟨r, ⟨hr.1, fun x h0 h8 hb => ?_⟩, hE⟩
   have e2 : wlF P E x (d + 1) i (b x) = wlF P E x d (i + 1) (b2 x) := by
    rw [hb2, foldB _ (by omega), wlF, e1]
   rw [e2] at hb ⊢
   exact hr.2 x h0 h8 hb
  by_cases c : i = 0
  ·subst c
   obtain ⟨r, h1, h2⟩ := key lg hl (fun j hj => by
    obtain rfl : j = 0 := by omega
    rw [show ((0 : Nat) : Int) = 0 from rfl, hz rfl]
    cases P.length <;> simp [dep])
   refine ⟨r, h1, Ev.step (fun k => impl_Aho_lengths.l0.eq_2 ..) (Ev.pos (by omega) (Ev.pos (by omega) (Ev.neg (by omega) ?_)))⟩
   rw [rdL_eq E hi]
   exact h2
  ·have hp := h.parent (i := i) (by omega) (by omega)
   have hpd := hg (rd P i).toNat (by omega)
   rw [Int.toNat_of_nonneg hp.1] at hpd
   have hdl := dep_le P P.length (rd P i).toNat
   have hdd : dep P P.length i = dep P P.length (rd P i).toNat + 1 := by
    obtain ⟨m, hm⟩ : ∃ m, P.length = m + 1 := ⟨P.length - 1, by omega⟩
    rw [dep_same h P.length m (rd P i).toNat (by omega) (by omega) (by omega), hm]
    simp [dep, c]
   obtain ⟨r, h1, h2⟩ := key (lg.set i (dep P P.length i : Int)) (by simpa using hl) (fun j hj => by
    have hs2 := rd_set lg (i : Int) (j : Int) (dep P P.length i : Int) (by omega) (by omega) (by omega)
    rw [Int.toNat_natCast] at hs2
    rw [hs2]
    by_cases cj : j = i
    ·rw [if_pos (by omega), cj]
    ·rw [if_neg (by omega), hg j (by omega)])
   refine ⟨r, h1, Ev.step (fun k => impl_Aho_lengths.l0.eq_2 ..) (Ev.pos (by omega) (Ev.pos (by omega) (Ev.pos (by omega) (Ev.pos (by omega) (Ev.pos (by omega) (Ev.pos (by omega) (Ev.pos (by omega) ?_)))))))⟩
   rw [rdL_eq E hi, hpd, w64 (by omega) (by omega), Int.toNat_natCast]
   rw [hdd] at h2
   exact h2
theorem wlF_mono (P : List Int) (E : List (List Int)) (x : Int) : ∀ (d i : Nat) (b : Int), 0 ≤ b → 0 ≤ wlF P E x d i b
 | 0, _, b, h => h
 | d + 1, i, b, h => by
  unfold wlF
  apply wlF_mono P E x d (i + 1)
  split <;> omega
theorem wlF_has (P : List Int) (E : List (List Int)) (x : Int) : ∀ (d i j : Nat) (b : Int), i + d = E.length → i ≤ j → j < E.length → hasM (E.getD j []) x = true → 0 ≤ wlF P E x d i b
 | 0, i, j, b, hd, h1, h2, _ => by omega
 | d + 1, i, j, b, hd, h1, h2, h => by
  unfold wlF
  by_cases c : i = j
  ·subst c
   apply wlF_mono
   rw [h]
   by_cases c2 : b < 0
   ·simp [c2]
   ·split <;> omega
  ·exact wlF_has P E x d (i + 1) j _ (by omega) (by omega) h2 h
theorem lengths_eq {P B F : List Int} {E : List (List Int)} (h : GoodA P B F E) (hs : ∀ x ∈ E, x.length ≤ 1048576) (hrow : ∀ x ∈ E, ∀ y ∈ x, 0 ≤ y ∧ y < 8) : ∃ lg : List Int, (lg.length = 8 ∧ ∀ row ∈ E, ∀ x ∈ row, rd lg x = wlM P E x) ∧ Ev (fun k => impl_Aho_lengths.f k P B F E) lg := by
 have hn := h.n100
 have rz : ∀ x : Int, rd (List.replicate P.length (0 : Int)) x = 0 := fun x => by
  unfold rd
  rw [List.getD_eq_getElem?_getD, List.getElem?_replicate]
  split <;> rfl
 obtain ⟨r, ⟨h1, h2⟩, h3⟩ := len_outer h hs hrow E.length 0 (List.replicate 8 0) (List.replicate 8 false) (List.replicate P.length 0) (fun _ => -1) (by omega)
  ⟨rfl, rfl, fun x h0 h8 => by unfold rdOf; rw [List.getD_eq_getElem?_getD, List.getElem?_replicate]; split <;> rfl, fun x h0 h8 hb => by omega⟩ (by simp) (fun j hj => by omega) (fun _ => rz 0)
 refine ⟨r, ⟨h1, fun row hr x hx => ?_⟩, ?_⟩
 ·obtain ⟨j, hj, rfl⟩ := List.getElem_of_mem hr
  have hx8 := hrow _ hr x hx
  exact h2 x hx8.1 hx8.2 (wlF_has P E x E.length 0 j (-1) (by omega) (by omega) hj (by
   rw [List.getD_eq_getElem?_getD, List.getElem?_eq_getElem hj]
   exact List.any_eq_true.2 ⟨x, hx, by simp⟩))
 ·unfold impl_Aho_lengths.f
  exact Ev.pos (by omega) h3
end Go.Proofs.Ytoipfgpggcnkmaa.Pure
