/- The least of the shortest lists that a machine takes: the program's queue and the reference's lists go side by side. -/
import Derived.Test.YtoipfgpggcnkmaaCP0
import Derived.Test.YtoipfgpggcnkmaaC1
import Derived.Test.YtoipfgpggcnkmaaC2
import Derived.Test.YtoipfgpggcnkmaaC3
import Derived.Test.YtoipfgpggcnkmaaCDfaGood
import Derived.Test.YtoipfgpggcnkmaaCHasM
set_option linter.unusedVariables false
set_option linter.unusedSimpArgs false
namespace Go.Proofs.Ytoipfgpggcnkmaa.Pure
open Go.RowKit Go.Proofs.Ytoipfgpggcnkmaa.P Go.Proofs.YtoipfgpggcnkmaaW.PrintWords
abbrev PTH := S84
def qOf (st : List Int) (ws : List (List Int)) : List PTH := List.zipWith (fun s w => (⟨s, w⟩ : PTH)) st ws
structure Bf (N : List (List Int)) (st : List Int) (ws : List (List Int)) (seen : List Bool) : Prop where
 len : ws.length = st.length
 sl : seen.length = N.length
 sn : ∀ s : Int, 0 ≤ s → s < (N.length : Int) → rdOf false seen s = hasM st s
 inr : ∀ s ∈ st, 0 ≤ s ∧ s < (N.length : Int)
 nd : st.Nodup
 wl : ∀ (j : Nat) (h : j < ws.length), ws[j].length ≤ j
theorem nodup_short : ∀ (n : Nat) (l : List Int), l.Nodup → (∀ s ∈ l, 0 ≤ s ∧ s < (n : Int)) → l.length ≤ n
 | 0, l, _, h => by
  cases l with
  | nil => simp
  | cons a r => have := h a List.mem_cons_self; omega
 | n + 1, l, hn, h => by
  by_cases c : (n : Int) ∈ l
  ·have h1 := nodup_short n (l.erase (n : Int)) (hn.erase _) (fun s hs => by
    have h2 := h s (List.mem_of_mem_erase hs)
    have h3 : s ≠ (n : Int) := fun e => by rw [e] at hs; exact (List.Nodup.not_mem_erase hn) hs
    omega)
   rw [List.length_erase_of_mem c] at h1
   omega
  ·have h1 := nodup_short n l hn (fun s hs => by
    have h2 := h s hs
    have h3 : s ≠ (n : Int) := fun e => c (e ▸ hs)
    omega)
   omega
theorem hasM_iff (l : List Int) (x : Int) : hasM l x = true ↔ x ∈ l := by
 unfold hasM
 rw [List.any_eq_true]
 constructor
 ·rintro ⟨y, hy, h⟩
  rw [decide_eq_true_eq] at h
  exact h ▸ hy
 ·intro h
  exact ⟨x, h, by simp⟩
theorem hasM_snoc (l : List Int) (t s : Int) : hasM (l ++ [t]) s = (hasM l s || decide (t = s)) := by
 unfold hasM
 rw [List.any_append]
 simp
theorem rdOf_setB (l : List Bool) (x y : Int) (v : Bool) (h0 : 0 ≤ x) (h : x < (l.length : Int)) (hy : 0 ≤ y) : rdOf false (l.set x.toNat v) y = if y = x then v else rdOf false l y := by
 unfold rdOf
 rw [List.getD_eq_getElem?_getD, List.getD_eq_getElem?_getD]
 by_cases c : y = x
 ·subst c
  rw [if_pos rfl, List.getElem?_set_self (by omega)]
  rfl
 ·rw [if_neg c, List.getElem?_set_ne (by omega)]
theorem Bf.add {N : List (List Int)} {st : List Int} {ws : List (List Int)} {seen : List Bool} (h : Bf N st ws seen) (t : Int) (w : List Int) (h0 : 0 ≤ t) (h1 : t < (N.length : Int)) (hn : hasM st t = false) (hw : w.length ≤ ws.length) : Bf N (st ++ [t]) (ws ++ [w]) (seen.set t.toNat true) := by
 have e := h.sl
 refine ⟨by simp [h.len], by simpa using h.sl, fun s hs hs2 => ?_, fun s hs => ?_, ?_, fun j hj => ?_⟩
 ·rw [rdOf_setB seen t s true h0 (by omega) hs, hasM_snoc, h.sn s hs hs2]
  by_cases c : s = t
  ·simp [c]
  ·rw [if_neg c, decide_eq_false (fun e => c e.symm), Bool.or_false]
 ·rcases List.mem_append.1 hs with h2 | h2
  ·exact h.inr s h2
  ·rw [List.mem_singleton.1 h2]
   exact ⟨h0, h1⟩
 ·rw [List.nodup_append]
  refine ⟨h.nd, by simp, fun a ha b hb => ?_⟩
  rw [List.mem_singleton.1 hb]
  intro e
  rw [e] at ha
  rw [(hasM_iff st t).2 ha] at hn
  cases hn
 ·rw [List.length_append, List.length_singleton] at hj
  by_cases c : j < ws.length
  ·rw [List.getElem_append_left c]
   exact h.wl j c
  ·rw [List.getElem_append_right (by omega)]
   have : j = ws.length := by omega
   simp [this, hw]
structure GoodD (C : List Int) (N : List (List Int)) (F : List Bool) : Prop where
 c : C.length ≤ 40
 n : N.length ≤ 60
 n1 : 1 ≤ N.length
 f : F.length = N.length
 row : ∀ x ∈ N, x.length = C.length + 1 ∧ ∀ t ∈ x, 0 ≤ t ∧ t < (N.length : Int)
theorem goodD_of {C : List Int} {N : List (List Int)} {F : List Bool} (h : goodDfaB C N F = true) : GoodD C N F := by
 unfold goodDfaB at h
 simp only [Bool.and_eq_true, decide_eq_true_eq] at h
 obtain ⟨h1, h2, h3, h4, h5⟩ := h
 unfold inB at h1
 simp only [Bool.and_eq_true, decide_eq_true_eq] at h1
 refine ⟨by omega, by omega, by omega, by omega, fun x hx => ?_⟩
 have h6 := List.all_eq_true.1 h5 x hx
 unfold rowOk at h6
 simp only [Bool.and_eq_true, decide_eq_true_eq] at h6
 refine ⟨by omega, fun t ht => ?_⟩
 have h7 := List.all_eq_true.1 h6.2 t ht
 unfold inB at h7
 simp only [Bool.and_eq_true, decide_eq_true_eq] at h7
 omega
theorem qOf_snoc (st : List Int) (ws : List (List Int)) (i : Nat) (t : Int) (w : List Int) (hl : ws.length = st.length) (hi : i ≤ st.length) : qOf ((st ++ [t]).drop i) ((ws ++ [w]).drop i) = qOf (st.drop i) (ws.drop i) ++ [(⟨t, w⟩ : PTH)] := by
 unfold qOf
 rw [List.drop_append_of_le_length hi, List.drop_append_of_le_length (by omega), List.zipWith_append (by rw [List.length_drop, List.length_drop, hl])]
 rfl
theorem short_inner {C : List Int} {N : List (List Int)} {F : List Bool} (g : GoodD C N F) (row : List Int) (hrow : row ∈ N) (i : Nat) (si : Int) (wi : List Int) (hK : ∀ st ws seen, Bf N st ws seen → i < st.length → ∃ r : List Int × Bool, r.1.length ≤ 100 ∧ Ev (fun k => spec_l6Short.l0 k ws st ((i + 1 : Nat) : Int) C N F) r ∧ Ev (fun k => impl_shortIn.l0 k seen (qOf (st.drop (i + 1)) (ws.drop (i + 1))) C N F) r) :
  ∀ (d j : Nat) (st : List Int) (ws : List (List Int)) (seen : List Bool), j + d = row.length → Bf N st ws seen → i < st.length → st[i]? = some si → ws[i]? = some wi →
   ∃ r : List Int × Bool, r.1.length ≤ 100 ∧ Ev (fun k => spec_l6Short.l1 k ws st (i : Int) row (row.length : Int) (j : Int) C N F) r ∧ Ev (fun k => impl_shortIn.l1 k seen (qOf (st.drop (i + 1)) (ws.drop (i + 1))) (⟨si, wi⟩ : PTH) row (j : Int) C N F) r
 | 0, j, st, ws, seen, hd, h, hi, hs, hw => by
  have hst := nodup_short N.length st h.nd h.inr
  have hn := g.n
  obtain ⟨r, h0, h1, h2⟩ := hK st ws seen h hi
  refine ⟨r, h0, Ev.step (fun k => spec_l6Short.l1.eq_2 ..) (Ev.neg (by omega) ?_), Ev.step (fun k => impl_shortIn.l1.eq_2 ..) (Ev.neg (by omega) h2)⟩
  rw [w64s (by omega)]
  exact h1
 | d + 1, j, st, ws, seen, hd, h, hi, hs, hw => by
  have hst := nodup_short N.length st h.nd h.inr
  have hn := g.n
  have hc := g.c
  have hrl := (g.row _ hrow).1
  have hj : j < row.length := by omega
  have ht := (g.row _ hrow).2 _ (List.getElem_mem hj)
  have hsn := h.sn _ ht.1 ht.2
  have hsl := h.sl
  have hlen := h.len
  obtain ⟨hwi, hwe⟩ := List.getElem?_eq_some_iff.1 hw
  have hwl := h.wl i hwi
  rw [hwe] at hwl
  cases c : hasM st row[j]
  ·have hby : ∃ b : Int, impl_shortIn.byO C (j : Int) = some b ∧ ∀ (w2 : List (List Int)) (R : List Int × Bool), Ev (fun k => spec_l6Short.l1 k (ws ++ [wi ++ [b]]) (st ++ [row[j]]) (i : Int) row (row.length : Int) ((j + 1 : Nat) : Int) C N F) R → Ev (fun k => spec_l6Short.l1 k ws st (i : Int) row (row.length : Int) (j : Int) C N F) R := by
    unfold impl_shortIn.byO
    have e1 : rd_L1 ws (i : Int) = wi := by
     have := rdL_eq ws hwi
     rw [hwe] at this
     exact this
    by_cases c2 : j = 0
    ·subst c2
     refine ⟨0, rfl, fun _ R hR => Ev.step (fun k => spec_l6Short.l1.eq_2 ..) (Ev.pos (by omega) (Ev.pos (by omega) (Ev.pos (by omega) ?_)))⟩
     rw [rd_eq row hj]
     refine Ev.bind (specHas st row[0] (by omega)) (Ev.neg (by rw [c]; simp) (Ev.neg (by omega) (Ev.pos (by omega) (Ev.pos (by omega) (Ev.pos (by omega) ?_)))))
     rw [e1]
     refine Ev.bind0 (l1Own_eq wi (by omega)) (Ev.pos (by omega) (Ev.pos (by omega) ?_))
     rw [w64s (by omega)]
     exact hR
    ·have e2 : wrap64 ((j : Int) - 1) = ((j - 1 : Nat) : Int) := by rw [w64 (by omega) (by omega)]; omega
     refine ⟨rd C ((j - 1 : Nat) : Int), by rw [e2, if_pos (by omega), if_pos (by omega), if_pos (by omega)], fun _ R hR => Ev.step (fun k => spec_l6Short.l1.eq_2 ..) (Ev.pos (by omega) (Ev.pos (by omega) (Ev.pos (by omega) ?_)))⟩
     rw [rd_eq row hj]
     refine Ev.bind (specHas st row[j] (by omega)) (Ev.neg (by rw [c]; simp) (Ev.pos (by omega) ?_))
     rw [e2]
     refine Ev.pos (by omega) (Ev.pos (by omega) (Ev.pos (by omega) (Ev.pos (by omega) (Ev.pos (by omega) ?_))))
     rw [e1]
     refine Ev.bind0 (l1Own_eq wi (by omega)) (Ev.pos (by omega) (Ev.pos (by omega) ?_))
     rw [w64s (by omega)]
     exact hR
   obtain ⟨b, hb, hspec⟩ := hby
   have h2 := h.add row[j] (wi ++ [b]) ht.1 ht.2 c (by rw [List.length_append, List.length_singleton]; omega)
   obtain ⟨r, r0, r1, r2⟩ := short_inner g row hrow i si wi hK d (j + 1) (st ++ [row[j]]) (ws ++ [wi ++ [b]]) (seen.set (row[j]).toNat true) (by omega) h2 (by rw [List.length_append]; omega) (by rw [List.getElem?_append_left hi]; exact hs) (by rw [List.getElem?_append_left hwi]; exact hw)
   refine ⟨r, r0, hspec ws r r1, Ev.step (fun k => impl_shortIn.l1.eq_2 ..) (Ev.pos (by omega) (Ev.pos (by omega) ?_))⟩
   rw [rd_eq row hj]
   refine Ev.pos ht.1 (Ev.pos (by omega) (Ev.neg (by rw [hsn, c]; simp) (Ev.bind0 hb (Ev.bind0 (clone_eq wi (by omega)) (Ev.pos (by omega) (Ev.pos ?_ ?_))))))
   ·unfold qOf
    rw [List.length_zipWith, List.length_drop]
    omega
   ·rw [qOf_snoc st ws (i + 1) _ _ h.len (by omega)] at r2
    rw [w64s (by omega)]
    exact r2
  ·obtain ⟨r, r0, r1, r2⟩ := short_inner g row hrow i si wi hK d (j + 1) st ws seen (by omega) h hi hs hw
   refine ⟨r, r0, Ev.step (fun k => spec_l6Short.l1.eq_2 ..) (Ev.pos (by omega) (Ev.pos (by omega) (Ev.pos (by omega) ?_))), Ev.step (fun k => impl_shortIn.l1.eq_2 ..) (Ev.pos (by omega) (Ev.pos (by omega) ?_))⟩
   ·rw [rd_eq row hj]
    refine Ev.bind (specHas st row[j] (by omega)) (Ev.pos c ?_)
    rw [w64s (by omega)]
    exact r1
   ·rw [rd_eq row hj]
    refine Ev.pos ht.1 (Ev.pos (by omega) (Ev.pos (by rw [hsn, c]) ?_))
    rw [w64s (by omega)]
    exact r2
theorem short_outer {C : List Int} {N : List (List Int)} {F : List Bool} (g : GoodD C N F) : ∀ (d i : Nat) (st : List Int) (ws : List (List Int)) (seen : List Bool), i + d = N.length → i ≤ st.length → Bf N st ws seen →
   ∃ r : List Int × Bool, r.1.length ≤ 100 ∧ Ev (fun k => spec_l6Short.l0 k ws st (i : Int) C N F) r ∧ Ev (fun k => impl_shortIn.l0 k seen (qOf (st.drop i) (ws.drop i)) C N F) r := by
 intro d
 induction d with
 | zero =>
  intro i st ws seen hd hi h
  have hst := nodup_short N.length st h.nd h.inr
  have hlen := h.len
  refine ⟨([], false), by simp, Ev.step (fun k => spec_l6Short.l0.eq_2 ..) (Ev.neg (by omega) (Ev.now _)), ?_⟩
  rw [List.drop_eq_nil_of_le (by omega)]
  exact Ev.step (fun k => impl_shortIn.l0.eq_2 ..) (Ev.now _)
 | succ d ih =>
  intro i st ws seen hd hi h
  have hst := nodup_short N.length st h.nd h.inr
  have hlen := h.len
  have hn := g.n
  by_cases c : i < st.length
  ·have hs := h.inr _ (List.getElem_mem c)
   have hwi : i < ws.length := by omega
   have hwl := h.wl i hwi
   have eq_ : qOf (st.drop i) (ws.drop i) = (⟨st[i], ws[i]⟩ : PTH) :: qOf (st.drop (i + 1)) (ws.drop (i + 1)) := by
    rw [drop_cons st c, drop_cons ws hwi]
    rfl
   have hf := g.f
   have hfi : (st[i]).toNat < F.length := by omega
   have hni : (st[i]).toNat < N.length := by omega
   have eN : rd_L1 N st[i] = N[(st[i]).toNat] := by
    have := rdL_eq N hni
    rw [Int.toNat_of_nonneg hs.1] at this
    exact this
   cases cf : rdOf false F st[i]
   ·obtain ⟨r, r0, r1, r2⟩ := short_inner g N[(st[i]).toNat] (List.getElem_mem hni) i st[i] ws[i] (fun st2 ws2 seen2 h2 hi2 => ih (i + 1) st2 ws2 seen2 (by omega) (by omega) h2) (N[(st[i]).toNat]).length 0 st ws seen (by omega) h c (List.getElem?_eq_getElem c) (List.getElem?_eq_getElem hwi)
    refine ⟨r, r0, Ev.step (fun k => spec_l6Short.l0.eq_2 ..) (Ev.pos (by omega) (Ev.pos (by omega) ?_)), ?_⟩
    ·rw [rd_eq st c]
     refine Ev.pos hs.1 (Ev.pos (by omega) (Ev.neg (by rw [cf]; simp) (Ev.pos hs.2 ?_)))
     rw [eN]
     exact r1
    ·rw [eq_]
     refine Ev.step (fun k => impl_shortIn.l0.eq_3 ..) (Ev.pos hs.1 (Ev.pos (by show st[i] < (F.length : Int); omega) (Ev.neg (by show ¬ rdOf false F st[i] = true; rw [cf]; simp) (Ev.pos hs.2 ?_))))
     show Ev (fun k => impl_shortIn.l1 k seen (qOf (st.drop (i + 1)) (ws.drop (i + 1))) (⟨st[i], ws[i]⟩ : PTH) (rd_L1 N st[i]) 0 C N F) r
     rw [eN]
     exact r2
   ·refine ⟨(ws[i], true), by show (ws[i]).length ≤ 100; omega, Ev.step (fun k => spec_l6Short.l0.eq_2 ..) (Ev.pos (by omega) (Ev.pos (by omega) ?_)), ?_⟩
    ·rw [rd_eq st c]
     refine Ev.pos hs.1 (Ev.pos (by omega) (Ev.pos cf (Ev.pos (by omega) ?_)))
     rw [show rd_L1 ws (i : Int) = ws[i] from rdL_eq ws hwi]
     exact Ev.bind0 (l1Own_eq ws[i] (by omega)) (Ev.now _)
    ·rw [eq_]
     exact Ev.step (fun k => impl_shortIn.l0.eq_3 ..) (Ev.pos hs.1 (Ev.pos (by show st[i] < (F.length : Int); omega) (Ev.pos (by show rdOf false F st[i] = true; exact cf) (Ev.now _))))
  ·refine ⟨([], false), by simp, Ev.step (fun k => spec_l6Short.l0.eq_2 ..) (Ev.neg (by omega) (Ev.now _)), ?_⟩
   rw [List.drop_eq_nil_of_le (by omega)]
   exact Ev.step (fun k => impl_shortIn.l0.eq_2 ..) (Ev.now _)
theorem both_short (C : List Int) (N : List (List Int)) (F : List Bool) (hC : C.length ≤ 1000000000000) (hN : N.length ≤ 1000000000000) (hm : ∀ x ∈ N, x.length ≤ 1000000000000) : ∃ r : List Int × Bool, r.1.length ≤ 100 ∧ Ev (fun k => spec_ShortIn.f k C N F) r ∧ Ev (fun k => impl_ShortIn.f k C N F) r := by
 cases h : goodDfaB C N F
 ·refine ⟨([], false), by simp, ?_, ?_⟩
  ·unfold spec_ShortIn.f
   refine Ev.bind (specGoodDfa C N F hC hN hm) ?_
   rw [h]
   exact Ev.neg (by simp) (Ev.now _)
  ·unfold impl_ShortIn.f
   refine Ev.bind (implGoodDfa C N F hC hN) ?_
   rw [h]
   exact Ev.neg (by simp) (Ev.now _)
 ·have g := goodD_of h
  have hn := g.n
  have hn1 := g.n1
  have rz : ∀ x : Int, 0 ≤ x → rdOf false ((List.replicate N.length false).set 0 true) x = hasM [0] x := fun x hx => by
   have := rdOf_setB (List.replicate N.length false) 0 x true (by omega) (by simp; omega) hx
   rw [Int.toNat_zero] at this
   rw [this]
   by_cases c : x = 0
   ·simp [c, hasM]
   ·rw [if_neg c]
    have e : hasM [0] x = false := by simp [hasM]; omega
    rw [e]
    unfold rdOf
    rw [List.getD_eq_getElem?_getD, List.getElem?_replicate]
    split <;> rfl
  obtain ⟨r, r0, r1, r2⟩ := short_outer g N.length 0 [0] [[]] ((List.replicate N.length false).set 0 true) (by omega) (by simp)
   ⟨rfl, by simp, fun s hs _ => rz s hs, fun s hs => by rw [List.mem_singleton.1 hs]; omega, by simp, fun j hj => by
    have : j = 0 := by simpa using hj
    subst this
    simp⟩
  refine ⟨r, r0, ?_, ?_⟩
  ·unfold spec_ShortIn.f
   refine Ev.bind (specGoodDfa C N F hC hN hm) ?_
   rw [h]
   exact Ev.pos rfl (Ev.bind (by unfold spec_l6Short.f; exact r1) (Ev.now _))
  ·unfold impl_ShortIn.f
   refine Ev.bind (implGoodDfa C N F hC hN) ?_
   rw [h]
   exact Ev.pos rfl (Ev.bind (by unfold impl_shortIn.f; exact Ev.pos (by omega) (Ev.pos (by omega) r2)) (Ev.now _))
end Go.Proofs.Ytoipfgpggcnkmaa.Pure
