/- Of some patterns the one that begins first is told, of these the one named first, for drawn patterns and runes. -/
import Derived.Test.YtkpeihdlmjdejaaCP0
import Derived.Test.YtkpeihdlmjdejaaC4
import Derived.Test.YtkpeihdlmjdejaaC6
import Derived.Test.YtkpeihdlmjdejaaCStFnFirst
import Derived.Test.YtkpeihdlmjdejaaCSearchO
import Derived.Test.YtkpeihdlmjdejaaCDrawRe
set_option linter.unusedVariables false
set_option linter.unusedSimpArgs false
namespace Go.Proofs.Ytkpeihdlmjdejaa.Pure
open Go.RowKit Go.Proofs.Ytkpeihdlmjdejaa.P Go.Proofs.YtkpeihdlmjdejaaW.PrintWords
theorem rdDF_eq (ps : List (List RE)) {i : Nat} (h : i < ps.length) : rd_L8 ps (i : Int) = ps[i] := by
 unfold rd_L8
 rw [Int.toNat_natCast, List.getD_eq_getElem?_getD, List.getElem?_eq_getElem h]
 rfl
theorem drawFirst_l {c : List Int} (hc : isBytes c) : ∀ (d : Nat) (x : List (List RE)) (at_ s : Int), 0 ≤ at_ → at_ + 600 * d ≤ 5000 → x.length + d ≤ 8 → (∀ p ∈ x, TreeR p 20) → ∃ ps l, Ev (fun k => spec_DrawFirstOf.l0 k x (d : Int) c at_ s) (ps, l) ∧ ps.length ≤ 8 ∧ (∀ p ∈ ps, TreeR p 20) ∧ l.all runeB = true ∧ l.length ≤ 200
 | 0, x, at_, s, h0, h1, h2, h3 => by
  obtain ⟨l, at1, s1, e1, g1, g2⟩ := cur_stream hc at_ s h0 (by omega)
  exact ⟨x, l, Ev.step (fun k => spec_DrawFirstOf.l0.eq_2 ..) (Ev.neg (by omega) (Ev.bind e1 (Ev.now _))), by omega, h3, g1, g2⟩
 | d + 1, x, at_, s, h0, h1, h2, h3 => by
  obtain ⟨v, at1, s1, e1, g1, g2, g3, g4⟩ := cur_pick hc at_ s 3 h0 (by omega) (by omega)
  have hv : v = ((v.toNat : Nat) : Int) := by omega
  have h4 : capR (v.toNat + 1) ≤ 550 ∧ szR (v.toNat + 1) ≤ 20 := by
   have : v.toNat = 0 ∨ v.toNat = 1 ∨ v.toNat = 2 := by omega
   rcases this with h | h | h <;> rw [h] <;> decide
  obtain ⟨p, at2, s2, e2, t2, g5, g6⟩ := cur_re hc true (v.toNat + 1) (by omega) (by omega) at1 s1 (by omega) (by omega)
  obtain ⟨ps, l, e3, r⟩ := drawFirst_l hc d (x ++ [p]) at2 s2 (by omega) (by omega) (by simp; omega) (fun q hq => by
   rcases List.mem_append.1 hq with hq | hq
   ·exact h3 q hq
   ·rw [List.mem_singleton.1 hq]
    exact t2.mono h4.2)
  refine ⟨ps, l, Ev.step (fun k => spec_DrawFirstOf.l0.eq_2 ..) (Ev.pos (by omega) (Ev.bind0 e1 ?_)), r⟩
  have hw : wrap64 (1 + v) = ((v.toNat + 1 : Nat) : Int) := by rw [w64 (by omega) (by omega)]; omega
  simp only [hw]
  refine Ev.bind e2 (Ev.pos (by omega) ?_)
  rw [w64 (by omega) (by omega), show ((d + 1 : Nat) : Int) - 1 = (d : Int) from by omega]
  exact e3
theorem drawFirst {c : List Int} (hc : isBytes c) : ∃ ps l, Ev (fun k => spec_DrawFirstOf.f k c) (ps, l) ∧ ps.length ≤ 8 ∧ (∀ p ∈ ps, TreeR p 20) ∧ l.all runeB = true ∧ l.length ≤ 200 := by
 unfold spec_DrawFirstOf.f
 obtain ⟨v, at1, s1, e1, g1, g2, g3, g4⟩ := cur_pick hc 0 0 4 (by omega) (by omega) (by omega)
 obtain ⟨ps, l, e3, r⟩ := drawFirst_l hc v.toNat [] at1 s1 (by omega) (by omega) (by simp; omega) (by simp)
 rw [Int.toNat_of_nonneg g1] at e3
 exact ⟨ps, l, Ev.bind0 e1 e3, r⟩
def Beside (m : Int × Int × Bool) (R : Int × Int × Int × Bool) (j : Int) : Prop :=
 m.2.2 = true → R.2.2.2 = true ∧ ((R.2.1 < m.1 ∧ R.1 ≠ j) ∨ (R.2.1 = m.1 ∧ (R.1 < j ∨ (R.1 = j ∧ R.2.2.1 = m.2.1))))
theorem firstG_beside (l : List Int) : ∀ (t : List (List RE)) (i b0 b1 b2 : Int) (fd : Bool), (fd = true → b0 < i) →
  (fd = true → (firstG l t i b0 b1 b2 fd).2.2.2 = true ∧ (((firstG l t i b0 b1 b2 fd).2.1 < b1 ∧ i ≤ (firstG l t i b0 b1 b2 fd).1) ∨ ((firstG l t i b0 b1 b2 fd).2.1 = b1 ∧ (firstG l t i b0 b1 b2 fd).1 = b0 ∧ (firstG l t i b0 b1 b2 fd).2.2.1 = b2))) ∧
  (∀ (j : Nat) (hj : j < t.length), Beside (findR t[j] l) (firstG l t i b0 b1 b2 fd) (i + j))
 | [], i, b0, b1, b2, fd, h => ⟨fun hf => ⟨hf, .inr ⟨rfl, rfl, rfl⟩⟩, fun j hj => absurd hj (by simp)⟩
 | p :: t, i, b0, b1, b2, fd, h => by
  have ex : ∀ (R : Int × Int × Int × Bool), firstG l (p :: t) i b0 b1 b2 fd = R → (fd = true → R.2.2.2 = true ∧ ((R.2.1 < b1 ∧ i ≤ R.1) ∨ (R.2.1 = b1 ∧ R.1 = b0 ∧ R.2.2.1 = b2))) → Beside (findR p l) R i → (∀ (j : Nat) (hj : j < t.length), Beside (findR t[j] l) R (i + 1 + j)) → (fd = true → (firstG l (p :: t) i b0 b1 b2 fd).2.2.2 = true ∧ (((firstG l (p :: t) i b0 b1 b2 fd).2.1 < b1 ∧ i ≤ (firstG l (p :: t) i b0 b1 b2 fd).1) ∨ ((firstG l (p :: t) i b0 b1 b2 fd).2.1 = b1 ∧ (firstG l (p :: t) i b0 b1 b2 fd).1 = b0 ∧ (firstG l (p :: t) i b0 b1 b2 fd).2.2.1 = b2))) ∧
  (∀ (j : Nat) (hj : j < (p :: t).length), Beside (findR (p :: t)[j] l) (firstG l (p :: t) i b0 b1 b2 fd) (i + j)) := fun R hR a b c => by
   rw [hR]
   refine ⟨a, fun j hj => ?_⟩
   cases j with
   | zero =>
    have : i + ((0 : Nat) : Int) = i := by omega
    rw [this]
    exact b
   | succ j =>
    have := c j (by simpa using hj)
    rw [show i + 1 + (j : Int) = i + ((j + 1 : Nat) : Int) by omega] at this
    exact this
  by_cases c1 : (findR p l).2.2 = true
  ·have taken : (fd = true → (findR p l).1 < b1) → firstG l (p :: t) i b0 b1 b2 fd = firstG l t (i + 1) i (findR p l).1 (findR p l).2.1 true → _ := fun hb he => by
    obtain ⟨ha, hbs⟩ := firstG_beside l t (i + 1) i (findR p l).1 (findR p l).2.1 true (fun _ => by omega)
    refine ex _ he ?_ ?_ hbs
    ·intro hf
     have := hb hf
     obtain ⟨ha1, ha2⟩ := ha rfl
     refine ⟨ha1, .inl ?_⟩
     rcases ha2 with ha2 | ha2 <;> omega
    ·intro _
     obtain ⟨ha1, ha2⟩ := ha rfl
     refine ⟨ha1, ?_⟩
     rcases ha2 with ha2 | ⟨h1, h2, h3⟩
     ·exact .inl ⟨ha2.1, by omega⟩
     ·exact .inr ⟨h1, .inr ⟨h2, h3⟩⟩
   cases fd
   ·exact taken (fun h => by cases h) (by simp only [firstG]; rw [if_pos c1]; rfl)
   by_cases c3 : (findR p l).1 < b1
   ·exact taken (fun _ => c3) (by simp only [firstG]; rw [if_pos c1, if_pos trivial, if_pos c3])
   ·have hb := h rfl
    obtain ⟨ha, hbs⟩ := firstG_beside l t (i + 1) b0 b1 b2 true (fun _ => by omega)
    refine ex _ (by simp only [firstG]; rw [if_pos c1, if_pos trivial, if_neg c3]) ?_ ?_ hbs
    ·intro _
     obtain ⟨ha1, ha2⟩ := ha rfl
     refine ⟨ha1, ?_⟩
     rcases ha2 with ha2 | ha2
     ·exact .inl ⟨ha2.1, by omega⟩
     ·exact .inr ha2
    ·intro _
     obtain ⟨ha1, ha2⟩ := ha rfl
     refine ⟨ha1, ?_⟩
     rcases ha2 with ha2 | ⟨h1, h2, h3⟩ <;> omega
  ·obtain ⟨ha, hbs⟩ := firstG_beside l t (i + 1) b0 b1 b2 fd (fun hf => by have := h hf; omega)
   refine ex _ (by simp only [firstG]; rw [if_neg c1]) ?_ (fun hf => absurd hf c1) hbs
   intro hf
   obtain ⟨ha1, ha2⟩ := ha hf
   refine ⟨ha1, ?_⟩
   rcases ha2 with ha2 | ha2
   ·exact .inl ⟨ha2.1, by omega⟩
   ·exact .inr ha2
theorem firstLaw_l (ps : List (List RE)) (l : List Int) (R : Int × Int × Int × Bool) (hn : ps.length ≤ 8) (hs : ∀ p ∈ ps, SmallR p) (hb : ∀ (j : Nat) (hj : j < ps.length), Beside (findInR ps[j] l) R j) : ∀ (d i : Nat), i + d = ps.length → Ev (fun k => laws_FnFirst.l0 k l R.2.2.2 ps (ps.length : Int) (i : Int) R.1 R.2.1 R.2.2.1) true
 | 0, i, hd => Ev.step (fun k => laws_FnFirst.l0.eq_2 ..) (Ev.neg (by omega) (Ev.now _))
 | d + 1, i, hd => by
  have hi : i < ps.length := by omega
  have ih := firstLaw_l ps l R hn hs hb d (i + 1) (by omega)
  have hbi := hb i hi
  refine Ev.step (fun k => laws_FnFirst.l0.eq_2 ..) (Ev.pos (by omega) (Ev.pos (by omega) (Ev.pos (by omega) ?_)))
  rw [rdDF_eq ps hi, w64s (by omega)]
  refine Ev.bind (implFindIn _ (hs _ (List.getElem_mem hi)) l) ?_
  generalize findInR ps[i] l = m at hbi ⊢
  by_cases c1 : m.2.2 = true
  ·obtain ⟨h1, h2⟩ := hbi c1
   refine Ev.pos c1 (Ev.pos h1 ?_)
   rcases h2 with ⟨h2, h3⟩ | ⟨h2, h3⟩
   ·exact Ev.neg (by omega) (Ev.neg (by omega) (Ev.neg (by omega) ih))
   ·refine Ev.neg (by omega) (Ev.pos (by omega) (Ev.neg (by omega) ?_))
    rcases h3 with h3 | ⟨h3, h4⟩
    ·exact Ev.neg (by omega) ih
    ·exact Ev.pos (by omega) (Ev.pos (by omega) ih)
  ·exact Ev.neg c1 ih
theorem FnFirst : FnFirst_Pure := by
 intro c c2 w1 w2
 refine Ev.get (g := fun k => laws_FnFirst.f k c c2) ?_
 unfold laws_FnFirst.f
 by_cases hb : (c.length : Int) > 1048576
 ·exact Ev.bind0 (a := true) (by unfold laws_big.f; rw [if_pos hb]) (Ev.pos rfl (Ev.now _))
 have hbig : ∃ b, laws_big.f c c2 = some b := by
  unfold laws_big.f
  rw [if_neg hb]
  exact ⟨_, rfl⟩
 obtain ⟨b, hbb⟩ := hbig
 refine Ev.bind0 hbb ?_
 cases b
 case true => exact Ev.pos rfl (Ev.now _)
 refine Ev.neg (by simp) ?_
 obtain ⟨ps, l, e1, g1, g2, g3, g4⟩ := drawFirst (isBytes_of w1 (by omega))
 have hs : ∀ p ∈ ps, SmallR p := fun p hp => (g2 p hp).small (by omega)
 refine Ev.bind e1 (Ev.bind (implFirstOf ps l hs) (Ev.bind (specFirstOf ps l (by omega) hs) ?_))
 refine Ev.neg (by simp) ?_
 have hbe : ∀ (j : Nat) (hj : j < ps.length), Beside (findInR ps[j] l) (firstR ps l) j := fun j hj => by
  by_cases hl : (l.length : Int) ≤ 120
  ·have ha : ∀ p ∈ ps, askedB p l = true := fun p hp => by
    unfold askedB
    rw [(g2 p hp).good (by omega), g3, decide_eq_true hl]
    rfl
   unfold findInR firstR
   rw [ha _ (List.getElem_mem hj), if_pos rfl, if_pos g1, if_pos (show askedAll ps l = true from List.all_eq_true.2 ha)]
   have := (firstG_beside l ps 0 0 0 0 false (by simp)).2 j hj
   rw [Int.zero_add] at this
   exact this
  ·have ha : askedB ps[j] l = false := by
    unfold askedB
    rw [decide_eq_false hl]
    simp
   unfold findInR
   rw [ha]
   intro h
   simp at h
 refine Ev.step (fun k => laws_FnFirst.j0.eq_2 ..) (Ev.neg (by simp) ?_)
 exact firstLaw_l ps l (firstR ps l) g1 hs hbe ps.length 0 (by omega)
end Go.Proofs.Ytkpeihdlmjdejaa.Pure
