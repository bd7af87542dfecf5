/- Plain laws of short patterns made of runes: both sides put a mark ahead of the same runes, and tell the same bytes. -/
import Derived.Test.YtmificjllfhngaaCP0
import Derived.Test.YtmificjllfhngaaC0
import Derived.Test.YtmificjllfhngaaC1
import Derived.Test.YtmificjllfhngaaCRunes1
import Derived.Test.YtmificjllfhngaaCLoops
import Derived.Test.YtmificjllfhngaaCUtf8u
import Derived.Laws.BitsLemmas
set_option linter.unusedVariables false
set_option linter.unusedSimpArgs false
namespace Go.Proofs.Ytmificjllfhngaa.Pure
open Go.RowKit Go.Proofs.Ytmificjllfhngaa.P Go.Proofs.YtmificjllfhngaaW.PrintWords
theorem strN_size' (l : List Int) : (strOfNums l).size = l.length := by
 unfold strOfNums
 simp [ByteArray.size]
theorem w32 {x : Int} (h : 0 ≤ x) (h1 : x ≤ 1114111) : wrap32 x = x := by unfold wrap32; omega
theorem runeB_bounds {r : Int} (h : runeB r = true) : 0 ≤ r ∧ r ≤ 1114111 ∧ ¬ (55296 ≤ r ∧ r ≤ 57343) := by
 unfold runeB inB at h
 simp at h
 omega
theorem or_join (i : Nat) (x y : Int) (hi : i ≤ 8) (h0 : 0 ≤ x) (h1 : x < 256) (h2 : x % 2 ^ i = 0) (h3 : 0 ≤ y) (h4 : y < 2 ^ i) (h5 : x + y < 256) : Go.bits .or .u8 x y = x + y :=
 bits_join .u8 8 (by decide) (fun n a b => IntWalk.u8_in n (by omega)) i x y h0 h2 (by omega) h3 h4 (by omega)
theorem utf8L_size (r : Int) : (utf8L r).length ≤ 4 := by
 unfold utf8L
 repeat' split
 all_goals simp
theorem appendNon (l : List Int) (r : Int) (h : runeB r = true) (hr : 128 ≤ r) (hl : l.length ≤ 1000000000) : Ev (fun k => utf8_appendRuneNonASCII.f k l r) (l ++ utf8L r) := by
 obtain ⟨h0, h1, h2⟩ := runeB_bounds h
 unfold utf8_appendRuneNonASCII.f
 have m : r % 4294967296 = r := by omega
 rw [m]
 unfold utf8L
 rw [if_neg (show ¬ r < 128 by omega)]
 by_cases c1 : r ≤ 2047
 ·rw [if_pos (show r < 2048 by omega), show (r / 64) % 256 = r / 64 from by omega, or_join 6 192 (r / 64) (by omega) (by omega) (by omega) (by omega) (by omega) (by omega) (by omega)]
  exact Ev.pos c1 (Ev.bind0 rfl (Ev.pos (by simp; omega) (Ev.now _)))
 rw [if_neg (show ¬ r < 2048 by omega)]
 have j0 : ∀ b : Bool, (b = true ↔ r < 65536) → Ev (fun k => utf8_appendRuneNonASCII.j0 k l r r b) (l ++ if r < 65536 then [224 + r / 4096, 128 + r / 64 % 64, 128 + r % 64] else [240 + r / 262144, 128 + r / 4096 % 64, 128 + r / 64 % 64, 128 + r % 64]) := fun b hb => by
  refine Ev.step (fun k => utf8_appendRuneNonASCII.j0.eq_2 ..) ?_
  cases b
  ·have c2 : ¬ r < 65536 := fun x => by have := hb.2 x; cases this
   rw [if_neg c2, show (r / 262144) % 256 = r / 262144 from by omega, or_join 4 240 (r / 262144) (by omega) (by omega) (by omega) (by omega) (by omega) (by omega) (by omega)]
   exact Ev.neg (by simp) (Ev.pos (by omega) (Ev.pos h1 (Ev.bind0 rfl (Ev.pos (by simp; omega) (Ev.now _)))))
  ·have c2 := hb.1 rfl
   rw [if_pos c2, show (r / 4096) % 256 = r / 4096 from by omega, or_join 5 224 (r / 4096) (by omega) (by omega) (by omega) (by omega) (by omega) (by omega) (by omega)]
   exact Ev.pos rfl (Ev.bind0 rfl (Ev.pos (by simp; omega) (Ev.now _)))
 refine Ev.neg c1 ?_
 by_cases c3 : r < 55296
 ·exact Ev.pos c3 (j0 _ (by rw [decide_eq_true_iff]; omega))
 ·exact Ev.neg c3 (Ev.pos (by omega) (j0 _ (by rw [decide_eq_true_iff]; omega)))
theorem append_eq (l : List Int) (r : Int) (h : runeB r = true) (hl : l.length ≤ 1000000000) : Ev (fun k => utf8_AppendRune.f k l r) (l ++ utf8L r) := by
 obtain ⟨h0, h1, h2⟩ := runeB_bounds h
 unfold utf8_AppendRune.f
 have m : r % 4294967296 = r := by omega
 rw [m]
 by_cases c1 : r ≤ 127
 ·rw [show r % 256 = r from by omega]
  unfold utf8L
  rw [if_pos (show r < 128 by omega)]
  exact Ev.pos c1 (Ev.pos (by omega) (Ev.now _))
 ·exact Ev.neg c1 (Ev.bind (appendNon l r h (by omega) hl) (Ev.now _))
def utf8S : List Int → List Int
 | [] => []
 | r :: t => utf8L r ++ utf8S t
theorem implText_l (l : List Int) (hr : l.all runeB = true) (hs : l.length ≤ 1000000) : ∀ (d i : Nat) (x : List Int), i + d = l.length → x.length + 4 * d ≤ 10000000 → Ev (fun k => impl_textOf.l0 k x l (l.length : Int) (i : Int)) (strOfNums (x ++ utf8S (l.drop i)))
 | 0, i, x, hi, hx => by
  refine Ev.step (fun k => impl_textOf.l0.eq_2 ..) (Ev.neg (by omega) (Ev.some' ?_))
  rw [List.drop_eq_nil_of_le (by omega)]
  simp [utf8S]
 | d + 1, i, x, hi, hx => by
  have hb : i < l.length := by omega
  have hg : runeB l[i] = true := List.all_eq_true.1 hr _ (List.getElem_mem hb)
  obtain ⟨h0, h1, h2⟩ := runeB_bounds hg
  have hz := utf8L_size l[i]
  refine Ev.step (fun k => impl_textOf.l0.eq_2 ..) (Ev.pos (by omega) (Ev.pos (by omega) (Ev.pos (by omega) ?_)))
  rw [rd_eq l hb, w32 h0 h1, w64s (by omega), drop_cons l hb]
  refine Ev.bind (append_eq x l[i] hg (by omega)) ?_
  have := implText_l l hr hs d (i + 1) (x ++ utf8L l[i]) (by omega) (by simp; omega)
  rwa [List.append_assoc] at this
theorem implText (l : List Int) (hr : l.all runeB = true) (hs : l.length ≤ 1000000) : Ev (fun k => impl_textOf.f k l) (strOfNums (utf8S l)) := by
 unfold impl_textOf.f
 have := implText_l l hr hs l.length 0 [] (by omega) (by simp; omega)
 simpa using this
theorem specText_l (l : List Int) (hr : l.all runeB = true) (hs : l.length ≤ 1000000) : ∀ (d i : Nat) (x : List Int), i + d = l.length → x.length + 4 * d ≤ 10000000 → Ev (fun k => spec_l1TextOf.l0 k x l (l.length : Int) (i : Int)) (strOfNums (x ++ utf8S (l.drop i)))
 | 0, i, x, hi, hx => by
  refine Ev.step (fun k => spec_l1TextOf.l0.eq_2 ..) (Ev.neg (by omega) (Ev.some' ?_))
  rw [List.drop_eq_nil_of_le (by omega)]
  simp [utf8S]
 | d + 1, i, x, hi, hx => by
  have hb : i < l.length := by omega
  have hg : runeB l[i] = true := List.all_eq_true.1 hr _ (List.getElem_mem hb)
  obtain ⟨h0, h1, h2⟩ := runeB_bounds hg
  have hz := utf8L_size l[i]
  refine Ev.step (fun k => spec_l1TextOf.l0.eq_2 ..) (Ev.pos (by omega) (Ev.pos (by omega) (Ev.pos (by omega) ?_)))
  rw [rd_eq l hb, drop_cons l hb]
  refine Ev.bind0 (l1Utf8_eq _ h0 h1) (Ev.pos (by rw [strN_size']; omega) ?_)
  rw [bytesOf_utf8L _ h0 h1, w64s (by omega)]
  have := specText_l l hr hs d (i + 1) (x ++ utf8L l[i]) (by omega) (by simp; omega)
  rwa [List.append_assoc] at this
theorem specText (l : List Int) (hr : l.all runeB = true) (hs : l.length ≤ 1000000) : Ev (fun k => spec_l1TextOf.f k l) (strOfNums (utf8S l)) := by
 unfold spec_l1TextOf.f
 have := specText_l l hr hs l.length 0 [] (by omega) (by simp; omega)
 simpa using this
def globB (r : Int) : Bool := decide (r = 42) || (decide (r = 63) || (decide (r = 91) || decide (r = 92)))
theorem idx4 (c : UInt8) : decide (Lib.indexByte [42, 63, 91, 92] c ≥ 0) = ((c == 42) || ((c == 63) || ((c == 91) || (c == 92)))) := by
 have e : ∀ a : UInt8, (a == c) = (c == a) := fun a => by
  rw [Bool.eq_iff_iff, beq_iff_eq, beq_iff_eq]
  exact eq_comm
 simp only [Lib.indexByte, e]
 cases (c == 42) <;> cases (c == 63) <;> cases (c == 91) <;> cases (c == 92) <;> rfl
theorem mark_eq (r : Int) (h : runeB r = true) : impl_isMarkOf.f (⟨#[42, 63, 91, 92]⟩ : ByteArray) r = some (globB r) := by
 obtain ⟨h0, h1, h2⟩ := runeB_bounds h
 unfold impl_isMarkOf.f strings_ContainsRune.f strings_IndexRune.f
 rw [w32 h0 h1, if_pos ⟨by decide, by decide, h0, h1, h2⟩]
 simp only [Option.bind_some]
 congr 1
 by_cases c1 : r < 128
 ·rw [if_pos c1]
  show decide (Lib.indexByte [42, 63, 91, 92] r.toNat.toUInt8 ≥ 0) = globB r
  rw [idx4]
  obtain ⟨n, rfl⟩ := Int.eq_ofNat_of_zero_le h0
  have hn : n < 128 := by omega
  rw [Int.toNat_natCast]
  have key : ∀ n : Fin 128, ((((n : Nat).toUInt8 == 42) || (((n : Nat).toUInt8 == 63) || (((n : Nat).toUInt8 == 91) || ((n : Nat).toUInt8 == 92)))) = globB (((n : Nat) : Int))) := by decide
  exact key ⟨n, hn⟩
 ·rw [if_neg c1]
  unfold globB
  rw [decide_eq_false (show ¬ r = 42 by omega), decide_eq_false (show ¬ r = 63 by omega), decide_eq_false (show ¬ r = 91 by omega), decide_eq_false (show ¬ r = 92 by omega)]
  rfl
def globL : List Int → List Int
 | [] => []
 | r :: t => (if globB r = true then [92, r] else [r]) ++ globL t
theorem globL_len : ∀ l : List Int, (globL l).length ≤ 2 * l.length
 | [] => by simp [globL]
 | r :: t => by
  have := globL_len t
  simp only [globL, List.length_append, List.length_cons]
  split <;> simp <;> omega
theorem globL_runes : ∀ l : List Int, l.all runeB = true → (globL l).all runeB = true
 | [], _ => rfl
 | r :: t, h => by
  simp only [List.all_cons, Bool.and_eq_true] at h
  have := globL_runes t h.2
  simp only [globL, List.all_append, this, Bool.and_true]
  split
  ·simp only [List.all_cons, h.1, List.all_nil]; decide
  ·simp [h.1]
theorem implGlob_l (l : List Int) (hr : l.all runeB = true) (hs : l.length ≤ 1000) : ∀ (d i : Nat) (x : List Int), i + d = l.length → x.length + 2 * d ≤ 100000 → x.all runeB = true → Ev (fun k => impl_GlobOf.l0 k x l (l.length : Int) (i : Int)) (strOfNums (utf8S (x ++ globL (l.drop i))), true)
 | 0, i, x, hi, hx, hxr => by
  refine Ev.step (fun k => impl_GlobOf.l0.eq_2 ..) (Ev.neg (by omega) ?_)
  rw [List.drop_eq_nil_of_le (by omega)]
  simp only [globL, List.append_nil]
  exact Ev.bind0 (a := x) (by unfold slices_Clone_int_int.f; rw [if_pos (by omega)]) (Ev.bind (implText x hxr (by omega)) (Ev.now _))
 | d + 1, i, x, hi, hx, hxr => by
  have hb : i < l.length := by omega
  have hg : runeB l[i] = true := List.all_eq_true.1 hr _ (List.getElem_mem hb)
  refine Ev.step (fun k => impl_GlobOf.l0.eq_2 ..) (Ev.pos (by omega) (Ev.pos (by omega) (Ev.pos (by omega) ?_)))
  rw [rd_eq l hb, w64s (by omega), drop_cons l hb]
  refine Ev.bind0 (mark_eq _ hg) ?_
  simp only [globL]
  by_cases c : globB l[i] = true
  ·rw [if_pos c]
   refine Ev.pos c (Ev.pos (by omega) (Ev.bind0 rfl (Ev.pos (by simp; omega) ?_)))
   have := implGlob_l l hr hs d (i + 1) ((x ++ [92]) ++ [l[i]]) (by omega) (by simp; omega) (by rw [List.all_append, List.all_append, hxr]; simp [hg]; decide)
   simpa [List.append_assoc] using this
  ·rw [if_neg c]
   refine Ev.neg c (Ev.pos (by omega) ?_)
   have := implGlob_l l hr hs d (i + 1) (x ++ [l[i]]) (by omega) (by simp; omega) (by rw [List.all_append, hxr]; simp [hg])
   simpa [List.append_assoc] using this
theorem specGlob_l (l : List Int) (hr : l.all runeB = true) (hs : l.length ≤ 1000) : ∀ (d i : Nat) (x : List Int), i + d = l.length → x.length + 2 * d ≤ 100000 → x.all runeB = true → Ev (fun k => spec_GlobOf.l0 k x l (l.length : Int) (i : Int)) (strOfNums (utf8S (x ++ globL (l.drop i))), true)
 | 0, i, x, hi, hx, hxr => by
  refine Ev.step (fun k => spec_GlobOf.l0.eq_2 ..) (Ev.neg (by omega) ?_)
  rw [List.drop_eq_nil_of_le (by omega)]
  simp only [globL, List.append_nil]
  exact Ev.bind (specText x hxr (by omega)) (Ev.now _)
 | d + 1, i, x, hi, hx, hxr => by
  have hb : i < l.length := by omega
  have hg : runeB l[i] = true := List.all_eq_true.1 hr _ (List.getElem_mem hb)
  refine Ev.step (fun k => spec_GlobOf.l0.eq_2 ..) (Ev.pos (by omega) (Ev.pos (by omega) (Ev.pos (by omega) ?_)))
  rw [rd_eq l hb, w64s (by omega), drop_cons l hb]
  simp only [globL]
  have mk : globB l[i] = true → Ev (fun k => if x.length < 17592186044416 then ((some (x ++ [92] : List Int)).bind fun y => (if y.length < 17592186044416 then (spec_GlobOf.l0 k (y ++ [l[i]]) l (l.length : Int) ((i + 1 : Nat) : Int)) else (none))) else (none)) (strOfNums (utf8S (x ++ ((if globB l[i] = true then [92, l[i]] else [l[i]]) ++ globL (l.drop (i + 1))))), true) := fun c => by
   rw [if_pos c]
   refine Ev.pos (by omega) (Ev.bind0 rfl (Ev.pos (by simp; omega) ?_))
   have := specGlob_l l hr hs d (i + 1) ((x ++ [92]) ++ [l[i]]) (by omega) (by simp; omega) (by rw [List.all_append, List.all_append, hxr]; simp [hg]; decide)
   simpa [List.append_assoc] using this
  by_cases c1 : l[i] = 42
  ·exact Ev.pos c1 (mk (by unfold globB; simp [c1]))
  refine Ev.neg c1 ?_
  by_cases c2 : l[i] = 63
  ·exact Ev.pos c2 (mk (by unfold globB; simp [c2]))
  refine Ev.neg c2 ?_
  by_cases c3 : l[i] = 91
  ·exact Ev.pos c3 (mk (by unfold globB; simp [c3]))
  refine Ev.neg c3 ?_
  by_cases c4 : l[i] = 92
  ·exact Ev.pos c4 (mk (by unfold globB; simp [c4]))
  refine Ev.neg c4 (Ev.pos (by omega) ?_)
  rw [if_neg (by unfold globB; simp [c1, c2, c3, c4])]
  have := specGlob_l l hr hs d (i + 1) (x ++ [l[i]]) (by omega) (by simp; omega) (by rw [List.all_append, hxr]; simp [hg])
  simpa [List.append_assoc] using this
def globR (l : List Int) : ByteArray × Bool := if l.all runeB = true ∧ (l.length : Int) ≤ 20 then (strOfNums (utf8S (globL l)), true) else ((⟨#[]⟩ : ByteArray), false)
theorem implGlob (l : List Int) : Ev (fun k => impl_GlobOf.f k l) (globR l) := by
 unfold impl_GlobOf.f globR
 refine Ev.bind (Ev.congr (fun k => areRunes l 20 k) (Ev.now _)) ?_
 by_cases c : l.all runeB = true ∧ (l.length : Int) ≤ 20
 ·rw [if_pos c]
  refine Ev.pos (by simp [c.1, c.2]) ?_
  have := implGlob_l l c.1 (by omega) l.length 0 [] (by omega) (by simp; omega) rfl
  simpa using this
 ·rw [if_neg c]
  exact Ev.neg (by simp only [Bool.and_eq_true, decide_eq_true_eq]; exact fun x => c ⟨x.2, x.1⟩) (Ev.now _)
theorem specGlob (l : List Int) (hs : l.length ≤ 1000000000) : Ev (fun k => spec_GlobOf.f k l) (globR l) := by
 unfold spec_GlobOf.f
 refine Ev.bind (l1AllRunes l (by omega)) ?_
 by_cases c : l.all runeB = true ∧ (l.length : Int) ≤ 20
 ·refine Ev.pos (by rw [c.1, decide_eq_true (by omega)]; rfl) ?_
  refine Ev.step (fun k => spec_GlobOf.j0.eq_2 ..) (Ev.neg (by rw [decide_eq_true_iff]; omega) ?_)
  have := specGlob_l l c.1 (by omega) l.length 0 [] (by omega) (by simp; omega) rfl
  unfold globR
  rw [if_pos c]
  simpa using this
 ·have jt : Ev (fun k => spec_GlobOf.j0 k l true) (globR l) := Ev.step (fun k => spec_GlobOf.j0.eq_2 ..) (Ev.pos rfl (Ev.some' (by unfold globR; rw [if_neg c])))
  by_cases c1 : (l.all runeB && decide (l.length ≤ 1000)) = true
  ·refine Ev.pos c1 ?_
   have : (l.length : Int) > 20 := by
    simp only [Bool.and_eq_true, decide_eq_true_eq] at c1
    have c20 : ¬ (l.length : Int) ≤ 20 := fun x => c ⟨c1.1, x⟩
    omega
   rw [decide_eq_true this]
   exact jt
  ·exact Ev.neg c1 jt
end Go.Proofs.Ytmificjllfhngaa.Pure
