/- Plain laws of runes and their bytes: what the reference reads at a place of a text is what the language reads there. -/
import Derived.Test.YtliafedmhgkciaaDoorCP0
import Derived.Test.YtliafedmhgkciaaDoorC0
import Derived.Test.YtliafedmhgkciaaDoorCBase0
import Derived.Test.YtliafedmhgkciaaDoorCUtf8u
import Derived.Test.YtliafedmhgkciaaDoorCRune0
import Derived.Lib.RuneCount
import Derived.IntWalk
set_option linter.unusedVariables false
set_option linter.unusedSimpArgs false
namespace Go.Proofs.YtliafedmhgkciaaDoor.Pure
open Go.RowKit Go.Proofs.YtliafedmhgkciaaDoor.P Go.Proofs.YtliafedmhgkciaaDoorW.PrintWords Go.Proofs.YtliafedmhgkciaaDoorW.PrintMore
theorem sh7_2 : IntKind.u64.wrap (wrap64 (7 - 2)) = 5 := by rw [w64 (by omega) (by omega)]; exact IntWalk.u64_in _ (by omega)
theorem sh7_3 : IntKind.u64.wrap (wrap64 (7 - 3)) = 4 := by rw [w64 (by omega) (by omega)]; exact IntWalk.u64_in _ (by omega)
theorem sh7_4 : IntKind.u64.wrap (wrap64 (7 - 4)) = 3 := by rw [w64 (by omega) (by omega)]; exact IntWalk.u64_in _ (by omega)
theorem shl7_2 : shl .i64 1 (IntKind.u64.wrap (wrap64 (7 - 2))) = 32 := by rw [sh7_2]; unfold shl; exact IntWalk.i64_in _ (by decide)
theorem shl7_3 : shl .i64 1 (IntKind.u64.wrap (wrap64 (7 - 3))) = 16 := by rw [sh7_3]; unfold shl; exact IntWalk.i64_in _ (by decide)
theorem shl7_4 : shl .i64 1 (IntKind.u64.wrap (wrap64 (7 - 4))) = 8 := by rw [sh7_4]; unfold shl; exact IntWalk.i64_in _ (by decide)
theorem l1At_l_end (s : ByteArray) (i : Nat) (n r : Int) (hn : 0 ≤ n) (hs : s.size ≤ 1000000000000000) (hi : (i : Int) + n ≤ (s.size : Int)) (h0 : 0 ≤ r) :
  Ev (fun k => spec_l1At.l0 k s i n r n) (if runeB r = true ∧ utf8L r = ((bytesOf s).take (i + n.toNat)).drop i then (r, n) else (65533, 1)) := by
 refine Ev.step (fun k => spec_l1At.l0.eq_2 ..) (Ev.neg (by omega) ?_)
 rw [specGoodRune_eq]
 simp only [Option.bind_some]
 cases hr : runeB r
 ·refine Ev.neg (by simp) (Ev.some' ?_)
  rw [if_neg (by simp)]
 have h1 : r ≤ 1114111 := by
  unfold runeB inB at hr
  simp at hr
  omega
 refine Ev.pos rfl ?_
 rw [l1Utf8_eq r h0 h1, w64 (by omega) (by omega)]
 simp only [Option.bind_some]
 refine Ev.pos (by omega) (Ev.pos (by omega) (Ev.pos (by omega) ?_))
 have e := toList_eq_iff (strOfNums (utf8L r)) (s.extract ((i : Int)).toNat ((i : Int) + n).toNat)
 rw [bytesOf_utf8L r h0 h1, bytesOf_extract, Int.toNat_natCast, show ((i : Int) + n).toNat = i + n.toNat from by omega] at e
 rw [Int.toNat_natCast, show ((i : Int) + n).toNat = i + n.toNat from by omega]
 by_cases h : utf8L r = ((bytesOf s).take (i + n.toNat)).drop i
 ·exact Ev.pos (e.mpr h) (Ev.some' (by rw [if_pos ⟨by trivial, h⟩]))
 ·exact Ev.neg (fun hh => h (e.mp hh)) (Ev.some' (by rw [if_neg (fun hh => h hh.2)]))
theorem l1At_l_step (s : ByteArray) (i m : Nat) (n r : Int) (hm : (m : Int) < n) (hs : s.size ≤ 1000000000000000) (hi : (i : Int) + n ≤ (s.size : Int)) (h0 : 0 ≤ r) (h1 : r ≤ 1000000000) {v : Int × Int}
  (h : Ev (fun k => spec_l1At.l0 k s i n (r * 64 + bt s ((i + m : Nat) : Int) % 64) ((m + 1 : Nat) : Int)) v) : Ev (fun k => spec_l1At.l0 k s i n r (m : Int)) v := by
 have hb := bt_range s ((i + m : Nat) : Int)
 refine Ev.step (fun k => spec_l1At.l0.eq_2 ..) (Ev.pos (by omega) ?_)
 rw [w64 (x := (i : Int) + (m : Int)) (by omega) (by omega), show (i : Int) + (m : Int) = ((i + m : Nat) : Int) from by omega, w64 (x := bt s ((i + m : Nat) : Int)) (by omega) (by omega), Int.tmod_eq_emod_of_nonneg hb.1, w64 (x := r * 64) (by omega) (by omega), w64 (x := r * 64 + bt s ((i + m : Nat) : Int) % 64) (by omega) (by omega), w64 (x := (m : Int) + 1) (by omega) (by omega)]
 refine Ev.pos (by omega) (Ev.pos (by omega) ?_)
 exact h
theorem drop_take2 (l : List Int) (i : Nat) (h : i + 1 < l.length) : (l.take (i + 2)).drop i = [l[i], l[i + 1]] := by
 rw [List.drop_take, show i + 2 - i = 2 from by omega, drop_cons l (show i < l.length by omega), drop_cons l (show i + 1 < l.length by omega)]
 rfl
theorem drop_take3 (l : List Int) (i : Nat) (h : i + 2 < l.length) : (l.take (i + 3)).drop i = [l[i], l[i + 1], l[i + 2]] := by
 rw [List.drop_take, show i + 3 - i = 3 from by omega, drop_cons l (show i < l.length by omega), drop_cons l (show i + 1 < l.length by omega), drop_cons l (show i + 1 + 1 < l.length by omega)]
 rfl
theorem drop_take4 (l : List Int) (i : Nat) (h : i + 3 < l.length) : (l.take (i + 4)).drop i = [l[i], l[i + 1], l[i + 2], l[i + 3]] := by
 rw [List.drop_take, show i + 4 - i = 4 from by omega, drop_cons l (show i < l.length by omega), drop_cons l (show i + 1 < l.length by omega), drop_cons l (show i + 1 + 1 < l.length by omega), drop_cons l (show i + 1 + 1 + 1 < l.length by omega)]
 rfl
theorem drop_take1 (l : List Int) (i : Nat) (h : i < l.length) : (l.take (i + 1)).drop i = [l[i]] := by
 rw [List.drop_take, show i + 1 - i = 1 from by omega, drop_cons l h]
 rfl
theorem valid_nat (c : Nat) : Utf8.valid (c : Int) = runeB c := by
 unfold Utf8.valid runeB inB
 rw [Bool.eq_iff_iff]
 simp
 omega
def decB (n : Nat) (b0 b1 b2 b3 : Int) : Int × Int :=
 if b0 < 128 then (b0, 1)
 else if b0 < 192 then (65533, 1)
 else if b0 < 224 then (if 2 ≤ n ∧ b1 / 64 = 2 ∧ 2 ≤ b0 % 32 then (b0 % 32 * 64 + b1 % 64, 2) else (65533, 1))
 else if b0 < 240 then (if 3 ≤ n ∧ b1 / 64 = 2 ∧ b2 / 64 = 2 ∧ 2048 ≤ b0 % 16 * 4096 + b1 % 64 * 64 + b2 % 64 ∧ runeB (b0 % 16 * 4096 + b1 % 64 * 64 + b2 % 64) = true then (b0 % 16 * 4096 + b1 % 64 * 64 + b2 % 64, 3) else (65533, 1))
 else if b0 < 248 then (if 4 ≤ n ∧ b1 / 64 = 2 ∧ b2 / 64 = 2 ∧ b3 / 64 = 2 ∧ 65536 ≤ b0 % 8 * 262144 + b1 % 64 * 4096 + b2 % 64 * 64 + b3 % 64 ∧ runeB (b0 % 8 * 262144 + b1 % 64 * 4096 + b2 % 64 * 64 + b3 % 64) = true then (b0 % 8 * 262144 + b1 % 64 * 4096 + b2 % 64 * 64 + b3 % 64, 4) else (65533, 1))
 else (65533, 1)
def decI (s : ByteArray) (i : Nat) : Int × Int := decB (s.size - i) (bt s (i : Int)) (bt s ((i + 1 : Nat) : Int)) (bt s ((i + 2 : Nat) : Int)) (bt s ((i + 3 : Nat) : Int))
theorem l1At_eq (s : ByteArray) (i : Nat) (hi : i < s.size) (hs : s.size ≤ 1000000000000000) : Ev (fun k => spec_l1At.f k s (i : Int)) (decI s i) := by
 have g0 := bytesOf_get s i hi
 have r0 := bt_range s (i : Int)
 have r1 := bt_range s ((i + 1 : Nat) : Int)
 have r2 := bt_range s ((i + 2 : Nat) : Int)
 have r3 := bt_range s ((i + 3 : Nat) : Int)
 have hl := bytesOf_length s
 unfold spec_l1At.f
 refine Ev.pos (by omega) (Ev.pos (by omega) ?_)
 have bad : ∀ n : Int, Ev (fun k => spec_l1At.j0 k s (i : Int) n true) (65533, 1) := fun n => Ev.step (fun k => spec_l1At.j0.eq_2 ..) (Ev.pos rfl (Ev.some' rfl))
 have ewb : wrap64 (bt s (i : Int)) = bt s (i : Int) := w64 (by omega) (by omega)
 unfold spec_l1Long.f decI decB
 by_cases c1 : bt s (i : Int) < 128
 ·rw [if_pos c1, if_pos c1]
  simp only [Option.bind_some]
  refine Ev.neg (by omega) ?_
  rw [w64 (by omega) (by omega), decide_eq_false (by omega)]
  refine Ev.step (fun k => spec_l1At.j0.eq_2 ..) (Ev.neg (by simp) (Ev.pos (by omega) (Ev.pos (by omega) (Ev.neg (by omega) ?_))))
  rw [ewb]
  refine Ev.step (fun k => spec_l1At.j1.eq_2 ..) ?_
  have h := l1At_l_end s i 1 (bt s (i : Int)) (by omega) hs (by omega) r0.1
  rw [if_pos ⟨by unfold runeB inB; simp; omega, by
   rw [show i + (1 : Int).toNat = i + 1 from rfl, drop_take1 _ _ (by omega), g0]
   unfold utf8L
   rw [if_pos c1]⟩] at h
  exact h
 rw [if_neg c1, if_neg c1]
 by_cases c2 : bt s (i : Int) < 192
 ·rw [if_pos c2, if_pos c2]
  simp only [Option.bind_some]
  exact Ev.pos (by trivial) (bad 0)
 rw [if_neg c2, if_neg c2]
 by_cases c3 : bt s (i : Int) < 224
 ·rw [if_pos c3, if_pos c3]
  simp only [Option.bind_some]
  refine Ev.neg (by omega) ?_
  rw [w64 (by omega) (by omega)]
  by_cases hn : 2 ≤ s.size - i
  ·rw [decide_eq_false (by omega)]
   refine Ev.step (fun k => spec_l1At.j0.eq_2 ..) (Ev.neg (by simp) (Ev.pos (by omega) (Ev.pos (by omega) (Ev.pos (by omega) ?_))))
   rw [shl7_2, ewb, Int.tmod_eq_emod_of_nonneg r0.1]
   refine Ev.pos (by rw [sh7_2]; decide) (Ev.neg (by decide) ?_)
   refine Ev.step (fun k => spec_l1At.j1.eq_2 ..) ?_
   refine l1At_l_step s i 1 2 _ (by omega) hs (by omega) (by omega) (by omega) ?_
   have h := l1At_l_end s i 2 (bt s (i : Int) % 32 * 64 + bt s ((i + 1 : Nat) : Int) % 64) (by omega) hs (by omega) (by omega)
   have g1 := bytesOf_get s (i + 1) (by omega)
   rw [show i + (2 : Int).toNat = i + 2 from rfl, drop_take2 _ _ (by omega), g0, g1] at h
   by_cases c : bt s ((i + 1 : Nat) : Int) / 64 = 2 ∧ 2 ≤ bt s (i : Int) % 32
   ·rw [if_pos ⟨by unfold runeB inB; simp; omega, by
     unfold utf8L
     rw [if_neg (by omega), if_pos (by omega)]
     congr 1
     ·omega
     ·congr 1
      omega⟩] at h
    rw [if_pos ⟨hn, c⟩]
    exact h
   ·rw [if_neg (fun hh => c (by
     have h2 := hh.2
     unfold utf8L at h2
     split at h2
     ·simp at h2
     split at h2
     ·simp only [List.cons.injEq, and_true] at h2
      omega
     ·omega))] at h
    rw [if_neg (fun hh => c hh.2)]
    exact h
  ·rw [decide_eq_true (by omega), if_neg (fun h => hn h.1)]
   exact bad 2
 rw [if_neg c3, if_neg c3]
 by_cases c4 : bt s (i : Int) < 240
 ·rw [if_pos c4, if_pos c4]
  simp only [Option.bind_some]
  refine Ev.neg (by omega) ?_
  rw [w64 (by omega) (by omega)]
  by_cases hn : 3 ≤ s.size - i
  ·rw [decide_eq_false (by omega)]
   refine Ev.step (fun k => spec_l1At.j0.eq_2 ..) (Ev.neg (by simp) (Ev.pos (by omega) (Ev.pos (by omega) (Ev.pos (by omega) ?_))))
   rw [shl7_3, ewb, Int.tmod_eq_emod_of_nonneg r0.1]
   refine Ev.pos (by rw [sh7_3]; decide) (Ev.neg (by decide) ?_)
   refine Ev.step (fun k => spec_l1At.j1.eq_2 ..) ?_
   refine l1At_l_step s i 1 3 _ (by omega) hs (by omega) (by omega) (by omega) ?_
   refine l1At_l_step s i 2 3 _ (by omega) hs (by omega) (by omega) (by omega) ?_
   rw [show (bt s (i : Int) % 16 * 64 + bt s ((i + 1 : Nat) : Int) % 64) * 64 + bt s ((i + 2 : Nat) : Int) % 64 = bt s (i : Int) % 16 * 4096 + bt s ((i + 1 : Nat) : Int) % 64 * 64 + bt s ((i + 2 : Nat) : Int) % 64 from by omega]
   have h := l1At_l_end s i 3 (bt s (i : Int) % 16 * 4096 + bt s ((i + 1 : Nat) : Int) % 64 * 64 + bt s ((i + 2 : Nat) : Int) % 64) (by omega) hs (by omega) (by omega)
   have g1 := bytesOf_get s (i + 1) (by omega)
   have g2 := bytesOf_get s (i + 2) (by omega)
   rw [show i + (3 : Int).toNat = i + 3 from rfl, drop_take3 _ _ (by omega), g0, g1, g2] at h
   by_cases c : bt s ((i + 1 : Nat) : Int) / 64 = 2 ∧ bt s ((i + 2 : Nat) : Int) / 64 = 2 ∧ 2048 ≤ bt s (i : Int) % 16 * 4096 + bt s ((i + 1 : Nat) : Int) % 64 * 64 + bt s ((i + 2 : Nat) : Int) % 64 ∧ runeB (bt s (i : Int) % 16 * 4096 + bt s ((i + 1 : Nat) : Int) % 64 * 64 + bt s ((i + 2 : Nat) : Int) % 64) = true
   ·rw [if_pos ⟨c.2.2.2, by
     unfold utf8L
     rw [if_neg (by omega), if_neg (by omega), if_pos (by omega)]
     congr 1
     ·omega
     ·congr 1
      ·omega
      ·congr 1
       omega⟩] at h
    rw [if_pos ⟨hn, c⟩]
    exact h
   ·rw [if_neg (fun hh => c (by
     have h2 := hh.2
     unfold utf8L at h2
     split at h2
     ·simp at h2
     split at h2
     ·simp at h2
     split at h2
     ·simp only [List.cons.injEq, and_true] at h2
      exact ⟨by omega, by omega, by omega, hh.1⟩
     ·omega))] at h
    rw [if_neg (fun hh => c hh.2)]
    exact h
  ·rw [decide_eq_true (by omega), if_neg (fun h => hn h.1)]
   exact bad 3
 rw [if_neg c4, if_neg c4]
 by_cases c5 : bt s (i : Int) < 248
 ·rw [if_pos c5, if_pos c5]
  simp only [Option.bind_some]
  refine Ev.neg (by omega) ?_
  rw [w64 (by omega) (by omega)]
  by_cases hn : 4 ≤ s.size - i
  ·rw [decide_eq_false (by omega)]
   refine Ev.step (fun k => spec_l1At.j0.eq_2 ..) (Ev.neg (by simp) (Ev.pos (by omega) (Ev.pos (by omega) (Ev.pos (by omega) ?_))))
   rw [shl7_4, ewb, Int.tmod_eq_emod_of_nonneg r0.1]
   refine Ev.pos (by rw [sh7_4]; decide) (Ev.neg (by decide) ?_)
   refine Ev.step (fun k => spec_l1At.j1.eq_2 ..) ?_
   refine l1At_l_step s i 1 4 _ (by omega) hs (by omega) (by omega) (by omega) ?_
   refine l1At_l_step s i 2 4 _ (by omega) hs (by omega) (by omega) (by omega) ?_
   refine l1At_l_step s i 3 4 _ (by omega) hs (by omega) (by omega) (by omega) ?_
   rw [show ((bt s (i : Int) % 8 * 64 + bt s ((i + 1 : Nat) : Int) % 64) * 64 + bt s ((i + 2 : Nat) : Int) % 64) * 64 + bt s ((i + 3 : Nat) : Int) % 64 = bt s (i : Int) % 8 * 262144 + bt s ((i + 1 : Nat) : Int) % 64 * 4096 + bt s ((i + 2 : Nat) : Int) % 64 * 64 + bt s ((i + 3 : Nat) : Int) % 64 from by omega]
   have h := l1At_l_end s i 4 (bt s (i : Int) % 8 * 262144 + bt s ((i + 1 : Nat) : Int) % 64 * 4096 + bt s ((i + 2 : Nat) : Int) % 64 * 64 + bt s ((i + 3 : Nat) : Int) % 64) (by omega) hs (by omega) (by omega)
   have g1 := bytesOf_get s (i + 1) (by omega)
   have g2 := bytesOf_get s (i + 2) (by omega)
   have g3 := bytesOf_get s (i + 3) (by omega)
   rw [show i + (4 : Int).toNat = i + 4 from rfl, drop_take4 _ _ (by omega), g0, g1, g2, g3] at h
   by_cases c : bt s ((i + 1 : Nat) : Int) / 64 = 2 ∧ bt s ((i + 2 : Nat) : Int) / 64 = 2 ∧ bt s ((i + 3 : Nat) : Int) / 64 = 2 ∧ 65536 ≤ bt s (i : Int) % 8 * 262144 + bt s ((i + 1 : Nat) : Int) % 64 * 4096 + bt s ((i + 2 : Nat) : Int) % 64 * 64 + bt s ((i + 3 : Nat) : Int) % 64 ∧ runeB (bt s (i : Int) % 8 * 262144 + bt s ((i + 1 : Nat) : Int) % 64 * 4096 + bt s ((i + 2 : Nat) : Int) % 64 * 64 + bt s ((i + 3 : Nat) : Int) % 64) = true
   ·rw [if_pos ⟨c.2.2.2.2, by
     unfold utf8L
     rw [if_neg (by omega), if_neg (by omega), if_neg (by omega)]
     congr 1
     ·omega
     ·congr 1
      ·omega
      ·congr 1
       ·omega
       ·congr 1
        omega⟩] at h
    rw [if_pos ⟨hn, c⟩]
    exact h
   ·rw [if_neg (fun hh => c (by
     have h2 := hh.2
     unfold utf8L at h2
     split at h2
     ·simp at h2
     split at h2
     ·simp at h2
     split at h2
     ·simp at h2
     ·simp only [List.cons.injEq, and_true] at h2
      exact ⟨by omega, by omega, by omega, by omega, hh.1⟩))] at h
    rw [if_neg (fun hh => c hh.2)]
    exact h
  ·rw [decide_eq_true (by omega), if_neg (fun h => hn h.1)]
   exact bad 4
 rw [if_neg c5, if_neg c5]
 simp only [Option.bind_some]
 exact Ev.pos (by trivial) (bad 0)

theorem decode_eq (s : ByteArray) (i : Nat) (hi : i < s.size) : ((Utf8.decode s i).1 : Int) = (decI s i).1 ∧ ((Utf8.decode s i).2 : Int) = (decI s i).2 := by
 have r0 := bt_range s (i : Int)
 have r1 := bt_range s ((i + 1 : Nat) : Int)
 have r2 := bt_range s ((i + 2 : Nat) : Int)
 have r3 := bt_range s ((i + 3 : Nat) : Int)
 have e0 := get!_bt s i hi
 obtain ⟨g, hg⟩ : ∃ g : Nat → Nat, ∀ k, (s.get! k).toNat = g k := ⟨fun k => (s.get! k).toNat, fun _ => rfl⟩
 obtain ⟨B, hB⟩ : ∃ B : Int → Int, ∀ k, bt s k = B k := ⟨fun k => bt s k, fun _ => rfl⟩
 unfold Utf8.decode decI decB
 simp only [Nat.add_zero, hg, hB] at r0 r1 r2 r3 e0 ⊢
 generalize B (i : Int) = b0 at r0 e0 ⊢
 generalize g i = n0 at e0 ⊢
 have v2 := valid_nat
 by_cases c1 : b0 < 128
 ·rw [if_pos (by omega), if_pos c1]
  exact ⟨e0, rfl⟩
 rw [if_neg (by omega), if_neg c1]
 by_cases c2 : b0 < 192
 ·rw [if_neg (by simp; omega), if_neg (by simp; omega), if_neg (by simp; omega), if_pos c2]
  exact ⟨rfl, rfl⟩
 rw [if_neg c2]
 by_cases c3 : b0 < 224
 ·rw [if_pos c3]
  by_cases hn : 2 ≤ s.size - i
  ·have e1 := get!_bt s (i + 1) (by omega)
   simp only [hg, hB] at e1
   generalize B ((i + 1 : Nat) : Int) = b1 at r1 e1 ⊢
   generalize g (i + 1) = n1 at e1 ⊢
   by_cases c : b1 / 64 = 2
   ·rw [if_pos (by simp; omega)]
    by_cases d : 2 ≤ b0 % 32
    ·rw [if_pos (by omega), if_pos ⟨hn, c, d⟩]
     exact ⟨by simp only []; omega, rfl⟩
    ·rw [if_neg (by omega), if_neg (fun h => d h.2.2)]
     exact ⟨rfl, rfl⟩
   ·rw [if_neg (by simp; omega), if_neg (by simp; omega), if_neg (by simp; omega), if_neg (fun h => c h.2.1)]
    exact ⟨rfl, rfl⟩
  ·rw [if_neg (by simp; omega), if_neg (by simp; omega), if_neg (by simp; omega), if_neg (fun h => hn h.1)]
   exact ⟨rfl, rfl⟩
 rw [if_neg c3, if_neg (by simp; omega)]
 by_cases c4 : b0 < 240
 ·rw [if_pos c4]
  by_cases hn : 3 ≤ s.size - i
  ·have e1 := get!_bt s (i + 1) (by omega)
   simp only [hg, hB] at e1
   have e2 := get!_bt s (i + 2) (by omega)
   simp only [hg, hB] at e2
   generalize B ((i + 1 : Nat) : Int) = b1 at r1 e1 ⊢
   generalize B ((i + 2 : Nat) : Int) = b2 at r2 e2 ⊢
   generalize g (i + 1) = n1 at e1 ⊢
   generalize g (i + 2) = n2 at e2 ⊢
   by_cases c : b1 / 64 = 2 ∧ b2 / 64 = 2
   ·rw [if_pos (by simp; omega)]
    have hv := valid_nat (n0 % 16 * 4096 + n1 % 64 * 64 + n2 % 64)
    rw [show ((n0 % 16 * 4096 + n1 % 64 * 64 + n2 % 64 : Nat) : Int) = b0 % 16 * 4096 + b1 % 64 * 64 + b2 % 64 from by omega] at hv ⊢
    rw [hv]
    by_cases d : 2048 ≤ b0 % 16 * 4096 + b1 % 64 * 64 + b2 % 64 ∧ runeB (b0 % 16 * 4096 + b1 % 64 * 64 + b2 % 64) = true
    ·rw [if_pos (by simp only [Bool.and_eq_true, decide_eq_true_eq]; exact ⟨by omega, d.2⟩), if_pos ⟨hn, c.1, c.2, d⟩]
     exact ⟨by simp only []; omega, rfl⟩
    ·rw [if_neg (by simp only [Bool.and_eq_true, decide_eq_true_eq]; exact fun h => d ⟨by omega, h.2⟩), if_neg (fun h => d h.2.2.2)]
     exact ⟨rfl, rfl⟩
   ·rw [if_neg (by simp; omega), if_neg (by simp; omega), if_neg (fun h => c ⟨h.2.1, h.2.2.1⟩)]
    exact ⟨rfl, rfl⟩
  ·rw [if_neg (by simp; omega), if_neg (by simp; omega), if_neg (fun h => hn h.1)]
   exact ⟨rfl, rfl⟩
 rw [if_neg c4, if_neg (by simp; omega)]
 by_cases c5 : b0 < 248
 ·rw [if_pos c5]
  by_cases hn : 4 ≤ s.size - i
  ·have e1 := get!_bt s (i + 1) (by omega)
   simp only [hg, hB] at e1
   have e2 := get!_bt s (i + 2) (by omega)
   simp only [hg, hB] at e2
   have e3 := get!_bt s (i + 3) (by omega)
   simp only [hg, hB] at e3
   generalize B ((i + 1 : Nat) : Int) = b1 at r1 e1 ⊢
   generalize B ((i + 2 : Nat) : Int) = b2 at r2 e2 ⊢
   generalize B ((i + 3 : Nat) : Int) = b3 at r3 e3 ⊢
   generalize g (i + 1) = n1 at e1 ⊢
   generalize g (i + 2) = n2 at e2 ⊢
   generalize g (i + 3) = n3 at e3 ⊢
   by_cases c : b1 / 64 = 2 ∧ b2 / 64 = 2 ∧ b3 / 64 = 2
   ·rw [if_pos (by simp; omega)]
    have hv := valid_nat (n0 % 8 * 262144 + n1 % 64 * 4096 + n2 % 64 * 64 + n3 % 64)
    rw [show ((n0 % 8 * 262144 + n1 % 64 * 4096 + n2 % 64 * 64 + n3 % 64 : Nat) : Int) = b0 % 8 * 262144 + b1 % 64 * 4096 + b2 % 64 * 64 + b3 % 64 from by omega] at hv ⊢
    rw [hv]
    by_cases d : 65536 ≤ b0 % 8 * 262144 + b1 % 64 * 4096 + b2 % 64 * 64 + b3 % 64 ∧ runeB (b0 % 8 * 262144 + b1 % 64 * 4096 + b2 % 64 * 64 + b3 % 64) = true
    ·rw [if_pos (by simp only [Bool.and_eq_true, decide_eq_true_eq]; exact ⟨by omega, d.2⟩), if_pos ⟨hn, c.1, c.2.1, c.2.2, d⟩]
     exact ⟨by simp only []; omega, rfl⟩
    ·rw [if_neg (by simp only [Bool.and_eq_true, decide_eq_true_eq]; exact fun h => d ⟨by omega, h.2⟩), if_neg (fun h => d h.2.2.2.2)]
     exact ⟨rfl, rfl⟩
   ·rw [if_neg (by simp; omega), if_neg (fun h => c ⟨h.2.1, h.2.2.1, h.2.2.2.1⟩)]
    exact ⟨rfl, rfl⟩
  ·rw [if_neg (by simp; omega), if_neg (fun h => hn h.1)]
   exact ⟨rfl, rfl⟩
 rw [if_neg c5, if_neg (by simp; omega)]
 exact ⟨rfl, rfl⟩
theorem decI_width (s : ByteArray) (i : Nat) (hi : i < s.size) : 1 ≤ (decI s i).2 ∧ (i : Int) + (decI s i).2 ≤ (s.size : Int) ∧ (decI s i).2 ≤ 4 := by
 unfold decI decB
 repeat' split
 all_goals simp only []
 all_goals omega
theorem decI_rune (s : ByteArray) (i : Nat) : runeB (decI s i).1 = true := by
 have r0 := bt_range s (i : Int)
 have r1 := bt_range s ((i + 1 : Nat) : Int)
 unfold decI decB
 repeat' split
 all_goals simp only []
 all_goals first | (rename_i h; exact h.2.2.2.2) | (rename_i h; exact h.2.2.2.2.2) | (unfold runeB inB; simp; omega) | decide

end Go.Proofs.YtliafedmhgkciaaDoor.Pure
