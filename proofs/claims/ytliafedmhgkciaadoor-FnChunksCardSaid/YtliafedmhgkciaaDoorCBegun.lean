/- Plain laws of texts that could yet become a rune: what the reference tries with fills is what the language's tables say. -/
import Derived.Test.YtliafedmhgkciaaDoorCP0
import Derived.Test.YtliafedmhgkciaaDoorC0
import Derived.Test.YtliafedmhgkciaaDoorC3
import Derived.Test.YtliafedmhgkciaaDoorC4
import Derived.Test.YtliafedmhgkciaaDoorCUtf8x
import Derived.Test.YtliafedmhgkciaaDoorCLoops
import Derived.Lib.DecodeNEq
import Derived.Shelf.Unicode.DecodeSlow
set_option linter.unusedVariables false
set_option linter.unusedSimpArgs false
namespace Go.Proofs.YtliafedmhgkciaaDoor.Pure
open Go.RowKit Go.Proofs.YtliafedmhgkciaaDoor.P Go.Proofs.YtliafedmhgkciaaDoorW.PrintWords

def begunB (s : ByteArray) : Bool := decide (0 < s.size) && !utf8_FullRuneInString.N s.size (Lib.firstT (s.get! 0).toNat) (s.get! 1).toNat (s.get! 2).toNat
theorem nil_iff (s : ByteArray) : (s.toList = []) = (s.size = 0) := by
 rw [ByteArray.toList_eq]
 apply propext
 rw [← List.length_eq_zero_iff, Array.length_toList]
 rfl
theorem implIsBegun (s : ByteArray) : impl_IsBegun.f s = some (begunB s) := by
 unfold impl_IsBegun.f utf8_FullRuneInString.f begunB
 by_cases h : s.size = 0
 ·rw [if_pos ((nil_iff s).mpr h), decide_eq_false (by omega)]
  rfl
 ·rw [if_neg (fun x => h ((nil_iff s).mp x)), if_neg h, decide_eq_true (by omega)]
  rfl
theorem firstT_mod (b : Nat) : Lib.firstT b % 8 ≤ 4 := by
 rcases Lib.firstT_cases b with h | h | h | h | h | h | h | h | h <;> rw [h] <;> decide
def longN (b : Nat) : Nat := if b < 128 then 1 else if b < 192 then 0 else if b < 224 then 2 else if b < 240 then 3 else if b < 248 then 4 else 0
theorem long_eq (b : Nat) : spec_l1Long.f (b : Int) = some (longN b : Int) := by
 unfold spec_l1Long.f longN
 by_cases c1 : b < 128
 ·rw [if_pos (by omega), if_pos c1]; rfl
 rw [if_neg (by omega), if_neg c1]
 by_cases c2 : b < 192
 ·rw [if_pos (by omega), if_pos c2]; rfl
 rw [if_neg (by omega), if_neg c2]
 by_cases c3 : b < 224
 ·rw [if_pos (by omega), if_pos c3]; rfl
 rw [if_neg (by omega), if_neg c3]
 by_cases c4 : b < 240
 ·rw [if_pos (by omega), if_pos c4]; rfl
 rw [if_neg (by omega), if_neg c4]
 by_cases c5 : b < 248
 ·rw [if_pos (by omega), if_pos c5]; rfl
 rw [if_neg (by omega), if_neg c5]
 rfl
theorem full_of_long (n b b1 b2 : Nat) (hn : 1 ≤ n) (h : longN b ≤ n) : utf8_FullRuneInString.N n (Lib.firstT b) b1 b2 = true := by
 have : Lib.firstT b % 8 ≤ n := by
  unfold longN at h
  unfold Lib.firstT
  repeat' split at h
  all_goals repeat' split
  all_goals omega
 unfold utf8_FullRuneInString.N
 rw [decide_eq_true this]
 rfl
def fits (n b0 b1 b2 f : Nat) : Bool := decide (1 < (decB (longN b0) (b0 : Int) (if 1 < n then (b1 : Int) else f) (if 2 < n then (b2 : Int) else f) (f : Int)).2)
theorem decB_2 (b0 c1 c2 c3 : Int) (h : 192 ≤ b0) (h2 : b0 < 224) : 1 < (decB 2 b0 c1 c2 c3).2 ↔ c1 / 64 = 2 ∧ 2 ≤ b0 % 32 := by
 unfold decB
 rw [if_neg (by omega), if_neg (by omega), if_pos h2]
 by_cases c : 2 ≤ 2 ∧ c1 / 64 = 2 ∧ 2 ≤ b0 % 32
 ·rw [if_pos c]; simp only []; omega
 ·rw [if_neg c]; simp only []; omega
theorem decB_3 (b0 c1 c2 c3 : Int) (h : 224 ≤ b0) (h2 : b0 < 240) : 1 < (decB 3 b0 c1 c2 c3).2 ↔ c1 / 64 = 2 ∧ c2 / 64 = 2 ∧ 2048 ≤ b0 % 16 * 4096 + c1 % 64 * 64 + c2 % 64 ∧ (b0 % 16 * 4096 + c1 % 64 * 64 + c2 % 64 < 55296 ∨ 57343 < b0 % 16 * 4096 + c1 % 64 * 64 + c2 % 64) := by
 unfold decB
 have hr : ∀ r : Int, 0 ≤ r → r ≤ 1114111 → (runeB r = true ↔ r < 55296 ∨ 57343 < r) := fun r a b => by unfold runeB inB; simp; omega
 have hr := hr (b0 % 16 * 4096 + c1 % 64 * 64 + c2 % 64) (by omega) (by omega)
 rw [if_neg (by omega), if_neg (by omega), if_neg (by omega), if_pos h2]
 by_cases c : 3 ≤ 3 ∧ c1 / 64 = 2 ∧ c2 / 64 = 2 ∧ 2048 ≤ b0 % 16 * 4096 + c1 % 64 * 64 + c2 % 64 ∧ runeB (b0 % 16 * 4096 + c1 % 64 * 64 + c2 % 64) = true
 ·rw [if_pos c]
  rw [hr] at c
  simp only []
  omega
 ·rw [if_neg c]
  rw [hr] at c
  simp only []
  omega
theorem decB_4 (b0 c1 c2 c3 : Int) (h : 240 ≤ b0) (h2 : b0 < 248) : 1 < (decB 4 b0 c1 c2 c3).2 ↔ c1 / 64 = 2 ∧ c2 / 64 = 2 ∧ c3 / 64 = 2 ∧ 65536 ≤ b0 % 8 * 262144 + c1 % 64 * 4096 + c2 % 64 * 64 + c3 % 64 ∧ b0 % 8 * 262144 + c1 % 64 * 4096 + c2 % 64 * 64 + c3 % 64 ≤ 1114111 := by
 unfold decB
 have hr : ∀ r : Int, 65536 ≤ r → (runeB r = true ↔ r ≤ 1114111) := fun r a => by unfold runeB inB; simp; omega
 have hr := hr (b0 % 8 * 262144 + c1 % 64 * 4096 + c2 % 64 * 64 + c3 % 64)
 rw [if_neg (by omega), if_neg (by omega), if_neg (by omega), if_neg (by omega), if_pos h2]
 by_cases c : 4 ≤ 4 ∧ c1 / 64 = 2 ∧ c2 / 64 = 2 ∧ c3 / 64 = 2 ∧ 65536 ≤ b0 % 8 * 262144 + c1 % 64 * 4096 + c2 % 64 * 64 + c3 % 64 ∧ runeB (b0 % 8 * 262144 + c1 % 64 * 4096 + c2 % 64 * 64 + c3 % 64) = true
 ·rw [if_pos c]
  rw [hr c.2.2.2.2.1] at c
  simp only []
  omega
 ·rw [if_neg c]
  simp only []
  refine ⟨fun h => by omega, fun h => ?_⟩
  exact absurd ⟨by omega, h.1, h.2.1, h.2.2.1, h.2.2.2.1, (hr h.2.2.2.1).2 h.2.2.2.2⟩ c
theorem N_false (n x b1 b2 : Nat) : utf8_FullRuneInString.N n x b1 b2 = false ↔ n < x % 8 ∧ (1 < n → Lib.accLo (x / 16) ≤ b1 ∧ b1 ≤ Lib.accHi (x / 16)) ∧ (2 < n → 128 ≤ b2 ∧ b2 ≤ 191) := by
 unfold utf8_FullRuneInString.N
 simp only [Bool.or_eq_false_iff, decide_eq_false_iff_not, Bool.and_eq_false_iff, Nat.not_le, Nat.not_lt]
 omega
theorem longN_cases (b : Nat) : (longN b = 2 ∧ 192 ≤ b ∧ b < 224) ∨ (longN b = 3 ∧ 224 ≤ b ∧ b < 240) ∨ (longN b = 4 ∧ 240 ≤ b ∧ b < 248) ∨ longN b ≤ 1 := by
 unfold longN
 repeat' split
 all_goals omega
theorem firstT_long (b : Nat) : (b < 194 ∧ Lib.firstT b / 16 = 15) ∨ (194 ≤ b ∧ b < 224 ∧ Lib.firstT b = 2) ∨ (b = 224 ∧ Lib.firstT b = 19) ∨ (225 ≤ b ∧ b < 237 ∧ Lib.firstT b = 3) ∨ (b = 237 ∧ Lib.firstT b = 35) ∨ (238 ≤ b ∧ b < 240 ∧ Lib.firstT b = 3) ∨ (b = 240 ∧ Lib.firstT b = 52) ∨ (241 ≤ b ∧ b < 244 ∧ Lib.firstT b = 4) ∨ (b = 244 ∧ Lib.firstT b = 68) ∨ (245 ≤ b ∧ Lib.firstT b = 241) := by
 unfold Lib.firstT
 repeat' split
 all_goals omega
theorem firstT_bad (b : Nat) (h : b < 194) : Lib.firstT b % 8 ≤ 1 := by
 unfold Lib.firstT
 repeat' split
 all_goals omega
theorem fits_full (n b0 b1 b2 f : Nat) (h0 : b0 < 256) (h1 : b1 < 256) (h2 : b2 < 256) (hn : 1 ≤ n) (hl : n < longN b0) (hf : 128 ≤ f) (hf2 : f < 192) (h : fits n b0 b1 b2 f = true) : utf8_FullRuneInString.N n (Lib.firstT b0) b1 b2 = false := by
 rw [N_false]
 unfold fits at h
 rw [decide_eq_true_eq] at h
 have h8 : 245 ≤ b0 → b0 < 248 → 5 ≤ (b0 : Int) % 8 := by omega
 rcases longN_cases b0 with ⟨e, ha, hb⟩ | ⟨e, ha, hb⟩ | ⟨e, ha, hb⟩ | e
 ·rw [e, decB_2 _ _ _ _ (by omega) (by omega)] at h
  rcases firstT_long b0 with c | c | c | c | c | c | c | c | c | c <;> first | omega | (rw [c.2.2]; simp only [Lib.accLo, Lib.accHi]; omega)
 ·rw [e, decB_3 _ _ _ _ (by omega) (by omega)] at h
  obtain rfl | rfl : n = 1 ∨ n = 2 := by omega
  ·rcases firstT_long b0 with c | c | c | c | c | c | c | c | c | c <;> omega
  ·rw [if_pos (by omega), if_neg (by omega)] at h
   rcases firstT_long b0 with c | c | c | c | c | c | c | c | c | c <;> first | omega | (first | rw [c.2.2] | rw [c.2]); (refine ⟨by decide, fun _ => ?_, by omega⟩; simp [Lib.accLo, Lib.accHi]; omega)
 ·rw [e, decB_4 _ _ _ _ (by omega) (by omega)] at h
  obtain rfl | rfl | rfl : n = 1 ∨ n = 2 ∨ n = 3 := by omega
  ·rcases firstT_long b0 with c | c | c | c | c | c | c | c | c | c <;> omega
  ·rw [if_pos (by omega), if_neg (by omega)] at h
   rcases firstT_long b0 with c | c | c | c | c | c | c | c | c | c <;> first | omega | (first | rw [c.2.2] | rw [c.2]); (refine ⟨by decide, fun _ => ?_, by omega⟩; simp [Lib.accLo, Lib.accHi]; omega)
  ·rw [if_pos (by omega), if_pos (by omega)] at h
   rcases firstT_long b0 with c | c | c | c | c | c | c | c | c | c <;> first | omega | (first | rw [c.2.2] | rw [c.2]); (refine ⟨by decide, fun _ => ?_, by omega⟩; simp [Lib.accLo, Lib.accHi]; omega)
 ·omega
theorem full_fits (n b0 b1 b2 : Nat) (h0 : b0 < 256) (h1 : b1 < 256) (h2 : b2 < 256) (hn : 1 ≤ n) (hl : n < longN b0) (h : utf8_FullRuneInString.N n (Lib.firstT b0) b1 b2 = false) : fits n b0 b1 b2 128 = true ∨ fits n b0 b1 b2 144 = true ∨ fits n b0 b1 b2 160 = true := by
 rw [N_false] at h
 have hbad := firstT_bad b0
 unfold fits
 rw [decide_eq_true_eq, decide_eq_true_eq, decide_eq_true_eq]
 have h8 : 245 ≤ b0 → b0 < 248 → 5 ≤ (b0 : Int) % 8 := by omega
 rcases longN_cases b0 with ⟨e, ha, hb⟩ | ⟨e, ha, hb⟩ | ⟨e, ha, hb⟩ | e
 ·rw [e, decB_2 _ _ _ _ (by omega) (by omega), decB_2 _ _ _ _ (by omega) (by omega), decB_2 _ _ _ _ (by omega) (by omega)]
  obtain rfl : n = 1 := by omega
  rw [if_neg (by omega), if_neg (by omega), if_neg (by omega)]
  rcases firstT_long b0 with c | c | c | c | c | c | c | c | c | c <;> omega
 ·rw [e, decB_3 _ _ _ _ (by omega) (by omega), decB_3 _ _ _ _ (by omega) (by omega), decB_3 _ _ _ _ (by omega) (by omega)]
  obtain rfl | rfl : n = 1 ∨ n = 2 := by omega
  ·simp only [if_neg (show ¬ 1 < 1 by omega), if_neg (show ¬ 2 < 1 by omega)]
   rcases firstT_long b0 with c | c | c | c | c | c | c | c | c | c <;> omega
  ·have h3 := h.2.1 (by omega)
   simp only [if_pos (show 1 < 2 by omega), if_neg (show ¬ 2 < 2 by omega)]
   rcases firstT_long b0 with c | c | c | c | c | c | c | c | c | c <;> first | omega | (first | rw [c.2.2] at h3 | rw [c.2] at h3); (simp [Lib.accLo, Lib.accHi] at h3; omega)
 ·rw [e, decB_4 _ _ _ _ (by omega) (by omega), decB_4 _ _ _ _ (by omega) (by omega), decB_4 _ _ _ _ (by omega) (by omega)]
  obtain rfl | rfl | rfl : n = 1 ∨ n = 2 ∨ n = 3 := by omega
  ·simp only [if_neg (show ¬ 1 < 1 by omega), if_neg (show ¬ 2 < 1 by omega)]
   rcases firstT_long b0 with c | c | c | c | c | c | c | c | c | c <;> omega
  ·have h3 := h.2.1 (by omega)
   simp only [if_pos (show 1 < 2 by omega), if_neg (show ¬ 2 < 2 by omega)]
   rcases firstT_long b0 with c | c | c | c | c | c | c | c | c | c <;> first | omega | (first | rw [c.2.2] at h3 | rw [c.2] at h3); (simp [Lib.accLo, Lib.accHi] at h3; omega)
  ·have h3 := h.2.1 (by omega)
   have h4 := h.2.2 (by omega)
   simp only [if_pos (show 1 < 3 by omega), if_pos (show 2 < 3 by omega)]
   rcases firstT_long b0 with c | c | c | c | c | c | c | c | c | c <;> first | omega | (first | rw [c.2.2] at h3 | rw [c.2] at h3); (simp [Lib.accLo, Lib.accHi] at h3; omega)
 ·omega
def fillS (x : ByteArray) (f : Nat) : Nat → ByteArray
 | 0 => x
 | m + 1 => fillS (x ++ strOfNums [(f : Int) % 256]) f m
theorem fillS_bytes (f : Nat) (hf : f < 256) : ∀ (m : Nat) (x : ByteArray), bytesOf (fillS x f m) = bytesOf x ++ List.replicate m (f : Int)
 | 0, x => by simp [fillS]
 | m + 1, x => by
  rw [fillS, fillS_bytes f hf m]
  have : bytesOf (x ++ strOfNums [(f : Int) % 256]) = bytesOf x ++ bytesOf (strOfNums [(f : Int) % 256]) := by
   unfold bytesOf
   rw [ByteArray.data_append, Array.toList_append, List.map_append]
  rw [this, bytesOf_strOfNums _ (by simp; omega), List.append_assoc, Int.emod_eq_of_lt (by omega) (by omega)]
  rfl
theorem fillS_size (f : Nat) (hf : f < 256) (m : Nat) (x : ByteArray) : (fillS x f m).size = x.size + m := by
 rw [← bytesOf_length, fillS_bytes f hf, List.length_append, List.length_replicate, bytesOf_length]
theorem bt_fill (f : Nat) (hf : f < 256) (m : Nat) (x : ByteArray) (i : Nat) (hi : i < x.size + m) : bt (fillS x f m) (i : Int) = if i < x.size then bt x (i : Int) else (f : Int) := by
 have hl : (bytesOf (fillS x f m)).length = x.size + m := by rw [bytesOf_length, fillS_size f hf]
 have hl2 := bytesOf_length x
 rw [← rd_bytesOf, rd_eq _ (by omega)]
 simp only [fillS_bytes f hf]
 by_cases h : i < x.size
 ·rw [if_pos h, List.getElem_append_left (by omega), bytesOf_get x i h]
 ·rw [if_neg h, List.getElem_append_right (by omega), List.getElem_replicate]
theorem l1_fill (s : ByteArray) (f n : Nat) (hs : 0 < s.size) (hn : spec_l1Long.f (bt s 0) = some (n : Int)) {r : Bool} (hf : f < 256) : ∀ (m : Nat) (x : ByteArray), x.size + m = n → 0 < x.size → n ≤ 10 →
  (if 1 < (decI (fillS x f m) 0).2 then r = true else Ev (fun k => spec_l1Begun.l0 k s ((f + 1 : Nat) : Int)) r) → Ev (fun k => spec_l1Begun.l1 k s (f : Int) x) r
 | 0, x, hx, hx0, hn10, h => by
  refine Ev.step (fun k => spec_l1Begun.l1.eq_2 ..) (Ev.pos (by omega) (Ev.bind0 hn (Ev.neg (by omega) (Ev.bind (l1At_eq x 0 hx0 (by omega)) ?_))))
  rw [fillS] at h
  by_cases c : 1 < (decI x 0).2
  ·rw [if_pos c] at h
   subst h
   exact Ev.pos (by omega) (Ev.now _)
  ·rw [if_neg c] at h
   refine Ev.neg (by omega) ?_
   rw [w64s (by omega)]
   exact h
 | m + 1, x, hx, hx0, hn10, h => by
  have hz : (strOfNums [(f : Int) % 256]).size = 1 := by
   rw [← bytesOf_length, bytesOf_strOfNums _ (by simp; omega)]
   rfl
  refine Ev.step (fun k => spec_l1Begun.l1.eq_2 ..) (Ev.pos (by omega) (Ev.bind0 hn (Ev.pos (by omega) (Ev.bind0 rfl (Ev.pos (by omega) ?_)))))
  exact l1_fill s f n hs hn hf m _ (by rw [ByteArray.size_append]; omega) (by rw [ByteArray.size_append]; omega) hn10 h
set_option maxRecDepth 4000 in
theorem specBegun (s : ByteArray) : Ev (fun k => spec_l1Begun.f k s) (begunB s) := by
 unfold spec_l1Begun.f
 have jt : Ev (fun k => spec_l1Begun.j0 k s true) false := Ev.step (fun k => spec_l1Begun.j0.eq_2 ..) (Ev.pos rfl (Ev.now _))
 by_cases h0 : s.size = 0
 ·refine Ev.pos (by omega) (Ev.eq' jt ?_)
  unfold begunB
  rw [decide_eq_false (by omega)]
  rfl
 refine Ev.neg (by omega) ?_
 have b0 := get!_bt s 0 (by omega)
 have l0 := long_eq (s.get! 0).toNat
 rw [b0] at l0
 by_cases h1 : s.size > 3
 ·refine Ev.pos (by omega) (Ev.eq' jt ?_)
  unfold begunB utf8_FullRuneInString.N
  have := firstT_mod (s.get! 0).toNat
  rw [decide_eq_true (show Lib.firstT (s.get! 0).toNat % 8 ≤ s.size by omega)]
  simp
 refine Ev.neg (by omega) (Ev.pos (by omega) (Ev.bind0 l0 ?_))
 by_cases h2 : longN (s.get! 0).toNat ≤ s.size
 ·rw [decide_eq_true (by omega)]
  refine Ev.eq' jt ?_
  unfold begunB
  rw [full_of_long _ _ _ _ (by omega) h2]
  simp
 rw [decide_eq_false (by omega)]
 refine Ev.step (fun k => spec_l1Begun.j0.eq_2 ..) (Ev.neg (by simp) ?_)
 have hln : longN (s.get! 0).toNat ≤ 4 := by rcases longN_cases (s.get! 0).toNat with c | c | c | c <;> omega
 have p0 := (s.get! 0).toNat_lt
 have p1 := (s.get! 1).toNat_lt
 have p2 := (s.get! 2).toNat_lt
 have hfit : ∀ f, f < 256 → (1 < (decI (fillS s f (longN (s.get! 0).toNat - s.size)) 0).2) = (fits s.size (s.get! 0).toNat (s.get! 1).toNat (s.get! 2).toNat f = true) := by
  intro f hf
  unfold fits decI
  rw [fillS_size f hf, Nat.sub_zero, show s.size + (longN (s.get! 0).toNat - s.size) = longN (s.get! 0).toNat from by omega, decide_eq_true_eq]
  have z := fun (i : Nat) (hi : i < longN (s.get! 0).toNat) => bt_fill f hf (longN (s.get! 0).toNat - s.size) s i (by omega)
  have q0 : bt (fillS s f (longN (s.get! 0).toNat - s.size)) ((0 : Nat) : Int) = ((s.get! 0).toNat : Int) := by rw [z 0 (by omega), if_pos (by omega), b0]
  have q1 : ∀ i : Nat, i < s.size → bt s (i : Int) = ((s.get! i).toNat : Int) := fun i hi => (get!_bt s i hi).symm
  rcases longN_cases (s.get! 0).toNat with ⟨e, ha, hb⟩ | ⟨e, ha, hb⟩ | ⟨e, ha, hb⟩ | e
  ·rw [q0, e, decB_2 _ _ _ _ (by omega) (by omega), decB_2 _ _ _ _ (by omega) (by omega), ← e, z 1 (by omega), if_neg (by omega), if_neg (by omega)]
  ·rw [q0, e, decB_3 _ _ _ _ (by omega) (by omega), decB_3 _ _ _ _ (by omega) (by omega), ← e, z 1 (by omega), z 2 (by omega), if_neg (show ¬ 2 < s.size by omega), if_neg (show ¬ 2 < s.size by omega)]
   by_cases d : 1 < s.size
   ·rw [if_pos d, if_pos d, q1 1 d]
   ·rw [if_neg d, if_neg d]
  ·rw [q0, e, decB_4 _ _ _ _ (by omega) (by omega), decB_4 _ _ _ _ (by omega) (by omega), ← e, z 1 (by omega), z 2 (by omega), z 3 (by omega), if_neg (show ¬ 3 < s.size by omega)]
   by_cases d : 1 < s.size
   ·rw [if_pos d, if_pos d, q1 1 d]
    by_cases d2 : 2 < s.size
    ·rw [if_pos d2, if_pos d2, q1 2 d2]
    ·rw [if_neg d2, if_neg d2]
   ·rw [if_neg d, if_neg d, if_neg (show ¬ 2 < s.size by omega), if_neg (show ¬ 2 < s.size by omega)]
  ·omega
 have step : ∀ (f : Nat) (r : Bool), f < 192 → (if fits s.size (s.get! 0).toNat (s.get! 1).toNat (s.get! 2).toNat f = true then r = true else Ev (fun k => spec_l1Begun.l0 k s ((f + 1 : Nat) : Int)) r) → Ev (fun k => spec_l1Begun.l0 k s (f : Int)) r := by
  intro f r hf h
  refine Ev.step (fun k => spec_l1Begun.l0.eq_2 ..) (Ev.pos (by omega) ?_)
  refine l1_fill s f (longN (s.get! 0).toNat) (by omega) l0 (by omega) (longN (s.get! 0).toNat - s.size) s (by omega) (by omega) (by omega) ?_
  have e := hfit f (by omega)
  by_cases c : fits s.size (s.get! 0).toNat (s.get! 1).toNat (s.get! 2).toNat f = true
  ·rw [if_pos c] at h
   rw [if_pos (e.mpr c)]
   exact h
  ·rw [if_neg c] at h
   rw [if_neg (fun x => c (e.mp x))]
   exact h
 have h := Ev.findLoop (g := fun k i => spec_l1Begun.l0 k s (i : Int)) (p := fun f => fits s.size (s.get! 0).toNat (s.get! 1).toNat (s.get! 2).toNat f) (v := fun _ => true) (z := false) (n := 192)
  (Ev.step (fun k => spec_l1Begun.l0.eq_2 ..) (Ev.neg (by omega) (Ev.now _)))
  (fun i hi hp => step i true hi (by rw [if_pos hp])) (fun i x hi hp hx => step i x hi (by rw [if_neg (by rw [hp]; simp)]; exact hx)) 64 128 (by omega)
 refine Ev.eq' h ?_
 unfold begunB
 rw [decide_eq_true (by omega), Bool.true_and]
 rcases findFrom_cases (p := fun f => fits s.size (s.get! 0).toNat (s.get! 1).toNat (s.get! 2).toNat f) (v := fun _ => true) (z := false) 64 128 with ⟨h1, h2⟩ | ⟨j, h1, h2, h3, h4, h5⟩
 ·rw [h1]
  cases hN : utf8_FullRuneInString.N s.size (Lib.firstT (s.get! 0).toNat) (s.get! 1).toNat (s.get! 2).toNat
  ·rcases full_fits _ _ _ _ (by omega) (by omega) (by omega) (by omega) (by omega) hN with h | h | h
   ·exact absurd h (by rw [h2 128 (by omega) (by omega)]; simp)
   ·exact absurd h (by rw [h2 144 (by omega) (by omega)]; simp)
   ·exact absurd h (by rw [h2 160 (by omega) (by omega)]; simp)
  ·rfl
 ·rw [h5, fits_full _ _ _ _ j (by omega) (by omega) (by omega) (by omega) (by omega) (by omega) (by omega) h3]
  rfl
end Go.Proofs.YtliafedmhgkciaaDoor.Pure
