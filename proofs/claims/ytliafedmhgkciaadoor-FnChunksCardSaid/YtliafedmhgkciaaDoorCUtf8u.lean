/- Plain laws of texts: bytes as whole numbers, and the bytes of a rune. -/
import Derived.Test.YtliafedmhgkciaaDoorCP0
import Derived.Test.YtliafedmhgkciaaDoorC0
import Derived.Test.YtliafedmhgkciaaDoorCBase0
import Derived.Test.YtliafedmhgkciaaDoorCRune0
import Derived.IntWalk
set_option linter.unusedVariables false
set_option linter.unusedSimpArgs false
namespace Go.Proofs.YtliafedmhgkciaaDoor.Pure
open Go.RowKit Go.Proofs.YtliafedmhgkciaaDoor.P Go.Proofs.YtliafedmhgkciaaDoorW.PrintWords Go.Proofs.YtliafedmhgkciaaDoorW.PrintMore

theorem bytesOf_extract (s : ByteArray) (a b : Nat) : bytesOf (s.extract a b) = ((bytesOf s).take b).drop a := by
 unfold bytesOf
 rw [ByteArray.data_extract, Array.toList_extract, ← List.map_take, ← List.map_drop]
 congr 1
 rw [List.extract_eq_take_drop, List.take_drop]
 by_cases h : a ≤ b
 ·rw [show a + (b - a) = b from by omega]
 ·rw [List.drop_eq_nil_of_le (by rw [List.length_take]; omega), List.drop_eq_nil_of_le (by rw [List.length_take]; omega)]
theorem bytes_map_inj : ∀ (a b : List UInt8), a.map (fun x => (x.toNat : Int)) = b.map (fun x => (x.toNat : Int)) → a = b
 | [], [], _ => rfl
 | [], _ :: _, h => by simp at h
 | _ :: _, [], h => by simp at h
 | x :: a, y :: b, h => by
  simp only [List.map_cons, List.cons.injEq] at h
  have h1 : x = y := UInt8.toNat_inj.1 (by omega)
  rw [h1, bytes_map_inj a b h.2]
theorem bytesOf_inj {a b : ByteArray} (h : bytesOf a = bytesOf b) : a = b := by
 have h1 := bytes_map_inj _ _ h
 apply ByteArray.ext
 exact Array.toList_inj.1 h1
theorem toList_eq_iff (a b : ByteArray) : (a.toList = b.toList) = (bytesOf a = bytesOf b) := by
 rw [ByteArray.toList_eq, ByteArray.toList_eq]
 apply propext
 constructor
 ·intro h
  unfold bytesOf
  rw [h]
 ·intro h
  exact bytes_map_inj _ _ h
theorem bytesOf_strOfNums (l : List Int) (h : ∀ x ∈ l, 0 ≤ x ∧ x < 256) : bytesOf (strOfNums l) = l := by
 unfold bytesOf
 rw [strOfNums_data, List.map_map]
 conv => rhs; rw [← List.map_id l]
 apply List.map_congr_left
 intro x hx
 have := h x hx
 simp only [Function.comp, UInt8.toNat_ofNat', id]
 omega
theorem strOfNums_bytesOf (s : ByteArray) : strOfNums (bytesOf s) = s := by
 apply bytesOf_inj
 apply bytesOf_strOfNums
 intro x hx
 unfold bytesOf at hx
 obtain ⟨b, _, rfl⟩ := List.mem_map.1 hx
 have := b.toNat_lt
 omega
theorem bytesOf_mem {s : ByteArray} {x : Int} (hx : x ∈ bytesOf s) : 0 ≤ x ∧ x < 256 := by
 unfold bytesOf at hx
 obtain ⟨b, _, rfl⟩ := List.mem_map.1 hx
 have := b.toNat_lt
 omega
theorem bytesOf_get (s : ByteArray) (i : Nat) (h : i < s.size) : (bytesOf s)[i]'(by rw [bytesOf_length]; exact h) = bt s i := by
 rw [← rd_bytesOf]
 exact (rd_eq _ _).symm
theorem get!_bt (s : ByteArray) (i : Nat) (h : i < s.size) : ((s.get! i).toNat : Int) = bt s (i : Int) := by
 rw [← bt_at s i (by simpa using h)]
 congr 2
 have e : s.get! i = s.data[i]! := rfl
 rw [e, getElem!_pos s.data i h]
 rfl

def utf8L (r : Int) : List Int :=
 if r < 128 then [r] else if r < 2048 then [192 + r / 64, 128 + r % 64] else if r < 65536 then [224 + r / 4096, 128 + r / 64 % 64, 128 + r % 64]
 else [240 + r / 262144, 128 + r / 4096 % 64, 128 + r / 64 % 64, 128 + r % 64]
theorem l1Utf8_eq (r : Int) (h0 : 0 ≤ r) (h1 : r ≤ 1114111) : spec_l1Utf8.f r = some (strOfNums (utf8L r)) := by
 unfold spec_l1Utf8.f utf8L
 simp only [Int.tdiv_eq_ediv_of_nonneg h0, Int.tmod_eq_emod_of_nonneg h0]
 have e1 : wrap64 (r / 64) = r / 64 := w64 (by omega) (by omega)
 have e2 : wrap64 (r / 4096) = r / 4096 := w64 (by omega) (by omega)
 have e3 : wrap64 (r / 262144) = r / 262144 := w64 (by omega) (by omega)
 simp only [e1, e2, e3, Int.tmod_eq_emod_of_nonneg (show 0 ≤ r / 64 by omega), Int.tmod_eq_emod_of_nonneg (show 0 ≤ r / 4096 by omega)]
 by_cases c1 : r < 128
 ·rw [if_pos c1, if_pos c1, Int.emod_eq_of_lt (by omega) (by omega)]
 rw [if_neg c1, if_neg c1]
 by_cases c2 : r < 2048
 ·rw [if_pos c2, if_pos c2, w64 (by omega) (by omega), w64 (by omega) (by omega), Int.emod_eq_of_lt (by omega) (by omega), Int.emod_eq_of_lt (a := 128 + r % 64) (by omega) (by omega)]
 rw [if_neg c2, if_neg c2]
 by_cases c3 : r < 65536
 ·rw [if_pos c3, if_pos c3, w64 (by omega) (by omega), w64 (by omega) (by omega), w64 (by omega) (by omega), Int.emod_eq_of_lt (by omega) (by omega), Int.emod_eq_of_lt (a := 128 + r % 64) (by omega) (by omega), Int.emod_eq_of_lt (a := 128 + r / 64 % 64) (by omega) (by omega)]
 rw [if_neg c3, if_neg c3, w64 (by omega) (by omega), w64 (by omega) (by omega), w64 (by omega) (by omega), w64 (by omega) (by omega), Int.emod_eq_of_lt (by omega) (by omega), Int.emod_eq_of_lt (a := 128 + r % 64) (by omega) (by omega), Int.emod_eq_of_lt (a := 128 + r / 64 % 64) (by omega) (by omega), Int.emod_eq_of_lt (a := 128 + r / 4096 % 64) (by omega) (by omega)]
theorem utf8L_mem (r : Int) (h0 : 0 ≤ r) (h1 : r ≤ 1114111) : ∀ x ∈ utf8L r, 0 ≤ x ∧ x < 256 := by
 intro x hx
 unfold utf8L at hx
 split at hx
 ·simp at hx; omega
 split at hx
 ·simp at hx; omega
 split at hx
 ·simp at hx; omega
 ·simp at hx; omega
theorem bytesOf_utf8L (r : Int) (h0 : 0 ≤ r) (h1 : r ≤ 1114111) : bytesOf (strOfNums (utf8L r)) = utf8L r := bytesOf_strOfNums _ (utf8L_mem r h0 h1)

end Go.Proofs.YtliafedmhgkciaaDoor.Pure
