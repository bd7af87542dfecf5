import Derived.Test.YtliafedmhgkciaaDoorCP0
import Derived.Test.YtliafedmhgkciaaDoorC0
import Derived.Test.YtliafedmhgkciaaDoorC1
import Derived.Test.YtliafedmhgkciaaDoorC3
import Derived.Test.YtliafedmhgkciaaDoorC4
import Derived.Test.YtliafedmhgkciaaDoorC5
namespace Go.Proofs.YtliafedmhgkciaaDoor.P
open Go.RowKit Go.Proofs.YtliafedmhgkciaaDoorW.PrintWords Go.Proofs.YtliafedmhgkciaaDoorW.PrintLast Go.Proofs.YtliafedmhgkciaaDoorW.PrintMore
attribute [local go_sem] max2_int min2_int max_two min_two max_three min_three max_four min_four   -- for this text's walks alone
set_option linter.unusedVariables false
set_option linter.unusedSimpArgs false

set_option maxHeartbeats 16000000
set_option maxRecDepth 1000000
attribute [local go_sem high] eqA25
theorem Zb3_0 {p : Prop} (h : p := by (try simp only [List.map_toArray, List.map_cons, List.map_nil]); first | done | rfl | (simp only [List.length_drop, List.length_take]; rfl)) : p := h
theorem Zb3_1 {p : Prop} (h : p := by (try simp only [List.map_toArray, List.map_cons, List.map_nil]); first | done | (simp only [hji43]; rfl) | rfl | (simp only [List.length_drop, List.length_take]; rfl)) : p := h
theorem Zb3_2 {p : Prop} (h : p := by repeat (first | (with_reducible first | exact HB.out | apply below_alloc | apply pw_below_drewN | apply below_drew1 | refine below_set ?_ GE525.out | refine below_set ?_ GE537.out | refine below_set ?_ GE549.out | refine below_set ?_ GE593.out | refine below_set ?_ GE605.out | refine below_set ?_ GE617.out) | exact HB.out)) : p := h
theorem Zb3_3 {p : Prop} (h : p := by simp only [putAll, Act.put, List.setIfInBounds_toArray, List.set_cons_zero, List.set_cons_succ]) : p := h
theorem Zb3_4 {p : Prop} (h : p := by rw [← hq_]; exact Sw.rt (Kd.R_mono (Sw.f0_1_2_3 HO600.out BK617.out) (fun _ hk => ⟨hk.1.1.1, ⟨hk.1.1.2, hk.1.2⟩⟩))) : p := h
theorem Zb3_5 {p : Prop} (h : p := by rw [← hq_]; exact Sw.rt (Kd.R_mono (Sw.f0_1_2_3 HO603.out BK617.out) (fun _ hk => ⟨hk.1.1.1, ⟨hk.1.1.2, hk.1.2⟩⟩))) : p := h
theorem Zb3_6 {p : Prop} (h : p := by rw [← hq_]; exact Sw.rt (Kd.R_mono (Sw.f0_1_2_3 HO612.out BK617.out) (fun _ hk => ⟨hk.1.1.2, ⟨hk.1.2, hk.1.1.1⟩⟩))) : p := h
theorem Zb3_7 {p : Prop} (h : p := by rw [← hq_]; exact Sw.rt (Kd.R_mono (Sw.f0_1_2_3 HO615.out BK617.out) (fun _ hk => ⟨hk.1.1.2, ⟨hk.1.2, hk.1.1.1⟩⟩))) : p := h
theorem Zb3_8 {p : Prop} (h : p := by have := HJ7.out; first | omega | exact Nat.le_refl _) : p := h
mutual
def laws_FnChunks.j0 : Nat → List Int → ByteArray → List Int → List Int → Bool → Bool → Int → Int → Int → ByteArray → Int → Int → Int → ByteArray → Option (Bool)
 | 0, _, _, _, _, _, _, _, _, _, _, _, _, _, _ => none
 | k + 1, x1, x6, x8, x9, x10, x83, x526000, x526001, x526002, x526003, x538000, x538001, x538002, x538003 => if x83 = true then (none) else (if x10 = true then ((laws_numberOf.f k x1).bind fun t554 => (if (wrap64 ((x6.size : Int) + 1)) = 0 then (none) else (if 0 ≤ (Int.tmod t554 (wrap64 ((x6.size : Int) + 1))) then (if (Int.tmod t554 (wrap64 ((x6.size : Int) + 1))) ≤ (x6.size : Int) then ((impl_FeedDecoder.f k x526000 x526001 x526002 x526003 (x6.extract 0 ((Int.tmod t554 (wrap64 ((x6.size : Int) + 1))) : Int).toNat)).bind fun bt555 => ((impl_FeedDecoder.f k bt555.1 bt555.2.1 bt555.2.2.1 bt555.2.2.2.1 (x6.extract ((Int.tmod t554 (wrap64 ((x6.size : Int) + 1))) : Int).toNat x6.size)).bind fun bt567 => (if bt555.2.2.2.2.2.2 = true then (if bt567.2.2.2.2.2.2 = true then (if (!(bt567.1 == x538000) || (!(bt567.2.1 == x538001) || (!(bt567.2.2.1 == x538002) || (!(bt567.2.2.2.1.toList == x538003.toList))))) = true then (none) else (if bt555.2.2.2.2.1.length + bt567.2.2.2.2.1.length < 17592186044416 then ((laws_sameInts.f k (bt555.2.2.2.2.1 ++ bt567.2.2.2.2.1) x8).bind fun t582 => (if t582 = true then (if bt555.2.2.2.2.2.1.length + bt567.2.2.2.2.2.1.length < 17592186044416 then ((laws_sameInts.f k (bt555.2.2.2.2.2.1 ++ bt567.2.2.2.2.2.1) x9).bind fun t586 => (laws_FnChunks.j1 k x1 x6 x9 (Int.tmod t554 (wrap64 ((x6.size : Int) + 1))) bt555.2.2.2.2.2.2 (!t586) x526000 x526001 x526002 x526003 x538000 x538001 x538002 x538003)) else (none)) else (none))) else (none))) else (laws_FnChunks.j1 k x1 x6 x9 (Int.tmod t554 (wrap64 ((x6.size : Int) + 1))) bt555.2.2.2.2.2.2 false x526000 x526001 x526002 x526003 x538000 x538001 x538002 x538003)) else (laws_FnChunks.j1 k x1 x6 x9 (Int.tmod t554 (wrap64 ((x6.size : Int) + 1))) bt555.2.2.2.2.2.2 false x526000 x526001 x526002 x526003 x538000 x538001 x538002 x538003)))) else (none)) else (none)))) else (laws_FnChunks.j2 k x1))
def laws_FnChunks.j2 : Nat → List Int → Option (Bool)
 | 0, _ => none
 | k + 1, x1 => (spec_DrawFlushDecoder.f k x1).bind fun bt589 => ((impl_FlushDecoder.f k bt589.1 bt589.2.1 bt589.2.2.1 bt589.2.2.2).bind fun bt594 => ((spec_FlushDecoder.f k bt589.1 bt589.2.1 bt589.2.2.1 bt589.2.2.2).bind fun bt606 => (if (bt594.2.2.2.2.2.2 != bt606.2.2.2.2.2.2) = true then (none) else (if (!(bt594.1 == bt606.1) || (!(bt594.2.1 == bt606.2.1) || (!(bt594.2.2.1 == bt606.2.2.1) || (!(bt594.2.2.2.1.toList == bt606.2.2.2.1.toList))))) = true then (none) else ((laws_sameInts.f k bt594.2.2.2.2.1 bt606.2.2.2.2.1).bind fun t618 => (if t618 = true then ((laws_sameInts.f k bt594.2.2.2.2.2.1 bt606.2.2.2.2.2.1).bind fun t619 => (if t619 = true then (if bt594.2.2.2.2.2.2 = true then ((laws_sum.f k bt594.2.2.2.2.2.1).bind fun t620 => (if t620 = (bt589.2.2.2.size : Int) then (some (bt594.2.2.2.1.toList == ([] : List UInt8))) else (none))) else (some true)) else (none))) else (none)))))))
def laws_FnChunks.j1 : Nat → List Int → ByteArray → List Int → Int → Bool → Bool → Int → Int → Int → ByteArray → Int → Int → Int → ByteArray → Option (Bool)
 | 0, _, _, _, _, _, _, _, _, _, _, _, _, _, _ => none
 | k + 1, x1, x6, x9, x15, x19, x135, x526000, x526001, x526002, x526003, x538000, x538001, x538002, x538003 => if x135 = true then (none) else (if x19 = true then ((laws_sum.f k x9).bind fun t587 => (if (wrap64 ((wrap64 (t587 + (x538003.size : Int))) + x538002)) = (wrap64 ((wrap64 ((x6.size : Int) + (x526003.size : Int))) + x526002)) then (laws_FnChunks.j2 k x1) else (none))) else (if (wrap64 (x526002 + x15)) ≤ 1000 then (none) else ((laws_sum.f k x9).bind fun t588 => (if (wrap64 ((wrap64 (t588 + (x538003.size : Int))) + x538002)) = (wrap64 ((wrap64 ((x6.size : Int) + (x526003.size : Int))) + x526002)) then (laws_FnChunks.j2 k x1) else (none)))))
end
def laws_FnChunks.f (k : Nat) (l0 : List Int) (l1 : List Int) : Option (Bool) := (laws_big.f l0 l1).bind fun t519 => (if t519 = true then (some true) else ((spec_DrawFeedDecoder.f k l0).bind fun bt520 => ((impl_FeedDecoder.f k bt520.1 bt520.2.1 bt520.2.2.1 bt520.2.2.2.1 bt520.2.2.2.2).bind fun bt526 => ((spec_FeedDecoder.f k bt520.1 bt520.2.1 bt520.2.2.1 bt520.2.2.2.1 bt520.2.2.2.2).bind fun bt538 => (if (bt526.2.2.2.2.2.2 != bt538.2.2.2.2.2.2) = true then (none) else (if (!(bt526.1 == bt538.1) || (!(bt526.2.1 == bt538.2.1) || (!(bt526.2.2.1 == bt538.2.2.1) || (!(bt526.2.2.2.1.toList == bt538.2.2.2.1.toList))))) = true then (none) else ((laws_sameInts.f k bt526.2.2.2.2.1 bt538.2.2.2.2.1).bind fun t550 => (if t550 = true then ((laws_sameInts.f k bt526.2.2.2.2.2.1 bt538.2.2.2.2.2.1).bind fun t551 => (if t551 = true then ((impl_GoodDecoder.f k bt520.1 bt520.2.1 bt520.2.2.1 bt520.2.2.2.1).bind fun t552 => ((spec_GoodDecoder.f k bt520.1 bt520.2.1 bt520.2.2.1 bt520.2.2.2.1).bind fun t553 => (laws_FnChunks.j0 k l1 bt520.2.2.2.2 bt526.2.2.2.2.1 bt526.2.2.2.2.2.1 bt526.2.2.2.2.2.2 (t552 != t553) bt520.1 bt520.2.1 bt520.2.2.1 bt520.2.2.2.1 bt526.1 bt526.2.1 bt526.2.2.1 bt526.2.2.2.1))) else (none))) else (none)))))))))
theorem laws_FnChunks.mono_l : ∀ k, (∀ y0 y1 y2 y3 y4 y5 y6 y7 y8 y9 y10 y11 y12 y13, LeO (laws_FnChunks.j0 k y0 y1 y2 y3 y4 y5 y6 y7 y8 y9 y10 y11 y12 y13) (laws_FnChunks.j0 (k + 1) y0 y1 y2 y3 y4 y5 y6 y7 y8 y9 y10 y11 y12 y13)) ∧ (∀ y0, LeO (laws_FnChunks.j2 k y0) (laws_FnChunks.j2 (k + 1) y0)) ∧ (∀ y0 y1 y2 y3 y4 y5 y6 y7 y8 y9 y10 y11 y12 y13, LeO (laws_FnChunks.j1 k y0 y1 y2 y3 y4 y5 y6 y7 y8 y9 y10 y11 y12 y13) (laws_FnChunks.j1 (k + 1) y0 y1 y2 y3 y4 y5 y6 y7 y8 y9 y10 y11 y12 y13))
 | 0 => ⟨fun _ _ _ _ _ _ _ _ _ _ _ _ _ _ r h => by simp [laws_FnChunks.j0] at h, fun _ r h => by simp [laws_FnChunks.j2] at h, fun _ _ _ _ _ _ _ _ _ _ _ _ _ _ r h => by simp [laws_FnChunks.j1] at h⟩
 | k + 1 => by
  obtain ⟨ih0, ih1, ih2⟩ := laws_FnChunks.mono_l k
  refine ⟨?_, ?_, ?_⟩
  ·intro y0 y1 y2 y3 y4 y5 y6 y7 y8 y9 y10 y11 y12 y13
   unfold laws_FnChunks.j0
   with_reducible repeat' first | exact ih0 _ _ _ _ _ _ _ _ _ _ _ _ _ _ | exact ih1 _ | exact ih2 _ _ _ _ _ _ _ _ _ _ _ _ _ _ | exact impl_FeedDecoder.mono _ _ _ _ _ _ | exact impl_FlushDecoder.mono _ _ _ _ _ | exact impl_GoodDecoder.mono _ _ _ _ _ | exact laws_numberOf.mono _ _ | exact laws_sameInts.mono _ _ _ | exact laws_sum.mono _ _ | exact spec_DrawFeedDecoder.mono _ _ | exact spec_DrawFlushDecoder.mono _ _ | exact spec_FeedDecoder.mono _ _ _ _ _ _ | exact spec_FlushDecoder.mono _ _ _ _ _ | exact spec_GoodDecoder.mono _ _ _ _ _ | exact LeO.refl _ | exact LeO.none _ | refine LeO.ite ?_ ?_ | refine LeO.bind ?_ (fun _ => ?_)
  ·intro y0
   unfold laws_FnChunks.j2
   with_reducible repeat' first | exact ih0 _ _ _ _ _ _ _ _ _ _ _ _ _ _ | exact ih1 _ | exact ih2 _ _ _ _ _ _ _ _ _ _ _ _ _ _ | exact impl_FeedDecoder.mono _ _ _ _ _ _ | exact impl_FlushDecoder.mono _ _ _ _ _ | exact impl_GoodDecoder.mono _ _ _ _ _ | exact laws_numberOf.mono _ _ | exact laws_sameInts.mono _ _ _ | exact laws_sum.mono _ _ | exact spec_DrawFeedDecoder.mono _ _ | exact spec_DrawFlushDecoder.mono _ _ | exact spec_FeedDecoder.mono _ _ _ _ _ _ | exact spec_FlushDecoder.mono _ _ _ _ _ | exact spec_GoodDecoder.mono _ _ _ _ _ | exact LeO.refl _ | exact LeO.none _ | refine LeO.ite ?_ ?_ | refine LeO.bind ?_ (fun _ => ?_)
  ·intro y0 y1 y2 y3 y4 y5 y6 y7 y8 y9 y10 y11 y12 y13
   unfold laws_FnChunks.j1
   with_reducible repeat' first | exact ih0 _ _ _ _ _ _ _ _ _ _ _ _ _ _ | exact ih1 _ | exact ih2 _ _ _ _ _ _ _ _ _ _ _ _ _ _ | exact impl_FeedDecoder.mono _ _ _ _ _ _ | exact impl_FlushDecoder.mono _ _ _ _ _ | exact impl_GoodDecoder.mono _ _ _ _ _ | exact laws_numberOf.mono _ _ | exact laws_sameInts.mono _ _ _ | exact laws_sum.mono _ _ | exact spec_DrawFeedDecoder.mono _ _ | exact spec_DrawFlushDecoder.mono _ _ | exact spec_FeedDecoder.mono _ _ _ _ _ _ | exact spec_FlushDecoder.mono _ _ _ _ _ | exact spec_GoodDecoder.mono _ _ _ _ _ | exact LeO.refl _ | exact LeO.none _ | refine LeO.ite ?_ ?_ | refine LeO.bind ?_ (fun _ => ?_)
theorem laws_FnChunks.mono : ∀ a0 a1 k, LeO (laws_FnChunks.f k a0 a1) (laws_FnChunks.f (k + 1) a0 a1) := by
 intro a0 a1 k
 obtain ⟨ih0, ih1, ih2⟩ := laws_FnChunks.mono_l k
 unfold laws_FnChunks.f
 with_reducible repeat' first | exact ih0 _ _ _ _ _ _ _ _ _ _ _ _ _ _ | exact ih1 _ | exact ih2 _ _ _ _ _ _ _ _ _ _ _ _ _ _ | exact impl_FeedDecoder.mono _ _ _ _ _ _ | exact impl_FlushDecoder.mono _ _ _ _ _ | exact impl_GoodDecoder.mono _ _ _ _ _ | exact laws_numberOf.mono _ _ | exact laws_sameInts.mono _ _ _ | exact laws_sum.mono _ _ | exact spec_DrawFeedDecoder.mono _ _ | exact spec_DrawFlushDecoder.mono _ _ | exact spec_FeedDecoder.mono _ _ _ _ _ _ | exact spec_FlushDecoder.mono _ _ _ _ _ | exact spec_GoodDecoder.mono _ _ _ _ _ | exact LeO.refl _ | exact LeO.none _ | refine LeO.ite ?_ ?_ | refine LeO.bind ?_ (fun _ => ?_)
def laws_FnChunks.T6 : Bool × List (List Nat × List Nat) := (true, [([], []), ([], []), ([0, 1], [0, 1]), ([2], [2]), ([3], [3]), ([3], [3]), ([4, 5, 3], [3, 4, 5]), ([3, 6], [3, 6]), ([7, 3], [7]), ([8], [8]), ([8], [8]), ([9, 10, 8, 8], [8, 9, 10]), ([11, 8], [8, 11]), ([8, 12], [8, 12]), ([13, 11], [13]), ([14], [14]), ([14], [14]), ([15, 16, 14, 14], [14, 15, 16]), ([17, 14], [14, 17]), ([14, 18], [14, 18]), ([19, 17], [19]), ([20], [20]), ([21, 20, 20], [20, 21]), ([20], [20]), ([23, 22, 20], [20, 23]), ([22, 24, 20], [20, 22, 24]), ([20, 25], [20, 25])])
def laws_FnChunks.B6 : List Nat := [0, 0, 3, 7, 15, 15, 63, 127, 255, 511, 511, 2047, 4095, 8191, 16383, 32767, 32767, 131071, 262143, 524287, 1048575, 2097151, 4194303, 2097151, 16777215, 33554431, 67108863]
theorem laws_FnChunks.tab6 : rtab .any (opsOf Tryd.f3 6) = laws_FnChunks.T6 := by kernel_rfl
theorem laws_FnChunks.bits6 : waitsOk laws_FnChunks.T6.2 laws_FnChunks.B6 = true := by kernel_rfl
def laws_FnChunks.T10 : Bool × List (List Nat × List Nat) := (true, [([], []), ([], []), ([], []), ([1, 2], [1, 2]), ([0, 3], [0, 3]), ([4], [4]), ([5], [5]), ([5], [5]), ([5], [5]), ([5], [5]), ([], []), ([10, 6, 4, 0, 1, 2, 3, 4, 5, 6, 10], [6, 10]), ([7, 11, 0, 1, 2, 3, 4, 5, 6, 7, 10, 11], [7]), ([8, 12, 0, 1, 2, 3, 4, 5, 6, 7, 8, 10, 11, 12], [8]), ([9, 13, 0, 1, 2, 3, 4, 5, 6, 7, 8, 9, 10, 11, 12, 13], [9])])
def laws_FnChunks.B10 : List Nat := [0, 0, 0, 6, 15, 31, 63, 63, 63, 63, 0, 1151, 3327, 7679, 16383]
theorem laws_FnChunks.tab10 : rtab .any (opsOf Tryd.f3 10) = laws_FnChunks.T10 := by kernel_rfl
theorem laws_FnChunks.bits10 : waitsOk laws_FnChunks.T10.2 laws_FnChunks.B10 = true := by kernel_rfl
def laws_FnChunks.T11 : Bool × List (List Nat × List Nat) := (true, [([], []), ([], []), ([], []), ([1, 2], [1, 2]), ([0, 3], [0, 3]), ([4], [4]), ([5], [5]), ([5], [5]), ([5], [5]), ([5], [5]), ([], []), ([10, 6, 4, 0, 1, 2, 3, 4, 5, 6, 10], [6, 10]), ([7, 11, 0, 1, 2, 3, 4, 5, 6, 7, 10, 11], [7]), ([8, 12, 0, 1, 2, 3, 4, 5, 6, 7, 8, 10, 11, 12], [8]), ([9, 13, 0, 1, 2, 3, 4, 5, 6, 7, 8, 9, 10, 11, 12, 13], [9])])
def laws_FnChunks.B11 : List Nat := [0, 0, 0, 6, 15, 31, 63, 63, 63, 63, 0, 1151, 3327, 7679, 16383]
theorem laws_FnChunks.tab11 : rtab .any (opsOf Tryd.f3 11) = laws_FnChunks.T11 := by kernel_rfl
theorem laws_FnChunks.bits11 : waitsOk laws_FnChunks.T11.2 laws_FnChunks.B11 = true := by kernel_rfl
def laws_FnChunks.T14 : Bool × List (List Nat × List Nat) := (true, [([], []), ([0], [0]), ([1], [1]), ([2], [2]), ([3, 2], [2, 3]), ([2], [2]), ([4, 5, 2], [2, 4, 5]), ([6, 2], [2, 6]), ([2, 7], [2, 7]), ([8, 2], [8]), ([9], [9]), ([10, 9, 9], [9, 10]), ([9], [9]), ([12, 9], [9, 12]), ([13, 9], [9, 13]), ([11, 14, 9], [9, 11, 14]), ([9], [9]), ([16, 9], [9, 16]), ([15, 17, 9], [9, 15, 17]), ([9], [9]), ([19, 9], [9, 19]), ([9], [9]), ([21, 9], [9, 21]), ([22, 9], [9, 22]), ([20, 23, 9], [9, 20, 23]), ([9], [9]), ([25, 9], [9, 25]), ([24, 26, 9], [9, 24, 26]), ([18, 27, 9], [9, 18, 27]), ([9, 28], [9, 28])])
def laws_FnChunks.B14 : List Nat := [0, 1, 3, 7, 15, 7, 63, 127, 255, 511, 1023, 2047, 1023, 5119, 13311, 32767, 1023, 66559, 262143, 1023, 525311, 1023, 2098175, 6292479, 16253951, 1023, 33555455, 133694463, 268435455, 536870911]
theorem laws_FnChunks.tab14 : rtab .any (opsOf Tryd.f3 14) = laws_FnChunks.T14 := by kernel_rfl
theorem laws_FnChunks.bits14 : waitsOk laws_FnChunks.T14.2 laws_FnChunks.B14 = true := by kernel_rfl
def laws_FnChunks.T21 : Bool × List (List Nat × List Nat) := (true, [([], []), ([0], [0]), ([1], [1]), ([2], [2]), ([3, 2, 2], [2, 3]), ([2], [2]), ([5, 2], [2, 5]), ([6, 2], [2, 6]), ([4, 7, 2], [2, 4, 7]), ([8, 4, 2], [2, 8]), ([9], [9]), ([10, 9], [9, 10]), ([11, 9], [9, 11]), ([9, 12, 2], [2, 9, 12]), ([2, 13], [2, 13]), ([14, 9, 0, 1, 2, 3, 4, 5, 6, 7, 8, 9, 10, 11, 12, 13, 14], [14])])
def laws_FnChunks.B21 : List Nat := [0, 1, 3, 7, 15, 7, 39, 103, 255, 511, 1023, 2047, 4095, 8191, 16383, 32767]
theorem laws_FnChunks.tab21 : rtab .any (opsOf Tryd.f3 21) = laws_FnChunks.T21 := by kernel_rfl
theorem laws_FnChunks.bits21 : waitsOk laws_FnChunks.T21.2 laws_FnChunks.B21 = true := by kernel_rfl
theorem laws_FnChunks.calls (k : Nat) (A0 : Option Addr) (c0 : Nat) (l0 : List Int) (A1 : Option Addr) (c1 : Nat) (l1 : List Int) (r : Bool) (w : World) (hr0 : Kd.C (Kd.int .u8) w A0 l0.length l0) (hc0 : l0.length ≤ c0) (hr1 : Kd.C (Kd.int .u8) w A1 l1.length l1) (hc1 : l1.length ≤ c1) (hT : Lib.Utf8Tabs 0 1 w) (h : laws_FnChunks.f k l0 l1 = some r) :
  Calls Tryd.prog 3 #[.slice A0 l0.length c0, .slice A1 l1.length c1] w fun e w' => e = .returned (.bool r) ∧ Below w.heap.size w w' := by
 have HT := Aside0.mk hT
 clear hT
 have hu25 := Tryd.underlying25
 have HR0 := Aside0.mk hr0
 have HC0 := Aside0.mk hc0
 clear hr0 hc0
 have HR1 := Aside0.mk hr1
 have HC1 := Aside0.mk hc1
 clear hr1 hc1
 have HB := Aside0.mk (Below.refl w.heap.size w)
 have H : ((laws_big.f l0 l1).bind fun t519 => (if t519 = true then (some true) else ((spec_DrawFeedDecoder.f k l0).bind fun bt520 => ((impl_FeedDecoder.f k bt520.1 bt520.2.1 bt520.2.2.1 bt520.2.2.2.1 bt520.2.2.2.2).bind fun bt526 => ((spec_FeedDecoder.f k bt520.1 bt520.2.1 bt520.2.2.1 bt520.2.2.2.1 bt520.2.2.2.2).bind fun bt538 => (if (bt526.2.2.2.2.2.2 != bt538.2.2.2.2.2.2) = true then (none) else (if (!(bt526.1 == bt538.1) || (!(bt526.2.1 == bt538.2.1) || (!(bt526.2.2.1 == bt538.2.2.1) || (!(bt526.2.2.2.1.toList == bt538.2.2.2.1.toList))))) = true then (none) else ((laws_sameInts.f k bt526.2.2.2.2.1 bt538.2.2.2.2.1).bind fun t550 => (if t550 = true then ((laws_sameInts.f k bt526.2.2.2.2.2.1 bt538.2.2.2.2.2.1).bind fun t551 => (if t551 = true then ((impl_GoodDecoder.f k bt520.1 bt520.2.1 bt520.2.2.1 bt520.2.2.2.1).bind fun t552 => ((spec_GoodDecoder.f k bt520.1 bt520.2.1 bt520.2.2.1 bt520.2.2.2.1).bind fun t553 => (laws_FnChunks.j0 k l1 bt520.2.2.2.2 bt526.2.2.2.2.1 bt526.2.2.2.2.2.1 bt526.2.2.2.2.2.2 (t552 != t553) bt520.1 bt520.2.1 bt520.2.2.1 bt520.2.2.2.1 bt526.1 bt526.2.1 bt526.2.2.1 bt526.2.2.2.1))) else (none))) else (none)))))))))) = some r := h
 clear h
 replace H := Option.bind_eq_some_iff.mp H
 obtain ⟨t519, A30, H⟩ := H
 replace H : (if t519 = true then (some true) else ((spec_DrawFeedDecoder.f k l0).bind fun bt520 => ((impl_FeedDecoder.f k bt520.1 bt520.2.1 bt520.2.2.1 bt520.2.2.2.1 bt520.2.2.2.2).bind fun bt526 => ((spec_FeedDecoder.f k bt520.1 bt520.2.1 bt520.2.2.1 bt520.2.2.2.1 bt520.2.2.2.2).bind fun bt538 => (if (bt526.2.2.2.2.2.2 != bt538.2.2.2.2.2.2) = true then (none) else (if (!(bt526.1 == bt538.1) || (!(bt526.2.1 == bt538.2.1) || (!(bt526.2.2.1 == bt538.2.2.1) || (!(bt526.2.2.2.1.toList == bt538.2.2.2.1.toList))))) = true then (none) else ((laws_sameInts.f k bt526.2.2.2.2.1 bt538.2.2.2.2.1).bind fun t550 => (if t550 = true then ((laws_sameInts.f k bt526.2.2.2.2.2.1 bt538.2.2.2.2.2.1).bind fun t551 => (if t551 = true then ((impl_GoodDecoder.f k bt520.1 bt520.2.1 bt520.2.2.1 bt520.2.2.2.1).bind fun t552 => ((spec_GoodDecoder.f k bt520.1 bt520.2.1 bt520.2.2.1 bt520.2.2.2.1).bind fun t553 => (laws_FnChunks.j0 k l1 bt520.2.2.2.2 bt526.2.2.2.2.1 bt526.2.2.2.2.2.1 bt526.2.2.2.2.2.2 (t552 != t553) bt520.1 bt520.2.1 bt520.2.2.1 bt520.2.2.2.1 bt526.1 bt526.2.1 bt526.2.2.1 bt526.2.2.2.1))) else (none))) else (none))))))))) = some r := H
 have A3 := Aside0.mk A30
 clear A30
 by_cases c4 : t519 = true
 ·subst c4
  have H1 : (some true) = some r := by rw [if_pos rfl] at H; exact H
  clear H
  have H := H1
  clear H1
  obtain rfl := Option.some.inj H
  go_enter Tryd.func3, Tryd.ntmps3
  go_wp2_with (first | ((with_reducible refine gate_callee (f := 6) rfl ?_); refine goesL_ (some 35) rfl rfl Tryd.func6 (by kernel_rfl) rfl #[.slice A0 l0.length c0, .slice A1 l1.length c1] rfl Zb3_0 ?_; (with_reducible refine (laws_big.calls _ _ l0 _ _ l1 true _ ?side1 ?side2 ?side3 ?side4 A3.out).mono ?_); (case side1 => repeat (first | exact HR0.out | (with_reducible refine Kd.C_alloc ?_ _) | (with_reducible refine Kd.C_drewN ?_ _) | (with_reducible refine Kd.C_drew ?_))); (case side2 => exact HC0.out); (case side3 => repeat (first | exact HR1.out | (with_reducible refine Kd.C_alloc ?_ _) | (with_reducible refine Kd.C_drewN ?_ _) | (with_reducible refine Kd.C_drew ?_))); (case side4 => exact HC1.out); rintro e w' ⟨rfl, ⟨nd, rfl⟩⟩; refine ⟨_, rfl, ?_⟩))
  go_ret
  exact ⟨Sw.e, by repeat (first | (with_reducible first | exact HB.out | apply below_alloc | apply pw_below_drewN | apply below_drew1) | exact HB.out)⟩
 ·replace c4 := Bool.eq_false_iff.mpr c4
  subst c4
  have H1 : ((spec_DrawFeedDecoder.f k l0).bind fun bt520 => ((impl_FeedDecoder.f k bt520.1 bt520.2.1 bt520.2.2.1 bt520.2.2.2.1 bt520.2.2.2.2).bind fun bt526 => ((spec_FeedDecoder.f k bt520.1 bt520.2.1 bt520.2.2.1 bt520.2.2.2.1 bt520.2.2.2.2).bind fun bt538 => (if (bt526.2.2.2.2.2.2 != bt538.2.2.2.2.2.2) = true then (none) else (if (!(bt526.1 == bt538.1) || (!(bt526.2.1 == bt538.2.1) || (!(bt526.2.2.1 == bt538.2.2.1) || (!(bt526.2.2.2.1.toList == bt538.2.2.2.1.toList))))) = true then (none) else ((laws_sameInts.f k bt526.2.2.2.2.1 bt538.2.2.2.2.1).bind fun t550 => (if t550 = true then ((laws_sameInts.f k bt526.2.2.2.2.2.1 bt538.2.2.2.2.2.1).bind fun t551 => (if t551 = true then ((impl_GoodDecoder.f k bt520.1 bt520.2.1 bt520.2.2.1 bt520.2.2.2.1).bind fun t552 => ((spec_GoodDecoder.f k bt520.1 bt520.2.1 bt520.2.2.1 bt520.2.2.2.1).bind fun t553 => (laws_FnChunks.j0 k l1 bt520.2.2.2.2 bt526.2.2.2.2.1 bt526.2.2.2.2.2.1 bt526.2.2.2.2.2.2 (t552 != t553) bt520.1 bt520.2.1 bt520.2.2.1 bt520.2.2.2.1 bt526.1 bt526.2.1 bt526.2.2.1 bt526.2.2.2.1))) else (none))) else (none)))))))) = some r := by rw [if_neg (show ¬ (false = true) by decide)] at H; exact H
  clear H
  have H := H1
  clear H1
  replace H := Option.bind_eq_some_iff.mp H
  obtain ⟨⟨t520, t521, t522, t523, t524⟩, A50, H⟩ := H
  replace H : ((impl_FeedDecoder.f k t520 t521 t522 t523 t524).bind fun bt526 => ((spec_FeedDecoder.f k t520 t521 t522 t523 t524).bind fun bt538 => (if (bt526.2.2.2.2.2.2 != bt538.2.2.2.2.2.2) = true then (none) else (if (!(bt526.1 == bt538.1) || (!(bt526.2.1 == bt538.2.1) || (!(bt526.2.2.1 == bt538.2.2.1) || (!(bt526.2.2.2.1.toList == bt538.2.2.2.1.toList))))) = true then (none) else ((laws_sameInts.f k bt526.2.2.2.2.1 bt538.2.2.2.2.1).bind fun t550 => (if t550 = true then ((laws_sameInts.f k bt526.2.2.2.2.2.1 bt538.2.2.2.2.2.1).bind fun t551 => (if t551 = true then ((impl_GoodDecoder.f k t520 t521 t522 t523).bind fun t552 => ((spec_GoodDecoder.f k t520 t521 t522 t523).bind fun t553 => (laws_FnChunks.j0 k l1 t524 bt526.2.2.2.2.1 bt526.2.2.2.2.2.1 bt526.2.2.2.2.2.2 (t552 != t553) t520 t521 t522 t523 bt526.1 bt526.2.1 bt526.2.2.1 bt526.2.2.2.1))) else (none))) else (none))))))) = some r := H
  have A5 := Aside0.mk A50
  clear A50
  replace H := Option.bind_eq_some_iff.mp H
  obtain ⟨⟨t526, t527, t528, t529, t530, t533, t536⟩, A60, H⟩ := H
  replace H : ((spec_FeedDecoder.f k t520 t521 t522 t523 t524).bind fun bt538 => (if (t536 != bt538.2.2.2.2.2.2) = true then (none) else (if (!(t526 == bt538.1) || (!(t527 == bt538.2.1) || (!(t528 == bt538.2.2.1) || (!(t529.toList == bt538.2.2.2.1.toList))))) = true then (none) else ((laws_sameInts.f k t530 bt538.2.2.2.2.1).bind fun t550 => (if t550 = true then ((laws_sameInts.f k t533 bt538.2.2.2.2.2.1).bind fun t551 => (if t551 = true then ((impl_GoodDecoder.f k t520 t521 t522 t523).bind fun t552 => ((spec_GoodDecoder.f k t520 t521 t522 t523).bind fun t553 => (laws_FnChunks.j0 k l1 t524 t530 t533 t536 (t552 != t553) t520 t521 t522 t523 t526 t527 t528 t529))) else (none))) else (none)))))) = some r := H
  have A6 := Aside0.mk A60
  clear A60
  replace H := Option.bind_eq_some_iff.mp H
  obtain ⟨⟨t538, t539, t540, t541, t542, t545, t548⟩, A70, H⟩ := H
  replace H : (if (t536 != t548) = true then (none) else (if (!(t526 == t538) || (!(t527 == t539) || (!(t528 == t540) || (!(t529.toList == t541.toList))))) = true then (none) else ((laws_sameInts.f k t530 t542).bind fun t550 => (if t550 = true then ((laws_sameInts.f k t533 t545).bind fun t551 => (if t551 = true then ((impl_GoodDecoder.f k t520 t521 t522 t523).bind fun t552 => ((spec_GoodDecoder.f k t520 t521 t522 t523).bind fun t553 => (laws_FnChunks.j0 k l1 t524 t530 t533 t536 (t552 != t553) t520 t521 t522 t523 t526 t527 t528 t529))) else (none))) else (none))))) = some r := H
  have A7 := Aside0.mk A70
  clear A70
  have HC8 := Aside0.mk H
  clear H
  go_enter Tryd.func3, Tryd.ntmps3
  go_upto_region 6 with (first | ((with_reducible refine gate_callee (f := 6) rfl ?_); refine goesL_ (some 35) rfl rfl Tryd.func6 (by kernel_rfl) rfl #[.slice A0 l0.length c0, .slice A1 l1.length c1] rfl Zb3_0 ?_; (with_reducible refine (laws_big.calls _ _ l0 _ _ l1 false _ ?side1 ?side2 ?side3 ?side4 A3.out).mono ?_); (case side1 => repeat (first | exact HR0.out | (with_reducible refine Kd.C_alloc ?_ _) | (with_reducible refine Kd.C_drewN ?_ _) | (with_reducible refine Kd.C_drew ?_))); (case side2 => exact HC0.out); (case side3 => repeat (first | exact HR1.out | (with_reducible refine Kd.C_alloc ?_ _) | (with_reducible refine Kd.C_drewN ?_ _) | (with_reducible refine Kd.C_drew ?_))); (case side4 => exact HC1.out); rintro e w' ⟨rfl, ⟨nd, rfl⟩⟩; refine ⟨_, rfl, ?_⟩) | ((with_reducible refine gate_callee (f := 7) rfl ?_); refine goesL_ (some 38) rfl rfl Tryd.func7 (by kernel_rfl) rfl #[.slice A0 l0.length c0] rfl Zb3_0 ?_; (with_reducible refine (spec_DrawFeedDecoder.calls k _ _ l0 t520 t521 t522 t523 t524 _ ?side1 ?side2 A5.out).mono ?_); (case side1 => repeat (first | exact HR0.out | (with_reducible refine Kd.C_alloc ?_ _) | (with_reducible refine Kd.C_drewN ?_ _) | (with_reducible refine Kd.C_drew ?_))); (case side2 => exact HC0.out); rintro e w9 ⟨rfl, hb⟩; refine ⟨_, rfl, ?_⟩; replace HB := Aside0.mk (below_step Sw.hb hb); (try clear hb); (try clear hb2); (try clear hk); (try clear hi)) | ((with_reducible refine gate_dst (N := 5) rfl ?_); (try (refine gate_guard (by rfl) ?_; dsimp only)); refine box_event ?hg (N := 5) ?hd (cs := #[.int .i64 0, .int .i64 0, .int .i64 0, .string (⟨#[]⟩ : ByteArray)]) (t := 25) ?hr ?_; (case hd => rfl); (case hg => rfl); (case hr => first | (go_simp; done) | (go_simp; rfl)); intro gb525 hg w10 hbox hb; have BK525 := Aside0.mk (hbox); have GW525 := Aside0.mk ((Sw.gs hg)); have GE525 := Aside0.mk ((Sw.gs hg)); replace HB := Aside0.mk (below_step Sw.hb hb); clear hb hbox hg; obtain ⟨hcz11_0, hcz11_1, hcz11_2, hcz11_3⟩ := Sw.cz4 BK525.out; obtain ⟨hfz11_0, hfz11_1, hfz11_2, hfz11_3⟩ := Sw.fz4 BK525.out) | ((with_reducible refine gate_callee (f := 8) rfl ?_); refine goesL_ (some 44) rfl rfl Tryd.func8 (by kernel_rfl) rfl #[.agg #[.int .i64 t520, .int .i64 t521, .int .i64 t522, .string t523], .string t524] rfl Zb3_0 ?_; (with_reducible refine (impl_FeedDecoder.calls k t520 t521 t522 t523 t524 t526 t527 t528 t529 t530 t533 t536 _ Sw.ht A6.out).mono ?_); rintro e w12 ⟨v531, v534, rfl, ho0, ho1, hb⟩; refine ⟨_, rfl, ?_⟩; have HO532 := Aside0.mk (Kd.R_lower ho0 (below_size Sw.hb)); have HO535 := Aside0.mk (Kd.R_lower ho1 (below_size Sw.hb)); replace BK525 := Aside0.mk (blk_below (g := gb525) (o := .cells #[.int .i64 t520, .int .i64 t521, .int .i64 t522, .string t523] 25 (0, 0)) (Sw.bp (Sw.p0_1_2_3 BK525.out)) hb); replace HB := Aside0.mk (below_step Sw.hb hb); (try clear hb); (try clear hb2); (try clear hk); (try clear hi); (try clear ho0); (try clear ho1)) | ((with_reducible refine gate_dst (N := 7) rfl ?_); (try (refine gate_guard (by rfl) ?_; dsimp only)); refine box_event ?hg (N := 7) ?hd (cs := #[.int .i64 0, .int .i64 0, .int .i64 0, .string (⟨#[]⟩ : ByteArray)]) (t := 25) ?hr ?_; (case hd => rfl); (case hg => rfl); (case hr => first | (go_simp; done) | (go_simp; rfl)); intro gb537 hg w13 hbox hb; replace HO532 := Aside0.mk (Kd.R_below (Sw.rt HO532.out) hb); replace HO535 := Aside0.mk (Kd.R_below (Sw.rt HO535.out) hb); have BK537 := Aside0.mk (hbox); have GW537 := Aside0.mk ((Sw.gs hg)); have GE537 := Aside0.mk ((Sw.gs hg)); replace HB := Aside0.mk (below_step Sw.hb hb); have NB525_537 := Aside0.mk (Sw.nl hg BK525.out); have NB537_525 := Aside0.mk (Sw.ng hg BK525.out); replace BK525 := Aside0.mk (Sw.bl BK525.out hb); clear hb hbox hg; have hnb14 := NB537_525.out; have hnc14 := NB525_537.out; obtain ⟨hcz15_0, hcz15_1, hcz15_2, hcz15_3⟩ := Sw.cz4 BK537.out; obtain ⟨hfz15_0, hfz15_1, hfz15_2, hfz15_3⟩ := Sw.fz4 BK537.out; obtain ⟨hcz16_0, hcz16_1, hcz16_2, hcz16_3⟩ := Sw.cz4 BK525.out; obtain ⟨hfz16_0, hfz16_1, hfz16_2, hfz16_3⟩ := Sw.fz4 BK525.out) | ((with_reducible refine gate_callee (f := 9) rfl ?_); refine goesL_ (some 52) rfl rfl Tryd.func9 (by kernel_rfl) rfl #[.agg #[.int .i64 t520, .int .i64 t521, .int .i64 t522, .string t523], .string t524] rfl Zb3_0 ?_; (with_reducible refine (spec_FeedDecoder.calls k t520 t521 t522 t523 t524 t538 t539 t540 t541 t542 t545 t548 _ A7.out).mono ?_); rintro e w17 ⟨v543, v546, rfl, ho0, ho1, hb⟩; refine ⟨_, rfl, ?_⟩; have HO544 := Aside0.mk (Kd.R_lower (Kd.R_new' (Kd.R_new' ho0 (Kd.R_lt (Sw.rt (Sw.g0_1_2_3 HO532.out BK537.out)))) (Kd.R_lt (Sw.rt (Sw.g0_1_2_3 HO535.out BK537.out)))) (below_size Sw.hb)); have HO547 := Aside0.mk (Kd.R_lower (Kd.R_new' (Kd.R_new' ho1 (Kd.R_lt (Sw.rt (Sw.g0_1_2_3 HO532.out BK537.out)))) (Kd.R_lt (Sw.rt (Sw.g0_1_2_3 HO535.out BK537.out)))) (below_size Sw.hb)); replace HO532 := Aside0.mk (Kd.R_mono (Kd.R_told (Kd.R_told (Kd.R_old (Sw.rt (Sw.g0_1_2_3 HO532.out BK537.out)) hb) (Kd.R_base ho0)) (Kd.R_base ho1)) (fun _ h_ => h_.1)); replace HO535 := Aside0.mk (Kd.R_mono (Kd.R_told (Kd.R_told (Kd.R_old (Sw.rt (Sw.g0_1_2_3 HO535.out BK537.out)) hb) (Kd.R_base ho0)) (Kd.R_base ho1)) (fun _ h_ => h_.1)); replace BK525 := Aside0.mk (Sw.bg BK525.out NB525_537.out hb); replace BK537 := Aside0.mk (blk_below (g := gb537) (o := .cells #[.int .i64 t526, .int .i64 t527, .int .i64 t528, .string t529] 25 (0, 0)) (Sw.bp (Sw.p0_1_2_3 BK537.out)) hb); replace HB := Aside0.mk (below_step Sw.hb hb); (try clear hb); (try clear hb2); (try clear hk); (try clear hi); (try clear ho0); (try clear ho1)) | ((with_reducible refine gate_dst (N := 11) rfl ?_); (try (refine gate_guard (by rfl) ?_; dsimp only)); refine box_event ?hg (N := 11) ?hd (cs := #[.int .i64 0, .int .i64 0, .int .i64 0, .string (⟨#[]⟩ : ByteArray)]) (t := 25) ?hr ?_; (case hd => rfl); (case hg => rfl); (case hr => first | (go_simp; done) | (go_simp; rfl)); intro gb549 hg w18 hbox hb; replace HO532 := Aside0.mk (Kd.R_below (Sw.rt HO532.out) hb); replace HO535 := Aside0.mk (Kd.R_below (Sw.rt HO535.out) hb); replace HO544 := Aside0.mk (Kd.R_below (Sw.rt HO544.out) hb); replace HO547 := Aside0.mk (Kd.R_below (Sw.rt HO547.out) hb); have BK549 := Aside0.mk (hbox); have GW549 := Aside0.mk ((Sw.gs hg)); have GE549 := Aside0.mk ((Sw.gs hg)); replace HB := Aside0.mk (below_step Sw.hb hb); have NB525_549 := Aside0.mk (Sw.nl hg BK525.out); have NB549_525 := Aside0.mk (Sw.ng hg BK525.out); replace BK525 := Aside0.mk (Sw.bl BK525.out hb); have NB537_549 := Aside0.mk (Sw.nl hg BK537.out); have NB549_537 := Aside0.mk (Sw.ng hg BK537.out); replace BK537 := Aside0.mk (Sw.bl BK537.out hb); clear hb hbox hg; have hnb19 := NB549_525.out; have hnc19 := NB525_549.out; have hnb20 := NB549_537.out; have hnc20 := NB537_549.out; obtain ⟨hcz21_0, hcz21_1, hcz21_2, hcz21_3⟩ := Sw.cz4 BK549.out; obtain ⟨hfz21_0, hfz21_1, hfz21_2, hfz21_3⟩ := Sw.fz4 BK549.out))
  (try simp only [Act.put, List.setIfInBounds_toArray, List.set_cons_zero, List.set_cons_succ])
  go_cut [83] (fun v83 wc => ∃ (kq : Nat) (x83_7 : Bool), v83 = .bool x83_7 ∧ Aside0 (laws_FnChunks.j0 kq l1 t524 t530 t533 t536 x83_7 t520 t521 t522 t523 t526 t527 t528 t529 = some r) ∧ Aside0 (kq ≤ k) ∧ Aside0 (Kd.R (Kd.int .i64) 3 wc w.heap.size (fun k_ => some k_ ≠ (v534 : Value).ownBlock) v531 t530) ∧ Aside0 (Kd.R (Kd.int .i64) 3 wc w.heap.size (fun k_ => some k_ ≠ (v531 : Value).ownBlock) v534 t533) ∧ Aside0 (wc.heap[gb525]? = some (.cells #[.int .i64 t520, .int .i64 t521, .int .i64 t522, .string t523] 25 (0, 0))) ∧ Aside0 (wc.heap[gb537]? = some (.cells #[.int .i64 t526, .int .i64 t527, .int .i64 t528, .string t529] 25 (0, 0))) ∧ Aside0 (wc.heap[gb549]? = some (.cells #[.int .i64 t538, .int .i64 t539, .int .i64 t540, .string t541] 25 (0, 0))) ∧ Aside0 (Below w.heap.size w wc))
  case first => as_aux_lemma =>
   have H := HC8.out
   clear HC8
   by_cases c22 : (t536 != t548) = true
   ·rw [if_pos c22] at H
    have c22b0 : (t536 != t548) = true := c22
    (try (have c22b1 : decide (t536 = t548) = false := by simpa using c22))
    (try (have c22b2 : (t536 == t548) = false := by simpa using c22))
    (try (have c22b3 : ¬ (t536 = t548) := by simpa using c22))
    clear c22
    (first | rw [c22b0] | (simp only [i64_w, i32_w]; rw [c22b0]) | skip)
    exact absurd H (by simp)
   ·rw [if_neg c22] at H
    have c22b0 : (t536 != t548) = false := by simpa using c22
    (try (have c22b1 : decide (t536 = t548) = true := by simpa using c22))
    (try (have c22b2 : (t536 == t548) = true := by simpa using c22))
    clear c22
    (first | rw [c22b0] | (simp only [i64_w, i32_w]; rw [c22b0]) | skip)
    by_cases c23 : (!(t526 == t538) || (!(t527 == t539) || (!(t528 == t540) || (!(t529.toList == t541.toList))))) = true
    ·rw [if_pos c23] at H
     have c23b0 : (!(t526 == t538) || (!(t527 == t539) || (!(t528 == t540) || (!(t529.toList == t541.toList))))) = true := c23
     clear c23
     exact absurd H (by simp)
    ·rw [if_neg c23] at H
     have c23b0 : (!(t526 == t538) || (!(t527 == t539) || (!(t528 == t540) || (!(t529.toList == t541.toList))))) = false := by simpa using c23
     clear c23
     replace H := Option.bind_eq_some_iff.mp H
     obtain ⟨t550, A240, H⟩ := H
     replace H : (if t550 = true then ((laws_sameInts.f k t533 t545).bind fun t551 => (if t551 = true then ((impl_GoodDecoder.f k t520 t521 t522 t523).bind fun t552 => ((spec_GoodDecoder.f k t520 t521 t522 t523).bind fun t553 => (laws_FnChunks.j0 k l1 t524 t530 t533 t536 (t552 != t553) t520 t521 t522 t523 t526 t527 t528 t529))) else (none))) else (none)) = some r := H
     have A24 := Aside0.mk A240
     clear A240
     by_cases c25 : t550 = true
     ·subst c25
      have H1 : ((laws_sameInts.f k t533 t545).bind fun t551 => (if t551 = true then ((impl_GoodDecoder.f k t520 t521 t522 t523).bind fun t552 => ((spec_GoodDecoder.f k t520 t521 t522 t523).bind fun t553 => (laws_FnChunks.j0 k l1 t524 t530 t533 t536 (t552 != t553) t520 t521 t522 t523 t526 t527 t528 t529))) else (none))) = some r := by rw [if_pos rfl] at H; exact H
      clear H
      have H := H1
      clear H1
      replace H := Option.bind_eq_some_iff.mp H
      obtain ⟨t551, A260, H⟩ := H
      replace H : (if t551 = true then ((impl_GoodDecoder.f k t520 t521 t522 t523).bind fun t552 => ((spec_GoodDecoder.f k t520 t521 t522 t523).bind fun t553 => (laws_FnChunks.j0 k l1 t524 t530 t533 t536 (t552 != t553) t520 t521 t522 t523 t526 t527 t528 t529))) else (none)) = some r := H
      have A26 := Aside0.mk A260
      clear A260
      by_cases c27 : t551 = true
      ·subst c27
       have H1 : ((impl_GoodDecoder.f k t520 t521 t522 t523).bind fun t552 => ((spec_GoodDecoder.f k t520 t521 t522 t523).bind fun t553 => (laws_FnChunks.j0 k l1 t524 t530 t533 t536 (t552 != t553) t520 t521 t522 t523 t526 t527 t528 t529))) = some r := by rw [if_pos rfl] at H; exact H
       clear H
       have H := H1
       clear H1
       replace H := Option.bind_eq_some_iff.mp H
       obtain ⟨t552, A280, H⟩ := H
       replace H : ((spec_GoodDecoder.f k t520 t521 t522 t523).bind fun t553 => (laws_FnChunks.j0 k l1 t524 t530 t533 t536 (t552 != t553) t520 t521 t522 t523 t526 t527 t528 t529)) = some r := H
       have A28 := Aside0.mk A280
       clear A280
       replace H := Option.bind_eq_some_iff.mp H
       obtain ⟨t553, A290, H⟩ := H
       replace H : (laws_FnChunks.j0 k l1 t524 t530 t533 t536 (t552 != t553) t520 t521 t522 t523 t526 t527 t528 t529) = some r := H
       have A29 := Aside0.mk A290
       clear A290
       have H' := Aside0.mk H
       clear H
       try go_wp2
       try (any_goals (exfalso; simp only [Bool.or_eq_false_iff, Bool.not_eq_false', beq_iff_eq] at c23b0; obtain ⟨q0_, q1_, q2_, q3_⟩ := c23b0; contradiction))
       generalize hq_ : ((((w18.setCell ⟨gb549, 0, none⟩ (.int .i64 t538)).setCell ⟨gb549, 1, none⟩ (.int .i64 t539)).setCell ⟨gb549, 2, none⟩ (.int .i64 t540)).setCell ⟨gb549, 3, none⟩ (.string t541)) = w30
       replace HO532 : Aside0 (Kd.R (Kd.int .i64) 3 w30 w.heap.size (fun k_ => some k_ ≠ (v534 : Value).ownBlock ∧ some k_ ≠ (v543 : Value).ownBlock ∧ some k_ ≠ (v546 : Value).ownBlock) v531 t530) := ⟨by rw [← hq_]; exact Sw.rt (Kd.R_mono (Sw.f0_1_2_3 HO532.out BK549.out) (fun _ hk => ⟨hk.1.1.1, ⟨hk.1.1.2, hk.1.2⟩⟩))⟩
       replace HO535 : Aside0 (Kd.R (Kd.int .i64) 3 w30 w.heap.size (fun k_ => some k_ ≠ (v531 : Value).ownBlock ∧ some k_ ≠ (v543 : Value).ownBlock ∧ some k_ ≠ (v546 : Value).ownBlock) v534 t533) := ⟨by rw [← hq_]; exact Sw.rt (Kd.R_mono (Sw.f0_1_2_3 HO535.out BK549.out) (fun _ hk => ⟨hk.1.1.1, ⟨hk.1.1.2, hk.1.2⟩⟩))⟩
       replace HO544 : Aside0 (Kd.R (Kd.int .i64) 3 w30 w.heap.size (fun k_ => some k_ ≠ (v531 : Value).ownBlock ∧ some k_ ≠ (v534 : Value).ownBlock ∧ some k_ ≠ (v546 : Value).ownBlock) v543 t542) := ⟨by rw [← hq_]; exact Sw.rt (Kd.R_mono (Sw.f0_1_2_3 HO544.out BK549.out) (fun _ hk => ⟨hk.1.1.2, ⟨hk.1.2, hk.1.1.1⟩⟩))⟩
       replace HO547 : Aside0 (Kd.R (Kd.int .i64) 3 w30 w.heap.size (fun k_ => some k_ ≠ (v531 : Value).ownBlock ∧ some k_ ≠ (v534 : Value).ownBlock ∧ some k_ ≠ (v543 : Value).ownBlock) v546 t545) := ⟨by rw [← hq_]; exact Sw.rt (Kd.R_mono (Sw.f0_1_2_3 HO547.out BK549.out) (fun _ hk => ⟨hk.1.1.2, ⟨hk.1.2, hk.1.1.1⟩⟩))⟩
       replace BK525 : Aside0 (w30.heap[gb525]? = some (.cells #[.int .i64 t520, .int .i64 t521, .int .i64 t522, .string t523] 25 (0, 0))) := ⟨by rw [← hq_]; exact Sw.bf BK525.out NB525_549.out⟩
       replace BK537 : Aside0 (w30.heap[gb537]? = some (.cells #[.int .i64 t526, .int .i64 t527, .int .i64 t528, .string t529] 25 (0, 0))) := ⟨by rw [← hq_]; exact Sw.bf BK537.out NB537_549.out⟩
       replace BK549 : Aside0 (w30.heap[gb549]? = some (.cells #[.int .i64 t538, .int .i64 t539, .int .i64 t540, .string t541] 25 (0, 0))) := ⟨by rw [← hq_]; exact Sw.bp (Sw.p0_1_2_3 BK549.out)⟩
       replace HB : Aside0 (Below w.heap.size w w30) := ⟨by rw [← hq_]; exact Sw.hb⟩
       clear hq_
       replace HO532 := Aside0.mk (Kd.R_drew HO532.out)
       replace HO535 := Aside0.mk (Kd.R_drew HO535.out)
       replace HO544 := Aside0.mk (Kd.R_drew HO544.out)
       replace HO547 := Aside0.mk (Kd.R_drew HO547.out)
       replace BK525 := Aside0.mk (blk_drew BK525.out)
       replace BK537 := Aside0.mk (blk_drew BK537.out)
       replace BK549 := Aside0.mk (blk_drew BK549.out)
       replace HB := Aside0.mk (below_drew1 HB.out)
       obtain ⟨Ao32, co32, eo32⟩ := Kd.R_slice HO532.out
       (first | subst eo32 | (injection eo32 with f1_ f2_ f3_; have f4_ := f1_.symm; have f5_ := f3_.symm; clear f1_ f2_ f3_; subst f4_; subst f5_))
       obtain ⟨Ao33, co33, eo33⟩ := Kd.R_slice HO544.out
       (first | subst eo33 | (injection eo33 with f1_ f2_ f3_; have f4_ := f1_.symm; have f5_ := f3_.symm; clear f1_ f2_ f3_; subst f4_; subst f5_))
       refine start_ (n := 27) (S := fun w' => w'.cell? ⟨gb537, 0, none⟩ = some (.int .i64 t526) ∧ w'.cell? ⟨gb537, 1, none⟩ = some (.int .i64 t527) ∧ w'.cell? ⟨gb537, 2, none⟩ = some (.int .i64 t528) ∧ w'.cell? ⟨gb537, 3, none⟩ = some (.string t529) ∧ w'.cell? ⟨gb549, 0, none⟩ = some (.int .i64 t538) ∧ w'.cell? ⟨gb549, 1, none⟩ = some (.int .i64 t539) ∧ w'.cell? ⟨gb549, 2, none⟩ = some (.int .i64 t540) ∧ w'.cell? ⟨gb549, 3, none⟩ = some (.string t541) ∧ w'.cell? ⟨gb525, 0, none⟩ = some (.int .i64 t520) ∧ w'.cell? ⟨gb525, 1, none⟩ = some (.int .i64 t521) ∧ w'.cell? ⟨gb525, 2, none⟩ = some (.int .i64 t522) ∧ w'.cell? ⟨gb525, 3, none⟩ = some (.string t523)) (ds := []) (Sw.b 27 0) (by kernel_rfl) rfl rfl ⟨(blk_cell BK537.out 0).trans rfl, (blk_cell BK537.out 1).trans rfl, (blk_cell BK537.out 2).trans rfl, (blk_cell BK537.out 3).trans rfl, (blk_cell BK549.out 0).trans rfl, (blk_cell BK549.out 1).trans rfl, (blk_cell BK549.out 2).trans rfl, (blk_cell BK549.out 3).trans rfl, (blk_cell BK525.out 0).trans rfl, (blk_cell BK525.out 1).trans rfl, (blk_cell BK525.out 2).trans rfl, (blk_cell BK525.out 3).trans rfl⟩ (fun hHeld => ?_); refine with_tabW laws_FnChunks.tab6 laws_FnChunks.bits6 (fun HT_ HW_ => ?_)
       generalize w30.drew = w31 at HO532 HO535 HO544 HO547 BK525 BK537 BK549 HB hHeld ⊢
       refine Sw.pw 0 57 (Sw.b 27 1) ?_
       refine Sw.pw 1 58 (Sw.b 27 3) ?_
       refine Sw.pw 2 59 (Sw.b 27 7) ?_
       refine Sw.pw 3 60 (Sw.b 27 15) ?_
       refine take_ (i := 4) (N := some 61) (v := ?_) (a' := ?_) (Sw.b 27 31) rfl rfl (take_ofW HT_.out HW_.out (by kernel_rfl)) (fun _ _ _ h => h) (Or.inl ⟨by rfl, ?_⟩) hHeld ?_ ?_
       rotate_left
       ·rintro w' ⟨s0, s1, s2, s3, s4, s5, s6, s7, s8, s9, s10, s11⟩
        go_simp
        with_reducible rfl
       rotate_left
       ·simp only [Act.put, List.setIfInBounds_toArray, List.set_cons_zero, List.set_cons_succ, i64_w, i32_w]
        rfl
       refine take_ (i := 5) (N := some 62) (v := ?_) (a' := ?_) (Sw.b 27 63) rfl rfl (take_ofW HT_.out HW_.out (by kernel_rfl)) (fun _ _ _ h => h) (Or.inl ⟨by rfl, ?_⟩) hHeld ?_ ?_
       rotate_left
       ·rintro w' ⟨s0, s1, s2, s3, s4, s5, s6, s7, s8, s9, s10, s11⟩
        go_simp
        with_reducible rfl
       rotate_left
       ·simp only [Act.put, List.setIfInBounds_toArray, List.set_cons_zero, List.set_cons_succ, i64_w, i32_w]
        rfl
       refine Sw.pw 6 63 (Sw.b 27 127) ?_
       refine Sw.pw 7 64 (Sw.b 27 255) ?_
       refine Sw.pw 8 65 (Sw.b 27 511) ?_
       refine Sw.pw 9 66 (Sw.b 27 1023) ?_
       refine Sw.pw 10 67 (Sw.b 27 2047) ?_
       refine one_ (i := 11) (N := some 68) (Sw.b 27 4095) rfl rfl (one_of HT_.out (by kernel_rfl)) (by decide) (fun K hK => ?_)
       refine goes_ Tryd.func10 (by kernel_rfl) rfl #[.slice Ao32 t530.length co32, .slice Ao33 t542.length co33] (by rfl) rfl rfl Zb3_0 ?_
       with_reducible refine (laws_sameInts.calls k _ _ t530 _ _ t542 true _ ?side1 ?side2 ?side3 ?side4 A24.out).mono ?_
       (case side1 => repeat (first | exact (Kd.R_reads' HO532.out).2.2 | (with_reducible refine Kd.C_alloc ?_ _) | (with_reducible refine Kd.C_drewN ?_ _) | (with_reducible refine Kd.C_drew ?_)))
       (case side2 => exact (Kd.R_reads' HO532.out).2.1)
       (case side3 => repeat (first | exact (Kd.R_reads' HO544.out).2.2 | (with_reducible refine Kd.C_alloc ?_ _) | (with_reducible refine Kd.C_drewN ?_ _) | (with_reducible refine Kd.C_drew ?_)))
       (case side4 => exact (Kd.R_reads' HO544.out).2.1)
       rintro e w' ⟨rfl, ⟨nd, rfl⟩⟩
       refine ⟨_, rfl, ?_⟩
       obtain ⟨Ao34, co34, eo34⟩ := Kd.R_slice HO535.out
       (first | subst eo34 | (injection eo34 with f1_ f2_ f3_; have f4_ := f1_.symm; have f5_ := f3_.symm; clear f1_ f2_ f3_; subst f4_; subst f5_))
       obtain ⟨Ao35, co35, eo35⟩ := Kd.R_slice HO547.out
       (first | subst eo35 | (injection eo35 with f1_ f2_ f3_; have f4_ := f1_.symm; have f5_ := f3_.symm; clear f1_ f2_ f3_; subst f4_; subst f5_))
       refine hK.out _ _ ⟨(blk_cell BK537.out 0).trans rfl, (blk_cell BK537.out 1).trans rfl, (blk_cell BK537.out 2).trans rfl, (blk_cell BK537.out 3).trans rfl, (blk_cell BK549.out 0).trans rfl, (blk_cell BK549.out 1).trans rfl, (blk_cell BK549.out 2).trans rfl, (blk_cell BK549.out 3).trans rfl, (blk_cell BK525.out 0).trans rfl, (blk_cell BK525.out 1).trans rfl, (blk_cell BK525.out 2).trans rfl, (blk_cell BK525.out 3).trans rfl⟩ (fun hHeld => ?_)
       clear hK K
       refine norm_ (a' := ?_) ?_ ?_
       rotate_left
       ·show Act.put _ (some 68) _ = _
        simp only [Act.put, List.setIfInBounds_toArray, List.set_cons_zero, List.set_cons_succ, i64_w, i32_w]
        rfl
       refine Sw.pw 12 69 (Sw.b 27 8191) ?_
       refine Sw.pw 13 70 (Sw.b 27 16383) ?_
       refine Sw.pw 14 71 (Sw.b 27 32767) ?_
       refine Sw.pw 15 72 (Sw.b 27 65535) ?_
       refine Sw.pw 16 73 (Sw.b 27 131071) ?_
       refine one_ (i := 17) (N := some 74) (Sw.b 27 262143) rfl rfl (one_of HT_.out (by kernel_rfl)) (by decide) (fun K hK => ?_)
       refine goes_ Tryd.func10 (by kernel_rfl) rfl #[.slice Ao34 t533.length co34, .slice Ao35 t545.length co35] (by rfl) rfl rfl Zb3_0 ?_
       with_reducible refine (laws_sameInts.calls k _ _ t533 _ _ t545 true _ ?side1 ?side2 ?side3 ?side4 A26.out).mono ?_
       (case side1 => repeat (first | exact (Kd.R_reads' HO535.out).2.2 | (with_reducible refine Kd.C_alloc ?_ _) | (with_reducible refine Kd.C_drewN ?_ _) | (with_reducible refine Kd.C_drew ?_)))
       (case side2 => exact (Kd.R_reads' HO535.out).2.1)
       (case side3 => repeat (first | exact (Kd.R_reads' HO547.out).2.2 | (with_reducible refine Kd.C_alloc ?_ _) | (with_reducible refine Kd.C_drewN ?_ _) | (with_reducible refine Kd.C_drew ?_)))
       (case side4 => exact (Kd.R_reads' HO547.out).2.1)
       rintro e w' ⟨rfl, ⟨nd, rfl⟩⟩
       refine ⟨_, rfl, ?_⟩
       refine hK.out _ _ ⟨(blk_cell BK537.out 0).trans rfl, (blk_cell BK537.out 1).trans rfl, (blk_cell BK537.out 2).trans rfl, (blk_cell BK537.out 3).trans rfl, (blk_cell BK549.out 0).trans rfl, (blk_cell BK549.out 1).trans rfl, (blk_cell BK549.out 2).trans rfl, (blk_cell BK549.out 3).trans rfl, (blk_cell BK525.out 0).trans rfl, (blk_cell BK525.out 1).trans rfl, (blk_cell BK525.out 2).trans rfl, (blk_cell BK525.out 3).trans rfl⟩ (fun hHeld => ?_)
       clear hK K
       refine norm_ (a' := ?_) ?_ ?_
       rotate_left
       ·show Act.put _ (some 74) _ = _
        simp only [Act.put, List.setIfInBounds_toArray, List.set_cons_zero, List.set_cons_succ, i64_w, i32_w]
        rfl
       refine Sw.pw 18 75 (Sw.b 27 524287) ?_
       refine Sw.pw 19 76 (Sw.b 27 1048575) ?_
       refine Sw.pw 20 77 (Sw.b 27 2097151) ?_
       refine take_ (i := 21) (N := some 78) (v := ?_) (a' := ?_) (Sw.b 27 4194303) rfl rfl (take_ofW HT_.out HW_.out (by kernel_rfl)) (fun _ _ _ h => h) (Or.inl ⟨by rfl, ?_⟩) hHeld ?_ ?_
       rotate_left
       ·rintro w' ⟨s0, s1, s2, s3, s4, s5, s6, s7, s8, s9, s10, s11⟩
        go_simp
        with_reducible rfl
       rotate_left
       ·simp only [Act.put, List.setIfInBounds_toArray, List.set_cons_zero, List.set_cons_succ, i64_w, i32_w]
        rfl
       refine take_ (i := 23) (N := some 80) (v := ?_) (a' := ?_) (Sw.b 27 12582911) rfl rfl (take_ofW HT_.out HW_.out (by kernel_rfl)) (fun _ _ _ h => h) (Or.inl ⟨by rfl, ?_⟩) hHeld ?_ ?_
       rotate_left
       ·rintro w' ⟨s0, s1, s2, s3, s4, s5, s6, s7, s8, s9, s10, s11⟩
        go_simp
        with_reducible rfl
       rotate_left
       ·simp only [Act.put, List.setIfInBounds_toArray, List.set_cons_zero, List.set_cons_succ, i64_w, i32_w]
        rfl
       refine one_ (i := 22) (N := some 79) (Sw.b 27 16777215) rfl rfl (one_of HT_.out (by kernel_rfl)) (by decide) (fun K hK => ?_)
       refine goes_ Tryd.func11 (by kernel_rfl) rfl #[.agg #[.int .i64 t520, .int .i64 t521, .int .i64 t522, .string t523]] (by rfl) rfl rfl Zb3_0 ?_
       with_reducible refine (impl_GoodDecoder.calls k t520 t521 t522 t523 t552 _ Sw.ht A28.out).mono ?_
       rintro e w36 ⟨rfl, hb⟩
       refine ⟨_, rfl, ?_⟩
       replace HO532 := Aside0.mk (Kd.R_below (Sw.rt HO532.out) hb)
       replace HO535 := Aside0.mk (Kd.R_below (Sw.rt HO535.out) hb)
       replace HO544 := Aside0.mk (Kd.R_below (Sw.rt HO544.out) hb)
       replace HO547 := Aside0.mk (Kd.R_below (Sw.rt HO547.out) hb)
       replace BK525 := Aside0.mk (Sw.bl BK525.out hb)
       replace BK537 := Aside0.mk (Sw.bl BK537.out hb)
       replace BK549 := Aside0.mk (Sw.bl BK549.out hb)
       replace HB := Aside0.mk (below_step Sw.hb hb)
       (try clear hb)
       (try clear hb2)
       (try clear hk)
       (try clear hi)
       refine hK.out _ _ ⟨(blk_cell BK537.out 0).trans rfl, (blk_cell BK537.out 1).trans rfl, (blk_cell BK537.out 2).trans rfl, (blk_cell BK537.out 3).trans rfl, (blk_cell BK549.out 0).trans rfl, (blk_cell BK549.out 1).trans rfl, (blk_cell BK549.out 2).trans rfl, (blk_cell BK549.out 3).trans rfl, (blk_cell BK525.out 0).trans rfl, (blk_cell BK525.out 1).trans rfl, (blk_cell BK525.out 2).trans rfl, (blk_cell BK525.out 3).trans rfl⟩ (fun hHeld => ?_)
       clear hK K
       refine norm_ (a' := ?_) ?_ ?_
       rotate_left
       ·show Act.put _ (some 79) _ = _
        simp only [Act.put, List.setIfInBounds_toArray, List.set_cons_zero, List.set_cons_succ, i64_w, i32_w]
        rfl
       refine one_ (i := 24) (N := some 81) (Sw.b 27 33554431) rfl rfl (one_of HT_.out (by kernel_rfl)) (by decide) (fun K hK => ?_)
       refine goes_ Tryd.func12 (by kernel_rfl) rfl #[.agg #[.int .i64 t520, .int .i64 t521, .int .i64 t522, .string t523]] (by rfl) rfl rfl Zb3_0 ?_
       with_reducible refine (spec_GoodDecoder.calls k t520 t521 t522 t523 t553 _ A29.out).mono ?_
       rintro e w37 ⟨rfl, hb⟩
       refine ⟨_, rfl, ?_⟩
       replace HO532 := Aside0.mk (Kd.R_below (Sw.rt HO532.out) hb)
       replace HO535 := Aside0.mk (Kd.R_below (Sw.rt HO535.out) hb)
       replace HO544 := Aside0.mk (Kd.R_below (Sw.rt HO544.out) hb)
       replace HO547 := Aside0.mk (Kd.R_below (Sw.rt HO547.out) hb)
       replace BK525 := Aside0.mk (Sw.bl BK525.out hb)
       replace BK537 := Aside0.mk (Sw.bl BK537.out hb)
       replace BK549 := Aside0.mk (Sw.bl BK549.out hb)
       replace HB := Aside0.mk (below_step Sw.hb hb)
       (try clear hb)
       (try clear hb2)
       (try clear hk)
       (try clear hi)
       refine hK.out _ _ ⟨(blk_cell BK537.out 0).trans rfl, (blk_cell BK537.out 1).trans rfl, (blk_cell BK537.out 2).trans rfl, (blk_cell BK537.out 3).trans rfl, (blk_cell BK549.out 0).trans rfl, (blk_cell BK549.out 1).trans rfl, (blk_cell BK549.out 2).trans rfl, (blk_cell BK549.out 3).trans rfl, (blk_cell BK525.out 0).trans rfl, (blk_cell BK525.out 1).trans rfl, (blk_cell BK525.out 2).trans rfl, (blk_cell BK525.out 3).trans rfl⟩ (fun hHeld => ?_)
       clear hK K
       refine norm_ (a' := ?_) ?_ ?_
       rotate_left
       ·show Act.put _ (some 81) _ = _
        simp only [Act.put, List.setIfInBounds_toArray, List.set_cons_zero, List.set_cons_succ, i64_w, i32_w]
        rfl
       refine Sw.pw 25 82 (Sw.b 27 67108863) ?_
       refine Sw.pw 26 83 (Sw.b 27 134217727) ?_
       refine done_ (done_of HT_.out (by kernel_rfl)) ?_
       try go_wp2
       try (any_goals (exfalso; simp only [Bool.or_eq_false_iff, Bool.not_eq_false', beq_iff_eq] at c23b0; obtain ⟨q0_, q1_, q2_, q3_⟩ := c23b0; contradiction))
       go_meet
       case rel => exact ⟨_, ((t552 != t553)), Sw.r, H', ⟨by first | omega | exact Nat.le_refl _⟩, ⟨Sw.rt (Kd.R_mono HO532.out (fun _ hk => hk.1))⟩, ⟨Sw.rt (Kd.R_mono HO535.out (fun _ hk => hk.1))⟩, ⟨Sw.bk BK525.out⟩, ⟨Sw.bk BK537.out⟩, ⟨Sw.bk BK549.out⟩, ⟨Sw.hb⟩⟩
      ·replace c27 := Bool.eq_false_iff.mpr c27
       subst c27
       have H1 : (none) = some r := by rw [if_neg (show ¬ (false = true) by decide)] at H; exact H
       clear H
       have H := H1
       clear H1
       exact absurd H (by simp)
     ·replace c25 := Bool.eq_false_iff.mpr c25
      subst c25
      have H1 : (none) = some r := by rw [if_neg (show ¬ (false = true) by decide)] at H; exact H
      clear H
      have H := H1
      clear H1
      exact absurd H (by simp)
  case rest => as_aux_lemma =>
   clear HC8
   try clear c1
   try clear c2
   try clear p2
   try clear c3
   try clear c4
   try clear c6
   try clear c7
   try clear c8
   try clear c9
   try clear c10
   try clear c11
   try clear c12
   try clear c14
   try clear c19
   try clear c20
   try clear c22
   try clear c22b0
   try clear c22b1
   try clear c22b2
   try clear c23
   try clear c23b0
   try clear c25
   try clear c27
   try clear hcz11_0 hcz11_1 hcz11_2 hcz11_3
   try clear hcz15_0 hcz15_1 hcz15_2 hcz15_3
   try clear hcz16_0 hcz16_1 hcz16_2 hcz16_3
   try clear hcz21_0 hcz21_1 hcz21_2 hcz21_3
   try clear hfz11_0 hfz11_1 hfz11_2 hfz11_3
   try clear hfz15_0 hfz15_1 hfz15_2 hfz15_3
   try clear hfz16_0 hfz16_1 hfz16_2 hfz16_3
   try clear hfz21_0 hfz21_1 hfz21_2 hfz21_3
   obtain ⟨kq, x83_7, rfl, HA, HJ7, HO_8, HO_9, BK525, BK537, BK549, HB⟩ := hcut
   cases kq with
   | zero => exact absurd HA.out (by simp [laws_FnChunks.j0])
   | succ kj7 =>
    have H := HA.out
    clear HA
    simp only [laws_FnChunks.j0] at H
    by_cases c38 : x83_7 = true
    ·subst c38
     have H1 : (none) = some r := by rw [if_pos rfl] at H; exact H
     clear H
     have H := H1
     clear H1
     exact absurd H (by simp)
    ·replace c38 := Bool.eq_false_iff.mpr c38
     subst c38
     have H1 : (if t536 = true then ((laws_numberOf.f kj7 l1).bind fun t554 => (if (wrap64 ((t524.size : Int) + 1)) = 0 then (none) else (if 0 ≤ (Int.tmod t554 (wrap64 ((t524.size : Int) + 1))) then (if (Int.tmod t554 (wrap64 ((t524.size : Int) + 1))) ≤ (t524.size : Int) then ((impl_FeedDecoder.f kj7 t520 t521 t522 t523 (t524.extract 0 ((Int.tmod t554 (wrap64 ((t524.size : Int) + 1))) : Int).toNat)).bind fun bt555 => ((impl_FeedDecoder.f kj7 bt555.1 bt555.2.1 bt555.2.2.1 bt555.2.2.2.1 (t524.extract ((Int.tmod t554 (wrap64 ((t524.size : Int) + 1))) : Int).toNat t524.size)).bind fun bt567 => (if bt555.2.2.2.2.2.2 = true then (if bt567.2.2.2.2.2.2 = true then (if (!(bt567.1 == t526) || (!(bt567.2.1 == t527) || (!(bt567.2.2.1 == t528) || (!(bt567.2.2.2.1.toList == t529.toList))))) = true then (none) else (if bt555.2.2.2.2.1.length + bt567.2.2.2.2.1.length < 17592186044416 then ((laws_sameInts.f kj7 (bt555.2.2.2.2.1 ++ bt567.2.2.2.2.1) t530).bind fun t582 => (if t582 = true then (if bt555.2.2.2.2.2.1.length + bt567.2.2.2.2.2.1.length < 17592186044416 then ((laws_sameInts.f kj7 (bt555.2.2.2.2.2.1 ++ bt567.2.2.2.2.2.1) t533).bind fun t586 => (laws_FnChunks.j1 kj7 l1 t524 t533 (Int.tmod t554 (wrap64 ((t524.size : Int) + 1))) bt555.2.2.2.2.2.2 (!t586) t520 t521 t522 t523 t526 t527 t528 t529)) else (none)) else (none))) else (none))) else (laws_FnChunks.j1 kj7 l1 t524 t533 (Int.tmod t554 (wrap64 ((t524.size : Int) + 1))) bt555.2.2.2.2.2.2 false t520 t521 t522 t523 t526 t527 t528 t529)) else (laws_FnChunks.j1 kj7 l1 t524 t533 (Int.tmod t554 (wrap64 ((t524.size : Int) + 1))) bt555.2.2.2.2.2.2 false t520 t521 t522 t523 t526 t527 t528 t529)))) else (none)) else (none)))) else (laws_FnChunks.j2 kj7 l1)) = some r := by rw [if_neg (show ¬ (false = true) by decide)] at H; exact H
     clear H
     have H := H1
     clear H1
     have HC39 := Aside0.mk H
     clear H
     go_upto_if 84 with (fail)
     go_cut [] (fun wc => ∃ (kq : Nat), Aside0 (laws_FnChunks.j2 kq l1 = some r) ∧ Aside0 (kq ≤ kj7) ∧ Aside0 (wc.heap[gb525]? = some (.cells #[.int .i64 t520, .int .i64 t521, .int .i64 t522, .string t523] 25 (0, 0))) ∧ Aside0 (wc.heap[gb537]? = some (.cells #[.int .i64 t526, .int .i64 t527, .int .i64 t528, .string t529] 25 (0, 0))) ∧ Aside0 (wc.heap[gb549]? = some (.cells #[.int .i64 t538, .int .i64 t539, .int .i64 t540, .string t541] 25 (0, 0))) ∧ Aside0 (Below w.heap.size w wc))
     case first => as_aux_lemma =>
      have H := HC39.out
      clear HC39
      by_cases c40 : t536 = true
      ·subst c40
       have H1 : ((laws_numberOf.f kj7 l1).bind fun t554 => (if (wrap64 ((t524.size : Int) + 1)) = 0 then (none) else (if 0 ≤ (Int.tmod t554 (wrap64 ((t524.size : Int) + 1))) then (if (Int.tmod t554 (wrap64 ((t524.size : Int) + 1))) ≤ (t524.size : Int) then ((impl_FeedDecoder.f kj7 t520 t521 t522 t523 (t524.extract 0 ((Int.tmod t554 (wrap64 ((t524.size : Int) + 1))) : Int).toNat)).bind fun bt555 => ((impl_FeedDecoder.f kj7 bt555.1 bt555.2.1 bt555.2.2.1 bt555.2.2.2.1 (t524.extract ((Int.tmod t554 (wrap64 ((t524.size : Int) + 1))) : Int).toNat t524.size)).bind fun bt567 => (if bt555.2.2.2.2.2.2 = true then (if bt567.2.2.2.2.2.2 = true then (if (!(bt567.1 == t526) || (!(bt567.2.1 == t527) || (!(bt567.2.2.1 == t528) || (!(bt567.2.2.2.1.toList == t529.toList))))) = true then (none) else (if bt555.2.2.2.2.1.length + bt567.2.2.2.2.1.length < 17592186044416 then ((laws_sameInts.f kj7 (bt555.2.2.2.2.1 ++ bt567.2.2.2.2.1) t530).bind fun t582 => (if t582 = true then (if bt555.2.2.2.2.2.1.length + bt567.2.2.2.2.2.1.length < 17592186044416 then ((laws_sameInts.f kj7 (bt555.2.2.2.2.2.1 ++ bt567.2.2.2.2.2.1) t533).bind fun t586 => (laws_FnChunks.j1 kj7 l1 t524 t533 (Int.tmod t554 (wrap64 ((t524.size : Int) + 1))) bt555.2.2.2.2.2.2 (!t586) t520 t521 t522 t523 t526 t527 t528 t529)) else (none)) else (none))) else (none))) else (laws_FnChunks.j1 kj7 l1 t524 t533 (Int.tmod t554 (wrap64 ((t524.size : Int) + 1))) bt555.2.2.2.2.2.2 false t520 t521 t522 t523 t526 t527 t528 t529)) else (laws_FnChunks.j1 kj7 l1 t524 t533 (Int.tmod t554 (wrap64 ((t524.size : Int) + 1))) bt555.2.2.2.2.2.2 false t520 t521 t522 t523 t526 t527 t528 t529)))) else (none)) else (none)))) = some r := by rw [if_pos rfl] at H; exact H
       clear H
       have H := H1
       clear H1
       replace H := Option.bind_eq_some_iff.mp H
       obtain ⟨t554, A410, H⟩ := H
       replace H : (if (wrap64 ((t524.size : Int) + 1)) = 0 then (none) else (if 0 ≤ (Int.tmod t554 (wrap64 ((t524.size : Int) + 1))) then (if (Int.tmod t554 (wrap64 ((t524.size : Int) + 1))) ≤ (t524.size : Int) then ((impl_FeedDecoder.f kj7 t520 t521 t522 t523 (t524.extract 0 ((Int.tmod t554 (wrap64 ((t524.size : Int) + 1))) : Int).toNat)).bind fun bt555 => ((impl_FeedDecoder.f kj7 bt555.1 bt555.2.1 bt555.2.2.1 bt555.2.2.2.1 (t524.extract ((Int.tmod t554 (wrap64 ((t524.size : Int) + 1))) : Int).toNat t524.size)).bind fun bt567 => (if bt555.2.2.2.2.2.2 = true then (if bt567.2.2.2.2.2.2 = true then (if (!(bt567.1 == t526) || (!(bt567.2.1 == t527) || (!(bt567.2.2.1 == t528) || (!(bt567.2.2.2.1.toList == t529.toList))))) = true then (none) else (if bt555.2.2.2.2.1.length + bt567.2.2.2.2.1.length < 17592186044416 then ((laws_sameInts.f kj7 (bt555.2.2.2.2.1 ++ bt567.2.2.2.2.1) t530).bind fun t582 => (if t582 = true then (if bt555.2.2.2.2.2.1.length + bt567.2.2.2.2.2.1.length < 17592186044416 then ((laws_sameInts.f kj7 (bt555.2.2.2.2.2.1 ++ bt567.2.2.2.2.2.1) t533).bind fun t586 => (laws_FnChunks.j1 kj7 l1 t524 t533 (Int.tmod t554 (wrap64 ((t524.size : Int) + 1))) bt555.2.2.2.2.2.2 (!t586) t520 t521 t522 t523 t526 t527 t528 t529)) else (none)) else (none))) else (none))) else (laws_FnChunks.j1 kj7 l1 t524 t533 (Int.tmod t554 (wrap64 ((t524.size : Int) + 1))) bt555.2.2.2.2.2.2 false t520 t521 t522 t523 t526 t527 t528 t529)) else (laws_FnChunks.j1 kj7 l1 t524 t533 (Int.tmod t554 (wrap64 ((t524.size : Int) + 1))) bt555.2.2.2.2.2.2 false t520 t521 t522 t523 t526 t527 t528 t529)))) else (none)) else (none))) = some r := H
       have A41 := Aside0.mk A410
       clear A410
       by_cases c42 : (wrap64 ((t524.size : Int) + 1)) = 0
       ·rw [if_pos c42] at H
        exact absurd H (by simp)
       ·rw [if_neg c42] at H
        have c42b0 : ((wrap64 ((t524.size : Int) + 1)) == 0) = false := beq_eq_false_iff_ne.mpr c42
        have c42b1 : ((wrap64 ((t524.size : Int) + 1)) != 0) = true := bne_iff_ne.mpr c42
        (first | rw [c42b0] | (simp only [i64_w, i32_w]; rw [c42b0]) | skip)
        obtain ⟨ji43, hji43⟩ : ∃ j_ : Int, (Int.tmod t554 (wrap64 ((t524.size : Int) + 1))) = j_ := ⟨_, rfl⟩
        replace H : (if 0 ≤ (ji43) then (if (ji43) ≤ (t524.size : Int) then ((impl_FeedDecoder.f kj7 t520 t521 t522 t523 (t524.extract 0 ((ji43) : Int).toNat)).bind fun bt555 => ((impl_FeedDecoder.f kj7 bt555.1 bt555.2.1 bt555.2.2.1 bt555.2.2.2.1 (t524.extract ((ji43) : Int).toNat t524.size)).bind fun bt567 => (if bt555.2.2.2.2.2.2 = true then (if bt567.2.2.2.2.2.2 = true then (if (!(bt567.1 == t526) || (!(bt567.2.1 == t527) || (!(bt567.2.2.1 == t528) || (!(bt567.2.2.2.1.toList == t529.toList))))) = true then (none) else (if bt555.2.2.2.2.1.length + bt567.2.2.2.2.1.length < 17592186044416 then ((laws_sameInts.f kj7 (bt555.2.2.2.2.1 ++ bt567.2.2.2.2.1) t530).bind fun t582 => (if t582 = true then (if bt555.2.2.2.2.2.1.length + bt567.2.2.2.2.2.1.length < 17592186044416 then ((laws_sameInts.f kj7 (bt555.2.2.2.2.2.1 ++ bt567.2.2.2.2.2.1) t533).bind fun t586 => (laws_FnChunks.j1 kj7 l1 t524 t533 ji43 bt555.2.2.2.2.2.2 (!t586) t520 t521 t522 t523 t526 t527 t528 t529)) else (none)) else (none))) else (none))) else (laws_FnChunks.j1 kj7 l1 t524 t533 ji43 bt555.2.2.2.2.2.2 false t520 t521 t522 t523 t526 t527 t528 t529)) else (laws_FnChunks.j1 kj7 l1 t524 t533 ji43 bt555.2.2.2.2.2.2 false t520 t521 t522 t523 t526 t527 t528 t529)))) else (none)) else (none)) = some r := by first | (rw [hji43] at H; exact H) | (simp only [hji43] at H ⊢; exact H)
        (try rw [hji43] at A41)
        by_cases c44 : 0 ≤ (ji43)
        ·rw [if_pos c44] at H
         have c44b0 := eq_true c44
         have c44b1 : decide (0 ≤ (ji43)) = true := decide_eq_true c44
         clear c44
         by_cases c45 : (ji43) ≤ (t524.size : Int)
         ·rw [if_pos c45] at H
          have c45b0 := eq_true c45
          have c45b1 : decide ((ji43) ≤ (t524.size : Int)) = true := decide_eq_true c45
          clear c45
          replace H := Option.bind_eq_some_iff.mp H
          obtain ⟨⟨t555, t556, t557, t558, t559, t562, t565⟩, A460, H⟩ := H
          replace H : ((impl_FeedDecoder.f kj7 t555 t556 t557 t558 (t524.extract ((ji43) : Int).toNat t524.size)).bind fun bt567 => (if t565 = true then (if bt567.2.2.2.2.2.2 = true then (if (!(bt567.1 == t526) || (!(bt567.2.1 == t527) || (!(bt567.2.2.1 == t528) || (!(bt567.2.2.2.1.toList == t529.toList))))) = true then (none) else (if t559.length + bt567.2.2.2.2.1.length < 17592186044416 then ((laws_sameInts.f kj7 (t559 ++ bt567.2.2.2.2.1) t530).bind fun t582 => (if t582 = true then (if t562.length + bt567.2.2.2.2.2.1.length < 17592186044416 then ((laws_sameInts.f kj7 (t562 ++ bt567.2.2.2.2.2.1) t533).bind fun t586 => (laws_FnChunks.j1 kj7 l1 t524 t533 ji43 t565 (!t586) t520 t521 t522 t523 t526 t527 t528 t529)) else (none)) else (none))) else (none))) else (laws_FnChunks.j1 kj7 l1 t524 t533 ji43 t565 false t520 t521 t522 t523 t526 t527 t528 t529)) else (laws_FnChunks.j1 kj7 l1 t524 t533 ji43 t565 false t520 t521 t522 t523 t526 t527 t528 t529))) = some r := H
          have A46 := Aside0.mk A460
          clear A460
          have c47b0 := eq_true (of_decide_eq_true (by first | (with_reducible assumption) | assumption) : 0 ≤ (ji43))
          have c48b0 := eq_true (of_decide_eq_true (by first | (with_reducible assumption) | assumption) : (ji43) ≤ (t524.size : Int))
          replace H := Option.bind_eq_some_iff.mp H
          obtain ⟨⟨t567, t568, t569, t570, t571, t574, t577⟩, A490, H⟩ := H
          replace H : (if t565 = true then (if t577 = true then (if (!(t567 == t526) || (!(t568 == t527) || (!(t569 == t528) || (!(t570.toList == t529.toList))))) = true then (none) else (if t559.length + t571.length < 17592186044416 then ((laws_sameInts.f kj7 (t559 ++ t571) t530).bind fun t582 => (if t582 = true then (if t562.length + t574.length < 17592186044416 then ((laws_sameInts.f kj7 (t562 ++ t574) t533).bind fun t586 => (laws_FnChunks.j1 kj7 l1 t524 t533 ji43 t565 (!t586) t520 t521 t522 t523 t526 t527 t528 t529)) else (none)) else (none))) else (none))) else (laws_FnChunks.j1 kj7 l1 t524 t533 ji43 t565 false t520 t521 t522 t523 t526 t527 t528 t529)) else (laws_FnChunks.j1 kj7 l1 t524 t533 ji43 t565 false t520 t521 t522 t523 t526 t527 t528 t529)) = some r := H
          have A49 := Aside0.mk A490
          clear A490
          have HC50 := Aside0.mk H
          clear H
          try go_wp2_with (first | ((with_reducible refine gate_callee (f := 13) rfl ?_); refine goesL_ (some 86) rfl rfl Tryd.func13 (by kernel_rfl) rfl #[.slice A1 l1.length c1] rfl Zb3_0 ?_; (with_reducible refine (laws_numberOf.calls kj7 _ _ l1 t554 _ ?side1 ?side2 A41.out).mono ?_); (case side1 => repeat (first | exact (Kd.C_below HR1.out HB.out) | (with_reducible refine Kd.C_alloc ?_ _) | (with_reducible refine Kd.C_drewN ?_ _) | (with_reducible refine Kd.C_drew ?_))); (case side2 => exact HC1.out); rintro e w' ⟨rfl, ⟨nd, rfl⟩⟩; refine ⟨_, rfl, ?_⟩; (try (rw [drewN_self wc]; generalize hq_ : World.drewN wc _ = wc; have n0_ : Aside0 (Kd.R (Kd.int .i64) 3 wc w.heap.size (fun k_ => some k_ ≠ (v534 : Value).ownBlock) v531 t530) := ⟨by rw [← hq_]; exact (Sw.rt HO_8.out)⟩; have n1_ : Aside0 (Kd.R (Kd.int .i64) 3 wc w.heap.size (fun k_ => some k_ ≠ (v531 : Value).ownBlock) v534 t533) := ⟨by rw [← hq_]; exact (Sw.rt HO_9.out)⟩; have n2_ : Aside0 (wc.heap[gb525]? = some (.cells #[.int .i64 t520, .int .i64 t521, .int .i64 t522, .string t523] 25 (0, 0))) := ⟨by rw [← hq_]; exact (Sw.bk BK525.out)⟩; have n3_ : Aside0 (wc.heap[gb537]? = some (.cells #[.int .i64 t526, .int .i64 t527, .int .i64 t528, .string t529] 25 (0, 0))) := ⟨by rw [← hq_]; exact (Sw.bk BK537.out)⟩; have n4_ : Aside0 (wc.heap[gb549]? = some (.cells #[.int .i64 t538, .int .i64 t539, .int .i64 t540, .string t541] 25 (0, 0))) := ⟨by rw [← hq_]; exact (Sw.bk BK549.out)⟩; have n5_ : Aside0 (Below w.heap.size w wc) := ⟨by rw [← hq_]; exact Sw.hb⟩; clear HO_8 HO_9 BK525 BK537 BK549 HB hq_; have HO_8 := n0_; have HO_9 := n1_; have BK525 := n2_; have BK537 := n3_; have BK549 := n4_; have HB := n5_; clear n0_ n1_ n2_ n3_ n4_ n5_))))
          replace HO_8 := Aside0.mk (Kd.R_drew HO_8.out)
          replace HO_9 := Aside0.mk (Kd.R_drew HO_9.out)
          replace BK525 := Aside0.mk (blk_drew BK525.out)
          replace BK537 := Aside0.mk (blk_drew BK537.out)
          replace BK549 := Aside0.mk (blk_drew BK549.out)
          replace HB := Aside0.mk (below_drew1 HB.out)
          refine start_ (n := 15) (S := fun w' => w'.cell? ⟨gb525, 0, none⟩ = some (.int .i64 t520) ∧ w'.cell? ⟨gb525, 1, none⟩ = some (.int .i64 t521) ∧ w'.cell? ⟨gb525, 2, none⟩ = some (.int .i64 t522) ∧ w'.cell? ⟨gb525, 3, none⟩ = some (.string t523)) (ds := []) (Sw.b 15 0) (by kernel_rfl) rfl rfl ⟨(blk_cell BK525.out 0).trans rfl, (blk_cell BK525.out 1).trans rfl, (blk_cell BK525.out 2).trans rfl, (blk_cell BK525.out 3).trans rfl⟩ (fun hHeld => ?_); refine with_tabW laws_FnChunks.tab10 laws_FnChunks.bits10 (fun HT_ HW_ => ?_)
          generalize wc.drew = w51 at HO_8 HO_9 BK525 BK537 BK549 HB hHeld ⊢
          refine Sw.pw 1 93 (Sw.b 15 2) ?_
          refine Sw.pw 2 94 (Sw.b 15 6) ?_
          refine Sw.pw 3 95 (Sw.b 15 14) ?_
          refine take_ (i := 0) (N := some 92) (v := ?_) (a' := ?_) (Sw.b 15 15) rfl rfl (take_ofW HT_.out HW_.out (by kernel_rfl)) (fun _ _ _ h => h) (Or.inl ⟨by rfl, ?_⟩) hHeld ?_ ?_
          rotate_left
          ·rintro w' ⟨s0, s1, s2, s3⟩
           go_simp
           with_reducible rfl
          rotate_left
          ·simp only [Act.put, List.setIfInBounds_toArray, List.set_cons_zero, List.set_cons_succ, i64_w, i32_w]
           rfl
          refine join_ (σ := Value × Value × Nat) 4 (Sw.b 15 2047) (fun s_ => [(96, .tuple #[.agg #[.int .i64 t555, .int .i64 t556, .int .i64 t557, .string t558], s_.1, s_.2.1, .bool t565]), (16, .pointer (some ⟨s_.2.2, 0, none⟩)), (91, .tuple #[.agg #[.int .i64 t555, .int .i64 t556, .int .i64 t557, .string t558], s_.1, s_.2.1, .bool t565]), (97, .agg #[.int .i64 t555, .int .i64 t556, .int .i64 t557, .string t558]), (98, s_.1), (99, s_.2.1), (100, .bool t565)]) (fun s_ w' => (w'.cell? ⟨gb525, 0, none⟩ = some (.int .i64 t520) ∧ w'.cell? ⟨gb525, 1, none⟩ = some (.int .i64 t521) ∧ w'.cell? ⟨gb525, 2, none⟩ = some (.int .i64 t522) ∧ w'.cell? ⟨gb525, 3, none⟩ = some (.string t523)) ∧ (Kd.R (Kd.int .i64) 3 w' w.heap.size (fun k_ => some k_ ≠ (s_.2.1 : Value).ownBlock ∧ some k_ ≠ (v531 : Value).ownBlock ∧ some k_ ≠ (v534 : Value).ownBlock) s_.1 t559) ∧ (Kd.R (Kd.int .i64) 3 w' w.heap.size (fun k_ => some k_ ≠ (s_.1 : Value).ownBlock ∧ some k_ ≠ (v531 : Value).ownBlock ∧ some k_ ≠ (v534 : Value).ownBlock) s_.2.1 t562) ∧ (Kd.R (Kd.int .i64) 3 w' w.heap.size (fun k_ => some k_ ≠ (s_.1 : Value).ownBlock ∧ some k_ ≠ (s_.2.1 : Value).ownBlock ∧ some k_ ≠ (v534 : Value).ownBlock) v531 t530) ∧ (Kd.R (Kd.int .i64) 3 w' w.heap.size (fun k_ => some k_ ≠ (s_.1 : Value).ownBlock ∧ some k_ ≠ (s_.2.1 : Value).ownBlock ∧ some k_ ≠ (v531 : Value).ownBlock) v534 t533) ∧ (w'.heap[gb525]? = some (.cells #[.int .i64 t520, .int .i64 t521, .int .i64 t522, .string t523] 25 (0, 0))) ∧ (w'.heap[gb537]? = some (.cells #[.int .i64 t526, .int .i64 t527, .int .i64 t528, .string t529] 25 (0, 0))) ∧ (w'.heap[gb549]? = some (.cells #[.int .i64 t538, .int .i64 t539, .int .i64 t540, .string t541] 25 (0, 0))) ∧ (w'.heap[s_.2.2]? = some (.cells #[.int .i64 0, .int .i64 0, .int .i64 0, .string (⟨#[]⟩ : ByteArray)] 25 (0, 0))) ∧ (w.heap.size ≤ s_.2.2) ∧ (w.heap.size ≤ s_.2.2) ∧ (gb525 ≠ s_.2.2) ∧ (s_.2.2 ≠ gb525) ∧ (gb537 ≠ s_.2.2) ∧ (s_.2.2 ≠ gb537) ∧ (gb549 ≠ s_.2.2) ∧ (s_.2.2 ≠ gb549) ∧ (Below w.heap.size w w')) ?_ ?_
          rotate_left
          ·intro hCont
           refine two_ (i := 4) (j := 10) (Ni := some 96) (Nj := some 16) (Sw.b 15 31) (Sw.b 15 1039) rfl rfl rfl rfl (two_of HT_.out (by kernel_rfl)) (by decide) (by decide) (fun K hK => ?_) (fun K hK => ?_)
           ·skip
            refine goes_ Tryd.func8 (by kernel_rfl) rfl #[.agg #[.int .i64 t520, .int .i64 t521, .int .i64 t522, .string t523], .string (t524.extract 0 ((ji43) : Int).toNat)] (by rfl) rfl rfl Zb3_1 ?_
            with_reducible refine (impl_FeedDecoder.calls kj7 t520 t521 t522 t523 (t524.extract 0 ((ji43) : Int).toNat) t555 t556 t557 t558 t559 t562 t565 _ Sw.ht A46.out).mono ?_
            rintro e w52 ⟨v560, v563, rfl, ho0, ho1, hb⟩
            refine ⟨_, rfl, ?_⟩
            have HO561 := Aside0.mk (Kd.R_lower (Kd.R_new' (Kd.R_new' ho0 (Kd.R_lt (Sw.rt HO_8.out))) (Kd.R_lt (Sw.rt HO_9.out))) (below_size Sw.hb))
            have HO564 := Aside0.mk (Kd.R_lower (Kd.R_new' (Kd.R_new' ho1 (Kd.R_lt (Sw.rt HO_8.out))) (Kd.R_lt (Sw.rt HO_9.out))) (below_size Sw.hb))
            replace HO_8 := Aside0.mk (Kd.R_mono (Kd.R_told (Kd.R_told (Kd.R_old (Sw.rt HO_8.out) hb) (Kd.R_base ho0)) (Kd.R_base ho1)) (fun _ h_ => h_.1))
            replace HO_9 := Aside0.mk (Kd.R_mono (Kd.R_told (Kd.R_told (Kd.R_old (Sw.rt HO_9.out) hb) (Kd.R_base ho0)) (Kd.R_base ho1)) (fun _ h_ => h_.1))
            replace BK525 := Aside0.mk (Sw.bl BK525.out hb)
            replace BK537 := Aside0.mk (Sw.bl BK537.out hb)
            replace BK549 := Aside0.mk (Sw.bl BK549.out hb)
            replace HB := Aside0.mk (below_step Sw.hb hb)
            (try clear hb)
            (try clear hb2)
            (try clear hk)
            (try clear hi)
            (try clear ho0)
            (try clear ho1)
            refine hK.out _ _ ⟨(blk_cell BK525.out 0).trans rfl, (blk_cell BK525.out 1).trans rfl, (blk_cell BK525.out 2).trans rfl, (blk_cell BK525.out 3).trans rfl⟩ (fun hHeld => ?_)
            clear hK K
            refine norm_ (a' := ?_) ?_ ?_
            rotate_left
            ·show Act.put _ (some 96) _ = _
             simp only [Act.put, List.setIfInBounds_toArray, List.set_cons_zero, List.set_cons_succ, i64_w, i32_w]
             rfl
            refine Sw.pw 5 91 (Sw.b 15 63) ?_
            refine Sw.pw 6 97 (Sw.b 15 127) ?_
            refine Sw.pw 7 98 (Sw.b 15 255) ?_
            refine Sw.pw 8 99 (Sw.b 15 511) ?_
            refine Sw.pw 9 100 (Sw.b 15 1023) ?_
            refine one_ (i := 10) (N := some 16) (Sw.b 15 2047) rfl rfl (one_of HT_.out (by kernel_rfl)) (by decide) (fun K hK => ?_)
            refine box_step ?hg (N := 16) ?hd (cs := #[.int .i64 0, .int .i64 0, .int .i64 0, .string (⟨#[]⟩ : ByteArray)]) (t := 25) ?hr ?_; (case hd => rfl); (case hg => rfl); (case hr => first | (go_simp; done) | (go_simp; rfl))
            intro gb566 hg w53 hbox hb
            replace HO_8 := Aside0.mk (Kd.R_below (Sw.rt HO_8.out) hb)
            replace HO_9 := Aside0.mk (Kd.R_below (Sw.rt HO_9.out) hb)
            replace HO561 := Aside0.mk (Kd.R_below (Sw.rt HO561.out) hb)
            replace HO564 := Aside0.mk (Kd.R_below (Sw.rt HO564.out) hb)
            have BK566 := Aside0.mk (hbox)
            have GW566 := Aside0.mk ((Sw.gs hg))
            have GE566 := Aside0.mk ((Sw.gs hg))
            replace HB := Aside0.mk (below_step Sw.hb hb)
            have NB525_566 := Aside0.mk (Sw.nl hg BK525.out)
            have NB566_525 := Aside0.mk (Sw.ng hg BK525.out)
            replace BK525 := Aside0.mk (Sw.bl BK525.out hb)
            have NB537_566 := Aside0.mk (Sw.nl hg BK537.out)
            have NB566_537 := Aside0.mk (Sw.ng hg BK537.out)
            replace BK537 := Aside0.mk (Sw.bl BK537.out hb)
            have NB549_566 := Aside0.mk (Sw.nl hg BK549.out)
            have NB566_549 := Aside0.mk (Sw.ng hg BK549.out)
            replace BK549 := Aside0.mk (Sw.bl BK549.out hb)
            clear hb hbox hg
            refine hK.out _ _ ⟨(blk_cell BK525.out 0).trans rfl, (blk_cell BK525.out 1).trans rfl, (blk_cell BK525.out 2).trans rfl, (blk_cell BK525.out 3).trans rfl⟩ (fun hHeld => ?_)
            clear hK K
            refine norm_ (a' := ?_) ?_ ?_
            rotate_left
            ·show Act.put _ (some 16) _ = _
             simp only [Act.put, List.setIfInBounds_toArray, List.set_cons_zero, List.set_cons_succ, i64_w, i32_w]
             rfl
            exact norm_ Zb3_3 (hCont (v560, v563, gb566) _ ⟨hHeld, (Sw.rt (Kd.R_mono HO561.out (fun _ hk => ⟨hk.1.1, ⟨hk.1.2, hk.2⟩⟩))), (Sw.rt (Kd.R_mono HO564.out (fun _ hk => ⟨hk.1.1, ⟨hk.1.2, hk.2⟩⟩))), (Sw.rt (Kd.R_mono HO_8.out (fun _ hk => ⟨hk.1.2, ⟨hk.2, hk.1.1⟩⟩))), (Sw.rt (Kd.R_mono HO_9.out (fun _ hk => ⟨hk.1.2, ⟨hk.2, hk.1.1⟩⟩))), (Sw.bk BK525.out), (Sw.bk BK537.out), (Sw.bk BK549.out), (Sw.bk BK566.out), GW566.out, GE566.out, NB525_566.out, NB566_525.out, NB537_566.out, NB566_537.out, NB549_566.out, NB566_549.out, Sw.hb⟩)
           ·skip
            refine box_step ?hg (N := 16) ?hd (cs := #[.int .i64 0, .int .i64 0, .int .i64 0, .string (⟨#[]⟩ : ByteArray)]) (t := 25) ?hr ?_; (case hd => rfl); (case hg => rfl); (case hr => first | (go_simp; done) | (go_simp; rfl))
            intro gb566 hg w52 hbox hb
            replace HO_8 := Aside0.mk (Kd.R_below (Sw.rt HO_8.out) hb)
            replace HO_9 := Aside0.mk (Kd.R_below (Sw.rt HO_9.out) hb)
            have BK566 := Aside0.mk (hbox)
            have GW566 := Aside0.mk ((Sw.gs hg))
            have GE566 := Aside0.mk ((Sw.gs hg))
            replace HB := Aside0.mk (below_step Sw.hb hb)
            have NB525_566 := Aside0.mk (Sw.nl hg BK525.out)
            have NB566_525 := Aside0.mk (Sw.ng hg BK525.out)
            replace BK525 := Aside0.mk (Sw.bl BK525.out hb)
            have NB537_566 := Aside0.mk (Sw.nl hg BK537.out)
            have NB566_537 := Aside0.mk (Sw.ng hg BK537.out)
            replace BK537 := Aside0.mk (Sw.bl BK537.out hb)
            have NB549_566 := Aside0.mk (Sw.nl hg BK549.out)
            have NB566_549 := Aside0.mk (Sw.ng hg BK549.out)
            replace BK549 := Aside0.mk (Sw.bl BK549.out hb)
            clear hb hbox hg
            refine hK.out _ _ ⟨(blk_cell BK525.out 0).trans rfl, (blk_cell BK525.out 1).trans rfl, (blk_cell BK525.out 2).trans rfl, (blk_cell BK525.out 3).trans rfl⟩ (fun hHeld => ?_)
            clear hK K
            refine norm_ (a' := ?_) ?_ ?_
            rotate_left
            ·show Act.put _ (some 16) _ = _
             simp only [Act.put, List.setIfInBounds_toArray, List.set_cons_zero, List.set_cons_succ, i64_w, i32_w]
             rfl
            refine one_ (i := 4) (N := some 96) (Sw.b 15 1055) rfl rfl (one_of HT_.out (by kernel_rfl)) (by decide) (fun K hK => ?_)
            refine goes_ Tryd.func8 (by kernel_rfl) rfl #[.agg #[.int .i64 t520, .int .i64 t521, .int .i64 t522, .string t523], .string (t524.extract 0 ((ji43) : Int).toNat)] (by rfl) rfl rfl Zb3_1 ?_
            with_reducible refine (impl_FeedDecoder.calls kj7 t520 t521 t522 t523 (t524.extract 0 ((ji43) : Int).toNat) t555 t556 t557 t558 t559 t562 t565 _ Sw.ht A46.out).mono ?_
            rintro e w53 ⟨v560, v563, rfl, ho0, ho1, hb⟩
            refine ⟨_, rfl, ?_⟩
            have HO561 := Aside0.mk (Kd.R_lower (Kd.R_new' (Kd.R_new' ho0 (Kd.R_lt (Sw.rt HO_8.out))) (Kd.R_lt (Sw.rt HO_9.out))) (below_size Sw.hb))
            have HO564 := Aside0.mk (Kd.R_lower (Kd.R_new' (Kd.R_new' ho1 (Kd.R_lt (Sw.rt HO_8.out))) (Kd.R_lt (Sw.rt HO_9.out))) (below_size Sw.hb))
            replace HO_8 := Aside0.mk (Kd.R_mono (Kd.R_told (Kd.R_told (Kd.R_old (Sw.rt HO_8.out) hb) (Kd.R_base ho0)) (Kd.R_base ho1)) (fun _ h_ => h_.1))
            replace HO_9 := Aside0.mk (Kd.R_mono (Kd.R_told (Kd.R_told (Kd.R_old (Sw.rt HO_9.out) hb) (Kd.R_base ho0)) (Kd.R_base ho1)) (fun _ h_ => h_.1))
            replace BK525 := Aside0.mk (Sw.bl BK525.out hb)
            replace BK537 := Aside0.mk (Sw.bl BK537.out hb)
            replace BK549 := Aside0.mk (Sw.bl BK549.out hb)
            replace BK566 := Aside0.mk (Sw.bl BK566.out hb)
            replace HB := Aside0.mk (below_step Sw.hb hb)
            (try clear hb)
            (try clear hb2)
            (try clear hk)
            (try clear hi)
            (try clear ho0)
            (try clear ho1)
            refine hK.out _ _ ⟨(blk_cell BK525.out 0).trans rfl, (blk_cell BK525.out 1).trans rfl, (blk_cell BK525.out 2).trans rfl, (blk_cell BK525.out 3).trans rfl⟩ (fun hHeld => ?_)
            clear hK K
            refine norm_ (a' := ?_) ?_ ?_
            rotate_left
            ·show Act.put _ (some 96) _ = _
             simp only [Act.put, List.setIfInBounds_toArray, List.set_cons_zero, List.set_cons_succ, i64_w, i32_w]
             rfl
            refine Sw.pw 5 91 (Sw.b 15 1087) ?_
            refine Sw.pw 6 97 (Sw.b 15 1151) ?_
            refine Sw.pw 7 98 (Sw.b 15 1279) ?_
            refine Sw.pw 8 99 (Sw.b 15 1535) ?_
            refine Sw.pw 9 100 (Sw.b 15 2047) ?_
            exact norm_ Zb3_3 (hCont (v560, v563, gb566) _ ⟨hHeld, (Sw.rt (Kd.R_mono HO561.out (fun _ hk => ⟨hk.1.1, ⟨hk.1.2, hk.2⟩⟩))), (Sw.rt (Kd.R_mono HO564.out (fun _ hk => ⟨hk.1.1, ⟨hk.1.2, hk.2⟩⟩))), (Sw.rt (Kd.R_mono HO_8.out (fun _ hk => ⟨hk.1.2, ⟨hk.2, hk.1.1⟩⟩))), (Sw.rt (Kd.R_mono HO_9.out (fun _ hk => ⟨hk.1.2, ⟨hk.2, hk.1.1⟩⟩))), (Sw.bk BK525.out), (Sw.bk BK537.out), (Sw.bk BK549.out), (Sw.bk BK566.out), GW566.out, GE566.out, NB525_566.out, NB566_525.out, NB537_566.out, NB566_537.out, NB549_566.out, NB566_549.out, Sw.hb⟩)
          rintro ⟨v560, v563, gb566⟩ w54 ⟨hS_, h0_, h1_, h2_, h3_, h4_, h5_, h6_, h7_, h8_, h9_, h10_, h11_, h12_, h13_, h14_, h15_, h16_⟩
          have n0_ : Aside0 (Kd.R (Kd.int .i64) 3 w54 w.heap.size (fun k_ => some k_ ≠ (v563 : Value).ownBlock ∧ some k_ ≠ (v531 : Value).ownBlock ∧ some k_ ≠ (v534 : Value).ownBlock) v560 t559) := ⟨h0_⟩
          have n1_ : Aside0 (Kd.R (Kd.int .i64) 3 w54 w.heap.size (fun k_ => some k_ ≠ (v560 : Value).ownBlock ∧ some k_ ≠ (v531 : Value).ownBlock ∧ some k_ ≠ (v534 : Value).ownBlock) v563 t562) := ⟨h1_⟩
          have n2_ : Aside0 (Kd.R (Kd.int .i64) 3 w54 w.heap.size (fun k_ => some k_ ≠ (v560 : Value).ownBlock ∧ some k_ ≠ (v563 : Value).ownBlock ∧ some k_ ≠ (v534 : Value).ownBlock) v531 t530) := ⟨h2_⟩
          have n3_ : Aside0 (Kd.R (Kd.int .i64) 3 w54 w.heap.size (fun k_ => some k_ ≠ (v560 : Value).ownBlock ∧ some k_ ≠ (v563 : Value).ownBlock ∧ some k_ ≠ (v531 : Value).ownBlock) v534 t533) := ⟨h3_⟩
          have n4_ : Aside0 (w54.heap[gb525]? = some (.cells #[.int .i64 t520, .int .i64 t521, .int .i64 t522, .string t523] 25 (0, 0))) := ⟨h4_⟩
          have n5_ : Aside0 (w54.heap[gb537]? = some (.cells #[.int .i64 t526, .int .i64 t527, .int .i64 t528, .string t529] 25 (0, 0))) := ⟨h5_⟩
          have n6_ : Aside0 (w54.heap[gb549]? = some (.cells #[.int .i64 t538, .int .i64 t539, .int .i64 t540, .string t541] 25 (0, 0))) := ⟨h6_⟩
          have n7_ : Aside0 (w54.heap[gb566]? = some (.cells #[.int .i64 0, .int .i64 0, .int .i64 0, .string (⟨#[]⟩ : ByteArray)] 25 (0, 0))) := ⟨h7_⟩
          have n8_ : Aside0 (w.heap.size ≤ gb566) := ⟨h8_⟩
          have n9_ : Aside0 (w.heap.size ≤ gb566) := ⟨h9_⟩
          have n10_ : Aside0 (gb525 ≠ gb566) := ⟨h10_⟩
          have n11_ : Aside0 (gb566 ≠ gb525) := ⟨h11_⟩
          have n12_ : Aside0 (gb537 ≠ gb566) := ⟨h12_⟩
          have n13_ : Aside0 (gb566 ≠ gb537) := ⟨h13_⟩
          have n14_ : Aside0 (gb549 ≠ gb566) := ⟨h14_⟩
          have n15_ : Aside0 (gb566 ≠ gb549) := ⟨h15_⟩
          have n16_ : Aside0 (Below w.heap.size w w54) := ⟨h16_⟩
          clear HO_8
          clear HO_9
          clear BK525
          clear BK537
          clear BK549
          clear HB
          clear h0_ h1_ h2_ h3_ h4_ h5_ h6_ h7_ h8_ h9_ h10_ h11_ h12_ h13_ h14_ h15_ h16_
          have HO561 := n0_
          have HO564 := n1_
          have HO_8 := n2_
          have HO_9 := n3_
          have BK525 := n4_
          have BK537 := n5_
          have BK549 := n6_
          have BK566 := n7_
          have GW566 := n8_
          have GE566 := n9_
          have NB525_566 := n10_
          have NB566_525 := n11_
          have NB537_566 := n12_
          have NB566_537 := n13_
          have NB549_566 := n14_
          have NB566_549 := n15_
          have HB := n16_
          clear n0_ n1_ n2_ n3_ n4_ n5_ n6_ n7_ n8_ n9_ n10_ n11_ n12_ n13_ n14_ n15_ n16_
          have hHeld : w54.cell? ⟨gb525, 0, none⟩ = some (.int .i64 t520) ∧ w54.cell? ⟨gb525, 1, none⟩ = some (.int .i64 t521) ∧ w54.cell? ⟨gb525, 2, none⟩ = some (.int .i64 t522) ∧ w54.cell? ⟨gb525, 3, none⟩ = some (.string t523) := hS_
          refine norm_ (a' := ?_) ?_ ?_
          rotate_left
          ·simp only [putAll, Act.put, List.setIfInBounds_toArray, List.set_cons_zero, List.set_cons_succ]
           rfl
          refine one_ (i := 11) (N := none) (Sw.b 15 4095) rfl rfl (one_of HT_.out (by kernel_rfl)) (by decide) (fun K hK => ?_)
          have hs55 : w54.cell? ⟨gb566, 0, none⟩ = some (.int .i64 0) := (blk_cell BK566.out 0).trans rfl
          have hfs55 := blk_frozen BK566.out 0
          have hns55_0 := NB525_566.out
          have hns55_1 := NB537_566.out
          have hns55_2 := NB549_566.out
          have hms55_0 := NB566_525.out
          have hms55_1 := NB566_537.out
          have hms55_2 := NB566_549.out
          have hs56 : w54.cell? ⟨gb566, 1, none⟩ = some (.int .i64 0) := (blk_cell BK566.out 1).trans rfl
          have hfs56 := blk_frozen BK566.out 1
          have hns56_0 := NB525_566.out
          have hns56_1 := NB537_566.out
          have hns56_2 := NB549_566.out
          have hms56_0 := NB566_525.out
          have hms56_1 := NB566_537.out
          have hms56_2 := NB566_549.out
          have hs57 : w54.cell? ⟨gb566, 2, none⟩ = some (.int .i64 0) := (blk_cell BK566.out 2).trans rfl
          have hfs57 := blk_frozen BK566.out 2
          have hns57_0 := NB525_566.out
          have hns57_1 := NB537_566.out
          have hns57_2 := NB549_566.out
          have hms57_0 := NB566_525.out
          have hms57_1 := NB566_537.out
          have hms57_2 := NB566_549.out
          have hs58 : w54.cell? ⟨gb566, 3, none⟩ = some (.string (⟨#[]⟩ : ByteArray)) := (blk_cell BK566.out 3).trans rfl
          have hfs58 := blk_frozen BK566.out 3
          have hns58_0 := NB525_566.out
          have hns58_1 := NB537_566.out
          have hns58_2 := NB549_566.out
          have hms58_0 := NB566_525.out
          have hms58_1 := NB566_537.out
          have hms58_2 := NB566_549.out
          refine skip_ (w1 := ?_) (by rfl) rfl ?_ ?_
          rotate_left
          ·go_simp
           rfl
          refine hK.out _ _ ⟨((cell_far (p := ⟨gb566, _, none⟩) NB525_566.out _).trans (((cell_far (p := ⟨gb566, _, none⟩) NB525_566.out _).trans (((cell_far (p := ⟨gb566, _, none⟩) NB525_566.out _).trans (((cell_far (p := ⟨gb566, _, none⟩) NB525_566.out _).trans (hHeld.1)))))))), ((cell_far (p := ⟨gb566, _, none⟩) NB525_566.out _).trans (((cell_far (p := ⟨gb566, _, none⟩) NB525_566.out _).trans (((cell_far (p := ⟨gb566, _, none⟩) NB525_566.out _).trans (((cell_far (p := ⟨gb566, _, none⟩) NB525_566.out _).trans (hHeld.2.1)))))))), ((cell_far (p := ⟨gb566, _, none⟩) NB525_566.out _).trans (((cell_far (p := ⟨gb566, _, none⟩) NB525_566.out _).trans (((cell_far (p := ⟨gb566, _, none⟩) NB525_566.out _).trans (((cell_far (p := ⟨gb566, _, none⟩) NB525_566.out _).trans (hHeld.2.2.1)))))))), ((cell_far (p := ⟨gb566, _, none⟩) NB525_566.out _).trans (((cell_far (p := ⟨gb566, _, none⟩) NB525_566.out _).trans (((cell_far (p := ⟨gb566, _, none⟩) NB525_566.out _).trans (((cell_far (p := ⟨gb566, _, none⟩) NB525_566.out _).trans (hHeld.2.2.2))))))))⟩ (fun hHeld => ?_)
          clear hK K
          refine Sw.pw 12 17 (Sw.b 15 8191) ?_
          refine Sw.pw 13 18 (Sw.b 15 16383) ?_
          refine Sw.pw 14 19 (Sw.b 15 32767) ?_
          refine done_ (done_of HT_.out (by kernel_rfl)) ?_
          try go_wp2
          generalize hq_ : ((((w54.setCell ⟨gb566, 0, none⟩ (.int .i64 t555)).setCell ⟨gb566, 1, none⟩ (.int .i64 t556)).setCell ⟨gb566, 2, none⟩ (.int .i64 t557)).setCell ⟨gb566, 3, none⟩ (.string t558)) = w59
          replace HO_8 : Aside0 (Kd.R (Kd.int .i64) 3 w59 w.heap.size (fun k_ => some k_ ≠ (v534 : Value).ownBlock ∧ some k_ ≠ (v560 : Value).ownBlock ∧ some k_ ≠ (v563 : Value).ownBlock) v531 t530) := ⟨by rw [← hq_]; exact Sw.rt (Kd.R_mono (Sw.f0_1_2_3 HO_8.out BK566.out) (fun _ hk => ⟨hk.1.2.2, ⟨hk.1.1, hk.1.2.1⟩⟩))⟩
          replace HO_9 : Aside0 (Kd.R (Kd.int .i64) 3 w59 w.heap.size (fun k_ => some k_ ≠ (v531 : Value).ownBlock ∧ some k_ ≠ (v560 : Value).ownBlock ∧ some k_ ≠ (v563 : Value).ownBlock) v534 t533) := ⟨by rw [← hq_]; exact Sw.rt (Kd.R_mono (Sw.f0_1_2_3 HO_9.out BK566.out) (fun _ hk => ⟨hk.1.2.2, ⟨hk.1.1, hk.1.2.1⟩⟩))⟩
          replace HO561 : Aside0 (Kd.R (Kd.int .i64) 3 w59 w.heap.size (fun k_ => some k_ ≠ (v531 : Value).ownBlock ∧ some k_ ≠ (v534 : Value).ownBlock ∧ some k_ ≠ (v563 : Value).ownBlock) v560 t559) := ⟨by rw [← hq_]; exact Sw.rt (Kd.R_mono (Sw.f0_1_2_3 HO561.out BK566.out) (fun _ hk => ⟨hk.1.2.1, ⟨hk.1.2.2, hk.1.1⟩⟩))⟩
          replace HO564 : Aside0 (Kd.R (Kd.int .i64) 3 w59 w.heap.size (fun k_ => some k_ ≠ (v531 : Value).ownBlock ∧ some k_ ≠ (v534 : Value).ownBlock ∧ some k_ ≠ (v560 : Value).ownBlock) v563 t562) := ⟨by rw [← hq_]; exact Sw.rt (Kd.R_mono (Sw.f0_1_2_3 HO564.out BK566.out) (fun _ hk => ⟨hk.1.2.1, ⟨hk.1.2.2, hk.1.1⟩⟩))⟩
          replace BK525 : Aside0 (w59.heap[gb525]? = some (.cells #[.int .i64 t520, .int .i64 t521, .int .i64 t522, .string t523] 25 (0, 0))) := ⟨by rw [← hq_]; exact Sw.bf BK525.out NB525_566.out⟩
          replace BK537 : Aside0 (w59.heap[gb537]? = some (.cells #[.int .i64 t526, .int .i64 t527, .int .i64 t528, .string t529] 25 (0, 0))) := ⟨by rw [← hq_]; exact Sw.bf BK537.out NB537_566.out⟩
          replace BK549 : Aside0 (w59.heap[gb549]? = some (.cells #[.int .i64 t538, .int .i64 t539, .int .i64 t540, .string t541] 25 (0, 0))) := ⟨by rw [← hq_]; exact Sw.bf BK549.out NB549_566.out⟩
          replace BK566 : Aside0 (w59.heap[gb566]? = some (.cells #[.int .i64 t555, .int .i64 t556, .int .i64 t557, .string t558] 25 (0, 0))) := ⟨by rw [← hq_]; exact Sw.bp (Sw.p0_1_2_3 BK566.out)⟩
          replace HB : Aside0 (Below w.heap.size w w59) := ⟨by rw [← hq_]; exact Sw.hb⟩
          clear hq_
          replace HO_8 := Aside0.mk (Kd.R_drew HO_8.out)
          replace HO_9 := Aside0.mk (Kd.R_drew HO_9.out)
          replace HO561 := Aside0.mk (Kd.R_drew HO561.out)
          replace HO564 := Aside0.mk (Kd.R_drew HO564.out)
          replace BK525 := Aside0.mk (blk_drew BK525.out)
          replace BK537 := Aside0.mk (blk_drew BK537.out)
          replace BK549 := Aside0.mk (blk_drew BK549.out)
          replace BK566 := Aside0.mk (blk_drew BK566.out)
          replace HB := Aside0.mk (below_drew1 HB.out)
          refine start_ (n := 15) (S := fun w' => w'.cell? ⟨gb566, 0, none⟩ = some (.int .i64 t555) ∧ w'.cell? ⟨gb566, 1, none⟩ = some (.int .i64 t556) ∧ w'.cell? ⟨gb566, 2, none⟩ = some (.int .i64 t557) ∧ w'.cell? ⟨gb566, 3, none⟩ = some (.string t558)) (ds := []) (Sw.b 15 0) (by kernel_rfl) rfl rfl ⟨(blk_cell BK566.out 0).trans rfl, (blk_cell BK566.out 1).trans rfl, (blk_cell BK566.out 2).trans rfl, (blk_cell BK566.out 3).trans rfl⟩ (fun hHeld => ?_); refine with_tabW laws_FnChunks.tab11 laws_FnChunks.bits11 (fun HT_ HW_ => ?_)
          generalize w59.drew = w60 at HO_8 HO_9 HO561 HO564 BK525 BK537 BK549 BK566 HB hHeld ⊢
          refine Sw.pw 1 103 (Sw.b 15 2) ?_
          refine Sw.pw 2 104 (Sw.b 15 6) ?_
          refine Sw.pw 3 105 (Sw.b 15 14) ?_
          refine take_ (i := 0) (N := some 102) (v := ?_) (a' := ?_) (Sw.b 15 15) rfl rfl (take_ofW HT_.out HW_.out (by kernel_rfl)) (fun _ _ _ h => h) (Or.inl ⟨by rfl, ?_⟩) hHeld ?_ ?_
          rotate_left
          ·rintro w' ⟨s0, s1, s2, s3⟩
           go_simp
           with_reducible rfl
          rotate_left
          ·simp only [Act.put, List.setIfInBounds_toArray, List.set_cons_zero, List.set_cons_succ, i64_w, i32_w]
           rfl
          refine join_ (σ := Value × Value × Nat) 4 (Sw.b 15 2047) (fun s_ => [(106, .tuple #[.agg #[.int .i64 t567, .int .i64 t568, .int .i64 t569, .string t570], s_.1, s_.2.1, .bool t577]), (20, .pointer (some ⟨s_.2.2, 0, none⟩)), (101, .tuple #[.agg #[.int .i64 t567, .int .i64 t568, .int .i64 t569, .string t570], s_.1, s_.2.1, .bool t577]), (107, .agg #[.int .i64 t567, .int .i64 t568, .int .i64 t569, .string t570]), (108, s_.1), (109, s_.2.1), (110, .bool t577)]) (fun s_ w' => (w'.cell? ⟨gb566, 0, none⟩ = some (.int .i64 t555) ∧ w'.cell? ⟨gb566, 1, none⟩ = some (.int .i64 t556) ∧ w'.cell? ⟨gb566, 2, none⟩ = some (.int .i64 t557) ∧ w'.cell? ⟨gb566, 3, none⟩ = some (.string t558)) ∧ (Kd.R (Kd.int .i64) 3 w' w.heap.size (fun k_ => some k_ ≠ (v563 : Value).ownBlock ∧ some k_ ≠ (s_.1 : Value).ownBlock ∧ some k_ ≠ (s_.2.1 : Value).ownBlock ∧ some k_ ≠ (v531 : Value).ownBlock ∧ some k_ ≠ (v534 : Value).ownBlock) v560 t559) ∧ (Kd.R (Kd.int .i64) 3 w' w.heap.size (fun k_ => some k_ ≠ (v560 : Value).ownBlock ∧ some k_ ≠ (s_.1 : Value).ownBlock ∧ some k_ ≠ (s_.2.1 : Value).ownBlock ∧ some k_ ≠ (v531 : Value).ownBlock ∧ some k_ ≠ (v534 : Value).ownBlock) v563 t562) ∧ (Kd.R (Kd.int .i64) 3 w' w.heap.size (fun k_ => some k_ ≠ (v560 : Value).ownBlock ∧ some k_ ≠ (v563 : Value).ownBlock ∧ some k_ ≠ (s_.2.1 : Value).ownBlock ∧ some k_ ≠ (v531 : Value).ownBlock ∧ some k_ ≠ (v534 : Value).ownBlock) s_.1 t571) ∧ (Kd.R (Kd.int .i64) 3 w' w.heap.size (fun k_ => some k_ ≠ (v560 : Value).ownBlock ∧ some k_ ≠ (v563 : Value).ownBlock ∧ some k_ ≠ (s_.1 : Value).ownBlock ∧ some k_ ≠ (v531 : Value).ownBlock ∧ some k_ ≠ (v534 : Value).ownBlock) s_.2.1 t574) ∧ (Kd.R (Kd.int .i64) 3 w' w.heap.size (fun k_ => some k_ ≠ (v560 : Value).ownBlock ∧ some k_ ≠ (v563 : Value).ownBlock ∧ some k_ ≠ (s_.1 : Value).ownBlock ∧ some k_ ≠ (s_.2.1 : Value).ownBlock ∧ some k_ ≠ (v534 : Value).ownBlock) v531 t530) ∧ (Kd.R (Kd.int .i64) 3 w' w.heap.size (fun k_ => some k_ ≠ (v560 : Value).ownBlock ∧ some k_ ≠ (v563 : Value).ownBlock ∧ some k_ ≠ (s_.1 : Value).ownBlock ∧ some k_ ≠ (s_.2.1 : Value).ownBlock ∧ some k_ ≠ (v531 : Value).ownBlock) v534 t533) ∧ (w'.heap[gb525]? = some (.cells #[.int .i64 t520, .int .i64 t521, .int .i64 t522, .string t523] 25 (0, 0))) ∧ (w'.heap[gb537]? = some (.cells #[.int .i64 t526, .int .i64 t527, .int .i64 t528, .string t529] 25 (0, 0))) ∧ (w'.heap[gb549]? = some (.cells #[.int .i64 t538, .int .i64 t539, .int .i64 t540, .string t541] 25 (0, 0))) ∧ (w'.heap[gb566]? = some (.cells #[.int .i64 t555, .int .i64 t556, .int .i64 t557, .string t558] 25 (0, 0))) ∧ (w'.heap[s_.2.2]? = some (.cells #[.int .i64 0, .int .i64 0, .int .i64 0, .string (⟨#[]⟩ : ByteArray)] 25 (0, 0))) ∧ (w.heap.size ≤ s_.2.2) ∧ (w.heap.size ≤ s_.2.2) ∧ (gb525 ≠ s_.2.2) ∧ (s_.2.2 ≠ gb525) ∧ (gb537 ≠ s_.2.2) ∧ (s_.2.2 ≠ gb537) ∧ (gb549 ≠ s_.2.2) ∧ (s_.2.2 ≠ gb549) ∧ (gb566 ≠ s_.2.2) ∧ (s_.2.2 ≠ gb566) ∧ (Below w.heap.size w w')) ?_ ?_
          rotate_left
          ·intro hCont
           refine two_ (i := 4) (j := 10) (Ni := some 106) (Nj := some 20) (Sw.b 15 31) (Sw.b 15 1039) rfl rfl rfl rfl (two_of HT_.out (by kernel_rfl)) (by decide) (by decide) (fun K hK => ?_) (fun K hK => ?_)
           ·skip
            refine goes_ Tryd.func8 (by kernel_rfl) rfl #[.agg #[.int .i64 t555, .int .i64 t556, .int .i64 t557, .string t558], .string (t524.extract ((ji43) : Int).toNat t524.size)] (by rfl) rfl rfl Zb3_1 ?_
            with_reducible refine (impl_FeedDecoder.calls kj7 t555 t556 t557 t558 (t524.extract ((ji43) : Int).toNat t524.size) t567 t568 t569 t570 t571 t574 t577 _ Sw.ht A49.out).mono ?_
            rintro e w61 ⟨v572, v575, rfl, ho0, ho1, hb⟩
            refine ⟨_, rfl, ?_⟩
            have HO573 := Aside0.mk (Kd.R_lower (Kd.R_new' (Kd.R_new' (Kd.R_new' (Kd.R_new' ho0 (Kd.R_lt (Sw.rt HO_8.out))) (Kd.R_lt (Sw.rt HO_9.out))) (Kd.R_lt (Sw.rt HO561.out))) (Kd.R_lt (Sw.rt HO564.out))) (below_size Sw.hb))
            have HO576 := Aside0.mk (Kd.R_lower (Kd.R_new' (Kd.R_new' (Kd.R_new' (Kd.R_new' ho1 (Kd.R_lt (Sw.rt HO_8.out))) (Kd.R_lt (Sw.rt HO_9.out))) (Kd.R_lt (Sw.rt HO561.out))) (Kd.R_lt (Sw.rt HO564.out))) (below_size Sw.hb))
            replace HO_8 := Aside0.mk (Kd.R_mono (Kd.R_told (Kd.R_told (Kd.R_old (Sw.rt HO_8.out) hb) (Kd.R_base ho0)) (Kd.R_base ho1)) (fun _ h_ => h_.1))
            replace HO_9 := Aside0.mk (Kd.R_mono (Kd.R_told (Kd.R_told (Kd.R_old (Sw.rt HO_9.out) hb) (Kd.R_base ho0)) (Kd.R_base ho1)) (fun _ h_ => h_.1))
            replace HO561 := Aside0.mk (Kd.R_mono (Kd.R_told (Kd.R_told (Kd.R_old (Sw.rt HO561.out) hb) (Kd.R_base ho0)) (Kd.R_base ho1)) (fun _ h_ => h_.1))
            replace HO564 := Aside0.mk (Kd.R_mono (Kd.R_told (Kd.R_told (Kd.R_old (Sw.rt HO564.out) hb) (Kd.R_base ho0)) (Kd.R_base ho1)) (fun _ h_ => h_.1))
            replace BK525 := Aside0.mk (Sw.bl BK525.out hb)
            replace BK537 := Aside0.mk (Sw.bl BK537.out hb)
            replace BK549 := Aside0.mk (Sw.bl BK549.out hb)
            replace BK566 := Aside0.mk (Sw.bl BK566.out hb)
            replace HB := Aside0.mk (below_step Sw.hb hb)
            (try clear hb)
            (try clear hb2)
            (try clear hk)
            (try clear hi)
            (try clear ho0)
            (try clear ho1)
            refine hK.out _ _ ⟨(blk_cell BK566.out 0).trans rfl, (blk_cell BK566.out 1).trans rfl, (blk_cell BK566.out 2).trans rfl, (blk_cell BK566.out 3).trans rfl⟩ (fun hHeld => ?_)
            clear hK K
            refine norm_ (a' := ?_) ?_ ?_
            rotate_left
            ·show Act.put _ (some 106) _ = _
             simp only [Act.put, List.setIfInBounds_toArray, List.set_cons_zero, List.set_cons_succ, i64_w, i32_w]
             rfl
            refine Sw.pw 5 101 (Sw.b 15 63) ?_
            refine Sw.pw 6 107 (Sw.b 15 127) ?_
            refine Sw.pw 7 108 (Sw.b 15 255) ?_
            refine Sw.pw 8 109 (Sw.b 15 511) ?_
            refine Sw.pw 9 110 (Sw.b 15 1023) ?_
            refine one_ (i := 10) (N := some 20) (Sw.b 15 2047) rfl rfl (one_of HT_.out (by kernel_rfl)) (by decide) (fun K hK => ?_)
            refine box_step ?hg (N := 20) ?hd (cs := #[.int .i64 0, .int .i64 0, .int .i64 0, .string (⟨#[]⟩ : ByteArray)]) (t := 25) ?hr ?_; (case hd => rfl); (case hg => rfl); (case hr => first | (go_simp; done) | (go_simp; rfl))
            intro gb578 hg w62 hbox hb
            replace HO_8 := Aside0.mk (Kd.R_below (Sw.rt HO_8.out) hb)
            replace HO_9 := Aside0.mk (Kd.R_below (Sw.rt HO_9.out) hb)
            replace HO561 := Aside0.mk (Kd.R_below (Sw.rt HO561.out) hb)
            replace HO564 := Aside0.mk (Kd.R_below (Sw.rt HO564.out) hb)
            replace HO573 := Aside0.mk (Kd.R_below (Sw.rt HO573.out) hb)
            replace HO576 := Aside0.mk (Kd.R_below (Sw.rt HO576.out) hb)
            have BK578 := Aside0.mk (hbox)
            have GW578 := Aside0.mk ((Sw.gs hg))
            have GE578 := Aside0.mk ((Sw.gs hg))
            replace HB := Aside0.mk (below_step Sw.hb hb)
            have NB525_578 := Aside0.mk (Sw.nl hg BK525.out)
            have NB578_525 := Aside0.mk (Sw.ng hg BK525.out)
            replace BK525 := Aside0.mk (Sw.bl BK525.out hb)
            have NB537_578 := Aside0.mk (Sw.nl hg BK537.out)
            have NB578_537 := Aside0.mk (Sw.ng hg BK537.out)
            replace BK537 := Aside0.mk (Sw.bl BK537.out hb)
            have NB549_578 := Aside0.mk (Sw.nl hg BK549.out)
            have NB578_549 := Aside0.mk (Sw.ng hg BK549.out)
            replace BK549 := Aside0.mk (Sw.bl BK549.out hb)
            have NB566_578 := Aside0.mk (Sw.nl hg BK566.out)
            have NB578_566 := Aside0.mk (Sw.ng hg BK566.out)
            replace BK566 := Aside0.mk (Sw.bl BK566.out hb)
            clear hb hbox hg
            refine hK.out _ _ ⟨(blk_cell BK566.out 0).trans rfl, (blk_cell BK566.out 1).trans rfl, (blk_cell BK566.out 2).trans rfl, (blk_cell BK566.out 3).trans rfl⟩ (fun hHeld => ?_)
            clear hK K
            refine norm_ (a' := ?_) ?_ ?_
            rotate_left
            ·show Act.put _ (some 20) _ = _
             simp only [Act.put, List.setIfInBounds_toArray, List.set_cons_zero, List.set_cons_succ, i64_w, i32_w]
             rfl
            exact norm_ Zb3_3 (hCont (v572, v575, gb578) _ ⟨hHeld, (Sw.rt (Kd.R_mono HO561.out (fun _ hk => ⟨hk.1.1.2.2, ⟨hk.1.2, ⟨hk.2, ⟨hk.1.1.1, hk.1.1.2.1⟩⟩⟩⟩))), (Sw.rt (Kd.R_mono HO564.out (fun _ hk => ⟨hk.1.1.2.2, ⟨hk.1.2, ⟨hk.2, ⟨hk.1.1.1, hk.1.1.2.1⟩⟩⟩⟩))), (Sw.rt (Kd.R_mono HO573.out (fun _ hk => ⟨hk.1.2, ⟨hk.2, ⟨hk.1.1.1.1, ⟨hk.1.1.1.2, hk.1.1.2⟩⟩⟩⟩))), (Sw.rt (Kd.R_mono HO576.out (fun _ hk => ⟨hk.1.2, ⟨hk.2, ⟨hk.1.1.1.1, ⟨hk.1.1.1.2, hk.1.1.2⟩⟩⟩⟩))), (Sw.rt (Kd.R_mono HO_8.out (fun _ hk => ⟨hk.1.1.2.1, ⟨hk.1.1.2.2, ⟨hk.1.2, ⟨hk.2, hk.1.1.1⟩⟩⟩⟩))), (Sw.rt (Kd.R_mono HO_9.out (fun _ hk => ⟨hk.1.1.2.1, ⟨hk.1.1.2.2, ⟨hk.1.2, ⟨hk.2, hk.1.1.1⟩⟩⟩⟩))), (Sw.bk BK525.out), (Sw.bk BK537.out), (Sw.bk BK549.out), (Sw.bk BK566.out), (Sw.bk BK578.out), GW578.out, GE578.out, NB525_578.out, NB578_525.out, NB537_578.out, NB578_537.out, NB549_578.out, NB578_549.out, NB566_578.out, NB578_566.out, Sw.hb⟩)
           ·skip
            refine box_step ?hg (N := 20) ?hd (cs := #[.int .i64 0, .int .i64 0, .int .i64 0, .string (⟨#[]⟩ : ByteArray)]) (t := 25) ?hr ?_; (case hd => rfl); (case hg => rfl); (case hr => first | (go_simp; done) | (go_simp; rfl))
            intro gb578 hg w61 hbox hb
            replace HO_8 := Aside0.mk (Kd.R_below (Sw.rt HO_8.out) hb)
            replace HO_9 := Aside0.mk (Kd.R_below (Sw.rt HO_9.out) hb)
            replace HO561 := Aside0.mk (Kd.R_below (Sw.rt HO561.out) hb)
            replace HO564 := Aside0.mk (Kd.R_below (Sw.rt HO564.out) hb)
            have BK578 := Aside0.mk (hbox)
            have GW578 := Aside0.mk ((Sw.gs hg))
            have GE578 := Aside0.mk ((Sw.gs hg))
            replace HB := Aside0.mk (below_step Sw.hb hb)
            have NB525_578 := Aside0.mk (Sw.nl hg BK525.out)
            have NB578_525 := Aside0.mk (Sw.ng hg BK525.out)
            replace BK525 := Aside0.mk (Sw.bl BK525.out hb)
            have NB537_578 := Aside0.mk (Sw.nl hg BK537.out)
            have NB578_537 := Aside0.mk (Sw.ng hg BK537.out)
            replace BK537 := Aside0.mk (Sw.bl BK537.out hb)
            have NB549_578 := Aside0.mk (Sw.nl hg BK549.out)
            have NB578_549 := Aside0.mk (Sw.ng hg BK549.out)
            replace BK549 := Aside0.mk (Sw.bl BK549.out hb)
            have NB566_578 := Aside0.mk (Sw.nl hg BK566.out)
            have NB578_566 := Aside0.mk (Sw.ng hg BK566.out)
            replace BK566 := Aside0.mk (Sw.bl BK566.out hb)
            clear hb hbox hg
            refine hK.out _ _ ⟨(blk_cell BK566.out 0).trans rfl, (blk_cell BK566.out 1).trans rfl, (blk_cell BK566.out 2).trans rfl, (blk_cell BK566.out 3).trans rfl⟩ (fun hHeld => ?_)
            clear hK K
            refine norm_ (a' := ?_) ?_ ?_
            rotate_left
            ·show Act.put _ (some 20) _ = _
             simp only [Act.put, List.setIfInBounds_toArray, List.set_cons_zero, List.set_cons_succ, i64_w, i32_w]
             rfl
            refine one_ (i := 4) (N := some 106) (Sw.b 15 1055) rfl rfl (one_of HT_.out (by kernel_rfl)) (by decide) (fun K hK => ?_)
            refine goes_ Tryd.func8 (by kernel_rfl) rfl #[.agg #[.int .i64 t555, .int .i64 t556, .int .i64 t557, .string t558], .string (t524.extract ((ji43) : Int).toNat t524.size)] (by rfl) rfl rfl Zb3_1 ?_
            with_reducible refine (impl_FeedDecoder.calls kj7 t555 t556 t557 t558 (t524.extract ((ji43) : Int).toNat t524.size) t567 t568 t569 t570 t571 t574 t577 _ Sw.ht A49.out).mono ?_
            rintro e w62 ⟨v572, v575, rfl, ho0, ho1, hb⟩
            refine ⟨_, rfl, ?_⟩
            have HO573 := Aside0.mk (Kd.R_lower (Kd.R_new' (Kd.R_new' (Kd.R_new' (Kd.R_new' ho0 (Kd.R_lt (Sw.rt HO_8.out))) (Kd.R_lt (Sw.rt HO_9.out))) (Kd.R_lt (Sw.rt HO561.out))) (Kd.R_lt (Sw.rt HO564.out))) (below_size Sw.hb))
            have HO576 := Aside0.mk (Kd.R_lower (Kd.R_new' (Kd.R_new' (Kd.R_new' (Kd.R_new' ho1 (Kd.R_lt (Sw.rt HO_8.out))) (Kd.R_lt (Sw.rt HO_9.out))) (Kd.R_lt (Sw.rt HO561.out))) (Kd.R_lt (Sw.rt HO564.out))) (below_size Sw.hb))
            replace HO_8 := Aside0.mk (Kd.R_mono (Kd.R_told (Kd.R_told (Kd.R_old (Sw.rt HO_8.out) hb) (Kd.R_base ho0)) (Kd.R_base ho1)) (fun _ h_ => h_.1))
            replace HO_9 := Aside0.mk (Kd.R_mono (Kd.R_told (Kd.R_told (Kd.R_old (Sw.rt HO_9.out) hb) (Kd.R_base ho0)) (Kd.R_base ho1)) (fun _ h_ => h_.1))
            replace HO561 := Aside0.mk (Kd.R_mono (Kd.R_told (Kd.R_told (Kd.R_old (Sw.rt HO561.out) hb) (Kd.R_base ho0)) (Kd.R_base ho1)) (fun _ h_ => h_.1))
            replace HO564 := Aside0.mk (Kd.R_mono (Kd.R_told (Kd.R_told (Kd.R_old (Sw.rt HO564.out) hb) (Kd.R_base ho0)) (Kd.R_base ho1)) (fun _ h_ => h_.1))
            replace BK525 := Aside0.mk (Sw.bl BK525.out hb)
            replace BK537 := Aside0.mk (Sw.bl BK537.out hb)
            replace BK549 := Aside0.mk (Sw.bl BK549.out hb)
            replace BK566 := Aside0.mk (Sw.bl BK566.out hb)
            replace BK578 := Aside0.mk (Sw.bl BK578.out hb)
            replace HB := Aside0.mk (below_step Sw.hb hb)
            (try clear hb)
            (try clear hb2)
            (try clear hk)
            (try clear hi)
            (try clear ho0)
            (try clear ho1)
            refine hK.out _ _ ⟨(blk_cell BK566.out 0).trans rfl, (blk_cell BK566.out 1).trans rfl, (blk_cell BK566.out 2).trans rfl, (blk_cell BK566.out 3).trans rfl⟩ (fun hHeld => ?_)
            clear hK K
            refine norm_ (a' := ?_) ?_ ?_
            rotate_left
            ·show Act.put _ (some 106) _ = _
             simp only [Act.put, List.setIfInBounds_toArray, List.set_cons_zero, List.set_cons_succ, i64_w, i32_w]
             rfl
            refine Sw.pw 5 101 (Sw.b 15 1087) ?_
            refine Sw.pw 6 107 (Sw.b 15 1151) ?_
            refine Sw.pw 7 108 (Sw.b 15 1279) ?_
            refine Sw.pw 8 109 (Sw.b 15 1535) ?_
            refine Sw.pw 9 110 (Sw.b 15 2047) ?_
            exact norm_ Zb3_3 (hCont (v572, v575, gb578) _ ⟨hHeld, (Sw.rt (Kd.R_mono HO561.out (fun _ hk => ⟨hk.1.1.2.2, ⟨hk.1.2, ⟨hk.2, ⟨hk.1.1.1, hk.1.1.2.1⟩⟩⟩⟩))), (Sw.rt (Kd.R_mono HO564.out (fun _ hk => ⟨hk.1.1.2.2, ⟨hk.1.2, ⟨hk.2, ⟨hk.1.1.1, hk.1.1.2.1⟩⟩⟩⟩))), (Sw.rt (Kd.R_mono HO573.out (fun _ hk => ⟨hk.1.2, ⟨hk.2, ⟨hk.1.1.1.1, ⟨hk.1.1.1.2, hk.1.1.2⟩⟩⟩⟩))), (Sw.rt (Kd.R_mono HO576.out (fun _ hk => ⟨hk.1.2, ⟨hk.2, ⟨hk.1.1.1.1, ⟨hk.1.1.1.2, hk.1.1.2⟩⟩⟩⟩))), (Sw.rt (Kd.R_mono HO_8.out (fun _ hk => ⟨hk.1.1.2.1, ⟨hk.1.1.2.2, ⟨hk.1.2, ⟨hk.2, hk.1.1.1⟩⟩⟩⟩))), (Sw.rt (Kd.R_mono HO_9.out (fun _ hk => ⟨hk.1.1.2.1, ⟨hk.1.1.2.2, ⟨hk.1.2, ⟨hk.2, hk.1.1.1⟩⟩⟩⟩))), (Sw.bk BK525.out), (Sw.bk BK537.out), (Sw.bk BK549.out), (Sw.bk BK566.out), (Sw.bk BK578.out), GW578.out, GE578.out, NB525_578.out, NB578_525.out, NB537_578.out, NB578_537.out, NB549_578.out, NB578_549.out, NB566_578.out, NB578_566.out, Sw.hb⟩)
          rintro ⟨v572, v575, gb578⟩ w63 ⟨hS_, h0_, h1_, h2_, h3_, h4_, h5_, h6_, h7_, h8_, h9_, h10_, h11_, h12_, h13_, h14_, h15_, h16_, h17_, h18_, h19_, h20_, h21_⟩
          have n0_ : Aside0 (Kd.R (Kd.int .i64) 3 w63 w.heap.size (fun k_ => some k_ ≠ (v563 : Value).ownBlock ∧ some k_ ≠ (v572 : Value).ownBlock ∧ some k_ ≠ (v575 : Value).ownBlock ∧ some k_ ≠ (v531 : Value).ownBlock ∧ some k_ ≠ (v534 : Value).ownBlock) v560 t559) := ⟨h0_⟩
          have n1_ : Aside0 (Kd.R (Kd.int .i64) 3 w63 w.heap.size (fun k_ => some k_ ≠ (v560 : Value).ownBlock ∧ some k_ ≠ (v572 : Value).ownBlock ∧ some k_ ≠ (v575 : Value).ownBlock ∧ some k_ ≠ (v531 : Value).ownBlock ∧ some k_ ≠ (v534 : Value).ownBlock) v563 t562) := ⟨h1_⟩
          have n2_ : Aside0 (Kd.R (Kd.int .i64) 3 w63 w.heap.size (fun k_ => some k_ ≠ (v560 : Value).ownBlock ∧ some k_ ≠ (v563 : Value).ownBlock ∧ some k_ ≠ (v575 : Value).ownBlock ∧ some k_ ≠ (v531 : Value).ownBlock ∧ some k_ ≠ (v534 : Value).ownBlock) v572 t571) := ⟨h2_⟩
          have n3_ : Aside0 (Kd.R (Kd.int .i64) 3 w63 w.heap.size (fun k_ => some k_ ≠ (v560 : Value).ownBlock ∧ some k_ ≠ (v563 : Value).ownBlock ∧ some k_ ≠ (v572 : Value).ownBlock ∧ some k_ ≠ (v531 : Value).ownBlock ∧ some k_ ≠ (v534 : Value).ownBlock) v575 t574) := ⟨h3_⟩
          have n4_ : Aside0 (Kd.R (Kd.int .i64) 3 w63 w.heap.size (fun k_ => some k_ ≠ (v560 : Value).ownBlock ∧ some k_ ≠ (v563 : Value).ownBlock ∧ some k_ ≠ (v572 : Value).ownBlock ∧ some k_ ≠ (v575 : Value).ownBlock ∧ some k_ ≠ (v534 : Value).ownBlock) v531 t530) := ⟨h4_⟩
          have n5_ : Aside0 (Kd.R (Kd.int .i64) 3 w63 w.heap.size (fun k_ => some k_ ≠ (v560 : Value).ownBlock ∧ some k_ ≠ (v563 : Value).ownBlock ∧ some k_ ≠ (v572 : Value).ownBlock ∧ some k_ ≠ (v575 : Value).ownBlock ∧ some k_ ≠ (v531 : Value).ownBlock) v534 t533) := ⟨h5_⟩
          have n6_ : Aside0 (w63.heap[gb525]? = some (.cells #[.int .i64 t520, .int .i64 t521, .int .i64 t522, .string t523] 25 (0, 0))) := ⟨h6_⟩
          have n7_ : Aside0 (w63.heap[gb537]? = some (.cells #[.int .i64 t526, .int .i64 t527, .int .i64 t528, .string t529] 25 (0, 0))) := ⟨h7_⟩
          have n8_ : Aside0 (w63.heap[gb549]? = some (.cells #[.int .i64 t538, .int .i64 t539, .int .i64 t540, .string t541] 25 (0, 0))) := ⟨h8_⟩
          have n9_ : Aside0 (w63.heap[gb566]? = some (.cells #[.int .i64 t555, .int .i64 t556, .int .i64 t557, .string t558] 25 (0, 0))) := ⟨h9_⟩
          have n10_ : Aside0 (w63.heap[gb578]? = some (.cells #[.int .i64 0, .int .i64 0, .int .i64 0, .string (⟨#[]⟩ : ByteArray)] 25 (0, 0))) := ⟨h10_⟩
          have n11_ : Aside0 (w.heap.size ≤ gb578) := ⟨h11_⟩
          have n12_ : Aside0 (w.heap.size ≤ gb578) := ⟨h12_⟩
          have n13_ : Aside0 (gb525 ≠ gb578) := ⟨h13_⟩
          have n14_ : Aside0 (gb578 ≠ gb525) := ⟨h14_⟩
          have n15_ : Aside0 (gb537 ≠ gb578) := ⟨h15_⟩
          have n16_ : Aside0 (gb578 ≠ gb537) := ⟨h16_⟩
          have n17_ : Aside0 (gb549 ≠ gb578) := ⟨h17_⟩
          have n18_ : Aside0 (gb578 ≠ gb549) := ⟨h18_⟩
          have n19_ : Aside0 (gb566 ≠ gb578) := ⟨h19_⟩
          have n20_ : Aside0 (gb578 ≠ gb566) := ⟨h20_⟩
          have n21_ : Aside0 (Below w.heap.size w w63) := ⟨h21_⟩
          clear HO_8
          clear HO_9
          clear HO561
          clear HO564
          clear BK525
          clear BK537
          clear BK549
          clear BK566
          clear HB
          clear h0_ h1_ h2_ h3_ h4_ h5_ h6_ h7_ h8_ h9_ h10_ h11_ h12_ h13_ h14_ h15_ h16_ h17_ h18_ h19_ h20_ h21_
          have HO561 := n0_
          have HO564 := n1_
          have HO573 := n2_
          have HO576 := n3_
          have HO_8 := n4_
          have HO_9 := n5_
          have BK525 := n6_
          have BK537 := n7_
          have BK549 := n8_
          have BK566 := n9_
          have BK578 := n10_
          have GW578 := n11_
          have GE578 := n12_
          have NB525_578 := n13_
          have NB578_525 := n14_
          have NB537_578 := n15_
          have NB578_537 := n16_
          have NB549_578 := n17_
          have NB578_549 := n18_
          have NB566_578 := n19_
          have NB578_566 := n20_
          have HB := n21_
          clear n0_ n1_ n2_ n3_ n4_ n5_ n6_ n7_ n8_ n9_ n10_ n11_ n12_ n13_ n14_ n15_ n16_ n17_ n18_ n19_ n20_ n21_
          have hHeld : w63.cell? ⟨gb566, 0, none⟩ = some (.int .i64 t555) ∧ w63.cell? ⟨gb566, 1, none⟩ = some (.int .i64 t556) ∧ w63.cell? ⟨gb566, 2, none⟩ = some (.int .i64 t557) ∧ w63.cell? ⟨gb566, 3, none⟩ = some (.string t558) := hS_
          refine norm_ (a' := ?_) ?_ ?_
          rotate_left
          ·simp only [putAll, Act.put, List.setIfInBounds_toArray, List.set_cons_zero, List.set_cons_succ]
           rfl
          refine one_ (i := 11) (N := none) (Sw.b 15 4095) rfl rfl (one_of HT_.out (by kernel_rfl)) (by decide) (fun K hK => ?_)
          have hs64 : w63.cell? ⟨gb578, 0, none⟩ = some (.int .i64 0) := (blk_cell BK578.out 0).trans rfl
          have hfs64 := blk_frozen BK578.out 0
          have hns64_0 := NB525_578.out
          have hns64_1 := NB537_578.out
          have hns64_2 := NB549_578.out
          have hns64_3 := NB566_578.out
          have hms64_0 := NB578_525.out
          have hms64_1 := NB578_537.out
          have hms64_2 := NB578_549.out
          have hms64_3 := NB578_566.out
          have hs65 : w63.cell? ⟨gb578, 1, none⟩ = some (.int .i64 0) := (blk_cell BK578.out 1).trans rfl
          have hfs65 := blk_frozen BK578.out 1
          have hns65_0 := NB525_578.out
          have hns65_1 := NB537_578.out
          have hns65_2 := NB549_578.out
          have hns65_3 := NB566_578.out
          have hms65_0 := NB578_525.out
          have hms65_1 := NB578_537.out
          have hms65_2 := NB578_549.out
          have hms65_3 := NB578_566.out
          have hs66 : w63.cell? ⟨gb578, 2, none⟩ = some (.int .i64 0) := (blk_cell BK578.out 2).trans rfl
          have hfs66 := blk_frozen BK578.out 2
          have hns66_0 := NB525_578.out
          have hns66_1 := NB537_578.out
          have hns66_2 := NB549_578.out
          have hns66_3 := NB566_578.out
          have hms66_0 := NB578_525.out
          have hms66_1 := NB578_537.out
          have hms66_2 := NB578_549.out
          have hms66_3 := NB578_566.out
          have hs67 : w63.cell? ⟨gb578, 3, none⟩ = some (.string (⟨#[]⟩ : ByteArray)) := (blk_cell BK578.out 3).trans rfl
          have hfs67 := blk_frozen BK578.out 3
          have hns67_0 := NB525_578.out
          have hns67_1 := NB537_578.out
          have hns67_2 := NB549_578.out
          have hns67_3 := NB566_578.out
          have hms67_0 := NB578_525.out
          have hms67_1 := NB578_537.out
          have hms67_2 := NB578_549.out
          have hms67_3 := NB578_566.out
          refine skip_ (w1 := ?_) (by rfl) rfl ?_ ?_
          rotate_left
          ·go_simp
           rfl
          refine hK.out _ _ ⟨((cell_far (p := ⟨gb578, _, none⟩) NB566_578.out _).trans (((cell_far (p := ⟨gb578, _, none⟩) NB566_578.out _).trans (((cell_far (p := ⟨gb578, _, none⟩) NB566_578.out _).trans (((cell_far (p := ⟨gb578, _, none⟩) NB566_578.out _).trans (hHeld.1)))))))), ((cell_far (p := ⟨gb578, _, none⟩) NB566_578.out _).trans (((cell_far (p := ⟨gb578, _, none⟩) NB566_578.out _).trans (((cell_far (p := ⟨gb578, _, none⟩) NB566_578.out _).trans (((cell_far (p := ⟨gb578, _, none⟩) NB566_578.out _).trans (hHeld.2.1)))))))), ((cell_far (p := ⟨gb578, _, none⟩) NB566_578.out _).trans (((cell_far (p := ⟨gb578, _, none⟩) NB566_578.out _).trans (((cell_far (p := ⟨gb578, _, none⟩) NB566_578.out _).trans (((cell_far (p := ⟨gb578, _, none⟩) NB566_578.out _).trans (hHeld.2.2.1)))))))), ((cell_far (p := ⟨gb578, _, none⟩) NB566_578.out _).trans (((cell_far (p := ⟨gb578, _, none⟩) NB566_578.out _).trans (((cell_far (p := ⟨gb578, _, none⟩) NB566_578.out _).trans (((cell_far (p := ⟨gb578, _, none⟩) NB566_578.out _).trans (hHeld.2.2.2))))))))⟩ (fun hHeld => ?_)
          clear hK K
          refine Sw.pw 12 21 (Sw.b 15 8191) ?_
          refine Sw.pw 13 22 (Sw.b 15 16383) ?_
          refine Sw.pw 14 23 (Sw.b 15 32767) ?_
          refine done_ (done_of HT_.out (by kernel_rfl)) ?_
          go_upto_region 12 with (fail)
          go_cut [135] (fun v135 wc => ∃ (kq : Nat) (x135_49 : Bool), v135 = .bool x135_49 ∧ Aside0 (laws_FnChunks.j1 kq l1 t524 t533 ji43 t565 x135_49 t520 t521 t522 t523 t526 t527 t528 t529 = some r) ∧ Aside0 (kq ≤ kj7) ∧ Aside0 (Kd.R (Kd.int .i64) 3 wc w.heap.size (fun _ => True) v534 t533) ∧ Aside0 (wc.heap[gb525]? = some (.cells #[.int .i64 t520, .int .i64 t521, .int .i64 t522, .string t523] 25 (0, 0))) ∧ Aside0 (wc.heap[gb537]? = some (.cells #[.int .i64 t526, .int .i64 t527, .int .i64 t528, .string t529] 25 (0, 0))) ∧ Aside0 (wc.heap[gb549]? = some (.cells #[.int .i64 t538, .int .i64 t539, .int .i64 t540, .string t541] 25 (0, 0))) ∧ Aside0 (wc.heap[gb566]? = some (.cells #[.int .i64 t555, .int .i64 t556, .int .i64 t557, .string t558] 25 (0, 0))) ∧ Aside0 (wc.heap[gb578]? = some (.cells #[.int .i64 t567, .int .i64 t568, .int .i64 t569, .string t570] 25 (0, 0))) ∧ Aside0 (Below w.heap.size w wc))
          case first => as_aux_lemma =>
           have H := HC50.out
           clear HC50
           by_cases c68 : t565 = true
           ·subst c68
            have H1 : (if t577 = true then (if (!(t567 == t526) || (!(t568 == t527) || (!(t569 == t528) || (!(t570.toList == t529.toList))))) = true then (none) else (if t559.length + t571.length < 17592186044416 then ((laws_sameInts.f kj7 (t559 ++ t571) t530).bind fun t582 => (if t582 = true then (if t562.length + t574.length < 17592186044416 then ((laws_sameInts.f kj7 (t562 ++ t574) t533).bind fun t586 => (laws_FnChunks.j1 kj7 l1 t524 t533 ji43 true (!t586) t520 t521 t522 t523 t526 t527 t528 t529)) else (none)) else (none))) else (none))) else (laws_FnChunks.j1 kj7 l1 t524 t533 ji43 true false t520 t521 t522 t523 t526 t527 t528 t529)) = some r := by rw [if_pos rfl] at H; exact H
            clear H
            have H := H1
            clear H1
            by_cases c69 : t577 = true
            ·subst c69
             have H1 : (if (!(t567 == t526) || (!(t568 == t527) || (!(t569 == t528) || (!(t570.toList == t529.toList))))) = true then (none) else (if t559.length + t571.length < 17592186044416 then ((laws_sameInts.f kj7 (t559 ++ t571) t530).bind fun t582 => (if t582 = true then (if t562.length + t574.length < 17592186044416 then ((laws_sameInts.f kj7 (t562 ++ t574) t533).bind fun t586 => (laws_FnChunks.j1 kj7 l1 t524 t533 ji43 true (!t586) t520 t521 t522 t523 t526 t527 t528 t529)) else (none)) else (none))) else (none))) = some r := by rw [if_pos rfl] at H; exact H
             clear H
             have H := H1
             clear H1
             by_cases c70 : (!(t567 == t526) || (!(t568 == t527) || (!(t569 == t528) || (!(t570.toList == t529.toList))))) = true
             ·rw [if_pos c70] at H
              exact absurd H (by simp)
             ·rw [if_neg c70] at H
              have c70b0 : (!(t567 == t526) || (!(t568 == t527) || (!(t569 == t528) || (!(t570.toList == t529.toList))))) = false := by simpa using c70
              clear c70
              (first | rw [c70b0] | (simp only [i64_w, i32_w]; rw [c70b0]) | skip)
              by_cases c71 : t559.length + t571.length < 17592186044416
              ·rw [if_pos c71] at H
               have LMc71 := Aside0.mk c71
               clear c71
               obtain ⟨y579, hy579⟩ : ∃ y_ : List Int, y_ = (t559 ++ t571) := ⟨_, rfl⟩
               replace H : ((laws_sameInts.f kj7 y579 t530).bind fun t582 => (if t582 = true then (if t562.length + t574.length < 17592186044416 then ((laws_sameInts.f kj7 (t562 ++ t574) t533).bind fun t586 => (laws_FnChunks.j1 kj7 l1 t524 t533 ji43 true (!t586) t520 t521 t522 t523 t526 t527 t528 t529)) else (none)) else (none))) = some r := by first | (rw [hy579]; with_reducible exact H) | (have H2_ := (Option.bind_some _ _).symm.trans H; rw [hy579]; with_reducible exact H2_) | (have H2_ := (Option.bind_some _ _).symm.trans H; with_reducible exact H2_) | with_reducible exact H | (rw [hy579]; exact H) | exact H
               have Ny579 := Aside0.mk hy579
               clear hy579
               replace H := Option.bind_eq_some_iff.mp H
               obtain ⟨t582, A720, H⟩ := H
               replace H : (if t582 = true then (if t562.length + t574.length < 17592186044416 then ((laws_sameInts.f kj7 (t562 ++ t574) t533).bind fun t586 => (laws_FnChunks.j1 kj7 l1 t524 t533 ji43 true (!t586) t520 t521 t522 t523 t526 t527 t528 t529)) else (none)) else (none)) = some r := H
               have A72 := Aside0.mk A720
               clear A720
               by_cases c73 : t582 = true
               ·subst c73
                have H1 : (if t562.length + t574.length < 17592186044416 then ((laws_sameInts.f kj7 (t562 ++ t574) t533).bind fun t586 => (laws_FnChunks.j1 kj7 l1 t524 t533 ji43 true (!t586) t520 t521 t522 t523 t526 t527 t528 t529)) else (none)) = some r := by rw [if_pos rfl] at H; exact H
                clear H
                have H := H1
                clear H1
                by_cases c74 : t562.length + t574.length < 17592186044416
                ·rw [if_pos c74] at H
                 have LMc74 := Aside0.mk c74
                 clear c74
                 obtain ⟨y583, hy583⟩ : ∃ y_ : List Int, y_ = (t562 ++ t574) := ⟨_, rfl⟩
                 replace H : ((laws_sameInts.f kj7 y583 t533).bind fun t586 => (laws_FnChunks.j1 kj7 l1 t524 t533 ji43 true (!t586) t520 t521 t522 t523 t526 t527 t528 t529)) = some r := by first | (rw [hy583]; with_reducible exact H) | (have H2_ := (Option.bind_some _ _).symm.trans H; rw [hy583]; with_reducible exact H2_) | (have H2_ := (Option.bind_some _ _).symm.trans H; with_reducible exact H2_) | with_reducible exact H | (rw [hy583]; exact H) | exact H
                 have Ny583 := Aside0.mk hy583
                 clear hy583
                 replace H := Option.bind_eq_some_iff.mp H
                 obtain ⟨t586, A750, H⟩ := H
                 replace H : (laws_FnChunks.j1 kj7 l1 t524 t533 ji43 true (!t586) t520 t521 t522 t523 t526 t527 t528 t529) = some r := H
                 have A75 := Aside0.mk A750
                 clear A750
                 have H' := Aside0.mk H
                 clear H
                 have hnb76 := NB578_525.out
                 have hnc76 := NB525_578.out
                 have hnb77 := NB578_537.out
                 have hnc77 := NB537_578.out
                 have hnb78 := NB578_549.out
                 have hnc78 := NB549_578.out
                 have hnb79 := NB578_566.out
                 have hnc79 := NB566_578.out
                 obtain ⟨hcz80_0, hcz80_1, hcz80_2, hcz80_3⟩ := Sw.cz4 BK578.out
                 obtain ⟨hfz80_0, hfz80_1, hfz80_2, hfz80_3⟩ := Sw.fz4 BK578.out
                 have hnb81 := NB537_525.out
                 have hnc81 := NB525_537.out
                 have hnb82 := NB537_549.out
                 have hnc82 := NB549_537.out
                 have hnb83 := NB537_566.out
                 have hnc83 := NB566_537.out
                 obtain ⟨hcz84_0, hcz84_1, hcz84_2, hcz84_3⟩ := Sw.cz4 BK537.out
                 obtain ⟨hfz84_0, hfz84_1, hfz84_2, hfz84_3⟩ := Sw.fz4 BK537.out
                 obtain ⟨Ao86, co86, eo86⟩ := Kd.R_slice HO573.out
                 subst eo86
                 go_wp2_with (first | ((with_reducible refine gate_builtin (b := .append) (xs := #[.tmp 120, .tmp 121]) rfl ?_); (try (refine gate_guard (by rfl) ?_; dsimp only)); at_builtin; refine Kd.R_append_rows (Kd.int .i64) (w0 := w) w.heap.size rfl (.tmp 120) (.tmp 121) 28 3 (.int .i64 0) 8 rfl Tryd.underlying28 info3 rfl (by decide) (by omega) v560 t559 t571 _ _ _ (fun k_ => some k_ ≠ (v531 : Value).ownBlock ∧ some k_ ≠ (v534 : Value).ownBlock ∧ some k_ ≠ (v563 : Value).ownBlock ∧ some k_ ≠ (.slice Ao86 t571.length co86 : Value).ownBlock ∧ some k_ ≠ (v575 : Value).ownBlock) (fun _ => False) rfl rfl ?aO ?aR (fun _ _ h => h) (fun _ h => h.elim) ?aF ?aB ?aS ?aL ?_; (case aR => refine (Kd.R_reads' (e := 3) (base := w.heap.size) (ok := fun k_ => (some k_ ≠ (v560 : Value).ownBlock ∧ (some k_ ≠ (v563 : Value).ownBlock ∧ (some k_ ≠ (v575 : Value).ownBlock ∧ (some k_ ≠ (v531 : Value).ownBlock ∧ some k_ ≠ (v534 : Value).ownBlock))))) (n := t571.length) (c := co86) ?_).2.2; exact (Sw.rt (Sw.g0_1_2_3 HO573.out BK578.out))); (case aB => exact Sw.hb); (case aF => exact (fun k_ hk => ⟨Kd.fresh' (Kd.R_lt (Sw.rt (Sw.g0_1_2_3 HO_8.out BK578.out))) k_ hk, Kd.fresh' (Kd.R_lt (Sw.rt (Sw.g0_1_2_3 HO_9.out BK578.out))) k_ hk, Kd.fresh' (Kd.R_lt (Sw.rt (Sw.g0_1_2_3 HO564.out BK578.out))) k_ hk, Kd.fresh' (Kd.R_lt (Sw.rt (Sw.g0_1_2_3 HO573.out BK578.out))) k_ hk, Kd.fresh' (Kd.R_lt (Sw.rt (Sw.g0_1_2_3 HO576.out BK578.out))) k_ hk⟩)); (case aO => exact (Sw.rt (Kd.R_mono (Sw.f0_1_2_3 HO561.out BK578.out) (fun _ hk => ⟨hk.1.2.2.2.1, ⟨hk.1.2.2.2.2, ⟨hk.1.1, ⟨hk.1.2.1, hk.1.2.2.1⟩⟩⟩⟩)))); (case aS => exact (below_size Sw.hb)); (case aL => have := LMc71.out; omega); intro v580 w85 ho hb hg hat; rw [← Ny579.out] at ho; replace HO_8 := Aside0.mk (Kd.R_after (ok := (fun k_ => some k_ ≠ (v534 : Value).ownBlock ∧ some k_ ≠ (v563 : Value).ownBlock ∧ some k_ ≠ (.slice Ao86 t571.length co86 : Value).ownBlock ∧ some k_ ≠ (v575 : Value).ownBlock)) (Sw.rt (Kd.R_mono (Sw.f0_1_2_3 HO_8.out BK578.out) (fun _ hk => ⟨⟨hk.1.2.2.2.2, ⟨hk.1.2.1, ⟨hk.1.2.2.1, hk.1.2.2.2.1⟩⟩⟩, hk.1.1⟩))) hg hat); replace HO_9 := Aside0.mk (Kd.R_after (ok := (fun k_ => some k_ ≠ (v531 : Value).ownBlock ∧ some k_ ≠ (v563 : Value).ownBlock ∧ some k_ ≠ (.slice Ao86 t571.length co86 : Value).ownBlock ∧ some k_ ≠ (v575 : Value).ownBlock)) (Sw.rt (Kd.R_mono (Sw.f0_1_2_3 HO_9.out BK578.out) (fun _ hk => ⟨⟨hk.1.2.2.2.2, ⟨hk.1.2.1, ⟨hk.1.2.2.1, hk.1.2.2.2.1⟩⟩⟩, hk.1.1⟩))) hg hat); replace BK525 := Aside0.mk (blk_grown (g := gb525) (o := .cells #[.int .i64 t520, .int .i64 t521, .int .i64 t522, .string t523] 25 (0, 0)) (Sw.bf BK525.out NB525_578.out) hg (Kd.R_ne HO561.out BK525.out (by decide))); replace BK537 := Aside0.mk (blk_grown (g := gb537) (o := .cells #[.int .i64 t526, .int .i64 t527, .int .i64 t528, .string t529] 25 (0, 0)) (Sw.bf BK537.out NB537_578.out) hg (Kd.R_ne HO561.out BK537.out (by decide))); replace BK549 := Aside0.mk (blk_grown (g := gb549) (o := .cells #[.int .i64 t538, .int .i64 t539, .int .i64 t540, .string t541] 25 (0, 0)) (Sw.bf BK549.out NB549_578.out) hg (Kd.R_ne HO561.out BK549.out (by decide))); replace HO564 := Aside0.mk (Kd.R_after (ok := (fun k_ => some k_ ≠ (v531 : Value).ownBlock ∧ some k_ ≠ (v534 : Value).ownBlock ∧ some k_ ≠ (.slice Ao86 t571.length co86 : Value).ownBlock ∧ some k_ ≠ (v575 : Value).ownBlock)) (Sw.rt (Kd.R_mono (Sw.f0_1_2_3 HO564.out BK578.out) (fun _ hk => ⟨⟨hk.1.2.2.2.1, ⟨hk.1.2.2.2.2, ⟨hk.1.2.1, hk.1.2.2.1⟩⟩⟩, hk.1.1⟩))) hg hat); replace BK566 := Aside0.mk (blk_grown (g := gb566) (o := .cells #[.int .i64 t555, .int .i64 t556, .int .i64 t557, .string t558] 25 (0, 0)) (Sw.bf BK566.out NB566_578.out) hg (Kd.R_ne HO561.out BK566.out (by decide))); replace HO573 := Aside0.mk (Kd.R_after (ok := (fun k_ => some k_ ≠ (v531 : Value).ownBlock ∧ some k_ ≠ (v534 : Value).ownBlock ∧ some k_ ≠ (v563 : Value).ownBlock ∧ some k_ ≠ (v575 : Value).ownBlock)) (Sw.rt (Kd.R_mono (Sw.f0_1_2_3 HO573.out BK578.out) (fun _ hk => ⟨⟨hk.1.2.2.2.1, ⟨hk.1.2.2.2.2, ⟨hk.1.2.1, hk.1.2.2.1⟩⟩⟩, hk.1.1⟩))) hg hat); replace HO576 := Aside0.mk (Kd.R_after (ok := (fun k_ => some k_ ≠ (v531 : Value).ownBlock ∧ some k_ ≠ (v534 : Value).ownBlock ∧ some k_ ≠ (v563 : Value).ownBlock ∧ some k_ ≠ (.slice Ao86 t571.length co86 : Value).ownBlock)) (Sw.rt (Kd.R_mono (Sw.f0_1_2_3 HO576.out BK578.out) (fun _ hk => ⟨⟨hk.1.2.2.2.1, ⟨hk.1.2.2.2.2, ⟨hk.1.2.1, hk.1.2.2.1⟩⟩⟩, hk.1.1⟩))) hg hat); replace BK578 := Aside0.mk (blk_grown (g := gb578) (o := .cells #[.int .i64 t567, .int .i64 t568, .int .i64 t569, .string t570] 25 (0, 0)) (Sw.bp (Sw.p0_1_2_3 BK578.out)) hg (Kd.R_ne HO561.out BK578.out (by decide))); replace HB := Aside0.mk (hb); have HO581 := Aside0.mk (ho); clear HO561; clear ho hb hg hat; obtain ⟨Ao87, co87, eo87⟩ := Kd.R_slice HO581.out; subst eo87; obtain ⟨Ao88, co88, eo88⟩ := Kd.R_slice HO_8.out; subst eo88) | (go_at_call 10; (with_reducible refine (laws_sameInts.calls kj7 _ _ y579 _ _ t530 true _ ?side1 ?side2 ?side3 ?side4 A72.out).mono ?_); (case side1 => repeat (first | exact (Kd.R_reads' HO581.out).2.2 | (with_reducible refine Kd.C_alloc ?_ _) | (with_reducible refine Kd.C_drewN ?_ _) | (with_reducible refine Kd.C_drew ?_))); (case side2 => exact (Kd.R_reads' HO581.out).2.1); (case side3 => repeat (first | exact (Kd.R_reads' HO_8.out).2.2 | (with_reducible refine Kd.C_alloc ?_ _) | (with_reducible refine Kd.C_drewN ?_ _) | (with_reducible refine Kd.C_drew ?_))); (case side4 => exact (Kd.R_reads' HO_8.out).2.1); rintro e w' ⟨rfl, ⟨nd, rfl⟩⟩; obtain ⟨Ao90, co90, eo90⟩ := Kd.R_slice HO576.out; subst eo90) | ((with_reducible refine gate_builtin (b := .append) (xs := #[.tmp 128, .tmp 129]) rfl ?_); (try (refine gate_guard (by rfl) ?_; dsimp only)); at_builtin; refine Kd.R_append_rows (Kd.int .i64) (w0 := w) w.heap.size rfl (.tmp 128) (.tmp 129) 28 3 (.int .i64 0) 8 rfl Tryd.underlying28 info3 rfl (by decide) (by omega) v563 t562 t574 _ _ _ (fun k_ => some k_ ≠ (.slice Ao88 t530.length co88 : Value).ownBlock ∧ some k_ ≠ (v534 : Value).ownBlock ∧ some k_ ≠ (.slice Ao86 t571.length co86 : Value).ownBlock ∧ some k_ ≠ (.slice Ao90 t574.length co90 : Value).ownBlock ∧ some k_ ≠ (.slice Ao87 y579.length co87 : Value).ownBlock) (fun _ => False) rfl rfl ?aO ?aR (fun _ _ h => h) (fun _ h => h.elim) ?aF ?aB ?aS ?aL ?_; (case aR => repeat (first | exact (Kd.R_reads' HO576.out).2.2 | (with_reducible refine Kd.C_alloc ?_ _) | (with_reducible refine Kd.C_drewN ?_ _) | (with_reducible refine Kd.C_drew ?_))); (case aB => exact Sw.hb); (case aF => exact (fun k_ hk => ⟨Kd.fresh' (Kd.R_lt (Sw.rt HO_8.out)) k_ hk, Kd.fresh' (Kd.R_lt (Sw.rt HO_9.out)) k_ hk, Kd.fresh' (Kd.R_lt (Sw.rt HO573.out)) k_ hk, Kd.fresh' (Kd.R_lt (Sw.rt HO576.out)) k_ hk, Kd.fresh' (Kd.R_lt (Sw.rt HO581.out)) k_ hk⟩)); (case aO => exact (Sw.rt (Kd.R_mono HO564.out (fun _ hk => ⟨hk.1.1, ⟨hk.1.2.1, ⟨hk.1.2.2.1, ⟨hk.1.2.2.2, hk.2⟩⟩⟩⟩)))); (case aS => exact (below_size Sw.hb)); (case aL => have := LMc74.out; omega); intro v584 w89 ho hb hg hat; rw [← Ny583.out] at ho; replace HO_8 := Aside0.mk (Kd.R_after (ok := (fun k_ => some k_ ≠ (v534 : Value).ownBlock ∧ some k_ ≠ (.slice Ao86 t571.length co86 : Value).ownBlock ∧ some k_ ≠ (.slice Ao90 t574.length co90 : Value).ownBlock ∧ some k_ ≠ (.slice Ao87 y579.length co87 : Value).ownBlock)) (Sw.rt (Kd.R_mono HO_8.out (fun _ hk => ⟨⟨hk.1.1, ⟨hk.1.2.2.1, ⟨hk.1.2.2.2, hk.2⟩⟩⟩, hk.1.2.1⟩))) hg hat); replace HO_9 := Aside0.mk (Kd.R_after (ok := (fun k_ => some k_ ≠ (.slice Ao88 t530.length co88 : Value).ownBlock ∧ some k_ ≠ (.slice Ao86 t571.length co86 : Value).ownBlock ∧ some k_ ≠ (.slice Ao90 t574.length co90 : Value).ownBlock ∧ some k_ ≠ (.slice Ao87 y579.length co87 : Value).ownBlock)) (Sw.rt (Kd.R_mono HO_9.out (fun _ hk => ⟨⟨hk.1.1, ⟨hk.1.2.2.1, ⟨hk.1.2.2.2, hk.2⟩⟩⟩, hk.1.2.1⟩))) hg hat); replace BK525 := Aside0.mk (blk_grown (g := gb525) (o := .cells #[.int .i64 t520, .int .i64 t521, .int .i64 t522, .string t523] 25 (0, 0)) (Sw.bk BK525.out) hg (Kd.R_ne HO564.out BK525.out (by decide))); replace BK537 := Aside0.mk (blk_grown (g := gb537) (o := .cells #[.int .i64 t526, .int .i64 t527, .int .i64 t528, .string t529] 25 (0, 0)) (Sw.bk BK537.out) hg (Kd.R_ne HO564.out BK537.out (by decide))); replace BK549 := Aside0.mk (blk_grown (g := gb549) (o := .cells #[.int .i64 t538, .int .i64 t539, .int .i64 t540, .string t541] 25 (0, 0)) (Sw.bk BK549.out) hg (Kd.R_ne HO564.out BK549.out (by decide))); replace BK566 := Aside0.mk (blk_grown (g := gb566) (o := .cells #[.int .i64 t555, .int .i64 t556, .int .i64 t557, .string t558] 25 (0, 0)) (Sw.bk BK566.out) hg (Kd.R_ne HO564.out BK566.out (by decide))); replace HO573 := Aside0.mk (Kd.R_after (ok := (fun k_ => some k_ ≠ (.slice Ao88 t530.length co88 : Value).ownBlock ∧ some k_ ≠ (v534 : Value).ownBlock ∧ some k_ ≠ (.slice Ao90 t574.length co90 : Value).ownBlock ∧ some k_ ≠ (.slice Ao87 y579.length co87 : Value).ownBlock)) (Sw.rt (Kd.R_mono HO573.out (fun _ hk => ⟨⟨hk.1.1, ⟨hk.1.2.1, ⟨hk.1.2.2.2, hk.2⟩⟩⟩, hk.1.2.2.1⟩))) hg hat); replace HO576 := Aside0.mk (Kd.R_after (ok := (fun k_ => some k_ ≠ (.slice Ao88 t530.length co88 : Value).ownBlock ∧ some k_ ≠ (v534 : Value).ownBlock ∧ some k_ ≠ (.slice Ao86 t571.length co86 : Value).ownBlock ∧ some k_ ≠ (.slice Ao87 y579.length co87 : Value).ownBlock)) (Sw.rt (Kd.R_mono HO576.out (fun _ hk => ⟨⟨hk.1.1, ⟨hk.1.2.1, ⟨hk.1.2.2.2, hk.2⟩⟩⟩, hk.1.2.2.1⟩))) hg hat); replace BK578 := Aside0.mk (blk_grown (g := gb578) (o := .cells #[.int .i64 t567, .int .i64 t568, .int .i64 t569, .string t570] 25 (0, 0)) (Sw.bk BK578.out) hg (Kd.R_ne HO564.out BK578.out (by decide))); replace HO581 := Aside0.mk (Kd.R_after (ok := (fun k_ => some k_ ≠ (.slice Ao88 t530.length co88 : Value).ownBlock ∧ some k_ ≠ (v534 : Value).ownBlock ∧ some k_ ≠ (.slice Ao86 t571.length co86 : Value).ownBlock ∧ some k_ ≠ (.slice Ao90 t574.length co90 : Value).ownBlock)) (Sw.rt (Kd.R_mono HO581.out (fun _ hk => ⟨⟨hk.1, ⟨hk.2.1, ⟨hk.2.2.2.1, hk.2.2.2.2⟩⟩⟩, hk.2.2.1⟩))) hg hat); replace HB := Aside0.mk (hb); have HO585 := Aside0.mk (ho); clear HO564; clear ho hb hg hat; obtain ⟨Ao91, co91, eo91⟩ := Kd.R_slice HO585.out; subst eo91; obtain ⟨Ao92, co92, eo92⟩ := Kd.R_slice HO_9.out; subst eo92) | (go_at_call 10; (with_reducible refine (laws_sameInts.calls kj7 _ _ y583 _ _ t533 t586 _ ?side1 ?side2 ?side3 ?side4 A75.out).mono ?_); (case side1 => repeat (first | exact (Kd.R_reads' HO585.out).2.2 | (with_reducible refine Kd.C_alloc ?_ _) | (with_reducible refine Kd.C_drewN ?_ _) | (with_reducible refine Kd.C_drew ?_))); (case side2 => exact (Kd.R_reads' HO585.out).2.1); (case side3 => repeat (first | exact (Kd.R_reads' HO_9.out).2.2 | (with_reducible refine Kd.C_alloc ?_ _) | (with_reducible refine Kd.C_drewN ?_ _) | (with_reducible refine Kd.C_drew ?_))); (case side4 => exact (Kd.R_reads' HO_9.out).2.1); rintro e w' ⟨rfl, ⟨nd, rfl⟩⟩))
                 try (any_goals (exfalso; simp only [Bool.or_eq_false_iff, Bool.not_eq_false', beq_iff_eq] at c70b0; obtain ⟨q0_, q1_, q2_, q3_⟩ := c70b0; contradiction))
                 go_meet
                 case rel => exact ⟨_, (!t586), Sw.r, H', ⟨Zb3_8⟩, ⟨Sw.rt (Kd.R_mono HO_9.out (fun _ hk => trivial))⟩, ⟨Sw.bk BK525.out⟩, ⟨Sw.bk BK537.out⟩, ⟨Sw.bk BK549.out⟩, ⟨Sw.bk BK566.out⟩, ⟨Sw.bk BK578.out⟩, ⟨Sw.hb⟩⟩
                ·rw [if_neg c74] at H
                 exact absurd H (by simp)
               ·replace c73 := Bool.eq_false_iff.mpr c73
                subst c73
                have H1 : (none) = some r := by rw [if_neg (show ¬ (false = true) by decide)] at H; exact H
                clear H
                have H := H1
                clear H1
                exact absurd H (by simp)
              ·rw [if_neg c71] at H
               exact absurd H (by simp)
            ·replace c69 := Bool.eq_false_iff.mpr c69
             subst c69
             have H1 : (laws_FnChunks.j1 kj7 l1 t524 t533 ji43 true false t520 t521 t522 t523 t526 t527 t528 t529) = some r := by rw [if_neg (show ¬ (false = true) by decide)] at H; exact H
             clear H
             have H := H1
             clear H1
             have H' := Aside0.mk H
             clear H
             go_wp2
             go_meet
             case rel => exact ⟨_, (false), Sw.r, H', ⟨Zb3_8⟩, ⟨Sw.rt (Kd.R_mono (Sw.f0_1_2_3 HO_9.out BK578.out) (fun _ hk => trivial))⟩, ⟨Sw.bf BK525.out NB525_578.out⟩, ⟨Sw.bf BK537.out NB537_578.out⟩, ⟨Sw.bf BK549.out NB549_578.out⟩, ⟨Sw.bf BK566.out NB566_578.out⟩, ⟨Sw.bp (Sw.p0_1_2_3 BK578.out)⟩, ⟨Sw.hb⟩⟩
           ·replace c68 := Bool.eq_false_iff.mpr c68
            subst c68
            have H1 : (laws_FnChunks.j1 kj7 l1 t524 t533 ji43 false false t520 t521 t522 t523 t526 t527 t528 t529) = some r := by rw [if_neg (show ¬ (false = true) by decide)] at H; exact H
            clear H
            have H := H1
            clear H1
            have H' := Aside0.mk H
            clear H
            go_wp2
            go_meet
            case rel => exact ⟨_, (false), Sw.r, H', ⟨Zb3_8⟩, ⟨Sw.rt (Kd.R_mono (Sw.f0_1_2_3 HO_9.out BK578.out) (fun _ hk => trivial))⟩, ⟨Sw.bf BK525.out NB525_578.out⟩, ⟨Sw.bf BK537.out NB537_578.out⟩, ⟨Sw.bf BK549.out NB549_578.out⟩, ⟨Sw.bf BK566.out NB566_578.out⟩, ⟨Sw.bp (Sw.p0_1_2_3 BK578.out)⟩, ⟨Sw.hb⟩⟩
          case rest => as_aux_lemma =>
           clear HC50
           try clear p2
           try clear c6
           try clear c7
           try clear c8
           try clear c68
           try clear c69
           try clear c70
           try clear c70b0
           try clear c71
           try clear c73
           try clear c74
           try clear c76
           try clear c77
           try clear c78
           try clear c79
           try clear c81
           try clear c82
           try clear c83
           try clear hcz80_0 hcz80_1 hcz80_2 hcz80_3
           try clear hcz84_0 hcz84_1 hcz84_2 hcz84_3
           try clear hfz80_0 hfz80_1 hfz80_2 hfz80_3
           try clear hfz84_0 hfz84_1 hfz84_2 hfz84_3
           obtain ⟨kq, x135_49, rfl, HA, HJ49, HO_9, BK525, BK537, BK549, BK566, BK578, HB⟩ := hcut
           cases kq with
           | zero => exact absurd HA.out (by simp [laws_FnChunks.j1])
           | succ kj49 =>
            have H := HA.out
            clear HA
            simp only [laws_FnChunks.j1] at H
            by_cases c93 : x135_49 = true
            ·subst c93
             have H1 : (none) = some r := by rw [if_pos rfl] at H; exact H
             clear H
             have H := H1
             clear H1
             exact absurd H (by simp)
            ·replace c93 := Bool.eq_false_iff.mpr c93
             subst c93
             have H1 : (if t565 = true then ((laws_sum.f kj49 t533).bind fun t587 => (if (wrap64 ((wrap64 (t587 + (t529.size : Int))) + t528)) = (wrap64 ((wrap64 ((t524.size : Int) + (t523.size : Int))) + t522)) then (laws_FnChunks.j2 kj49 l1) else (none))) else (if (wrap64 (t522 + ji43)) ≤ 1000 then (none) else ((laws_sum.f kj49 t533).bind fun t588 => (if (wrap64 ((wrap64 (t588 + (t529.size : Int))) + t528)) = (wrap64 ((wrap64 ((t524.size : Int) + (t523.size : Int))) + t522)) then (laws_FnChunks.j2 kj49 l1) else (none))))) = some r := by rw [if_neg (show ¬ (false = true) by decide)] at H; exact H
             clear H
             have H := H1
             clear H1
             by_cases c94 : t565 = true
             ·subst c94
              have H1 : ((laws_sum.f kj49 t533).bind fun t587 => (if (wrap64 ((wrap64 (t587 + (t529.size : Int))) + t528)) = (wrap64 ((wrap64 ((t524.size : Int) + (t523.size : Int))) + t522)) then (laws_FnChunks.j2 kj49 l1) else (none))) = some r := by rw [if_pos rfl] at H; exact H
              clear H
              have H := H1
              clear H1
              replace H := Option.bind_eq_some_iff.mp H
              obtain ⟨t587, A950, H⟩ := H
              replace H : (if (wrap64 ((wrap64 (t587 + (t529.size : Int))) + t528)) = (wrap64 ((wrap64 ((t524.size : Int) + (t523.size : Int))) + t522)) then (laws_FnChunks.j2 kj49 l1) else (none)) = some r := H
              have A95 := Aside0.mk A950
              clear A950
              by_cases c96 : (wrap64 ((wrap64 (t587 + (t529.size : Int))) + t528)) = (wrap64 ((wrap64 ((t524.size : Int) + (t523.size : Int))) + t522))
              ·rw [if_pos c96] at H
               have c96b0 : ((wrap64 ((wrap64 (t587 + (t529.size : Int))) + t528)) == (wrap64 ((wrap64 ((t524.size : Int) + (t523.size : Int))) + t522))) = true := beq_iff_eq.mpr c96
               have c96b1 : ((wrap64 ((wrap64 (t587 + (t529.size : Int))) + t528)) != (wrap64 ((wrap64 ((t524.size : Int) + (t523.size : Int))) + t522))) = false := bne_eq_false_iff_eq.mpr c96
               clear c96
               have H' := Aside0.mk H
               clear H
               try go_wp2
               replace HO_9 := Aside0.mk (Kd.R_drew HO_9.out)
               replace BK525 := Aside0.mk (blk_drew BK525.out)
               replace BK537 := Aside0.mk (blk_drew BK537.out)
               replace BK549 := Aside0.mk (blk_drew BK549.out)
               replace BK566 := Aside0.mk (blk_drew BK566.out)
               replace BK578 := Aside0.mk (blk_drew BK578.out)
               replace HB := Aside0.mk (below_drew1 HB.out)
               obtain ⟨Ao98, co98, eo98⟩ := Kd.R_slice HO_9.out
               (first | subst eo98 | (injection eo98 with f1_ f2_ f3_; have f4_ := f1_.symm; have f5_ := f3_.symm; clear f1_ f2_ f3_; subst f4_; subst f5_))
               refine start_ (n := 30) (S := fun w' => w'.cell? ⟨gb537, 0, none⟩ = some (.int .i64 t526) ∧ w'.cell? ⟨gb537, 1, none⟩ = some (.int .i64 t527) ∧ w'.cell? ⟨gb537, 2, none⟩ = some (.int .i64 t528) ∧ w'.cell? ⟨gb537, 3, none⟩ = some (.string t529) ∧ w'.cell? ⟨gb525, 0, none⟩ = some (.int .i64 t520) ∧ w'.cell? ⟨gb525, 1, none⟩ = some (.int .i64 t521) ∧ w'.cell? ⟨gb525, 2, none⟩ = some (.int .i64 t522) ∧ w'.cell? ⟨gb525, 3, none⟩ = some (.string t523)) (ds := []) (Sw.b 30 0) (by kernel_rfl) rfl rfl ⟨(blk_cell BK537.out 0).trans rfl, (blk_cell BK537.out 1).trans rfl, (blk_cell BK537.out 2).trans rfl, (blk_cell BK537.out 3).trans rfl, (blk_cell BK525.out 0).trans rfl, (blk_cell BK525.out 1).trans rfl, (blk_cell BK525.out 2).trans rfl, (blk_cell BK525.out 3).trans rfl⟩ (fun hHeld => ?_); refine with_tabW laws_FnChunks.tab14 laws_FnChunks.bits14 (fun HT_ HW_ => ?_)
               generalize wc.drew = w97 at HO_9 BK525 BK537 BK549 BK566 BK578 HB hHeld ⊢
               refine Sw.pw 0 136 (Sw.b 30 1) ?_
               refine Sw.pw 1 137 (Sw.b 30 3) ?_
               refine Sw.pw 2 138 (Sw.b 30 7) ?_
               refine Sw.pz 3 139 (Sw.b 30 15) ?_
               refine Sw.pz 4 140 (Sw.b 30 31) ?_
               refine Sw.pz 5 141 (Sw.b 30 63) ?_
               refine Sw.pz 6 142 (Sw.b 30 127) ?_
               refine Sw.pz 7 143 (Sw.b 30 255) ?_
               refine Sw.pw 8 144 (Sw.b 30 511) ?_
               refine Sw.pw 9 145 (Sw.b 30 1023) ?_
               refine Sw.pw 10 146 (Sw.b 30 2047) ?_
               refine Sw.pw 12 148 (Sw.b 30 6143) ?_
               refine Sw.pw 16 152 (Sw.b 30 71679) ?_
               refine Sw.pw 19 155 (Sw.b 30 595967) ?_
               refine Sw.pw 20 156 (Sw.b 30 1644543) ?_
               refine Sw.pw 21 157 (Sw.b 30 3741695) ?_
               refine Sw.pw 25 161 (Sw.b 30 37296127) ?_
               refine take_ (i := 13) (N := some 149) (v := ?_) (a' := ?_) (Sw.b 30 37304319) rfl rfl (take_ofW HT_.out HW_.out (by kernel_rfl)) (fun _ _ _ h => h) (Or.inl ⟨by rfl, ?_⟩) hHeld ?_ ?_
               rotate_left
               ·rintro w' ⟨s0, s1, s2, s3, s4, s5, s6, s7⟩
                go_simp
                with_reducible rfl
               rotate_left
               ·simp only [Act.put, List.setIfInBounds_toArray, List.set_cons_zero, List.set_cons_succ, i64_w, i32_w]
                rfl
               refine Sw.pw 14 150 (Sw.b 30 37320703) ?_
               refine take_ (i := 17) (N := some 153) (v := ?_) (a' := ?_) (Sw.b 30 37451775) rfl rfl (take_ofW HT_.out HW_.out (by kernel_rfl)) (fun _ _ _ h => h) (Or.inl ⟨by rfl, ?_⟩) hHeld ?_ ?_
               rotate_left
               ·rintro w' ⟨s0, s1, s2, s3, s4, s5, s6, s7⟩
                go_simp
                with_reducible rfl
               rotate_left
               ·simp only [Act.put, List.setIfInBounds_toArray, List.set_cons_zero, List.set_cons_succ, i64_w, i32_w]
                rfl
               refine take_ (i := 22) (N := some 158) (v := ?_) (a' := ?_) (Sw.b 30 41646079) rfl rfl (take_ofW HT_.out HW_.out (by kernel_rfl)) (fun _ _ _ h => h) (Or.inl ⟨by rfl, ?_⟩) hHeld ?_ ?_
               rotate_left
               ·rintro w' ⟨s0, s1, s2, s3, s4, s5, s6, s7⟩
                go_simp
                with_reducible rfl
               rotate_left
               ·simp only [Act.put, List.setIfInBounds_toArray, List.set_cons_zero, List.set_cons_succ, i64_w, i32_w]
                rfl
               refine Sw.pw 23 159 (Sw.b 30 50034687) ?_
               refine Sw.pw 24 160 (Sw.b 30 66811903) ?_
               refine take_ (i := 26) (N := some 162) (v := ?_) (a' := ?_) (Sw.b 30 133920767) rfl rfl (take_ofW HT_.out HW_.out (by kernel_rfl)) (fun _ _ _ h => h) (Or.inl ⟨by rfl, ?_⟩) hHeld ?_ ?_
               rotate_left
               ·rintro w' ⟨s0, s1, s2, s3, s4, s5, s6, s7⟩
                go_simp
                with_reducible rfl
               rotate_left
               ·simp only [Act.put, List.setIfInBounds_toArray, List.set_cons_zero, List.set_cons_succ, i64_w, i32_w]
                rfl
               refine Sw.pw 27 163 (Sw.b 30 268138495) ?_
               refine one_ (i := 11) (N := some 147) (Sw.b 30 268140543) rfl rfl (one_of HT_.out (by kernel_rfl)) (by decide) (fun K hK => ?_)
               refine goes_ Tryd.func14 (by kernel_rfl) rfl #[.slice Ao98 t533.length co98] (by rfl) rfl rfl Zb3_0 ?_
               with_reducible refine (laws_sum.calls kj49 _ _ t533 t587 _ ?side1 ?side2 A95.out).mono ?_
               (case side1 => repeat (first | exact (Kd.R_reads' HO_9.out).2.2 | (with_reducible refine Kd.C_alloc ?_ _) | (with_reducible refine Kd.C_drewN ?_ _) | (with_reducible refine Kd.C_drew ?_)))
               (case side2 => exact (Kd.R_reads' HO_9.out).2.1)
               rintro e w' ⟨rfl, ⟨nd, rfl⟩⟩
               refine ⟨_, rfl, ?_⟩
               refine hK.out _ _ ⟨(blk_cell BK537.out 0).trans rfl, (blk_cell BK537.out 1).trans rfl, (blk_cell BK537.out 2).trans rfl, (blk_cell BK537.out 3).trans rfl, (blk_cell BK525.out 0).trans rfl, (blk_cell BK525.out 1).trans rfl, (blk_cell BK525.out 2).trans rfl, (blk_cell BK525.out 3).trans rfl⟩ (fun hHeld => ?_)
               clear hK K
               refine norm_ (a' := ?_) ?_ ?_
               rotate_left
               ·show Act.put _ (some 147) _ = _
                simp only [Act.put, List.setIfInBounds_toArray, List.set_cons_zero, List.set_cons_succ, i64_w, i32_w]
                rfl
               refine Sw.pw 15 151 (Sw.b 30 268173311) ?_
               refine Sw.pw 18 154 (Sw.b 30 268435455) ?_
               refine Sw.pw 28 164 (Sw.b 30 536870911) ?_
               refine Sw.pw 29 165 (Sw.b 30 1073741823) ?_
               refine done_ (done_of HT_.out (by kernel_rfl)) ?_
               try go_wp2
               go_meet
               case rel => exact ⟨_, H', ⟨by have := HJ7.out; have := HJ49.out; first | omega | exact Nat.le_refl _⟩, ⟨Sw.bk BK525.out⟩, ⟨Sw.bk BK537.out⟩, ⟨Sw.bk BK549.out⟩, ⟨Sw.hb⟩⟩
              ·rw [if_neg c96] at H
               exact absurd H (by simp)
             ·replace c94 := Bool.eq_false_iff.mpr c94
              subst c94
              have H1 : (if (wrap64 (t522 + ji43)) ≤ 1000 then (none) else ((laws_sum.f kj49 t533).bind fun t588 => (if (wrap64 ((wrap64 (t588 + (t529.size : Int))) + t528)) = (wrap64 ((wrap64 ((t524.size : Int) + (t523.size : Int))) + t522)) then (laws_FnChunks.j2 kj49 l1) else (none)))) = some r := by rw [if_neg (show ¬ (false = true) by decide)] at H; exact H
              clear H
              have H := H1
              clear H1
              by_cases c99 : (wrap64 (t522 + ji43)) ≤ 1000
              ·rw [if_pos c99] at H
               have c99b0 : decide ((wrap64 (t522 + ji43)) ≤ 1000) = true := decide_eq_true c99
               clear c99
               exact absurd H (by simp)
              ·rw [if_neg c99] at H
               have c99b0 : decide ((wrap64 (t522 + ji43)) ≤ 1000) = false := decide_eq_false c99
               clear c99
               replace H := Option.bind_eq_some_iff.mp H
               obtain ⟨t588, A1000, H⟩ := H
               replace H : (if (wrap64 ((wrap64 (t588 + (t529.size : Int))) + t528)) = (wrap64 ((wrap64 ((t524.size : Int) + (t523.size : Int))) + t522)) then (laws_FnChunks.j2 kj49 l1) else (none)) = some r := H
               have A100 := Aside0.mk A1000
               clear A1000
               by_cases c101 : (wrap64 ((wrap64 (t588 + (t529.size : Int))) + t528)) = (wrap64 ((wrap64 ((t524.size : Int) + (t523.size : Int))) + t522))
               ·rw [if_pos c101] at H
                have c101b0 : ((wrap64 ((wrap64 (t588 + (t529.size : Int))) + t528)) == (wrap64 ((wrap64 ((t524.size : Int) + (t523.size : Int))) + t522))) = true := beq_iff_eq.mpr c101
                have c101b1 : ((wrap64 ((wrap64 (t588 + (t529.size : Int))) + t528)) != (wrap64 ((wrap64 ((t524.size : Int) + (t523.size : Int))) + t522))) = false := bne_eq_false_iff_eq.mpr c101
                clear c101
                have H' := Aside0.mk H
                clear H
                try go_wp2
                replace HO_9 := Aside0.mk (Kd.R_drew HO_9.out)
                replace BK525 := Aside0.mk (blk_drew BK525.out)
                replace BK537 := Aside0.mk (blk_drew BK537.out)
                replace BK549 := Aside0.mk (blk_drew BK549.out)
                replace BK566 := Aside0.mk (blk_drew BK566.out)
                replace BK578 := Aside0.mk (blk_drew BK578.out)
                replace HB := Aside0.mk (below_drew1 HB.out)
                obtain ⟨Ao103, co103, eo103⟩ := Kd.R_slice HO_9.out
                (first | subst eo103 | (injection eo103 with f1_ f2_ f3_; have f4_ := f1_.symm; have f5_ := f3_.symm; clear f1_ f2_ f3_; subst f4_; subst f5_))
                refine start_ (n := 30) (S := fun w' => w'.cell? ⟨gb525, 0, none⟩ = some (.int .i64 t520) ∧ w'.cell? ⟨gb525, 1, none⟩ = some (.int .i64 t521) ∧ w'.cell? ⟨gb525, 2, none⟩ = some (.int .i64 t522) ∧ w'.cell? ⟨gb525, 3, none⟩ = some (.string t523) ∧ w'.cell? ⟨gb537, 0, none⟩ = some (.int .i64 t526) ∧ w'.cell? ⟨gb537, 1, none⟩ = some (.int .i64 t527) ∧ w'.cell? ⟨gb537, 2, none⟩ = some (.int .i64 t528) ∧ w'.cell? ⟨gb537, 3, none⟩ = some (.string t529)) (ds := []) (Sw.b 30 0) (by kernel_rfl) rfl rfl ⟨(blk_cell BK525.out 0).trans rfl, (blk_cell BK525.out 1).trans rfl, (blk_cell BK525.out 2).trans rfl, (blk_cell BK525.out 3).trans rfl, (blk_cell BK537.out 0).trans rfl, (blk_cell BK537.out 1).trans rfl, (blk_cell BK537.out 2).trans rfl, (blk_cell BK537.out 3).trans rfl⟩ (fun hHeld => ?_); refine with_tabW laws_FnChunks.tab14 laws_FnChunks.bits14 (fun HT_ HW_ => ?_)
                generalize wc.drew = w102 at HO_9 BK525 BK537 BK549 BK566 BK578 HB hHeld ⊢
                refine Sw.pw 0 136 (Sw.b 30 1) ?_
                refine Sw.pw 1 137 (Sw.b 30 3) ?_
                refine Sw.pw 2 138 (Sw.b 30 7) ?_
                refine Sw.pw 3 139 (Sw.b 30 15) ?_
                refine Sw.pw 5 141 (Sw.b 30 47) ?_
                refine take_ (i := 4) (N := some 140) (v := ?_) (a' := ?_) (Sw.b 30 63) rfl rfl (take_ofW HT_.out HW_.out (by kernel_rfl)) (fun _ _ _ h => h) (Or.inl ⟨by rfl, ?_⟩) hHeld ?_ ?_
                rotate_left
                ·rintro w' ⟨s0, s1, s2, s3, s4, s5, s6, s7⟩
                 go_simp
                 with_reducible rfl
                rotate_left
                ·simp only [Act.put, List.setIfInBounds_toArray, List.set_cons_zero, List.set_cons_succ, i64_w, i32_w]
                 rfl
                refine Sw.pw 6 142 (Sw.b 30 127) ?_
                refine Sw.pw 7 143 (Sw.b 30 255) ?_
                refine Sw.pw 8 144 (Sw.b 30 511) ?_
                refine Sw.pw 9 145 (Sw.b 30 1023) ?_
                refine Sw.pw 10 146 (Sw.b 30 2047) ?_
                refine Sw.pw 12 148 (Sw.b 30 6143) ?_
                refine Sw.pw 16 152 (Sw.b 30 71679) ?_
                refine Sw.pw 19 155 (Sw.b 30 595967) ?_
                refine Sw.pw 20 156 (Sw.b 30 1644543) ?_
                refine Sw.pw 21 157 (Sw.b 30 3741695) ?_
                refine Sw.pw 25 161 (Sw.b 30 37296127) ?_
                refine take_ (i := 13) (N := some 149) (v := ?_) (a' := ?_) (Sw.b 30 37304319) rfl rfl (take_ofW HT_.out HW_.out (by kernel_rfl)) (fun _ _ _ h => h) (Or.inl ⟨by rfl, ?_⟩) hHeld ?_ ?_
                rotate_left
                ·rintro w' ⟨s0, s1, s2, s3, s4, s5, s6, s7⟩
                 go_simp
                 with_reducible rfl
                rotate_left
                ·simp only [Act.put, List.setIfInBounds_toArray, List.set_cons_zero, List.set_cons_succ, i64_w, i32_w]
                 rfl
                refine Sw.pw 14 150 (Sw.b 30 37320703) ?_
                refine take_ (i := 17) (N := some 153) (v := ?_) (a' := ?_) (Sw.b 30 37451775) rfl rfl (take_ofW HT_.out HW_.out (by kernel_rfl)) (fun _ _ _ h => h) (Or.inl ⟨by rfl, ?_⟩) hHeld ?_ ?_
                rotate_left
                ·rintro w' ⟨s0, s1, s2, s3, s4, s5, s6, s7⟩
                 go_simp
                 with_reducible rfl
                rotate_left
                ·simp only [Act.put, List.setIfInBounds_toArray, List.set_cons_zero, List.set_cons_succ, i64_w, i32_w]
                 rfl
                refine take_ (i := 22) (N := some 158) (v := ?_) (a' := ?_) (Sw.b 30 41646079) rfl rfl (take_ofW HT_.out HW_.out (by kernel_rfl)) (fun _ _ _ h => h) (Or.inl ⟨by rfl, ?_⟩) hHeld ?_ ?_
                rotate_left
                ·rintro w' ⟨s0, s1, s2, s3, s4, s5, s6, s7⟩
                 go_simp
                 with_reducible rfl
                rotate_left
                ·simp only [Act.put, List.setIfInBounds_toArray, List.set_cons_zero, List.set_cons_succ, i64_w, i32_w]
                 rfl
                refine Sw.pw 23 159 (Sw.b 30 50034687) ?_
                refine Sw.pw 24 160 (Sw.b 30 66811903) ?_
                refine take_ (i := 26) (N := some 162) (v := ?_) (a' := ?_) (Sw.b 30 133920767) rfl rfl (take_ofW HT_.out HW_.out (by kernel_rfl)) (fun _ _ _ h => h) (Or.inl ⟨by rfl, ?_⟩) hHeld ?_ ?_
                rotate_left
                ·rintro w' ⟨s0, s1, s2, s3, s4, s5, s6, s7⟩
                 go_simp
                 with_reducible rfl
                rotate_left
                ·simp only [Act.put, List.setIfInBounds_toArray, List.set_cons_zero, List.set_cons_succ, i64_w, i32_w]
                 rfl
                refine Sw.pw 27 163 (Sw.b 30 268138495) ?_
                refine one_ (i := 11) (N := some 147) (Sw.b 30 268140543) rfl rfl (one_of HT_.out (by kernel_rfl)) (by decide) (fun K hK => ?_)
                refine goes_ Tryd.func14 (by kernel_rfl) rfl #[.slice Ao103 t533.length co103] (by rfl) rfl rfl Zb3_0 ?_
                with_reducible refine (laws_sum.calls kj49 _ _ t533 t588 _ ?side1 ?side2 A100.out).mono ?_
                (case side1 => repeat (first | exact (Kd.R_reads' HO_9.out).2.2 | (with_reducible refine Kd.C_alloc ?_ _) | (with_reducible refine Kd.C_drewN ?_ _) | (with_reducible refine Kd.C_drew ?_)))
                (case side2 => exact (Kd.R_reads' HO_9.out).2.1)
                rintro e w' ⟨rfl, ⟨nd, rfl⟩⟩
                refine ⟨_, rfl, ?_⟩
                refine hK.out _ _ ⟨(blk_cell BK525.out 0).trans rfl, (blk_cell BK525.out 1).trans rfl, (blk_cell BK525.out 2).trans rfl, (blk_cell BK525.out 3).trans rfl, (blk_cell BK537.out 0).trans rfl, (blk_cell BK537.out 1).trans rfl, (blk_cell BK537.out 2).trans rfl, (blk_cell BK537.out 3).trans rfl⟩ (fun hHeld => ?_)
                clear hK K
                refine norm_ (a' := ?_) ?_ ?_
                rotate_left
                ·show Act.put _ (some 147) _ = _
                 simp only [Act.put, List.setIfInBounds_toArray, List.set_cons_zero, List.set_cons_succ, i64_w, i32_w]
                 rfl
                refine Sw.pw 15 151 (Sw.b 30 268173311) ?_
                refine Sw.pw 18 154 (Sw.b 30 268435455) ?_
                refine Sw.pw 28 164 (Sw.b 30 536870911) ?_
                refine Sw.pw 29 165 (Sw.b 30 1073741823) ?_
                refine done_ (done_of HT_.out (by kernel_rfl)) ?_
                try go_wp2
                go_meet
                case rel => exact ⟨_, H', ⟨by have := HJ7.out; have := HJ49.out; first | omega | exact Nat.le_refl _⟩, ⟨Sw.bk BK525.out⟩, ⟨Sw.bk BK537.out⟩, ⟨Sw.bk BK549.out⟩, ⟨Sw.hb⟩⟩
               ·rw [if_neg c101] at H
                exact absurd H (by simp)
         ·rw [if_neg c45] at H
          exact absurd H (by simp)
        ·rw [if_neg c44] at H
         exact absurd H (by simp)
      ·replace c40 := Bool.eq_false_iff.mpr c40
       subst c40
       have H1 : (laws_FnChunks.j2 kj7 l1) = some r := by rw [if_neg (show ¬ (false = true) by decide)] at H; exact H
       clear H
       have H := H1
       clear H1
       have H' := Aside0.mk H
       clear H
       go_wp2
       go_meet
       case rel => exact ⟨_, H', ⟨Zb3_8⟩, ⟨Sw.bk BK525.out⟩, ⟨Sw.bk BK537.out⟩, ⟨Sw.bk BK549.out⟩, ⟨Sw.hb⟩⟩
     case rest => as_aux_lemma =>
      clear HC39
      try clear c1
      try clear p2
      try clear c4
      try clear p6
      try clear c9
      try clear c10
      try clear c14
      try clear c40
      try clear c44
      try clear c45
      try clear p64
      try clear c94
      try clear c96
      try clear c96b0
      try clear c96b1
      try clear c99
      try clear c99b0
      try clear c101
      try clear c101b0
      try clear c101b1
      obtain ⟨kq, HA, HJ38, BK525, BK537, BK549, HB⟩ := hcut
      cases kq with
      | zero => exact absurd HA.out (by simp [laws_FnChunks.j2])
      | succ kj38 =>
       have H := HA.out
       clear HA
       simp only [laws_FnChunks.j2] at H
       replace H := Option.bind_eq_some_iff.mp H
       obtain ⟨⟨t589, t590, t591, t592⟩, A1040, H⟩ := H
       replace H : ((impl_FlushDecoder.f kj38 t589 t590 t591 t592).bind fun bt594 => ((spec_FlushDecoder.f kj38 t589 t590 t591 t592).bind fun bt606 => (if (bt594.2.2.2.2.2.2 != bt606.2.2.2.2.2.2) = true then (none) else (if (!(bt594.1 == bt606.1) || (!(bt594.2.1 == bt606.2.1) || (!(bt594.2.2.1 == bt606.2.2.1) || (!(bt594.2.2.2.1.toList == bt606.2.2.2.1.toList))))) = true then (none) else ((laws_sameInts.f kj38 bt594.2.2.2.2.1 bt606.2.2.2.2.1).bind fun t618 => (if t618 = true then ((laws_sameInts.f kj38 bt594.2.2.2.2.2.1 bt606.2.2.2.2.2.1).bind fun t619 => (if t619 = true then (if bt594.2.2.2.2.2.2 = true then ((laws_sum.f kj38 bt594.2.2.2.2.2.1).bind fun t620 => (if t620 = (t592.size : Int) then (some (bt594.2.2.2.1.toList == ([] : List UInt8))) else (none))) else (some true)) else (none))) else (none))))))) = some r := H
       have A104 := Aside0.mk A1040
       clear A1040
       replace H := Option.bind_eq_some_iff.mp H
       obtain ⟨⟨t594, t595, t596, t597, t598, t601, t604⟩, A1050, H⟩ := H
       replace H : ((spec_FlushDecoder.f kj38 t589 t590 t591 t592).bind fun bt606 => (if (t604 != bt606.2.2.2.2.2.2) = true then (none) else (if (!(t594 == bt606.1) || (!(t595 == bt606.2.1) || (!(t596 == bt606.2.2.1) || (!(t597.toList == bt606.2.2.2.1.toList))))) = true then (none) else ((laws_sameInts.f kj38 t598 bt606.2.2.2.2.1).bind fun t618 => (if t618 = true then ((laws_sameInts.f kj38 t601 bt606.2.2.2.2.2.1).bind fun t619 => (if t619 = true then (if t604 = true then ((laws_sum.f kj38 t601).bind fun t620 => (if t620 = (t592.size : Int) then (some (t597.toList == ([] : List UInt8))) else (none))) else (some true)) else (none))) else (none)))))) = some r := H
       have A105 := Aside0.mk A1050
       clear A1050
       replace H := Option.bind_eq_some_iff.mp H
       obtain ⟨⟨t606, t607, t608, t609, t610, t613, t616⟩, A1060, H⟩ := H
       replace H : (if (t604 != t616) = true then (none) else (if (!(t594 == t606) || (!(t595 == t607) || (!(t596 == t608) || (!(t597.toList == t609.toList))))) = true then (none) else ((laws_sameInts.f kj38 t598 t610).bind fun t618 => (if t618 = true then ((laws_sameInts.f kj38 t601 t613).bind fun t619 => (if t619 = true then (if t604 = true then ((laws_sum.f kj38 t601).bind fun t620 => (if t620 = (t592.size : Int) then (some (t597.toList == ([] : List UInt8))) else (none))) else (some true)) else (none))) else (none))))) = some r := H
       have A106 := Aside0.mk A1060
       clear A1060
       by_cases c107 : (t604 != t616) = true
       ·rw [if_pos c107] at H
        exact absurd H (by simp)
       ·rw [if_neg c107] at H
        have c107b0 : (t604 != t616) = false := by simpa using c107
        (try (have c107b1 : decide (t604 = t616) = true := by simpa using c107))
        (try (have c107b2 : (t604 == t616) = true := by simpa using c107))
        clear c107
        by_cases c108 : (!(t594 == t606) || (!(t595 == t607) || (!(t596 == t608) || (!(t597.toList == t609.toList))))) = true
        ·rw [if_pos c108] at H
         exact absurd H (by simp)
        ·rw [if_neg c108] at H
         have c108b0 : (!(t594 == t606) || (!(t595 == t607) || (!(t596 == t608) || (!(t597.toList == t609.toList))))) = false := by simpa using c108
         clear c108
         replace H := Option.bind_eq_some_iff.mp H
         obtain ⟨t618, A1090, H⟩ := H
         replace H : (if t618 = true then ((laws_sameInts.f kj38 t601 t613).bind fun t619 => (if t619 = true then (if t604 = true then ((laws_sum.f kj38 t601).bind fun t620 => (if t620 = (t592.size : Int) then (some (t597.toList == ([] : List UInt8))) else (none))) else (some true)) else (none))) else (none)) = some r := H
         have A109 := Aside0.mk A1090
         clear A1090
         by_cases c110 : t618 = true
         ·subst c110
          have H1 : ((laws_sameInts.f kj38 t601 t613).bind fun t619 => (if t619 = true then (if t604 = true then ((laws_sum.f kj38 t601).bind fun t620 => (if t620 = (t592.size : Int) then (some (t597.toList == ([] : List UInt8))) else (none))) else (some true)) else (none))) = some r := by rw [if_pos rfl] at H; exact H
          clear H
          have H := H1
          clear H1
          replace H := Option.bind_eq_some_iff.mp H
          obtain ⟨t619, A1110, H⟩ := H
          replace H : (if t619 = true then (if t604 = true then ((laws_sum.f kj38 t601).bind fun t620 => (if t620 = (t592.size : Int) then (some (t597.toList == ([] : List UInt8))) else (none))) else (some true)) else (none)) = some r := H
          have A111 := Aside0.mk A1110
          clear A1110
          by_cases c112 : t619 = true
          ·subst c112
           have H1 : (if t604 = true then ((laws_sum.f kj38 t601).bind fun t620 => (if t620 = (t592.size : Int) then (some (t597.toList == ([] : List UInt8))) else (none))) else (some true)) = some r := by rw [if_pos rfl] at H; exact H
           clear H
           have H := H1
           clear H1
           by_cases c113 : t604 = true
           ·subst c113
            have H1 : ((laws_sum.f kj38 t601).bind fun t620 => (if t620 = (t592.size : Int) then (some (t597.toList == ([] : List UInt8))) else (none))) = some r := by rw [if_pos rfl] at H; exact H
            clear H
            have H := H1
            clear H1
            replace H := Option.bind_eq_some_iff.mp H
            obtain ⟨t620, A1140, H⟩ := H
            replace H : (if t620 = (t592.size : Int) then (some (t597.toList == ([] : List UInt8))) else (none)) = some r := H
            have A114 := Aside0.mk A1140
            clear A1140
            by_cases c115 : t620 = (t592.size : Int)
            ·rw [if_pos c115] at H
             have c115b0 : (t620 == (t592.size : Int)) = true := beq_iff_eq.mpr c115
             have c115b1 : (t620 != (t592.size : Int)) = false := bne_eq_false_iff_eq.mpr c115
             clear c115
             obtain rfl := Option.some.inj H
             try go_wp2_with (first | ((with_reducible refine gate_callee (f := 15) rfl ?_); refine goesL_ (some 167) rfl rfl Tryd.func15 (by kernel_rfl) rfl #[.slice A1 l1.length c1] rfl Zb3_0 ?_; (with_reducible refine (spec_DrawFlushDecoder.calls kj38 _ _ l1 t589 t590 t591 t592 _ ?side1 ?side2 A104.out).mono ?_); (case side1 => repeat (first | exact (Kd.C_below HR1.out HB.out) | (with_reducible refine Kd.C_alloc ?_ _) | (with_reducible refine Kd.C_drewN ?_ _) | (with_reducible refine Kd.C_drew ?_))); (case side2 => exact HC1.out); rintro e w116 ⟨rfl, hb⟩; refine ⟨_, rfl, ?_⟩; replace BK525 := Aside0.mk (Sw.bl BK525.out hb); replace BK537 := Aside0.mk (Sw.bl BK537.out hb); replace BK549 := Aside0.mk (Sw.bl BK549.out hb); replace HB := Aside0.mk (below_step Sw.hb hb); (try clear hb); (try clear hb2); (try clear hk); (try clear hi)) | ((with_reducible refine gate_dst (N := 24) rfl ?_); (try (refine gate_guard (by rfl) ?_; dsimp only)); refine box_event ?hg (N := 24) ?hd (cs := #[.int .i64 0, .int .i64 0, .int .i64 0, .string (⟨#[]⟩ : ByteArray)]) (t := 25) ?hr ?_; (case hd => rfl); (case hg => rfl); (case hr => first | (go_simp; done) | (go_simp; rfl)); intro gb593 hg w117 hbox hb; have BK593 := Aside0.mk (hbox); have GW593 := Aside0.mk ((Sw.gs hg)); have GE593 := Aside0.mk ((Sw.gs hg)); replace HB := Aside0.mk (below_step Sw.hb hb); have NB525_593 := Aside0.mk (Sw.nl hg BK525.out); have NB593_525 := Aside0.mk (Sw.ng hg BK525.out); replace BK525 := Aside0.mk (Sw.bl BK525.out hb); have NB537_593 := Aside0.mk (Sw.nl hg BK537.out); have NB593_537 := Aside0.mk (Sw.ng hg BK537.out); replace BK537 := Aside0.mk (Sw.bl BK537.out hb); have NB549_593 := Aside0.mk (Sw.nl hg BK549.out); have NB593_549 := Aside0.mk (Sw.ng hg BK549.out); replace BK549 := Aside0.mk (Sw.bl BK549.out hb); clear hb hbox hg; have hnb118 := NB593_525.out; have hnc118 := NB525_593.out; have hnb119 := NB593_537.out; have hnc119 := NB537_593.out; have hnb120 := NB593_549.out; have hnc120 := NB549_593.out; obtain ⟨hcz121_0, hcz121_1, hcz121_2, hcz121_3⟩ := Sw.cz4 BK593.out; obtain ⟨hfz121_0, hfz121_1, hfz121_2, hfz121_3⟩ := Sw.fz4 BK593.out) | ((with_reducible refine gate_callee (f := 16) rfl ?_); refine goesL_ (some 170) rfl rfl Tryd.func16 (by kernel_rfl) rfl #[.agg #[.int .i64 t589, .int .i64 t590, .int .i64 t591, .string t592]] rfl Zb3_0 ?_; (with_reducible refine (impl_FlushDecoder.calls kj38 t589 t590 t591 t592 t594 t595 t596 t597 t598 t601 true _ Sw.ht A105.out).mono ?_); rintro e w122 ⟨v599, v602, rfl, ho0, ho1, hb⟩; refine ⟨_, rfl, ?_⟩; have HO600 := Aside0.mk (Kd.R_lower ho0 (below_size Sw.hb)); have HO603 := Aside0.mk (Kd.R_lower ho1 (below_size Sw.hb)); replace BK525 := Aside0.mk (Sw.bg BK525.out NB525_593.out hb); replace BK537 := Aside0.mk (Sw.bg BK537.out NB537_593.out hb); replace BK549 := Aside0.mk (Sw.bg BK549.out NB549_593.out hb); replace BK593 := Aside0.mk (blk_below (g := gb593) (o := .cells #[.int .i64 t589, .int .i64 t590, .int .i64 t591, .string t592] 25 (0, 0)) (Sw.bp (Sw.p0_1_2_3 BK593.out)) hb); replace HB := Aside0.mk (below_step Sw.hb hb); (try clear hb); (try clear hb2); (try clear hk); (try clear hi); (try clear ho0); (try clear ho1)) | ((with_reducible refine gate_dst (N := 25) rfl ?_); (try (refine gate_guard (by rfl) ?_; dsimp only)); refine box_event ?hg (N := 25) ?hd (cs := #[.int .i64 0, .int .i64 0, .int .i64 0, .string (⟨#[]⟩ : ByteArray)]) (t := 25) ?hr ?_; (case hd => rfl); (case hg => rfl); (case hr => first | (go_simp; done) | (go_simp; rfl)); intro gb605 hg w123 hbox hb; replace HO600 := Aside0.mk (Kd.R_below (Sw.rt HO600.out) hb); replace HO603 := Aside0.mk (Kd.R_below (Sw.rt HO603.out) hb); have BK605 := Aside0.mk (hbox); have GW605 := Aside0.mk ((Sw.gs hg)); have GE605 := Aside0.mk ((Sw.gs hg)); replace HB := Aside0.mk (below_step Sw.hb hb); have NB525_605 := Aside0.mk (Sw.nl hg BK525.out); have NB605_525 := Aside0.mk (Sw.ng hg BK525.out); replace BK525 := Aside0.mk (Sw.bl BK525.out hb); have NB537_605 := Aside0.mk (Sw.nl hg BK537.out); have NB605_537 := Aside0.mk (Sw.ng hg BK537.out); replace BK537 := Aside0.mk (Sw.bl BK537.out hb); have NB549_605 := Aside0.mk (Sw.nl hg BK549.out); have NB605_549 := Aside0.mk (Sw.ng hg BK549.out); replace BK549 := Aside0.mk (Sw.bl BK549.out hb); have NB593_605 := Aside0.mk (Sw.nl hg BK593.out); have NB605_593 := Aside0.mk (Sw.ng hg BK593.out); replace BK593 := Aside0.mk (Sw.bl BK593.out hb); clear hb hbox hg; have hnb124 := NB605_525.out; have hnc124 := NB525_605.out; have hnb125 := NB605_537.out; have hnc125 := NB537_605.out; have hnb126 := NB605_549.out; have hnc126 := NB549_605.out; have hnb127 := NB605_593.out; have hnc127 := NB593_605.out; obtain ⟨hcz128_0, hcz128_1, hcz128_2, hcz128_3⟩ := Sw.cz4 BK605.out; obtain ⟨hfz128_0, hfz128_1, hfz128_2, hfz128_3⟩ := Sw.fz4 BK605.out; obtain ⟨hcz129_0, hcz129_1, hcz129_2, hcz129_3⟩ := Sw.cz4 BK593.out; obtain ⟨hfz129_0, hfz129_1, hfz129_2, hfz129_3⟩ := Sw.fz4 BK593.out) | ((with_reducible refine gate_callee (f := 17) rfl ?_); refine goesL_ (some 177) rfl rfl Tryd.func17 (by kernel_rfl) rfl #[.agg #[.int .i64 t589, .int .i64 t590, .int .i64 t591, .string t592]] rfl Zb3_0 ?_; (with_reducible refine (spec_FlushDecoder.calls kj38 t589 t590 t591 t592 t606 t607 t608 t609 t610 t613 t616 _ A106.out).mono ?_); rintro e w130 ⟨v611, v614, rfl, ho0, ho1, hb⟩; refine ⟨_, rfl, ?_⟩; have HO612 := Aside0.mk (Kd.R_lower (Kd.R_new' (Kd.R_new' ho0 (Kd.R_lt (Sw.rt (Sw.g0_1_2_3 HO600.out BK605.out)))) (Kd.R_lt (Sw.rt (Sw.g0_1_2_3 HO603.out BK605.out)))) (below_size Sw.hb)); have HO615 := Aside0.mk (Kd.R_lower (Kd.R_new' (Kd.R_new' ho1 (Kd.R_lt (Sw.rt (Sw.g0_1_2_3 HO600.out BK605.out)))) (Kd.R_lt (Sw.rt (Sw.g0_1_2_3 HO603.out BK605.out)))) (below_size Sw.hb)); replace HO600 := Aside0.mk (Kd.R_mono (Kd.R_told (Kd.R_told (Kd.R_old (Sw.rt (Sw.g0_1_2_3 HO600.out BK605.out)) hb) (Kd.R_base ho0)) (Kd.R_base ho1)) (fun _ h_ => h_.1)); replace HO603 := Aside0.mk (Kd.R_mono (Kd.R_told (Kd.R_told (Kd.R_old (Sw.rt (Sw.g0_1_2_3 HO603.out BK605.out)) hb) (Kd.R_base ho0)) (Kd.R_base ho1)) (fun _ h_ => h_.1)); replace BK525 := Aside0.mk (Sw.bg BK525.out NB525_605.out hb); replace BK537 := Aside0.mk (Sw.bg BK537.out NB537_605.out hb); replace BK549 := Aside0.mk (Sw.bg BK549.out NB549_605.out hb); replace BK593 := Aside0.mk (Sw.bg BK593.out NB593_605.out hb); replace BK605 := Aside0.mk (blk_below (g := gb605) (o := .cells #[.int .i64 t594, .int .i64 t595, .int .i64 t596, .string t597] 25 (0, 0)) (Sw.bp (Sw.p0_1_2_3 BK605.out)) hb); replace HB := Aside0.mk (below_step Sw.hb hb); (try clear hb); (try clear hb2); (try clear hk); (try clear hi); (try clear ho0); (try clear ho1)) | ((with_reducible refine gate_dst (N := 29) rfl ?_); (try (refine gate_guard (by rfl) ?_; dsimp only)); refine box_event ?hg (N := 29) ?hd (cs := #[.int .i64 0, .int .i64 0, .int .i64 0, .string (⟨#[]⟩ : ByteArray)]) (t := 25) ?hr ?_; (case hd => rfl); (case hg => rfl); (case hr => first | (go_simp; done) | (go_simp; rfl)); intro gb617 hg w131 hbox hb; replace HO600 := Aside0.mk (Kd.R_below (Sw.rt HO600.out) hb); replace HO603 := Aside0.mk (Kd.R_below (Sw.rt HO603.out) hb); replace HO612 := Aside0.mk (Kd.R_below (Sw.rt HO612.out) hb); replace HO615 := Aside0.mk (Kd.R_below (Sw.rt HO615.out) hb); have BK617 := Aside0.mk (hbox); have GW617 := Aside0.mk ((Sw.gs hg)); have GE617 := Aside0.mk ((Sw.gs hg)); replace HB := Aside0.mk (below_step Sw.hb hb); have NB525_617 := Aside0.mk (Sw.nl hg BK525.out); have NB617_525 := Aside0.mk (Sw.ng hg BK525.out); replace BK525 := Aside0.mk (Sw.bl BK525.out hb); have NB537_617 := Aside0.mk (Sw.nl hg BK537.out); have NB617_537 := Aside0.mk (Sw.ng hg BK537.out); replace BK537 := Aside0.mk (Sw.bl BK537.out hb); have NB549_617 := Aside0.mk (Sw.nl hg BK549.out); have NB617_549 := Aside0.mk (Sw.ng hg BK549.out); replace BK549 := Aside0.mk (Sw.bl BK549.out hb); have NB593_617 := Aside0.mk (Sw.nl hg BK593.out); have NB617_593 := Aside0.mk (Sw.ng hg BK593.out); replace BK593 := Aside0.mk (Sw.bl BK593.out hb); have NB605_617 := Aside0.mk (Sw.nl hg BK605.out); have NB617_605 := Aside0.mk (Sw.ng hg BK605.out); replace BK605 := Aside0.mk (Sw.bl BK605.out hb); clear hb hbox hg; have hnb132 := NB617_525.out; have hnc132 := NB525_617.out; have hnb133 := NB617_537.out; have hnc133 := NB537_617.out; have hnb134 := NB617_549.out; have hnc134 := NB549_617.out; have hnb135 := NB617_593.out; have hnc135 := NB593_617.out; have hnb136 := NB617_605.out; have hnc136 := NB605_617.out; obtain ⟨hcz137_0, hcz137_1, hcz137_2, hcz137_3⟩ := Sw.cz4 BK617.out; obtain ⟨hfz137_0, hfz137_1, hfz137_2, hfz137_3⟩ := Sw.fz4 BK617.out; obtain ⟨hcz138_0, hcz138_1, hcz138_2, hcz138_3⟩ := Sw.cz4 BK605.out; obtain ⟨hfz138_0, hfz138_1, hfz138_2, hfz138_3⟩ := Sw.fz4 BK605.out; obtain ⟨Ao139, co139, eo139⟩ := Kd.R_slice HO600.out; subst eo139; obtain ⟨Ao140, co140, eo140⟩ := Kd.R_slice HO612.out; subst eo140) | (go_at_call 10; (with_reducible refine (laws_sameInts.calls kj38 _ _ t598 _ _ t610 true _ ?side1 ?side2 ?side3 ?side4 A109.out).mono ?_); (case side1 => refine (Kd.R_reads' (e := 3) (base := w.heap.size) (ok := fun k_ => ((some k_ ≠ (v602 : Value).ownBlock ∧ some k_ ≠ (.slice Ao140 t610.length co140 : Value).ownBlock) ∧ some k_ ≠ (v614 : Value).ownBlock)) (n := t598.length) (c := co139) ?_).2.2; exact (Sw.rt (Sw.g0_1_2_3 HO600.out BK617.out))); (case side2 => exact (Kd.R_reads' HO600.out).2.1); (case side3 => refine (Kd.R_reads' (e := 3) (base := w.heap.size) (ok := fun k_ => ((some k_ ≠ (v614 : Value).ownBlock ∧ some k_ ≠ (.slice Ao139 t598.length co139 : Value).ownBlock) ∧ some k_ ≠ (v602 : Value).ownBlock)) (n := t610.length) (c := co140) ?_).2.2; exact (Sw.rt (Sw.g0_1_2_3 HO612.out BK617.out))); (case side4 => exact (Kd.R_reads' HO612.out).2.1); rintro e w' ⟨rfl, ⟨nd, rfl⟩⟩; obtain ⟨Ao141, co141, eo141⟩ := Kd.R_slice HO603.out; subst eo141; obtain ⟨Ao142, co142, eo142⟩ := Kd.R_slice HO615.out; subst eo142) | (go_at_call 10; (with_reducible refine (laws_sameInts.calls kj38 _ _ t601 _ _ t613 true _ ?side1 ?side2 ?side3 ?side4 A111.out).mono ?_); (case side1 => refine (Kd.R_reads' (e := 3) (base := w.heap.size) (ok := fun k_ => ((some k_ ≠ (.slice Ao139 t598.length co139 : Value).ownBlock ∧ some k_ ≠ (.slice Ao140 t610.length co140 : Value).ownBlock) ∧ some k_ ≠ (.slice Ao142 t613.length co142 : Value).ownBlock)) (n := t601.length) (c := co141) ?_).2.2; exact (Sw.rt (Sw.g0_1_2_3 HO603.out BK617.out))); (case side2 => exact (Kd.R_reads' HO603.out).2.1); (case side3 => refine (Kd.R_reads' (e := 3) (base := w.heap.size) (ok := fun k_ => ((some k_ ≠ (.slice Ao140 t610.length co140 : Value).ownBlock ∧ some k_ ≠ (.slice Ao139 t598.length co139 : Value).ownBlock) ∧ some k_ ≠ (.slice Ao141 t601.length co141 : Value).ownBlock)) (n := t613.length) (c := co142) ?_).2.2; exact (Sw.rt (Sw.g0_1_2_3 HO615.out BK617.out))); (case side4 => exact (Kd.R_reads' HO615.out).2.1); rintro e w' ⟨rfl, ⟨nd, rfl⟩⟩))
             try (any_goals (exfalso; simp only [Bool.or_eq_false_iff, Bool.not_eq_false', beq_iff_eq] at c108b0; obtain ⟨q0_, q1_, q2_, q3_⟩ := c108b0; contradiction))
             generalize hq_ : ((((w131.setCell ⟨gb617, 0, none⟩ (.int .i64 t606)).setCell ⟨gb617, 1, none⟩ (.int .i64 t607)).setCell ⟨gb617, 2, none⟩ (.int .i64 t608)).setCell ⟨gb617, 3, none⟩ (.string t609)) = w143
             replace HO600 : Aside0 (Kd.R (Kd.int .i64) 3 w143 w.heap.size (fun k_ => some k_ ≠ (.slice Ao141 t601.length co141 : Value).ownBlock ∧ some k_ ≠ (.slice Ao140 t610.length co140 : Value).ownBlock ∧ some k_ ≠ (.slice Ao142 t613.length co142 : Value).ownBlock) (.slice Ao139 t598.length co139) t598) := ⟨Zb3_4⟩
             replace HO603 : Aside0 (Kd.R (Kd.int .i64) 3 w143 w.heap.size (fun k_ => some k_ ≠ (.slice Ao139 t598.length co139 : Value).ownBlock ∧ some k_ ≠ (.slice Ao140 t610.length co140 : Value).ownBlock ∧ some k_ ≠ (.slice Ao142 t613.length co142 : Value).ownBlock) (.slice Ao141 t601.length co141) t601) := ⟨Zb3_5⟩
             replace HO612 : Aside0 (Kd.R (Kd.int .i64) 3 w143 w.heap.size (fun k_ => some k_ ≠ (.slice Ao139 t598.length co139 : Value).ownBlock ∧ some k_ ≠ (.slice Ao141 t601.length co141 : Value).ownBlock ∧ some k_ ≠ (.slice Ao142 t613.length co142 : Value).ownBlock) (.slice Ao140 t610.length co140) t610) := ⟨Zb3_6⟩
             replace HO615 : Aside0 (Kd.R (Kd.int .i64) 3 w143 w.heap.size (fun k_ => some k_ ≠ (.slice Ao139 t598.length co139 : Value).ownBlock ∧ some k_ ≠ (.slice Ao141 t601.length co141 : Value).ownBlock ∧ some k_ ≠ (.slice Ao140 t610.length co140 : Value).ownBlock) (.slice Ao142 t613.length co142) t613) := ⟨Zb3_7⟩
             replace BK525 : Aside0 (w143.heap[gb525]? = some (.cells #[.int .i64 t520, .int .i64 t521, .int .i64 t522, .string t523] 25 (0, 0))) := ⟨by rw [← hq_]; exact Sw.bf BK525.out NB525_617.out⟩
             replace BK537 : Aside0 (w143.heap[gb537]? = some (.cells #[.int .i64 t526, .int .i64 t527, .int .i64 t528, .string t529] 25 (0, 0))) := ⟨by rw [← hq_]; exact Sw.bf BK537.out NB537_617.out⟩
             replace BK549 : Aside0 (w143.heap[gb549]? = some (.cells #[.int .i64 t538, .int .i64 t539, .int .i64 t540, .string t541] 25 (0, 0))) := ⟨by rw [← hq_]; exact Sw.bf BK549.out NB549_617.out⟩
             replace BK593 : Aside0 (w143.heap[gb593]? = some (.cells #[.int .i64 t589, .int .i64 t590, .int .i64 t591, .string t592] 25 (0, 0))) := ⟨by rw [← hq_]; exact Sw.bf BK593.out NB593_617.out⟩
             replace BK605 : Aside0 (w143.heap[gb605]? = some (.cells #[.int .i64 t594, .int .i64 t595, .int .i64 t596, .string t597] 25 (0, 0))) := ⟨by rw [← hq_]; exact Sw.bf BK605.out NB605_617.out⟩
             replace BK617 : Aside0 (w143.heap[gb617]? = some (.cells #[.int .i64 t606, .int .i64 t607, .int .i64 t608, .string t609] 25 (0, 0))) := ⟨by rw [← hq_]; exact Sw.bp (Sw.p0_1_2_3 BK617.out)⟩
             replace HB : Aside0 (Below w.heap.size w w143) := ⟨by rw [← hq_]; exact Sw.hb⟩
             clear hq_
             (try (rw [drewN_self w143]; generalize hq_ : World.drewN w143 _ = w143; have n0_ : Aside0 (Kd.R (Kd.int .i64) 3 w143 w.heap.size (fun k_ => some k_ ≠ (.slice Ao141 t601.length co141 : Value).ownBlock ∧ some k_ ≠ (.slice Ao140 t610.length co140 : Value).ownBlock ∧ some k_ ≠ (.slice Ao142 t613.length co142 : Value).ownBlock) (.slice Ao139 t598.length co139) t598) := ⟨by rw [← hq_]; exact (Sw.rt HO600.out)⟩; have n1_ : Aside0 (Kd.R (Kd.int .i64) 3 w143 w.heap.size (fun k_ => some k_ ≠ (.slice Ao139 t598.length co139 : Value).ownBlock ∧ some k_ ≠ (.slice Ao140 t610.length co140 : Value).ownBlock ∧ some k_ ≠ (.slice Ao142 t613.length co142 : Value).ownBlock) (.slice Ao141 t601.length co141) t601) := ⟨by rw [← hq_]; exact (Sw.rt HO603.out)⟩; have n2_ : Aside0 (Kd.R (Kd.int .i64) 3 w143 w.heap.size (fun k_ => some k_ ≠ (.slice Ao139 t598.length co139 : Value).ownBlock ∧ some k_ ≠ (.slice Ao141 t601.length co141 : Value).ownBlock ∧ some k_ ≠ (.slice Ao142 t613.length co142 : Value).ownBlock) (.slice Ao140 t610.length co140) t610) := ⟨by rw [← hq_]; exact (Sw.rt HO612.out)⟩; have n3_ : Aside0 (Kd.R (Kd.int .i64) 3 w143 w.heap.size (fun k_ => some k_ ≠ (.slice Ao139 t598.length co139 : Value).ownBlock ∧ some k_ ≠ (.slice Ao141 t601.length co141 : Value).ownBlock ∧ some k_ ≠ (.slice Ao140 t610.length co140 : Value).ownBlock) (.slice Ao142 t613.length co142) t613) := ⟨by rw [← hq_]; exact (Sw.rt HO615.out)⟩; have n4_ : Aside0 (w143.heap[gb525]? = some (.cells #[.int .i64 t520, .int .i64 t521, .int .i64 t522, .string t523] 25 (0, 0))) := ⟨by rw [← hq_]; exact (Sw.bk BK525.out)⟩; have n5_ : Aside0 (w143.heap[gb537]? = some (.cells #[.int .i64 t526, .int .i64 t527, .int .i64 t528, .string t529] 25 (0, 0))) := ⟨by rw [← hq_]; exact (Sw.bk BK537.out)⟩; have n6_ : Aside0 (w143.heap[gb549]? = some (.cells #[.int .i64 t538, .int .i64 t539, .int .i64 t540, .string t541] 25 (0, 0))) := ⟨by rw [← hq_]; exact (Sw.bk BK549.out)⟩; have n7_ : Aside0 (w143.heap[gb593]? = some (.cells #[.int .i64 t589, .int .i64 t590, .int .i64 t591, .string t592] 25 (0, 0))) := ⟨by rw [← hq_]; exact (Sw.bk BK593.out)⟩; have n8_ : Aside0 (w143.heap[gb605]? = some (.cells #[.int .i64 t594, .int .i64 t595, .int .i64 t596, .string t597] 25 (0, 0))) := ⟨by rw [← hq_]; exact (Sw.bk BK605.out)⟩; have n9_ : Aside0 (w143.heap[gb617]? = some (.cells #[.int .i64 t606, .int .i64 t607, .int .i64 t608, .string t609] 25 (0, 0))) := ⟨by rw [← hq_]; exact (Sw.bk BK617.out)⟩; have n10_ : Aside0 (Below w.heap.size w w143) := ⟨by rw [← hq_]; exact Sw.hb⟩; clear HO600 HO603 HO612 HO615 BK525 BK537 BK549 BK593 BK605 BK617 HB hq_; have HO600 := n0_; have HO603 := n1_; have HO612 := n2_; have HO615 := n3_; have BK525 := n4_; have BK537 := n5_; have BK549 := n6_; have BK593 := n7_; have BK605 := n8_; have BK617 := n9_; have HB := n10_; clear n0_ n1_ n2_ n3_ n4_ n5_ n6_ n7_ n8_ n9_ n10_))
             replace HO600 := Aside0.mk (Kd.R_drew HO600.out)
             replace HO603 := Aside0.mk (Kd.R_drew HO603.out)
             replace HO612 := Aside0.mk (Kd.R_drew HO612.out)
             replace HO615 := Aside0.mk (Kd.R_drew HO615.out)
             replace BK525 := Aside0.mk (blk_drew BK525.out)
             replace BK537 := Aside0.mk (blk_drew BK537.out)
             replace BK549 := Aside0.mk (blk_drew BK549.out)
             replace BK593 := Aside0.mk (blk_drew BK593.out)
             replace BK605 := Aside0.mk (blk_drew BK605.out)
             replace BK617 := Aside0.mk (blk_drew BK617.out)
             replace HB := Aside0.mk (below_drew1 HB.out)
             refine start_ (n := 16) (S := fun w' => w'.cell? ⟨gb593, 0, none⟩ = some (.int .i64 t589) ∧ w'.cell? ⟨gb593, 1, none⟩ = some (.int .i64 t590) ∧ w'.cell? ⟨gb593, 2, none⟩ = some (.int .i64 t591) ∧ w'.cell? ⟨gb593, 3, none⟩ = some (.string t592) ∧ w'.cell? ⟨gb605, 0, none⟩ = some (.int .i64 t594) ∧ w'.cell? ⟨gb605, 1, none⟩ = some (.int .i64 t595) ∧ w'.cell? ⟨gb605, 2, none⟩ = some (.int .i64 t596) ∧ w'.cell? ⟨gb605, 3, none⟩ = some (.string t597)) (ds := []) (Sw.b 16 0) (by kernel_rfl) rfl rfl ⟨(blk_cell BK593.out 0).trans rfl, (blk_cell BK593.out 1).trans rfl, (blk_cell BK593.out 2).trans rfl, (blk_cell BK593.out 3).trans rfl, (blk_cell BK605.out 0).trans rfl, (blk_cell BK605.out 1).trans rfl, (blk_cell BK605.out 2).trans rfl, (blk_cell BK605.out 3).trans rfl⟩ (fun hHeld => ?_); refine with_tabW laws_FnChunks.tab21 laws_FnChunks.bits21 (fun HT_ HW_ => ?_)
             generalize w143.drew = w144 at HO600 HO603 HO612 HO615 BK525 BK537 BK549 BK593 BK605 BK617 HB hHeld ⊢
             refine Sw.pw 0 202 (Sw.b 16 1) ?_
             refine Sw.pw 1 203 (Sw.b 16 3) ?_
             refine Sw.pw 2 204 (Sw.b 16 7) ?_
             refine Sw.pw 3 205 (Sw.b 16 15) ?_
             refine Sw.pw 5 207 (Sw.b 16 47) ?_
             refine take_ (i := 6) (N := some 208) (v := ?_) (a' := ?_) (Sw.b 16 111) rfl rfl (take_ofW HT_.out HW_.out (by kernel_rfl)) (fun _ _ _ h => h) (Or.inl ⟨by rfl, ?_⟩) hHeld ?_ ?_
             rotate_left
             ·rintro w' ⟨s0, s1, s2, s3, s4, s5, s6, s7⟩
              go_simp
              with_reducible rfl
             rotate_left
             ·simp only [Act.put, List.setIfInBounds_toArray, List.set_cons_zero, List.set_cons_succ, i64_w, i32_w]
              rfl
             refine Sw.pw 7 209 (Sw.b 16 239) ?_
             refine one_ (i := 4) (N := some 206) (Sw.b 16 255) rfl rfl (one_of HT_.out (by kernel_rfl)) (by decide) (fun K hK => ?_)
             refine goes_ Tryd.func14 (by kernel_rfl) rfl #[.slice Ao141 t601.length co141] (by rfl) rfl rfl Zb3_0 ?_
             with_reducible refine (laws_sum.calls kj38 _ _ t601 t620 _ ?side1 ?side2 A114.out).mono ?_
             (case side1 => repeat (first | exact (Kd.R_reads' HO603.out).2.2 | (with_reducible refine Kd.C_alloc ?_ _) | (with_reducible refine Kd.C_drewN ?_ _) | (with_reducible refine Kd.C_drew ?_)))
             (case side2 => exact (Kd.R_reads' HO603.out).2.1)
             rintro e w' ⟨rfl, ⟨nd, rfl⟩⟩
             refine ⟨_, rfl, ?_⟩
             refine hK.out _ _ ⟨(blk_cell BK593.out 0).trans rfl, (blk_cell BK593.out 1).trans rfl, (blk_cell BK593.out 2).trans rfl, (blk_cell BK593.out 3).trans rfl, (blk_cell BK605.out 0).trans rfl, (blk_cell BK605.out 1).trans rfl, (blk_cell BK605.out 2).trans rfl, (blk_cell BK605.out 3).trans rfl⟩ (fun hHeld => ?_)
             clear hK K
             refine norm_ (a' := ?_) ?_ ?_
             rotate_left
             ·show Act.put _ (some 206) _ = _
              simp only [Act.put, List.setIfInBounds_toArray, List.set_cons_zero, List.set_cons_succ, i64_w, i32_w]
              rfl
             refine Sw.pw 8 210 (Sw.b 16 511) ?_
             refine Sw.pw 9 211 (Sw.b 16 1023) ?_
             refine Sw.pw 10 212 (Sw.b 16 2047) ?_
             refine take_ (i := 11) (N := some 213) (v := ?_) (a' := ?_) (Sw.b 16 4095) rfl rfl (take_ofW HT_.out HW_.out (by kernel_rfl)) (fun _ _ _ h => h) (Or.inl ⟨by rfl, ?_⟩) hHeld ?_ ?_
             rotate_left
             ·rintro w' ⟨s0, s1, s2, s3, s4, s5, s6, s7⟩
              go_simp
              with_reducible rfl
             rotate_left
             ·simp only [Act.put, List.setIfInBounds_toArray, List.set_cons_zero, List.set_cons_succ, i64_w, i32_w]
              rfl
             refine Sw.pw 12 214 (Sw.b 16 8191) ?_
             refine Sw.pw 13 215 (Sw.b 16 16383) ?_
             refine Sw.pw 14 216 (Sw.b 16 32767) ?_
             refine Sw.pw 15 4 (Sw.b 16 65535) ?_
             refine done_ (done_of HT_.out (by kernel_rfl)) ?_
             try go_wp2
             try (any_goals (exfalso; simp only [Bool.or_eq_false_iff, Bool.not_eq_false', beq_iff_eq] at c108b0; obtain ⟨q0_, q1_, q2_, q3_⟩ := c108b0; contradiction))
             go_ret
             exact ⟨Sw.e, Zb3_2⟩
            ·rw [if_neg c115] at H
             have c115b0 : (t620 == (t592.size : Int)) = false := beq_eq_false_iff_ne.mpr c115
             have c115b1 : (t620 != (t592.size : Int)) = true := bne_iff_ne.mpr c115
             exact absurd H (by simp)
           ·replace c113 := Bool.eq_false_iff.mpr c113
            subst c113
            have H1 : (some true) = some r := by rw [if_neg (show ¬ (false = true) by decide)] at H; exact H
            clear H
            have H := H1
            clear H1
            obtain rfl := Option.some.inj H
            try go_wp2_with (first | ((with_reducible refine gate_callee (f := 15) rfl ?_); refine goesL_ (some 167) rfl rfl Tryd.func15 (by kernel_rfl) rfl #[.slice A1 l1.length c1] rfl Zb3_0 ?_; (with_reducible refine (spec_DrawFlushDecoder.calls kj38 _ _ l1 t589 t590 t591 t592 _ ?side1 ?side2 A104.out).mono ?_); (case side1 => repeat (first | exact (Kd.C_below HR1.out HB.out) | (with_reducible refine Kd.C_alloc ?_ _) | (with_reducible refine Kd.C_drewN ?_ _) | (with_reducible refine Kd.C_drew ?_))); (case side2 => exact HC1.out); rintro e w145 ⟨rfl, hb⟩; refine ⟨_, rfl, ?_⟩; replace BK525 := Aside0.mk (Sw.bl BK525.out hb); replace BK537 := Aside0.mk (Sw.bl BK537.out hb); replace BK549 := Aside0.mk (Sw.bl BK549.out hb); replace HB := Aside0.mk (below_step Sw.hb hb); (try clear hb); (try clear hb2); (try clear hk); (try clear hi)) | ((with_reducible refine gate_dst (N := 24) rfl ?_); (try (refine gate_guard (by rfl) ?_; dsimp only)); refine box_event ?hg (N := 24) ?hd (cs := #[.int .i64 0, .int .i64 0, .int .i64 0, .string (⟨#[]⟩ : ByteArray)]) (t := 25) ?hr ?_; (case hd => rfl); (case hg => rfl); (case hr => first | (go_simp; done) | (go_simp; rfl)); intro gb593 hg w146 hbox hb; have BK593 := Aside0.mk (hbox); have GW593 := Aside0.mk ((Sw.gs hg)); have GE593 := Aside0.mk ((Sw.gs hg)); replace HB := Aside0.mk (below_step Sw.hb hb); have NB525_593 := Aside0.mk (Sw.nl hg BK525.out); have NB593_525 := Aside0.mk (Sw.ng hg BK525.out); replace BK525 := Aside0.mk (Sw.bl BK525.out hb); have NB537_593 := Aside0.mk (Sw.nl hg BK537.out); have NB593_537 := Aside0.mk (Sw.ng hg BK537.out); replace BK537 := Aside0.mk (Sw.bl BK537.out hb); have NB549_593 := Aside0.mk (Sw.nl hg BK549.out); have NB593_549 := Aside0.mk (Sw.ng hg BK549.out); replace BK549 := Aside0.mk (Sw.bl BK549.out hb); clear hb hbox hg; have hnb147 := NB593_525.out; have hnc147 := NB525_593.out; have hnb148 := NB593_537.out; have hnc148 := NB537_593.out; have hnb149 := NB593_549.out; have hnc149 := NB549_593.out; obtain ⟨hcz150_0, hcz150_1, hcz150_2, hcz150_3⟩ := Sw.cz4 BK593.out; obtain ⟨hfz150_0, hfz150_1, hfz150_2, hfz150_3⟩ := Sw.fz4 BK593.out) | ((with_reducible refine gate_callee (f := 16) rfl ?_); refine goesL_ (some 170) rfl rfl Tryd.func16 (by kernel_rfl) rfl #[.agg #[.int .i64 t589, .int .i64 t590, .int .i64 t591, .string t592]] rfl Zb3_0 ?_; (with_reducible refine (impl_FlushDecoder.calls kj38 t589 t590 t591 t592 t594 t595 t596 t597 t598 t601 false _ Sw.ht A105.out).mono ?_); rintro e w151 ⟨v599, v602, rfl, ho0, ho1, hb⟩; refine ⟨_, rfl, ?_⟩; have HO600 := Aside0.mk (Kd.R_lower ho0 (below_size Sw.hb)); have HO603 := Aside0.mk (Kd.R_lower ho1 (below_size Sw.hb)); replace BK525 := Aside0.mk (Sw.bg BK525.out NB525_593.out hb); replace BK537 := Aside0.mk (Sw.bg BK537.out NB537_593.out hb); replace BK549 := Aside0.mk (Sw.bg BK549.out NB549_593.out hb); replace BK593 := Aside0.mk (blk_below (g := gb593) (o := .cells #[.int .i64 t589, .int .i64 t590, .int .i64 t591, .string t592] 25 (0, 0)) (Sw.bp (Sw.p0_1_2_3 BK593.out)) hb); replace HB := Aside0.mk (below_step Sw.hb hb); (try clear hb); (try clear hb2); (try clear hk); (try clear hi); (try clear ho0); (try clear ho1)) | ((with_reducible refine gate_dst (N := 25) rfl ?_); (try (refine gate_guard (by rfl) ?_; dsimp only)); refine box_event ?hg (N := 25) ?hd (cs := #[.int .i64 0, .int .i64 0, .int .i64 0, .string (⟨#[]⟩ : ByteArray)]) (t := 25) ?hr ?_; (case hd => rfl); (case hg => rfl); (case hr => first | (go_simp; done) | (go_simp; rfl)); intro gb605 hg w152 hbox hb; replace HO600 := Aside0.mk (Kd.R_below (Sw.rt HO600.out) hb); replace HO603 := Aside0.mk (Kd.R_below (Sw.rt HO603.out) hb); have BK605 := Aside0.mk (hbox); have GW605 := Aside0.mk ((Sw.gs hg)); have GE605 := Aside0.mk ((Sw.gs hg)); replace HB := Aside0.mk (below_step Sw.hb hb); have NB525_605 := Aside0.mk (Sw.nl hg BK525.out); have NB605_525 := Aside0.mk (Sw.ng hg BK525.out); replace BK525 := Aside0.mk (Sw.bl BK525.out hb); have NB537_605 := Aside0.mk (Sw.nl hg BK537.out); have NB605_537 := Aside0.mk (Sw.ng hg BK537.out); replace BK537 := Aside0.mk (Sw.bl BK537.out hb); have NB549_605 := Aside0.mk (Sw.nl hg BK549.out); have NB605_549 := Aside0.mk (Sw.ng hg BK549.out); replace BK549 := Aside0.mk (Sw.bl BK549.out hb); have NB593_605 := Aside0.mk (Sw.nl hg BK593.out); have NB605_593 := Aside0.mk (Sw.ng hg BK593.out); replace BK593 := Aside0.mk (Sw.bl BK593.out hb); clear hb hbox hg; have hnb153 := NB605_525.out; have hnc153 := NB525_605.out; have hnb154 := NB605_537.out; have hnc154 := NB537_605.out; have hnb155 := NB605_549.out; have hnc155 := NB549_605.out; have hnb156 := NB605_593.out; have hnc156 := NB593_605.out; obtain ⟨hcz157_0, hcz157_1, hcz157_2, hcz157_3⟩ := Sw.cz4 BK605.out; obtain ⟨hfz157_0, hfz157_1, hfz157_2, hfz157_3⟩ := Sw.fz4 BK605.out; obtain ⟨hcz158_0, hcz158_1, hcz158_2, hcz158_3⟩ := Sw.cz4 BK593.out; obtain ⟨hfz158_0, hfz158_1, hfz158_2, hfz158_3⟩ := Sw.fz4 BK593.out) | ((with_reducible refine gate_callee (f := 17) rfl ?_); refine goesL_ (some 177) rfl rfl Tryd.func17 (by kernel_rfl) rfl #[.agg #[.int .i64 t589, .int .i64 t590, .int .i64 t591, .string t592]] rfl Zb3_0 ?_; (with_reducible refine (spec_FlushDecoder.calls kj38 t589 t590 t591 t592 t606 t607 t608 t609 t610 t613 t616 _ A106.out).mono ?_); rintro e w159 ⟨v611, v614, rfl, ho0, ho1, hb⟩; refine ⟨_, rfl, ?_⟩; have HO612 := Aside0.mk (Kd.R_lower (Kd.R_new' (Kd.R_new' ho0 (Kd.R_lt (Sw.rt (Sw.g0_1_2_3 HO600.out BK605.out)))) (Kd.R_lt (Sw.rt (Sw.g0_1_2_3 HO603.out BK605.out)))) (below_size Sw.hb)); have HO615 := Aside0.mk (Kd.R_lower (Kd.R_new' (Kd.R_new' ho1 (Kd.R_lt (Sw.rt (Sw.g0_1_2_3 HO600.out BK605.out)))) (Kd.R_lt (Sw.rt (Sw.g0_1_2_3 HO603.out BK605.out)))) (below_size Sw.hb)); replace HO600 := Aside0.mk (Kd.R_mono (Kd.R_told (Kd.R_told (Kd.R_old (Sw.rt (Sw.g0_1_2_3 HO600.out BK605.out)) hb) (Kd.R_base ho0)) (Kd.R_base ho1)) (fun _ h_ => h_.1)); replace HO603 := Aside0.mk (Kd.R_mono (Kd.R_told (Kd.R_told (Kd.R_old (Sw.rt (Sw.g0_1_2_3 HO603.out BK605.out)) hb) (Kd.R_base ho0)) (Kd.R_base ho1)) (fun _ h_ => h_.1)); replace BK525 := Aside0.mk (Sw.bg BK525.out NB525_605.out hb); replace BK537 := Aside0.mk (Sw.bg BK537.out NB537_605.out hb); replace BK549 := Aside0.mk (Sw.bg BK549.out NB549_605.out hb); replace BK593 := Aside0.mk (Sw.bg BK593.out NB593_605.out hb); replace BK605 := Aside0.mk (blk_below (g := gb605) (o := .cells #[.int .i64 t594, .int .i64 t595, .int .i64 t596, .string t597] 25 (0, 0)) (Sw.bp (Sw.p0_1_2_3 BK605.out)) hb); replace HB := Aside0.mk (below_step Sw.hb hb); (try clear hb); (try clear hb2); (try clear hk); (try clear hi); (try clear ho0); (try clear ho1)) | ((with_reducible refine gate_dst (N := 29) rfl ?_); (try (refine gate_guard (by rfl) ?_; dsimp only)); refine box_event ?hg (N := 29) ?hd (cs := #[.int .i64 0, .int .i64 0, .int .i64 0, .string (⟨#[]⟩ : ByteArray)]) (t := 25) ?hr ?_; (case hd => rfl); (case hg => rfl); (case hr => first | (go_simp; done) | (go_simp; rfl)); intro gb617 hg w160 hbox hb; replace HO600 := Aside0.mk (Kd.R_below (Sw.rt HO600.out) hb); replace HO603 := Aside0.mk (Kd.R_below (Sw.rt HO603.out) hb); replace HO612 := Aside0.mk (Kd.R_below (Sw.rt HO612.out) hb); replace HO615 := Aside0.mk (Kd.R_below (Sw.rt HO615.out) hb); have BK617 := Aside0.mk (hbox); have GW617 := Aside0.mk ((Sw.gs hg)); have GE617 := Aside0.mk ((Sw.gs hg)); replace HB := Aside0.mk (below_step Sw.hb hb); have NB525_617 := Aside0.mk (Sw.nl hg BK525.out); have NB617_525 := Aside0.mk (Sw.ng hg BK525.out); replace BK525 := Aside0.mk (Sw.bl BK525.out hb); have NB537_617 := Aside0.mk (Sw.nl hg BK537.out); have NB617_537 := Aside0.mk (Sw.ng hg BK537.out); replace BK537 := Aside0.mk (Sw.bl BK537.out hb); have NB549_617 := Aside0.mk (Sw.nl hg BK549.out); have NB617_549 := Aside0.mk (Sw.ng hg BK549.out); replace BK549 := Aside0.mk (Sw.bl BK549.out hb); have NB593_617 := Aside0.mk (Sw.nl hg BK593.out); have NB617_593 := Aside0.mk (Sw.ng hg BK593.out); replace BK593 := Aside0.mk (Sw.bl BK593.out hb); have NB605_617 := Aside0.mk (Sw.nl hg BK605.out); have NB617_605 := Aside0.mk (Sw.ng hg BK605.out); replace BK605 := Aside0.mk (Sw.bl BK605.out hb); clear hb hbox hg; have hnb161 := NB617_525.out; have hnc161 := NB525_617.out; have hnb162 := NB617_537.out; have hnc162 := NB537_617.out; have hnb163 := NB617_549.out; have hnc163 := NB549_617.out; have hnb164 := NB617_593.out; have hnc164 := NB593_617.out; have hnb165 := NB617_605.out; have hnc165 := NB605_617.out; obtain ⟨hcz166_0, hcz166_1, hcz166_2, hcz166_3⟩ := Sw.cz4 BK617.out; obtain ⟨hfz166_0, hfz166_1, hfz166_2, hfz166_3⟩ := Sw.fz4 BK617.out; obtain ⟨hcz167_0, hcz167_1, hcz167_2, hcz167_3⟩ := Sw.cz4 BK605.out; obtain ⟨hfz167_0, hfz167_1, hfz167_2, hfz167_3⟩ := Sw.fz4 BK605.out; obtain ⟨Ao168, co168, eo168⟩ := Kd.R_slice HO600.out; subst eo168; obtain ⟨Ao169, co169, eo169⟩ := Kd.R_slice HO612.out; subst eo169) | (go_at_call 10; (with_reducible refine (laws_sameInts.calls kj38 _ _ t598 _ _ t610 true _ ?side1 ?side2 ?side3 ?side4 A109.out).mono ?_); (case side1 => refine (Kd.R_reads' (e := 3) (base := w.heap.size) (ok := fun k_ => ((some k_ ≠ (v602 : Value).ownBlock ∧ some k_ ≠ (.slice Ao169 t610.length co169 : Value).ownBlock) ∧ some k_ ≠ (v614 : Value).ownBlock)) (n := t598.length) (c := co168) ?_).2.2; exact (Sw.rt (Sw.g0_1_2_3 HO600.out BK617.out))); (case side2 => exact (Kd.R_reads' HO600.out).2.1); (case side3 => refine (Kd.R_reads' (e := 3) (base := w.heap.size) (ok := fun k_ => ((some k_ ≠ (v614 : Value).ownBlock ∧ some k_ ≠ (.slice Ao168 t598.length co168 : Value).ownBlock) ∧ some k_ ≠ (v602 : Value).ownBlock)) (n := t610.length) (c := co169) ?_).2.2; exact (Sw.rt (Sw.g0_1_2_3 HO612.out BK617.out))); (case side4 => exact (Kd.R_reads' HO612.out).2.1); rintro e w' ⟨rfl, ⟨nd, rfl⟩⟩; obtain ⟨Ao170, co170, eo170⟩ := Kd.R_slice HO603.out; subst eo170; obtain ⟨Ao171, co171, eo171⟩ := Kd.R_slice HO615.out; subst eo171) | (go_at_call 10; (with_reducible refine (laws_sameInts.calls kj38 _ _ t601 _ _ t613 true _ ?side1 ?side2 ?side3 ?side4 A111.out).mono ?_); (case side1 => refine (Kd.R_reads' (e := 3) (base := w.heap.size) (ok := fun k_ => ((some k_ ≠ (.slice Ao168 t598.length co168 : Value).ownBlock ∧ some k_ ≠ (.slice Ao169 t610.length co169 : Value).ownBlock) ∧ some k_ ≠ (.slice Ao171 t613.length co171 : Value).ownBlock)) (n := t601.length) (c := co170) ?_).2.2; exact (Sw.rt (Sw.g0_1_2_3 HO603.out BK617.out))); (case side2 => exact (Kd.R_reads' HO603.out).2.1); (case side3 => refine (Kd.R_reads' (e := 3) (base := w.heap.size) (ok := fun k_ => ((some k_ ≠ (.slice Ao169 t610.length co169 : Value).ownBlock ∧ some k_ ≠ (.slice Ao168 t598.length co168 : Value).ownBlock) ∧ some k_ ≠ (.slice Ao170 t601.length co170 : Value).ownBlock)) (n := t613.length) (c := co171) ?_).2.2; exact (Sw.rt (Sw.g0_1_2_3 HO615.out BK617.out))); (case side4 => exact (Kd.R_reads' HO615.out).2.1); rintro e w' ⟨rfl, ⟨nd, rfl⟩⟩))
            try (any_goals (exfalso; simp only [Bool.or_eq_false_iff, Bool.not_eq_false', beq_iff_eq] at c108b0; obtain ⟨q0_, q1_, q2_, q3_⟩ := c108b0; contradiction))
            generalize hq_ : ((((w160.setCell ⟨gb617, 0, none⟩ (.int .i64 t606)).setCell ⟨gb617, 1, none⟩ (.int .i64 t607)).setCell ⟨gb617, 2, none⟩ (.int .i64 t608)).setCell ⟨gb617, 3, none⟩ (.string t609)) = w172
            replace HO600 : Aside0 (Kd.R (Kd.int .i64) 3 w172 w.heap.size (fun k_ => some k_ ≠ (.slice Ao170 t601.length co170 : Value).ownBlock ∧ some k_ ≠ (.slice Ao169 t610.length co169 : Value).ownBlock ∧ some k_ ≠ (.slice Ao171 t613.length co171 : Value).ownBlock) (.slice Ao168 t598.length co168) t598) := ⟨Zb3_4⟩
            replace HO603 : Aside0 (Kd.R (Kd.int .i64) 3 w172 w.heap.size (fun k_ => some k_ ≠ (.slice Ao168 t598.length co168 : Value).ownBlock ∧ some k_ ≠ (.slice Ao169 t610.length co169 : Value).ownBlock ∧ some k_ ≠ (.slice Ao171 t613.length co171 : Value).ownBlock) (.slice Ao170 t601.length co170) t601) := ⟨Zb3_5⟩
            replace HO612 : Aside0 (Kd.R (Kd.int .i64) 3 w172 w.heap.size (fun k_ => some k_ ≠ (.slice Ao168 t598.length co168 : Value).ownBlock ∧ some k_ ≠ (.slice Ao170 t601.length co170 : Value).ownBlock ∧ some k_ ≠ (.slice Ao171 t613.length co171 : Value).ownBlock) (.slice Ao169 t610.length co169) t610) := ⟨Zb3_6⟩
            replace HO615 : Aside0 (Kd.R (Kd.int .i64) 3 w172 w.heap.size (fun k_ => some k_ ≠ (.slice Ao168 t598.length co168 : Value).ownBlock ∧ some k_ ≠ (.slice Ao170 t601.length co170 : Value).ownBlock ∧ some k_ ≠ (.slice Ao169 t610.length co169 : Value).ownBlock) (.slice Ao171 t613.length co171) t613) := ⟨Zb3_7⟩
            replace BK525 : Aside0 (w172.heap[gb525]? = some (.cells #[.int .i64 t520, .int .i64 t521, .int .i64 t522, .string t523] 25 (0, 0))) := ⟨by rw [← hq_]; exact Sw.bf BK525.out NB525_617.out⟩
            replace BK537 : Aside0 (w172.heap[gb537]? = some (.cells #[.int .i64 t526, .int .i64 t527, .int .i64 t528, .string t529] 25 (0, 0))) := ⟨by rw [← hq_]; exact Sw.bf BK537.out NB537_617.out⟩
            replace BK549 : Aside0 (w172.heap[gb549]? = some (.cells #[.int .i64 t538, .int .i64 t539, .int .i64 t540, .string t541] 25 (0, 0))) := ⟨by rw [← hq_]; exact Sw.bf BK549.out NB549_617.out⟩
            replace BK593 : Aside0 (w172.heap[gb593]? = some (.cells #[.int .i64 t589, .int .i64 t590, .int .i64 t591, .string t592] 25 (0, 0))) := ⟨by rw [← hq_]; exact Sw.bf BK593.out NB593_617.out⟩
            replace BK605 : Aside0 (w172.heap[gb605]? = some (.cells #[.int .i64 t594, .int .i64 t595, .int .i64 t596, .string t597] 25 (0, 0))) := ⟨by rw [← hq_]; exact Sw.bf BK605.out NB605_617.out⟩
            replace BK617 : Aside0 (w172.heap[gb617]? = some (.cells #[.int .i64 t606, .int .i64 t607, .int .i64 t608, .string t609] 25 (0, 0))) := ⟨by rw [← hq_]; exact Sw.bp (Sw.p0_1_2_3 BK617.out)⟩
            replace HB : Aside0 (Below w.heap.size w w172) := ⟨by rw [← hq_]; exact Sw.hb⟩
            clear hq_
            (try (rw [drewN_self w172]; generalize hq_ : World.drewN w172 _ = w172; have n0_ : Aside0 (Kd.R (Kd.int .i64) 3 w172 w.heap.size (fun k_ => some k_ ≠ (.slice Ao170 t601.length co170 : Value).ownBlock ∧ some k_ ≠ (.slice Ao169 t610.length co169 : Value).ownBlock ∧ some k_ ≠ (.slice Ao171 t613.length co171 : Value).ownBlock) (.slice Ao168 t598.length co168) t598) := ⟨by rw [← hq_]; exact (Sw.rt HO600.out)⟩; have n1_ : Aside0 (Kd.R (Kd.int .i64) 3 w172 w.heap.size (fun k_ => some k_ ≠ (.slice Ao168 t598.length co168 : Value).ownBlock ∧ some k_ ≠ (.slice Ao169 t610.length co169 : Value).ownBlock ∧ some k_ ≠ (.slice Ao171 t613.length co171 : Value).ownBlock) (.slice Ao170 t601.length co170) t601) := ⟨by rw [← hq_]; exact (Sw.rt HO603.out)⟩; have n2_ : Aside0 (Kd.R (Kd.int .i64) 3 w172 w.heap.size (fun k_ => some k_ ≠ (.slice Ao168 t598.length co168 : Value).ownBlock ∧ some k_ ≠ (.slice Ao170 t601.length co170 : Value).ownBlock ∧ some k_ ≠ (.slice Ao171 t613.length co171 : Value).ownBlock) (.slice Ao169 t610.length co169) t610) := ⟨by rw [← hq_]; exact (Sw.rt HO612.out)⟩; have n3_ : Aside0 (Kd.R (Kd.int .i64) 3 w172 w.heap.size (fun k_ => some k_ ≠ (.slice Ao168 t598.length co168 : Value).ownBlock ∧ some k_ ≠ (.slice Ao170 t601.length co170 : Value).ownBlock ∧ some k_ ≠ (.slice Ao169 t610.length co169 : Value).ownBlock) (.slice Ao171 t613.length co171) t613) := ⟨by rw [← hq_]; exact (Sw.rt HO615.out)⟩; have n4_ : Aside0 (w172.heap[gb525]? = some (.cells #[.int .i64 t520, .int .i64 t521, .int .i64 t522, .string t523] 25 (0, 0))) := ⟨by rw [← hq_]; exact (Sw.bk BK525.out)⟩; have n5_ : Aside0 (w172.heap[gb537]? = some (.cells #[.int .i64 t526, .int .i64 t527, .int .i64 t528, .string t529] 25 (0, 0))) := ⟨by rw [← hq_]; exact (Sw.bk BK537.out)⟩; have n6_ : Aside0 (w172.heap[gb549]? = some (.cells #[.int .i64 t538, .int .i64 t539, .int .i64 t540, .string t541] 25 (0, 0))) := ⟨by rw [← hq_]; exact (Sw.bk BK549.out)⟩; have n7_ : Aside0 (w172.heap[gb593]? = some (.cells #[.int .i64 t589, .int .i64 t590, .int .i64 t591, .string t592] 25 (0, 0))) := ⟨by rw [← hq_]; exact (Sw.bk BK593.out)⟩; have n8_ : Aside0 (w172.heap[gb605]? = some (.cells #[.int .i64 t594, .int .i64 t595, .int .i64 t596, .string t597] 25 (0, 0))) := ⟨by rw [← hq_]; exact (Sw.bk BK605.out)⟩; have n9_ : Aside0 (w172.heap[gb617]? = some (.cells #[.int .i64 t606, .int .i64 t607, .int .i64 t608, .string t609] 25 (0, 0))) := ⟨by rw [← hq_]; exact (Sw.bk BK617.out)⟩; have n10_ : Aside0 (Below w.heap.size w w172) := ⟨by rw [← hq_]; exact Sw.hb⟩; clear HO600 HO603 HO612 HO615 BK525 BK537 BK549 BK593 BK605 BK617 HB hq_; have HO600 := n0_; have HO603 := n1_; have HO612 := n2_; have HO615 := n3_; have BK525 := n4_; have BK537 := n5_; have BK549 := n6_; have BK593 := n7_; have BK605 := n8_; have BK617 := n9_; have HB := n10_; clear n0_ n1_ n2_ n3_ n4_ n5_ n6_ n7_ n8_ n9_ n10_))
            replace HO600 := Aside0.mk (Kd.R_drew HO600.out)
            replace HO603 := Aside0.mk (Kd.R_drew HO603.out)
            replace HO612 := Aside0.mk (Kd.R_drew HO612.out)
            replace HO615 := Aside0.mk (Kd.R_drew HO615.out)
            replace BK525 := Aside0.mk (blk_drew BK525.out)
            replace BK537 := Aside0.mk (blk_drew BK537.out)
            replace BK549 := Aside0.mk (blk_drew BK549.out)
            replace BK593 := Aside0.mk (blk_drew BK593.out)
            replace BK605 := Aside0.mk (blk_drew BK605.out)
            replace BK617 := Aside0.mk (blk_drew BK617.out)
            replace HB := Aside0.mk (below_drew1 HB.out)
            refine start_ (n := 16) (S := fun w' => True) (ds := []) (Sw.b 16 0) (by kernel_rfl) rfl rfl trivial (fun hHeld => ?_); refine with_tabW laws_FnChunks.tab21 laws_FnChunks.bits21 (fun HT_ HW_ => ?_)
            generalize w172.drew = w173 at HO600 HO603 HO612 HO615 BK525 BK537 BK549 BK593 BK605 BK617 HB hHeld ⊢
            refine Sw.pw 0 202 (Sw.b 16 1) ?_
            refine Sw.pw 1 203 (Sw.b 16 3) ?_
            refine Sw.pw 2 204 (Sw.b 16 7) ?_
            refine Sw.pz 3 205 (Sw.b 16 15) ?_
            refine Sw.pz 4 206 (Sw.b 16 31) ?_
            refine Sw.pz 5 207 (Sw.b 16 63) ?_
            refine Sw.pz 6 208 (Sw.b 16 127) ?_
            refine Sw.pz 7 209 (Sw.b 16 255) ?_
            refine Sw.pz 8 210 (Sw.b 16 511) ?_
            refine Sw.pz 9 211 (Sw.b 16 1023) ?_
            refine Sw.pz 10 212 (Sw.b 16 2047) ?_
            refine Sw.pz 11 213 (Sw.b 16 4095) ?_
            refine Sw.pz 12 214 (Sw.b 16 8191) ?_
            refine Sw.pz 13 215 (Sw.b 16 16383) ?_
            refine Sw.pw 14 216 (Sw.b 16 32767) ?_
            refine Sw.pw 15 4 (Sw.b 16 65535) ?_
            refine done_ (done_of HT_.out (by kernel_rfl)) ?_
            try go_wp2
            try (any_goals (exfalso; simp only [Bool.or_eq_false_iff, Bool.not_eq_false', beq_iff_eq] at c108b0; obtain ⟨q0_, q1_, q2_, q3_⟩ := c108b0; contradiction))
            go_ret
            exact ⟨Sw.e, Zb3_2⟩
          ·replace c112 := Bool.eq_false_iff.mpr c112
           subst c112
           have H1 : (none) = some r := by rw [if_neg (show ¬ (false = true) by decide)] at H; exact H
           clear H
           have H := H1
           clear H1
           exact absurd H (by simp)
         ·replace c110 := Bool.eq_false_iff.mpr c110
          subst c110
          have H1 : (none) = some r := by rw [if_neg (show ¬ (false = true) by decide)] at H; exact H
          clear H
          have H := H1
          clear H1
          exact absurd H (by simp)


end Go.Proofs.YtliafedmhgkciaaDoor.P
