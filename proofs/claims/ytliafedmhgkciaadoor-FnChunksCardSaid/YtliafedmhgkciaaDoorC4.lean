import Derived.Test.YtliafedmhgkciaaDoorCP0
import Derived.Test.YtliafedmhgkciaaDoorC3
namespace Go.Proofs.YtliafedmhgkciaaDoor.P
open Go.RowKit Go.Proofs.YtliafedmhgkciaaDoorW.PrintWords Go.Proofs.YtliafedmhgkciaaDoorW.PrintLast Go.Proofs.YtliafedmhgkciaaDoorW.PrintMore
attribute [local go_sem] max2_int min2_int max_two min_two max_three min_three max_four min_four   -- for this text's walks alone
set_option linter.unusedVariables false
set_option linter.unusedSimpArgs false

set_option maxHeartbeats 16000000
set_option maxRecDepth 1000000

theorem Zb24_0 {p : Prop} (h : p := by repeat (first | (with_reducible first | exact HB.out | apply below_alloc | apply pw_below_drewN | apply below_drew1) | exact HB.out)) : p := h
def impl_IsBegun.f (a0 : ByteArray) : Option (Bool) := if a0.toList = ([] : List UInt8) then (some false) else ((utf8_FullRuneInString.f a0).bind fun t384 => (some (!t384)))
theorem impl_IsBegun.calls (a0 : ByteArray) (r : Bool) (w : World) (hT : Lib.Utf8Tabs 0 1 w) (h : impl_IsBegun.f a0 = some r) :
    Calls Tryd.prog 24 #[.string a0] w fun e w' => e = .returned (.bool r) ∧ Below w.heap.size w w' := by
  have HT := Aside0.mk hT
  clear hT
  have HB := Aside0.mk (Below.refl w.heap.size w)
  have H : (if a0.toList = ([] : List UInt8) then (some false) else ((utf8_FullRuneInString.f a0).bind fun t384 => (some (!t384)))) = some r := h
  clear h
  by_cases c2 : a0.toList = ([] : List UInt8)
  · rw [if_pos c2] at H
    have c2b0 : (a0.toList == ([] : List UInt8)) = true := beq_iff_eq.mpr c2
    have c2b1 : (a0.toList != ([] : List UInt8)) = false := bne_eq_false_iff_eq.mpr c2
    clear c2
    obtain rfl := Option.some.inj H
    go_enter Tryd.func24, Tryd.ntmps24
    go_wp2
    go_ret
    exact ⟨Sw.e, Zb24_0⟩
  · rw [if_neg c2] at H
    have c2b0 : (a0.toList == ([] : List UInt8)) = false := beq_eq_false_iff_ne.mpr c2
    have c2b1 : (a0.toList != ([] : List UInt8)) = true := bne_iff_ne.mpr c2
    replace H := Option.bind_eq_some_iff.mp H
    obtain ⟨t384, A30, H⟩ := H
    replace H : (some (!t384)) = some r := H
    have A3 := Aside0.mk A30
    clear A30
    obtain rfl := Option.some.inj H
    go_enter Tryd.func24, Tryd.ntmps24
    go_wp2_with (first | (go_at_call 73; (with_reducible refine (utf8_FullRuneInString.calls a0 t384 _ Sw.ht A3.out).mono ?_); rintro e w4 ⟨rfl, hb⟩; have n0_ := Aside0.mk (below_step Zb24_0 hb); clear HB; have HB := n0_; clear n0_; (try clear hb); (try clear hb2); (try clear hk); (try clear hi)))
    go_ret
    exact ⟨Sw.e, Zb24_0⟩

def impl_inRange.f (a0 : Int) (a1 : Int) (a2 : Int) : Option (Bool) := if a1 ≤ a0 then (some (decide (a0 ≤ a2))) else (some false)
theorem impl_inRange.calls (a0 : Int) (a1 : Int) (a2 : Int) (r : Bool) (w : World) (h : impl_inRange.f a0 a1 a2 = some r) :
    Calls Tryd.prog 55 #[.int .i64 a0, .int .i64 a1, .int .i64 a2] w fun e w' => e = .returned (.bool r) ∧ Drawn0 w w' := by
  have H : (if a1 ≤ a0 then (some (decide (a0 ≤ a2))) else (some false)) = some r := h
  clear h
  by_cases c4 : a1 ≤ a0
  · rw [if_pos c4] at H
    have c4b0 : decide (a1 ≤ a0) = true := decide_eq_true c4
    clear c4
    obtain rfl := Option.some.inj H
    go_enter Tryd.func55, Tryd.ntmps55
    go_wp2
    go_ret
    exact ⟨Sw.r, Sw.dr⟩
  · rw [if_neg c4] at H
    have c4b0 : decide (a1 ≤ a0) = false := decide_eq_false c4
    clear c4
    obtain rfl := Option.some.inj H
    go_enter Tryd.func55, Tryd.ntmps55
    go_wp2
    go_ret
    exact ⟨Sw.r, Sw.dr⟩

def impl_isCode.f (a0 : Int) : Option (Bool) := (impl_inRange.f a0 1 5).bind fun t385 => (some t385)
theorem impl_isCode.calls (a0 : Int) (r : Bool) (w : World) (h : impl_isCode.f a0 = some r) :
    Calls Tryd.prog 54 #[.int .i64 a0] w fun e w' => e = .returned (.bool r) ∧ Drawn0 w w' := by
  have H : ((impl_inRange.f a0 1 5).bind fun t385 => (some t385)) = some r := h
  clear h
  replace H := Option.bind_eq_some_iff.mp H
  obtain ⟨t385, A20, H⟩ := H
  replace H : (some t385) = some r := H
  have A2 := Aside0.mk A20
  clear A20
  obtain rfl := Option.some.inj H
  go_enter Tryd.func54, Tryd.ntmps54
  go_wp2_with (first | ((with_reducible refine gate_callee (f := 55) rfl ?_); refine goesL_ (some 4) rfl rfl Tryd.func55 (by kernel_rfl) rfl #[.int .i64 a0, .int .i64 1, .int .i64 5] rfl (by (try simp only [List.map_toArray, List.map_cons, List.map_nil]); first | done | rfl | (simp only [List.length_drop, List.length_take]; rfl)) ?_; (with_reducible refine (impl_inRange.calls a0 1 5 t385 _ A2.out).mono ?_); rintro e w' ⟨rfl, ⟨nd, rfl⟩⟩; refine ⟨_, rfl, ?_⟩))
  go_ret
  exact ⟨Sw.r, Sw.dr⟩

def impl_isUnits.f (a0 : Int) : Option (Bool) := if a0 = 2 then (some true) else (some (a0 == 3))
theorem impl_isUnits.calls (a0 : Int) (r : Bool) (w : World) (h : impl_isUnits.f a0 = some r) :
    Calls Tryd.prog 56 #[.int .i64 a0] w fun e w' => e = .returned (.bool r) ∧ Drawn0 w w' := by
  have H : (if a0 = 2 then (some true) else (some (a0 == 3))) = some r := h
  clear h
  by_cases c2 : a0 = 2
  · rw [if_pos c2] at H
    have c2b0 : (a0 == 2) = true := beq_iff_eq.mpr c2
    have c2b1 : (a0 != 2) = false := bne_eq_false_iff_eq.mpr c2
    clear c2
    obtain rfl := Option.some.inj H
    go_enter Tryd.func56, Tryd.ntmps56
    go_wp2
    go_ret
    exact ⟨Sw.r, Sw.dr⟩
  · rw [if_neg c2] at H
    have c2b0 : (a0 == 2) = false := beq_eq_false_iff_ne.mpr c2
    have c2b1 : (a0 != 2) = true := bne_iff_ne.mpr c2
    obtain rfl := Option.some.inj H
    go_enter Tryd.func56, Tryd.ntmps56
    go_wp2
    go_ret
    exact ⟨Sw.r, Sw.dr⟩

def impl_isHigh.f (a0 : Int) : Option (Bool) := (impl_inRange.f a0 55296 56319).bind fun t386 => (some t386)
theorem impl_isHigh.calls (a0 : Int) (r : Bool) (w : World) (h : impl_isHigh.f a0 = some r) :
    Calls Tryd.prog 57 #[.int .i64 a0] w fun e w' => e = .returned (.bool r) ∧ Drawn0 w w' := by
  have H : ((impl_inRange.f a0 55296 56319).bind fun t386 => (some t386)) = some r := h
  clear h
  replace H := Option.bind_eq_some_iff.mp H
  obtain ⟨t386, A20, H⟩ := H
  replace H : (some t386) = some r := H
  have A2 := Aside0.mk A20
  clear A20
  obtain rfl := Option.some.inj H
  go_enter Tryd.func57, Tryd.ntmps57
  go_wp2_with (first | ((with_reducible refine gate_callee (f := 55) rfl ?_); refine goesL_ (some 4) rfl rfl Tryd.func55 (by kernel_rfl) rfl #[.int .i64 a0, .int .i64 55296, .int .i64 56319] rfl (by (try simp only [List.map_toArray, List.map_cons, List.map_nil]); first | done | rfl | (simp only [List.length_drop, List.length_take]; rfl)) ?_; (with_reducible refine (impl_inRange.calls a0 55296 56319 t386 _ A2.out).mono ?_); rintro e w' ⟨rfl, ⟨nd, rfl⟩⟩; refine ⟨_, rfl, ?_⟩))
  go_ret
  exact ⟨Sw.r, Sw.dr⟩

theorem Zb58_0 {p : Prop} (h : p := by first | (with_reducible assumption) | assumption) : p := h
def impl_unitAt.f (a0 : Int) (a1 : ByteArray) : Option (Int) := if a0 = 2 then (if 0 < (a1.size : Int) then (if 1 < (a1.size : Int) then (some (Go.bits .or .i64 (wrap64 ((wrap64 (bt a1 0)) * 256)) (wrap64 (bt a1 1)))) else (none)) else (none)) else (if 1 < (a1.size : Int) then (if 0 < (a1.size : Int) then (some (Go.bits .or .i64 (wrap64 ((wrap64 (bt a1 1)) * 256)) (wrap64 (bt a1 0)))) else (none)) else (none))
theorem impl_unitAt.calls (a0 : Int) (a1 : ByteArray) (r : Int) (w : World) (h : impl_unitAt.f a0 a1 = some r) :
    Calls Tryd.prog 58 #[.int .i64 a0, .string a1] w fun e w' => e = .returned (.int .i64 r) ∧ Drawn0 w w' := by
  have H : (if a0 = 2 then (if 0 < (a1.size : Int) then (if 1 < (a1.size : Int) then (some (Go.bits .or .i64 (wrap64 ((wrap64 (bt a1 0)) * 256)) (wrap64 (bt a1 1)))) else (none)) else (none)) else (if 1 < (a1.size : Int) then (if 0 < (a1.size : Int) then (some (Go.bits .or .i64 (wrap64 ((wrap64 (bt a1 1)) * 256)) (wrap64 (bt a1 0)))) else (none)) else (none))) = some r := h
  clear h
  by_cases c3 : a0 = 2
  · rw [if_pos c3] at H
    have c3b0 : (a0 == 2) = true := beq_iff_eq.mpr c3
    have c3b1 : (a0 != 2) = false := bne_eq_false_iff_eq.mpr c3
    clear c3
    by_cases c4 : 0 < (a1.size : Int)
    · rw [if_pos c4] at H
      have c4b0 : decide (0 < (a1.size : Int)) = true := decide_eq_true c4
      have c4b1 : decide (0 < a1.size) = true := decide_eq_true (by omega)
      clear c4
      by_cases c6 : 1 < (a1.size : Int)
      · rw [if_pos c6] at H
        have c6b0 : decide (1 < (a1.size : Int)) = true := decide_eq_true c6
        have c6b1 : decide (1 < a1.size) = true := decide_eq_true (by omega)
        clear c6
        obtain rfl := Option.some.inj H
        have p5 : 0 ≤ (0 : Int) := (by omega)
        have q5 : 0 < a1.size := (by have : (0 : Int) < (a1.size : Int) := of_decide_eq_true Zb58_0; omega)
        have hx5 : ∀ h : 0 < a1.size, ((a1[0]'h).toNat : Int) = bt a1 0 := bt_at a1 0
        clear p5
        have qi5 : (0 < (a1.size : Int)) = True := eq_true (of_decide_eq_true Zb58_0)
        replace q5 := eq_true q5
        have p7 : 0 ≤ (1 : Int) := (by omega)
        have q7 : 1 < a1.size := (by have : (1 : Int) < (a1.size : Int) := of_decide_eq_true Zb58_0; omega)
        have hx7 : ∀ h : 1 < a1.size, ((a1[1]'h).toNat : Int) = bt a1 1 := bt_at a1 1
        clear p7
        have qi7 : (1 < (a1.size : Int)) = True := eq_true (of_decide_eq_true Zb58_0)
        replace q7 := eq_true q7
        go_enter Tryd.func58, Tryd.ntmps58
        go_wp2
        repeat (go_quiet (fail); try go_wp2)
        go_ret
        exact ⟨Sw.r, Sw.dr⟩
      · rw [if_neg c6] at H
        exact absurd H (by simp)
    · rw [if_neg c4] at H
      exact absurd H (by simp)
  · rw [if_neg c3] at H
    have c3b0 : (a0 == 2) = false := beq_eq_false_iff_ne.mpr c3
    have c3b1 : (a0 != 2) = true := bne_iff_ne.mpr c3
    by_cases c8 : 1 < (a1.size : Int)
    · rw [if_pos c8] at H
      have c8b0 : decide (1 < (a1.size : Int)) = true := decide_eq_true c8
      have c8b1 : decide (1 < a1.size) = true := decide_eq_true (by omega)
      clear c8
      by_cases c10 : 0 < (a1.size : Int)
      · rw [if_pos c10] at H
        have c10b0 : decide (0 < (a1.size : Int)) = true := decide_eq_true c10
        have c10b1 : decide (0 < a1.size) = true := decide_eq_true (by omega)
        clear c10
        obtain rfl := Option.some.inj H
        have p9 : 0 ≤ (1 : Int) := (by omega)
        have q9 : 1 < a1.size := (by have : (1 : Int) < (a1.size : Int) := of_decide_eq_true Zb58_0; omega)
        have hx9 : ∀ h : 1 < a1.size, ((a1[1]'h).toNat : Int) = bt a1 1 := bt_at a1 1
        clear p9
        have qi9 : (1 < (a1.size : Int)) = True := eq_true (of_decide_eq_true Zb58_0)
        replace q9 := eq_true q9
        have p11 : 0 ≤ (0 : Int) := (by omega)
        have q11 : 0 < a1.size := (by have : (0 : Int) < (a1.size : Int) := of_decide_eq_true Zb58_0; omega)
        have hx11 : ∀ h : 0 < a1.size, ((a1[0]'h).toNat : Int) = bt a1 0 := bt_at a1 0
        clear p11
        have qi11 : (0 < (a1.size : Int)) = True := eq_true (of_decide_eq_true Zb58_0)
        replace q11 := eq_true q11
        go_enter Tryd.func58, Tryd.ntmps58
        go_wp2
        repeat (go_quiet (fail); try go_wp2)
        go_ret
        exact ⟨Sw.r, Sw.dr⟩
      · rw [if_neg c10] at H
        exact absurd H (by simp)
    · rw [if_neg c8] at H
      exact absurd H (by simp)

theorem Zb11_0 {p : Prop} (h : p := by simp only [List.map_toArray, List.map_cons, List.map_nil] <;> rfl) : p := h
theorem Zb11_1 {p : Prop} (h : p := by repeat (first | (with_reducible first | exact HB.out | apply below_alloc | apply pw_below_drewN | apply below_drew1 | refine below_set ?_ GE387.out) | exact HB.out)) : p := h
def impl_GoodDecoder.j0 : Nat → Bool → Int → Int → Int → ByteArray → Option (Bool)
 | 0, _, _, _, _, _ => none
 | k + 1, x31, x388000, x388001, x388002, x388003 => if x31 = true then (some false) else (if x388003.toList = ([] : List UInt8) then (some true) else (if x388000 = 1 then ((impl_IsBegun.f x388003).bind fun t391 => (some t391)) else ((impl_isUnits.f x388000).bind fun t392 => (if t392 = true then (if (x388003.size : Int) ≤ 3 then (if (x388003.size : Int) = 1 then (some true) else ((impl_unitAt.f x388000 x388003).bind fun t393 => ((impl_isHigh.f t393).bind fun t394 => (some t394)))) else (some false)) else (some false)))))
def impl_GoodDecoder.f (k : Nat) (a0_0 : Int) (a0_1 : Int) (a0_2 : Int) (a0_3 : ByteArray) : Option (Bool) := (impl_isCode.f a0_0).bind fun t388 => (if t388 = true then ((impl_inRange.f a0_1 0 1).bind fun t389 => (if t389 = true then ((impl_inRange.f a0_2 0 1000).bind fun t390 => (if t390 = true then (if a0_0 = 5 then (impl_GoodDecoder.j0 k false a0_0 a0_1 a0_2 a0_3) else (impl_GoodDecoder.j0 k (decide ((wrap64 (a0_1 + a0_2)) > 0)) a0_0 a0_1 a0_2 a0_3)) else (impl_GoodDecoder.j0 k true a0_0 a0_1 a0_2 a0_3))) else (impl_GoodDecoder.j0 k true a0_0 a0_1 a0_2 a0_3))) else (impl_GoodDecoder.j0 k true a0_0 a0_1 a0_2 a0_3))
theorem impl_GoodDecoder.mono_l : ∀ k, (∀ y0 y1 y2 y3 y4, LeO (impl_GoodDecoder.j0 k y0 y1 y2 y3 y4) (impl_GoodDecoder.j0 (k + 1) y0 y1 y2 y3 y4))
 | 0 => fun _ _ _ _ _ r h => by simp [impl_GoodDecoder.j0] at h
 | k + 1 => by
  have ih0 := impl_GoodDecoder.mono_l k
  ·intro y0 y1 y2 y3 y4
   unfold impl_GoodDecoder.j0
   with_reducible repeat' first | exact ih0 _ _ _ _ _ | exact LeO.refl _ | exact LeO.none _ | refine LeO.ite ?_ ?_ | refine LeO.bind ?_ (fun _ => ?_)
theorem impl_GoodDecoder.mono : ∀ a0 a1 a2 a3 k, LeO (impl_GoodDecoder.f k a0 a1 a2 a3) (impl_GoodDecoder.f (k + 1) a0 a1 a2 a3) := by
 intro a0 a1 a2 a3 k
 have ih0 := impl_GoodDecoder.mono_l k
 unfold impl_GoodDecoder.f
 with_reducible repeat' first | exact ih0 _ _ _ _ _ | exact LeO.refl _ | exact LeO.none _ | refine LeO.ite ?_ ?_ | refine LeO.bind ?_ (fun _ => ?_)
theorem impl_GoodDecoder.calls (k : Nat) (a0_0 : Int) (a0_1 : Int) (a0_2 : Int) (a0_3 : ByteArray) (r : Bool) (w : World) (hT : Lib.Utf8Tabs 0 1 w) (h : impl_GoodDecoder.f k a0_0 a0_1 a0_2 a0_3 = some r) :
  Calls Tryd.prog 11 #[.agg #[.int .i64 a0_0, .int .i64 a0_1, .int .i64 a0_2, .string a0_3]] w fun e w' => e = .returned (.bool r) ∧ Below w.heap.size w w' := by
 have HT := Aside0.mk hT
 clear hT
 have hu25 := Tryd.underlying25
 have HB := Aside0.mk (Below.refl w.heap.size w)
 have H : ((impl_isCode.f a0_0).bind fun t388 => (if t388 = true then ((impl_inRange.f a0_1 0 1).bind fun t389 => (if t389 = true then ((impl_inRange.f a0_2 0 1000).bind fun t390 => (if t390 = true then (if a0_0 = 5 then (impl_GoodDecoder.j0 k false a0_0 a0_1 a0_2 a0_3) else (impl_GoodDecoder.j0 k (decide ((wrap64 (a0_1 + a0_2)) > 0)) a0_0 a0_1 a0_2 a0_3)) else (impl_GoodDecoder.j0 k true a0_0 a0_1 a0_2 a0_3))) else (impl_GoodDecoder.j0 k true a0_0 a0_1 a0_2 a0_3))) else (impl_GoodDecoder.j0 k true a0_0 a0_1 a0_2 a0_3))) = some r := h
 clear h
 have HC2 := Aside0.mk H
 clear H
 go_enter Tryd.func11, Tryd.ntmps11
 go_upto_region 1 with (first | ((with_reducible refine gate_dst (N := 1) rfl ?_); (try (refine gate_guard (by rfl) ?_; dsimp only)); refine box_event ?hg (N := 1) ?hd (cs := #[.int .i64 a0_0, .int .i64 a0_1, .int .i64 a0_2, .string a0_3]) (t := 25) ?hr ?_; (case hd => rfl); (case hg => rfl); (case hr => go_simp <;> rfl); intro gb387 hg w3 hbox hb; have BK387 := Aside0.mk (hbox); have GW387 := Aside0.mk ((Sw.gs hg)); have GE387 := Aside0.mk ((Sw.gs hg)); replace HB := Aside0.mk (below_step Sw.hb hb); clear hb hbox hg))
 (try simp only [Act.put, List.setIfInBounds_toArray, List.set_cons_zero, List.set_cons_succ])
 go_cut [31] (fun v31 wc => ∃ (kq : Nat) (x31_1 : Bool), v31 = .bool x31_1 ∧ Aside0 (impl_GoodDecoder.j0 kq x31_1 a0_0 a0_1 a0_2 a0_3 = some r) ∧ Aside0 (kq ≤ k) ∧ Aside0 (wc.heap[gb387]? = some (.cells #[.int .i64 a0_0, .int .i64 a0_1, .int .i64 a0_2, .string a0_3] 25 (0, 0))) ∧ Aside0 (Below w.heap.size w wc))
 case first =>
  have H := HC2.out
  clear HC2
  replace H := Option.bind_eq_some_iff.mp H
  obtain ⟨t388, A40, H⟩ := H
  replace H : (if t388 = true then ((impl_inRange.f a0_1 0 1).bind fun t389 => (if t389 = true then ((impl_inRange.f a0_2 0 1000).bind fun t390 => (if t390 = true then (if a0_0 = 5 then (impl_GoodDecoder.j0 k false a0_0 a0_1 a0_2 a0_3) else (impl_GoodDecoder.j0 k (decide ((wrap64 (a0_1 + a0_2)) > 0)) a0_0 a0_1 a0_2 a0_3)) else (impl_GoodDecoder.j0 k true a0_0 a0_1 a0_2 a0_3))) else (impl_GoodDecoder.j0 k true a0_0 a0_1 a0_2 a0_3))) else (impl_GoodDecoder.j0 k true a0_0 a0_1 a0_2 a0_3)) = some r := H
  have A4 := Aside0.mk A40
  clear A40
  by_cases c5 : t388 = true
  ·subst c5
   have H1 : ((impl_inRange.f a0_1 0 1).bind fun t389 => (if t389 = true then ((impl_inRange.f a0_2 0 1000).bind fun t390 => (if t390 = true then (if a0_0 = 5 then (impl_GoodDecoder.j0 k false a0_0 a0_1 a0_2 a0_3) else (impl_GoodDecoder.j0 k (decide ((wrap64 (a0_1 + a0_2)) > 0)) a0_0 a0_1 a0_2 a0_3)) else (impl_GoodDecoder.j0 k true a0_0 a0_1 a0_2 a0_3))) else (impl_GoodDecoder.j0 k true a0_0 a0_1 a0_2 a0_3))) = some r := by rw [if_pos rfl] at H; exact H
   clear H
   have H := H1
   clear H1
   replace H := Option.bind_eq_some_iff.mp H
   obtain ⟨t389, A60, H⟩ := H
   replace H : (if t389 = true then ((impl_inRange.f a0_2 0 1000).bind fun t390 => (if t390 = true then (if a0_0 = 5 then (impl_GoodDecoder.j0 k false a0_0 a0_1 a0_2 a0_3) else (impl_GoodDecoder.j0 k (decide ((wrap64 (a0_1 + a0_2)) > 0)) a0_0 a0_1 a0_2 a0_3)) else (impl_GoodDecoder.j0 k true a0_0 a0_1 a0_2 a0_3))) else (impl_GoodDecoder.j0 k true a0_0 a0_1 a0_2 a0_3)) = some r := H
   have A6 := Aside0.mk A60
   clear A60
   by_cases c7 : t389 = true
   ·subst c7
    have H1 : ((impl_inRange.f a0_2 0 1000).bind fun t390 => (if t390 = true then (if a0_0 = 5 then (impl_GoodDecoder.j0 k false a0_0 a0_1 a0_2 a0_3) else (impl_GoodDecoder.j0 k (decide ((wrap64 (a0_1 + a0_2)) > 0)) a0_0 a0_1 a0_2 a0_3)) else (impl_GoodDecoder.j0 k true a0_0 a0_1 a0_2 a0_3))) = some r := by rw [if_pos rfl] at H; exact H
    clear H
    have H := H1
    clear H1
    replace H := Option.bind_eq_some_iff.mp H
    obtain ⟨t390, A80, H⟩ := H
    replace H : (if t390 = true then (if a0_0 = 5 then (impl_GoodDecoder.j0 k false a0_0 a0_1 a0_2 a0_3) else (impl_GoodDecoder.j0 k (decide ((wrap64 (a0_1 + a0_2)) > 0)) a0_0 a0_1 a0_2 a0_3)) else (impl_GoodDecoder.j0 k true a0_0 a0_1 a0_2 a0_3)) = some r := H
    have A8 := Aside0.mk A80
    clear A80
    by_cases c9 : t390 = true
    ·subst c9
     have H1 : (if a0_0 = 5 then (impl_GoodDecoder.j0 k false a0_0 a0_1 a0_2 a0_3) else (impl_GoodDecoder.j0 k (decide ((wrap64 (a0_1 + a0_2)) > 0)) a0_0 a0_1 a0_2 a0_3)) = some r := by rw [if_pos rfl] at H; exact H
     clear H
     have H := H1
     clear H1
     by_cases c10 : a0_0 = 5
     ·rw [if_pos c10] at H
      have c10b0 : (a0_0 == 5) = true := beq_iff_eq.mpr c10
      have c10b1 : (a0_0 != 5) = false := bne_eq_false_iff_eq.mpr c10
      clear c10
      (first | rw [c10b0] | (simp only [i64_w, i32_w]; rw [c10b0]) | skip)
      have H' := Aside0.mk H
      clear H
      obtain ⟨hcz11_0, hcz11_1, hcz11_2, hcz11_3⟩ := Sw.cz4 BK387.out
      obtain ⟨hfz11_0, hfz11_1, hfz11_2, hfz11_3⟩ := Sw.fz4 BK387.out
      go_wp2_with (first | ((with_reducible refine gate_callee (f := 54) rfl ?_); refine goesL_ (some 5) rfl rfl Tryd.func54 (by kernel_rfl) rfl #[.int .i64 a0_0] rfl Zb11_0 ?_; (with_reducible refine (impl_isCode.calls a0_0 true _ A4.out).mono ?_); rintro e w' ⟨rfl, ⟨nd, rfl⟩⟩; refine ⟨_, rfl, ?_⟩) | (go_at_call 55; (with_reducible refine (impl_inRange.calls a0_1 0 1 true _ A6.out).mono ?_); rintro e w' ⟨rfl, ⟨nd, rfl⟩⟩) | (go_at_call 55; (with_reducible refine (impl_inRange.calls a0_2 0 1000 true _ A8.out).mono ?_); rintro e w' ⟨rfl, ⟨nd, rfl⟩⟩))
      go_meet
      case rel => exact ⟨_, (false), Sw.r, H', ⟨by first | omega | exact Nat.le_refl _⟩, ⟨Sw.bk BK387.out⟩, ⟨Sw.hb⟩⟩
     ·rw [if_neg c10] at H
      have c10b0 : (a0_0 == 5) = false := beq_eq_false_iff_ne.mpr c10
      have c10b1 : (a0_0 != 5) = true := bne_iff_ne.mpr c10
      (first | rw [c10b0] | (simp only [i64_w, i32_w]; rw [c10b0]) | skip)
      have H' := Aside0.mk H
      clear H
      obtain ⟨hcz12_0, hcz12_1, hcz12_2, hcz12_3⟩ := Sw.cz4 BK387.out
      obtain ⟨hfz12_0, hfz12_1, hfz12_2, hfz12_3⟩ := Sw.fz4 BK387.out
      go_wp2_with (first | ((with_reducible refine gate_callee (f := 54) rfl ?_); refine goesL_ (some 5) rfl rfl Tryd.func54 (by kernel_rfl) rfl #[.int .i64 a0_0] rfl Zb11_0 ?_; (with_reducible refine (impl_isCode.calls a0_0 true _ A4.out).mono ?_); rintro e w' ⟨rfl, ⟨nd, rfl⟩⟩; refine ⟨_, rfl, ?_⟩) | (go_at_call 55; (with_reducible refine (impl_inRange.calls a0_1 0 1 true _ A6.out).mono ?_); rintro e w' ⟨rfl, ⟨nd, rfl⟩⟩) | (go_at_call 55; (with_reducible refine (impl_inRange.calls a0_2 0 1000 true _ A8.out).mono ?_); rintro e w' ⟨rfl, ⟨nd, rfl⟩⟩))
      go_meet
      case rel => exact ⟨_, (decide ((wrap64 (a0_1 + a0_2)) > 0)), Sw.r, H', ⟨by first | omega | exact Nat.le_refl _⟩, ⟨Sw.bk BK387.out⟩, ⟨Sw.hb⟩⟩
    ·replace c9 := Bool.eq_false_iff.mpr c9
     subst c9
     have H1 : (impl_GoodDecoder.j0 k true a0_0 a0_1 a0_2 a0_3) = some r := by rw [if_neg (show ¬ (false = true) by decide)] at H; exact H
     clear H
     have H := H1
     clear H1
     have H' := Aside0.mk H
     clear H
     obtain ⟨hcz13_0, hcz13_1, hcz13_2, hcz13_3⟩ := Sw.cz4 BK387.out
     obtain ⟨hfz13_0, hfz13_1, hfz13_2, hfz13_3⟩ := Sw.fz4 BK387.out
     go_wp2_with (first | ((with_reducible refine gate_callee (f := 54) rfl ?_); refine goesL_ (some 5) rfl rfl Tryd.func54 (by kernel_rfl) rfl #[.int .i64 a0_0] rfl Zb11_0 ?_; (with_reducible refine (impl_isCode.calls a0_0 true _ A4.out).mono ?_); rintro e w' ⟨rfl, ⟨nd, rfl⟩⟩; refine ⟨_, rfl, ?_⟩) | (go_at_call 55; (with_reducible refine (impl_inRange.calls a0_1 0 1 true _ A6.out).mono ?_); rintro e w' ⟨rfl, ⟨nd, rfl⟩⟩) | (go_at_call 55; (with_reducible refine (impl_inRange.calls a0_2 0 1000 false _ A8.out).mono ?_); rintro e w' ⟨rfl, ⟨nd, rfl⟩⟩))
     go_meet
     case rel => exact ⟨_, (true), Sw.r, H', ⟨by first | omega | exact Nat.le_refl _⟩, ⟨Sw.bk BK387.out⟩, ⟨Sw.hb⟩⟩
   ·replace c7 := Bool.eq_false_iff.mpr c7
    subst c7
    have H1 : (impl_GoodDecoder.j0 k true a0_0 a0_1 a0_2 a0_3) = some r := by rw [if_neg (show ¬ (false = true) by decide)] at H; exact H
    clear H
    have H := H1
    clear H1
    have H' := Aside0.mk H
    clear H
    obtain ⟨hcz14_0, hcz14_1, hcz14_2, hcz14_3⟩ := Sw.cz4 BK387.out
    obtain ⟨hfz14_0, hfz14_1, hfz14_2, hfz14_3⟩ := Sw.fz4 BK387.out
    go_wp2_with (first | ((with_reducible refine gate_callee (f := 54) rfl ?_); refine goesL_ (some 5) rfl rfl Tryd.func54 (by kernel_rfl) rfl #[.int .i64 a0_0] rfl Zb11_0 ?_; (with_reducible refine (impl_isCode.calls a0_0 true _ A4.out).mono ?_); rintro e w' ⟨rfl, ⟨nd, rfl⟩⟩; refine ⟨_, rfl, ?_⟩) | (go_at_call 55; (with_reducible refine (impl_inRange.calls a0_1 0 1 false _ A6.out).mono ?_); rintro e w' ⟨rfl, ⟨nd, rfl⟩⟩))
    go_meet
    case rel => exact ⟨_, (true), Sw.r, H', ⟨by first | omega | exact Nat.le_refl _⟩, ⟨Sw.bk BK387.out⟩, ⟨Sw.hb⟩⟩
  ·replace c5 := Bool.eq_false_iff.mpr c5
   subst c5
   have H1 : (impl_GoodDecoder.j0 k true a0_0 a0_1 a0_2 a0_3) = some r := by rw [if_neg (show ¬ (false = true) by decide)] at H; exact H
   clear H
   have H := H1
   clear H1
   have H' := Aside0.mk H
   clear H
   obtain ⟨hcz15_0, hcz15_1, hcz15_2, hcz15_3⟩ := Sw.cz4 BK387.out
   obtain ⟨hfz15_0, hfz15_1, hfz15_2, hfz15_3⟩ := Sw.fz4 BK387.out
   go_wp2_with (first | ((with_reducible refine gate_callee (f := 54) rfl ?_); refine goesL_ (some 5) rfl rfl Tryd.func54 (by kernel_rfl) rfl #[.int .i64 a0_0] rfl Zb11_0 ?_; (with_reducible refine (impl_isCode.calls a0_0 false _ A4.out).mono ?_); rintro e w' ⟨rfl, ⟨nd, rfl⟩⟩; refine ⟨_, rfl, ?_⟩))
   go_meet
   case rel => exact ⟨_, (true), Sw.r, H', ⟨by first | omega | exact Nat.le_refl _⟩, ⟨Sw.bk BK387.out⟩, ⟨Sw.hb⟩⟩
 case rest =>
  clear HC2
  try clear c1
  try clear p2
  try clear c5
  try clear p6
  try clear c7
  try clear c9
  try clear c10
  try clear c10b0
  try clear c10b1
  try clear c11
  try clear hcz11_0 hcz11_1 hcz11_2 hcz11_3
  try clear hcz12_0 hcz12_1 hcz12_2 hcz12_3
  try clear hcz13_0 hcz13_1 hcz13_2 hcz13_3
  try clear hcz14_0 hcz14_1 hcz14_2 hcz14_3
  try clear hcz15_0 hcz15_1 hcz15_2 hcz15_3
  try clear hfz11_0 hfz11_1 hfz11_2 hfz11_3
  try clear hfz12_0 hfz12_1 hfz12_2 hfz12_3
  try clear hfz13_0 hfz13_1 hfz13_2 hfz13_3
  try clear hfz14_0 hfz14_1 hfz14_2 hfz14_3
  try clear hfz15_0 hfz15_1 hfz15_2 hfz15_3
  obtain ⟨kq, x31_1, rfl, HA, HJ1, BK387, HB⟩ := hcut
  cases kq with
  | zero => exact absurd HA.out (by simp [impl_GoodDecoder.j0])
  | succ kj1 =>
   have H := HA.out
   clear HA
   simp only [impl_GoodDecoder.j0] at H
   by_cases c16 : x31_1 = true
   ·subst c16
    have H1 : (some false) = some r := by rw [if_pos rfl] at H; exact H
    clear H
    have H := H1
    clear H1
    obtain rfl := Option.some.inj H
    go_wp2
    go_ret
    exact ⟨Sw.e, HB.out⟩
   ·replace c16 := Bool.eq_false_iff.mpr c16
    subst c16
    have H1 : (if a0_3.toList = ([] : List UInt8) then (some true) else (if a0_0 = 1 then ((impl_IsBegun.f a0_3).bind fun t391 => (some t391)) else ((impl_isUnits.f a0_0).bind fun t392 => (if t392 = true then (if (a0_3.size : Int) ≤ 3 then (if (a0_3.size : Int) = 1 then (some true) else ((impl_unitAt.f a0_0 a0_3).bind fun t393 => ((impl_isHigh.f t393).bind fun t394 => (some t394)))) else (some false)) else (some false))))) = some r := by rw [if_neg (show ¬ (false = true) by decide)] at H; exact H
    clear H
    have H := H1
    clear H1
    by_cases c17 : a0_3.toList = ([] : List UInt8)
    ·rw [if_pos c17] at H
     have c17b0 : (a0_3.toList == ([] : List UInt8)) = true := beq_iff_eq.mpr c17
     have c17b1 : (a0_3.toList != ([] : List UInt8)) = false := bne_eq_false_iff_eq.mpr c17
     clear c17
     obtain rfl := Option.some.inj H
     obtain ⟨hcz18_0, hcz18_1, hcz18_2, hcz18_3⟩ := Sw.cz4 BK387.out
     obtain ⟨hfz18_0, hfz18_1, hfz18_2, hfz18_3⟩ := Sw.fz4 BK387.out
     go_wp2
     go_ret
     exact ⟨Sw.e, HB.out⟩
    ·rw [if_neg c17] at H
     have c17b0 : (a0_3.toList == ([] : List UInt8)) = false := beq_eq_false_iff_ne.mpr c17
     have c17b1 : (a0_3.toList != ([] : List UInt8)) = true := bne_iff_ne.mpr c17
     by_cases c19 : a0_0 = 1
     ·rw [if_pos c19] at H
      have c19b0 : (a0_0 == 1) = true := beq_iff_eq.mpr c19
      have c19b1 : (a0_0 != 1) = false := bne_eq_false_iff_eq.mpr c19
      clear c19
      replace H := Option.bind_eq_some_iff.mp H
      obtain ⟨t391, A200, H⟩ := H
      replace H : (some t391) = some r := H
      have A20 := Aside0.mk A200
      clear A200
      obtain rfl := Option.some.inj H
      obtain ⟨hcz21_0, hcz21_1, hcz21_2, hcz21_3⟩ := Sw.cz4 BK387.out
      obtain ⟨hfz21_0, hfz21_1, hfz21_2, hfz21_3⟩ := Sw.fz4 BK387.out
      go_wp2_with (first | ((with_reducible refine gate_callee (f := 24) rfl ?_); refine goesL_ (some 42) rfl rfl Tryd.func24 (by kernel_rfl) rfl #[.string a0_3] rfl Zb11_0 ?_; (with_reducible refine (impl_IsBegun.calls a0_3 t391 _ Sw.ht A20.out).mono ?_); rintro e w22 ⟨rfl, hb⟩; refine ⟨_, rfl, ?_⟩; replace BK387 := Aside0.mk (Sw.bl BK387.out hb); replace HB := Aside0.mk (below_step Sw.hb hb)))
      go_ret
      exact ⟨Sw.e, HB.out⟩
     ·rw [if_neg c19] at H
      have c19b0 : (a0_0 == 1) = false := beq_eq_false_iff_ne.mpr c19
      have c19b1 : (a0_0 != 1) = true := bne_iff_ne.mpr c19
      replace H := Option.bind_eq_some_iff.mp H
      obtain ⟨t392, A230, H⟩ := H
      replace H : (if t392 = true then (if (a0_3.size : Int) ≤ 3 then (if (a0_3.size : Int) = 1 then (some true) else ((impl_unitAt.f a0_0 a0_3).bind fun t393 => ((impl_isHigh.f t393).bind fun t394 => (some t394)))) else (some false)) else (some false)) = some r := H
      have A23 := Aside0.mk A230
      clear A230
      by_cases c24 : t392 = true
      ·subst c24
       have H1 : (if (a0_3.size : Int) ≤ 3 then (if (a0_3.size : Int) = 1 then (some true) else ((impl_unitAt.f a0_0 a0_3).bind fun t393 => ((impl_isHigh.f t393).bind fun t394 => (some t394)))) else (some false)) = some r := by rw [if_pos rfl] at H; exact H
       clear H
       have H := H1
       clear H1
       by_cases c25 : (a0_3.size : Int) ≤ 3
       ·rw [if_pos c25] at H
        have c25b0 : decide ((a0_3.size : Int) ≤ 3) = true := decide_eq_true c25
        have c25b1 : decide (a0_3.size ≤ 3) = true := decide_eq_true (by omega)
        clear c25
        by_cases c26 : (a0_3.size : Int) = 1
        ·rw [if_pos c26] at H
         have c26b0 : ((a0_3.size : Int) == 1) = true := beq_iff_eq.mpr c26
         have c26b1 : ((a0_3.size : Int) != 1) = false := bne_eq_false_iff_eq.mpr c26
         clear c26
         obtain rfl := Option.some.inj H
         obtain ⟨hcz27_0, hcz27_1, hcz27_2, hcz27_3⟩ := Sw.cz4 BK387.out
         obtain ⟨hfz27_0, hfz27_1, hfz27_2, hfz27_3⟩ := Sw.fz4 BK387.out
         go_wp2_with (first | ((with_reducible refine gate_callee (f := 56) rfl ?_); refine goesL_ (some 45) rfl rfl Tryd.func56 (by kernel_rfl) rfl #[.int .i64 a0_0] rfl Zb11_0 ?_; (with_reducible refine (impl_isUnits.calls a0_0 true _ A23.out).mono ?_); rintro e w' ⟨rfl, ⟨nd, rfl⟩⟩; refine ⟨_, rfl, ?_⟩))
         go_ret
         exact ⟨Sw.e, Zb11_1⟩
        ·rw [if_neg c26] at H
         have c26b0 : ((a0_3.size : Int) == 1) = false := beq_eq_false_iff_ne.mpr c26
         have c26b1 : ((a0_3.size : Int) != 1) = true := bne_iff_ne.mpr c26
         replace H := Option.bind_eq_some_iff.mp H
         obtain ⟨t393, A280, H⟩ := H
         replace H : ((impl_isHigh.f t393).bind fun t394 => (some t394)) = some r := H
         have A28 := Aside0.mk A280
         clear A280
         replace H := Option.bind_eq_some_iff.mp H
         obtain ⟨t394, A290, H⟩ := H
         replace H : (some t394) = some r := H
         have A29 := Aside0.mk A290
         clear A290
         obtain rfl := Option.some.inj H
         obtain ⟨hcz30_0, hcz30_1, hcz30_2, hcz30_3⟩ := Sw.cz4 BK387.out
         obtain ⟨hfz30_0, hfz30_1, hfz30_2, hfz30_3⟩ := Sw.fz4 BK387.out
         go_wp2_with (first | ((with_reducible refine gate_callee (f := 56) rfl ?_); refine goesL_ (some 45) rfl rfl Tryd.func56 (by kernel_rfl) rfl #[.int .i64 a0_0] rfl Zb11_0 ?_; (with_reducible refine (impl_isUnits.calls a0_0 true _ A23.out).mono ?_); rintro e w' ⟨rfl, ⟨nd, rfl⟩⟩; refine ⟨_, rfl, ?_⟩) | (go_at_call 58; (with_reducible refine (impl_unitAt.calls a0_0 a0_3 t393 _ A28.out).mono ?_); rintro e w' ⟨rfl, ⟨nd, rfl⟩⟩) | (go_at_call 57; (with_reducible refine (impl_isHigh.calls t393 t394 _ A29.out).mono ?_); rintro e w' ⟨rfl, ⟨nd, rfl⟩⟩))
         go_ret
         exact ⟨Sw.e, Zb11_1⟩
       ·rw [if_neg c25] at H
        have c25b0 : decide ((a0_3.size : Int) ≤ 3) = false := decide_eq_false c25
        have c25b1 : decide (a0_3.size ≤ 3) = false := decide_eq_false (by omega)
        clear c25
        obtain rfl := Option.some.inj H
        obtain ⟨hcz31_0, hcz31_1, hcz31_2, hcz31_3⟩ := Sw.cz4 BK387.out
        obtain ⟨hfz31_0, hfz31_1, hfz31_2, hfz31_3⟩ := Sw.fz4 BK387.out
        go_wp2_with (first | ((with_reducible refine gate_callee (f := 56) rfl ?_); refine goesL_ (some 45) rfl rfl Tryd.func56 (by kernel_rfl) rfl #[.int .i64 a0_0] rfl Zb11_0 ?_; (with_reducible refine (impl_isUnits.calls a0_0 true _ A23.out).mono ?_); rintro e w' ⟨rfl, ⟨nd, rfl⟩⟩; refine ⟨_, rfl, ?_⟩))
        go_ret
        exact ⟨Sw.e, Zb11_1⟩
      ·replace c24 := Bool.eq_false_iff.mpr c24
       subst c24
       have H1 : (some false) = some r := by rw [if_neg (show ¬ (false = true) by decide)] at H; exact H
       clear H
       have H := H1
       clear H1
       obtain rfl := Option.some.inj H
       obtain ⟨hcz32_0, hcz32_1, hcz32_2, hcz32_3⟩ := Sw.cz4 BK387.out
       obtain ⟨hfz32_0, hfz32_1, hfz32_2, hfz32_3⟩ := Sw.fz4 BK387.out
       go_wp2_with (first | ((with_reducible refine gate_callee (f := 56) rfl ?_); refine goesL_ (some 45) rfl rfl Tryd.func56 (by kernel_rfl) rfl #[.int .i64 a0_0] rfl Zb11_0 ?_; (with_reducible refine (impl_isUnits.calls a0_0 false _ A23.out).mono ?_); rintro e w' ⟨rfl, ⟨nd, rfl⟩⟩; refine ⟨_, rfl, ?_⟩))
       go_ret
       exact ⟨Sw.e, Zb11_1⟩

-- NOT PRINTED: function 115 (utf8_decodeRuneInStringSlow)

def utf8_DecodeRuneInString.ren : Go.Shelf.Ren := ⟨fun x => if x = 197 then 99 else if x = 260 then 115 else x, fun x => if x = 0 then 0 else if x = 3 then 3 else if x = 4 then 4 else if x = 5 then 5 else if x = 9 then 9 else if x = 21 then 21 else if x = 46 then 96 else if x = 105 then 98 else if x = 119 then 100 else if x = 138 then 102 else if x = 139 then 103 else x, fun x => if x = 3 then 0 else if x = 4 then 1 else x⟩
theorem utf8_DecodeRuneInString.lays : Lays.n197 Tryd.prog utf8_DecodeRuneInString.ren where
  mixed := by kernel_rfl
  f197 := Tryd.func99.trans (congrArg some (by kernel_rfl))
  f260 := Tryd.func115.trans (congrArg some (by kernel_rfl))
  t0 := Tryd.underlying0
  a0 := Tryd.isAgg0
  z0 := Tryd.sizeOf0
  v0 := Tryd.zeroValue0
  t3 := Tryd.underlying3
  a3 := Tryd.isAgg3
  z3 := Tryd.sizeOf3
  v3 := Tryd.zeroValue3
  t4 := Tryd.underlying4
  a4 := Tryd.isAgg4
  z4 := Tryd.sizeOf4
  v4 := Tryd.zeroValue4
  t5 := Tryd.underlying5
  a5 := Tryd.isAgg5
  z5 := Tryd.sizeOf5
  v5 := Tryd.zeroValue5
  t9 := Tryd.underlying9
  a9 := Tryd.isAgg9
  z9 := Tryd.sizeOf9
  v9 := Tryd.zeroValue9
  t21 := Tryd.underlying21
  a21 := Tryd.isAgg21
  z21 := Tryd.sizeOf21
  v21 := Tryd.zeroValue21
  t46 := Tryd.underlying96
  a46 := Tryd.isAgg96
  z46 := Tryd.sizeOf96
  v46 := Tryd.zeroValue96
  t105 := Tryd.underlying98
  a105 := Tryd.isAgg98
  z105 := Tryd.sizeOf98
  v105 := Tryd.zeroValue98
  t119 := Tryd.underlying100
  a119 := Tryd.isAgg100
  z119 := Tryd.sizeOf100
  t138 := Tryd.underlying102
  a138 := Tryd.isAgg102
  z138 := Tryd.sizeOf102
  v138 := Tryd.zeroValue102
  t139 := Tryd.underlying103
  a139 := Tryd.isAgg103
  z139 := Tryd.sizeOf103
  v139 := Tryd.zeroValue103
  g3 := by kernel_rfl
  g4 := by kernel_rfl
def utf8_DecodeRuneInString.f (s : ByteArray) : Option (Int × Int) := some (((Lib.decodeGo s).1 : Int), ((Lib.decodeGo s).2 : Int))
theorem utf8_DecodeRuneInString.calls (a0 : ByteArray) (r1 : Int) (r2 : Int) (w : World) (hT : Lib.Utf8Tabs 0 1 w) (h : utf8_DecodeRuneInString.f a0 = some (r1, r2)) :
    Calls Tryd.prog 99 #[.string a0] w fun e w' => e = .returned (.tuple #[.int .i32 r1, .int .i64 r2]) ∧ Below w.heap.size w w' := by
  obtain ⟨rfl, rfl⟩ := Prod.mk.inj (Option.some.inj h)
  exact Any.utf8_DecodeRuneInString utf8_DecodeRuneInString.lays a0 w hT

theorem Zb72_0 {p : Prop} (h : p := by repeat (first | (with_reducible first | exact HB.out | apply below_alloc | apply pw_below_drewN | apply below_drew1) | exact HB.out)) : p := h
def impl_runeAt.f (a0 : ByteArray) : Option (Int × Int) := (utf8_DecodeRuneInString.f a0).bind fun bt395 => (some (wrap64 (bt395.1), bt395.2))
theorem impl_runeAt.calls (a0 : ByteArray) (r1 : Int) (r2 : Int) (w : World) (hT : Lib.Utf8Tabs 0 1 w) (h : impl_runeAt.f a0 = some (r1, r2)) :
    Calls Tryd.prog 72 #[.string a0] w fun e w' => e = .returned (.tuple #[.int .i64 r1, .int .i64 r2]) ∧ Below w.heap.size w w' := by
  have HT := Aside0.mk hT
  clear hT
  have HB := Aside0.mk (Below.refl w.heap.size w)
  have H : ((utf8_DecodeRuneInString.f a0).bind fun bt395 => (some (wrap64 (bt395.1), bt395.2))) = some (r1, r2) := h
  clear h
  replace H := Option.bind_eq_some_iff.mp H
  obtain ⟨⟨t395, t396⟩, A20, H⟩ := H
  replace H : (some (wrap64 (t395), t396)) = some (r1, r2) := H
  have A2 := Aside0.mk A20
  clear A20
  simp only [Option.some.injEq, Prod.mk.injEq] at H
  obtain ⟨rfl, rfl⟩ := H
  go_enter Tryd.func72, Tryd.ntmps72
  go_wp2_with (first | ((with_reducible refine gate_callee (f := 99) rfl ?_); refine goesL_ (some 8) rfl rfl Tryd.func99 (by kernel_rfl) rfl #[.string a0] rfl (by (try simp only [List.map_toArray, List.map_cons, List.map_nil]); first | done | rfl | (simp only [List.length_drop, List.length_take]; rfl)) ?_; (with_reducible refine (utf8_DecodeRuneInString.calls a0 t395 t396 _ Sw.ht A2.out).mono ?_); rintro e w3 ⟨rfl, hb⟩; refine ⟨_, rfl, ?_⟩; have n0_ := Aside0.mk (below_step Zb72_0 hb); clear HB; have HB := n0_; clear n0_; (try clear hb); (try clear hb2); (try clear hk); (try clear hi)))
  go_ret2
  exact ⟨Sw.e, Zb72_0⟩

def IsS25 (w0 W : World) (g : Nat) (f0 : Int) (f1 : Int) (f2 : Int) (f3 : ByteArray) : Prop := W.heap[g]? = some (.cells #[.int .i64 f0, .int .i64 f1, .int .i64 f2, .string f3] 25 (0, 0)) ∧ w0.heap.size ≤ g
theorem IsS25.grown {w0 W : World} {g : Nat} {f0 : Int} {f1 : Int} {f2 : Int} {f3 : ByteArray} {W1 : World} {row : Option Nat} (h : IsS25 w0 W g f0 f1 f2 f3) (hw : W.grownBy W1 row) (hne : some g ≠ row) : IsS25 w0 W1 g f0 f1 f2 f3 := by
 obtain ⟨hb, hg⟩ := h
 exact ⟨blk_grown hb hw hne, hg⟩
theorem IsS25.own_neN {w0 W : World} {g : Nat} {f0 : Int} {f1 : Int} {f2 : Int} {f3 : ByteArray} {α : Type} {d : Kd α} {e : Nat} {base : Nat} {ok : Nat → Prop} {v : Value} {xs : List α} (h : IsS25 w0 W g f0 f1 f2 f3) (ho : Kd.N d e W base ok v xs) (ht : e ≠ 25) : some g ≠ v.ownBlock := by
 obtain ⟨hb, hg⟩ := h
 exact Kd.N_ne ho hb ht
theorem IsS25.fresh {w0 W : World} {g : Nat} {f0 : Int} {f1 : Int} {f2 : Int} {f3 : ByteArray} (h : IsS25 w0 W g f0 f1 f2 f3) : ∀ k, W.heap.size ≤ k → k ≠ g := by
 obtain ⟨hb, hg⟩ := h
 exact Kd.freshB hb
theorem IsS25.kept {w0 W : World} {g : Nat} {f0 : Int} {f1 : Int} {f2 : Int} {f3 : ByteArray} {W1 : World} {S : Nat → Prop} (h : IsS25 w0 W g f0 f1 f2 f3) (hk : Kept W W1 S) (hne : ¬ S g) : IsS25 w0 W1 g f0 f1 f2 f3 := by
 obtain ⟨hb, hg⟩ := h
 exact ⟨blk_kept hb hk hne, hg⟩
theorem IsS25.below {w0 W : World} {g : Nat} {f0 : Int} {f1 : Int} {f2 : Int} {f3 : ByteArray} {W1 : World} (h : IsS25 w0 W g f0 f1 f2 f3) (hw : Below W.heap.size W W1) : IsS25 w0 W1 g f0 f1 f2 f3 := h.grown (grown_of_below hw none) (by simp)
theorem IsS25.alloc {w0 W : World} {g : Nat} {f0 : Int} {f1 : Int} {f2 : Int} {f3 : ByteArray} (h : IsS25 w0 W g f0 f1 f2 f3) (o : Obj) : IsS25 w0 (W.alloc o) g f0 f1 f2 f3 := h.below (below_alloc (Below.refl _ _) o)
theorem IsS25.drewN {w0 W : World} {g : Nat} {f0 : Int} {f1 : Int} {f2 : Int} {f3 : ByteArray} (h : IsS25 w0 W g f0 f1 f2 f3) (m : Nat) : IsS25 w0 (W.drewN m) g f0 f1 f2 f3 := h
theorem IsS25.drew {w0 W : World} {g : Nat} {f0 : Int} {f1 : Int} {f2 : Int} {f3 : ByteArray} (h : IsS25 w0 W g f0 f1 f2 f3) : IsS25 w0 W.drew g f0 f1 f2 f3 := h
theorem IsS25.at_ {w0 W : World} {g : Nat} {f0 : Int} {f1 : Int} {f2 : Int} {f3 : ByteArray} {w' : World} {m : Nat} (hq : W.drewN m = w') (h : IsS25 w0 W g f0 f1 f2 f3) : IsS25 w0 w' g f0 f1 f2 f3 := by subst hq; exact IsS25.drewN h m
theorem IsS25.apart {w0 W : World} {g : Nat} {f0 : Int} {f1 : Int} {f2 : Int} {f3 : ByteArray} {α : Type} {d : Kd α} {e : Nat} {base : Nat} {ok : Nat → Prop} {v : Value} {xs : List α} (h : IsS25 w0 W g f0 f1 f2 f3) (ho : d.R e W base ok v xs) (ht : ∀ q, q ∈ e :: d.E → q ≠ 25) : d.R e W base (fun k => ok k ∧ k ≠ g) v xs := by
 obtain ⟨hb, hg⟩ := h
 exact Kd.R_types ho hb ht
theorem IsS25.own_ne {w0 W : World} {g : Nat} {f0 : Int} {f1 : Int} {f2 : Int} {f3 : ByteArray} {α : Type} {d : Kd α} {e : Nat} {base : Nat} {ok : Nat → Prop} {v : Value} {xs : List α} (h : IsS25 w0 W g f0 f1 f2 f3) (ho : d.R e W base ok v xs) (ht : e ≠ 25) : some g ≠ v.ownBlock := by
 obtain ⟨hb, hg⟩ := h
 exact Kd.R_ne ho hb ht
theorem IsS25.apartQ {w0 W : World} {g : Nat} {f0 : Int} {f1 : Int} {f2 : Int} {f3 : ByteArray} {α : Type} {d : Kd α} {e : Nat} {base : Nat} {ok : Nat → Prop} {v : Value} {xs : List α} (h : IsS25 w0 W g f0 f1 f2 f3) (ho : d.Q e W base ok v xs) (ht : ∀ q, q ∈ e :: d.E → q ≠ 25) : d.Q e W base (fun k => ok k ∧ k ≠ g) v xs := by
 obtain ⟨hb, hg⟩ := h
 exact Kd.Q_types ho hb ht
theorem IsS25.own_neQ {w0 W : World} {g : Nat} {f0 : Int} {f1 : Int} {f2 : Int} {f3 : ByteArray} {α : Type} {d : Kd α} {e : Nat} {base : Nat} {ok : Nat → Prop} {v : Value} {xs : List α} (h : IsS25 w0 W g f0 f1 f2 f3) (ho : d.Q e W base ok v xs) (ht : e ≠ 25) : some g ≠ v.ownBlock := by
 obtain ⟨hb, hg⟩ := h
 exact Kd.Q_ne ho hb ht
theorem IsS25.apartS {w0 W : World} {g : Nat} {f0 : Int} {f1 : Int} {f2 : Int} {f3 : ByteArray} {α : Type} {d : Kd α} {e : Nat} {base : Nat} {ok : Nat → Prop} {v : Value} {xs : List α} (h : IsS25 w0 W g f0 f1 f2 f3) (ho : d.S e W base ok v xs) (ht : ∀ q, q ∈ e :: d.E → q ≠ 25) : d.S e W base (fun k => ok k ∧ k ≠ g) v xs := by
 obtain ⟨hb, hg⟩ := h
 exact Kd.S_types ho hb ht
theorem IsS25.own_neS {w0 W : World} {g : Nat} {f0 : Int} {f1 : Int} {f2 : Int} {f3 : ByteArray} {α : Type} {d : Kd α} {e : Nat} {base : Nat} {ok : Nat → Prop} {v : Value} {xs : List α} (h : IsS25 w0 W g f0 f1 f2 f3) (ho : d.S e W base ok v xs) (ht : e ≠ 25) : some g ≠ v.ownBlock := by
 obtain ⟨hb, hg⟩ := h
 exact Kd.S_ne ho hb ht
theorem IsS25.lt {w0 W : World} {g : Nat} {f0 : Int} {f1 : Int} {f2 : Int} {f3 : ByteArray} (h : IsS25 w0 W g f0 f1 f2 f3) : g < W.heap.size := by
 obtain ⟨hb, hg⟩ := h
 exact blk_lt hb
theorem IsS25.ge {w0 W : World} {g : Nat} {f0 : Int} {f1 : Int} {f2 : Int} {f3 : ByteArray} (h : IsS25 w0 W g f0 f1 f2 f3) : w0.heap.size ≤ g := by
 obtain ⟨hb, hg⟩ := h
 exact hg
theorem IsS25.ne_blk {w0 W : World} {g : Nat} {f0 : Int} {f1 : Int} {f2 : Int} {f3 : ByteArray} {a : Nat} {cs : Array Value} {t : TypeId} {fr : Nat × Nat} (h : IsS25 w0 W g f0 f1 f2 f3) (hb2 : W.heap[a]? = some (.cells cs t fr)) (ht : t ≠ 25) : g ≠ a := by
 obtain ⟨hb, hg⟩ := h
 rintro rfl
 rw [hb] at hb2
 injection hb2 with hb2
 injection hb2 with _ ht2
 exact ht ht2.symm
theorem IsS25.far {w0 W : World} {g : Nat} {f0 : Int} {f1 : Int} {f2 : Int} {f3 : ByteArray} {p : Addr} (h : IsS25 w0 W g f0 f1 f2 f3) (hne : g ≠ p.block) (u : Value) : IsS25 w0 (W.setCell p u) g f0 f1 f2 f3 := by
 obtain ⟨hb, hg⟩ := h
 exact ⟨blk_far hb hne u, hg⟩
theorem cellS25_0 {W : World} {g : Nat} {f0 : Int} {f1 : Int} {f2 : Int} {f3 : ByteArray} (h : W.heap[g]? = some (.cells #[.int .i64 f0, .int .i64 f1, .int .i64 f2, .string f3] 25 (0, 0))) : W.cell? ⟨g, 0, none⟩ = some (.int .i64 f0) := (blk_cell h 0).trans rfl
theorem IsS25.set_0 {w0 W : World} {g : Nat} {f0 : Int} {f1 : Int} {f2 : Int} {f3 : ByteArray} (h : IsS25 w0 W g f0 f1 f2 f3) (x : Int) : IsS25 w0 (W.setCell ⟨g, 0, none⟩ (.int .i64 x)) g x f1 f2 f3 := by
 obtain ⟨hb, hg⟩ := h
 exact ⟨by simpa using blk_set hb 0 (.int .i64 x), hg⟩
theorem cellS25_1 {W : World} {g : Nat} {f0 : Int} {f1 : Int} {f2 : Int} {f3 : ByteArray} (h : W.heap[g]? = some (.cells #[.int .i64 f0, .int .i64 f1, .int .i64 f2, .string f3] 25 (0, 0))) : W.cell? ⟨g, 1, none⟩ = some (.int .i64 f1) := (blk_cell h 1).trans rfl
theorem IsS25.set_1 {w0 W : World} {g : Nat} {f0 : Int} {f1 : Int} {f2 : Int} {f3 : ByteArray} (h : IsS25 w0 W g f0 f1 f2 f3) (x : Int) : IsS25 w0 (W.setCell ⟨g, 1, none⟩ (.int .i64 x)) g f0 x f2 f3 := by
 obtain ⟨hb, hg⟩ := h
 exact ⟨by simpa using blk_set hb 1 (.int .i64 x), hg⟩
theorem cellS25_2 {W : World} {g : Nat} {f0 : Int} {f1 : Int} {f2 : Int} {f3 : ByteArray} (h : W.heap[g]? = some (.cells #[.int .i64 f0, .int .i64 f1, .int .i64 f2, .string f3] 25 (0, 0))) : W.cell? ⟨g, 2, none⟩ = some (.int .i64 f2) := (blk_cell h 2).trans rfl
theorem IsS25.set_2 {w0 W : World} {g : Nat} {f0 : Int} {f1 : Int} {f2 : Int} {f3 : ByteArray} (h : IsS25 w0 W g f0 f1 f2 f3) (x : Int) : IsS25 w0 (W.setCell ⟨g, 2, none⟩ (.int .i64 x)) g f0 f1 x f3 := by
 obtain ⟨hb, hg⟩ := h
 exact ⟨by simpa using blk_set hb 2 (.int .i64 x), hg⟩
theorem cellS25_3 {W : World} {g : Nat} {f0 : Int} {f1 : Int} {f2 : Int} {f3 : ByteArray} (h : W.heap[g]? = some (.cells #[.int .i64 f0, .int .i64 f1, .int .i64 f2, .string f3] 25 (0, 0))) : W.cell? ⟨g, 3, none⟩ = some (.string f3) := (blk_cell h 3).trans rfl
theorem IsS25.set_3 {w0 W : World} {g : Nat} {f0 : Int} {f1 : Int} {f2 : Int} {f3 : ByteArray} (h : IsS25 w0 W g f0 f1 f2 f3) (x : ByteArray) : IsS25 w0 (W.setCell ⟨g, 3, none⟩ (.string x)) g f0 f1 f2 x := by
 obtain ⟨hb, hg⟩ := h
 exact ⟨by simpa using blk_set hb 3 (.string x), hg⟩
theorem IsS25.new (w0 W : World) (f0 : Int) (f1 : Int) (f2 : Int) (f3 : ByteArray) (hB : Below w0.heap.size w0 W) : IsS25 w0 (W.alloc (.cells #[.int .i64 f0, .int .i64 f1, .int .i64 f2, .string f3] 25)) W.heap.size f0 f1 f2 f3 := ⟨by simpa using heap_alloc_new W _, hB.size⟩


theorem Zb112_0 {p : Prop} (h : p := by repeat (first | (with_reducible first | exact HI0.out | apply IsS25.alloc | apply IsS25.drewN | apply IsS25.drew | apply IsS25.set_0 | apply IsS25.set_1 | apply IsS25.set_2 | apply IsS25.set_3) | exact HI0.out)) : p := h
theorem Zb112_1 {p : Prop} (h : p := by repeat (first | (with_reducible first | exact HB.out | apply below_alloc | apply pw_below_drewN | apply below_drew1 | refine below_set ?_ (IsS25.ge HI0.out)) | exact HB.out)) : p := h
theorem Zb112_2 {p : Prop} (h : p := by repeat (first | (with_reducible first | exact HK.out | apply KeepBut.set_ | apply keep_drewN | apply keep_drew | apply keep_alloc) | exact HK.out)) : p := h
def impl_Decoder_shifted.j0 : Nat → Int → Bool → Int → Int → Int → ByteArray → Option (Int × Int × Int × Int × ByteArray)
 | 0, _, _, _, _, _, _ => none
 | k + 1, x1, x5, x1000, x1001, x1002, x1003 => if x5 = true then (some (x1, x1000, x1001, x1002, x1003)) else (if x1 ≤ 126 then (some (wrap64 ((wrap64 (12352 + x1)) - 32), x1000, x1001, x1002, x1003)) else (some (65533, x1000, x1001, x1002, x1003)))
def impl_Decoder_shifted.f (k : Nat) (s0_0 : Int) (s0_1 : Int) (s0_2 : Int) (s0_3 : ByteArray) (a1 : Int) : Option (Int × Int × Int × Int × ByteArray) := if a1 < 32 then (impl_Decoder_shifted.j0 k a1 true s0_0 s0_1 s0_2 s0_3) else (if a1 < 128 then (impl_Decoder_shifted.j0 k a1 (s0_1 == 0) s0_0 s0_1 s0_2 s0_3) else (impl_Decoder_shifted.j0 k a1 false s0_0 s0_1 s0_2 s0_3))
theorem impl_Decoder_shifted.mono_l : ∀ k, (∀ y0 y1 y2 y3 y4 y5, LeO (impl_Decoder_shifted.j0 k y0 y1 y2 y3 y4 y5) (impl_Decoder_shifted.j0 (k + 1) y0 y1 y2 y3 y4 y5))
 | 0 => fun _ _ _ _ _ _ r h => by simp [impl_Decoder_shifted.j0] at h
 | k + 1 => by
  have ih0 := impl_Decoder_shifted.mono_l k
  ·intro y0 y1 y2 y3 y4 y5
   unfold impl_Decoder_shifted.j0
   with_reducible repeat' first | exact ih0 _ _ _ _ _ _ | exact LeO.refl _ | exact LeO.none _ | refine LeO.ite ?_ ?_ | refine LeO.bind ?_ (fun _ => ?_)
theorem impl_Decoder_shifted.mono : ∀ a0 a1 a2 a3 a4 k, LeO (impl_Decoder_shifted.f k a0 a1 a2 a3 a4) (impl_Decoder_shifted.f (k + 1) a0 a1 a2 a3 a4) := by
 intro a0 a1 a2 a3 a4 k
 have ih0 := impl_Decoder_shifted.mono_l k
 unfold impl_Decoder_shifted.f
 with_reducible repeat' first | exact ih0 _ _ _ _ _ _ | exact LeO.refl _ | exact LeO.none _ | refine LeO.ite ?_ ?_ | refine LeO.bind ?_ (fun _ => ?_)
theorem impl_Decoder_shifted.calls (k : Nat) (g : Nat) (s0_0 : Int) (s0_1 : Int) (s0_2 : Int) (s0_3 : ByteArray) (a1 : Int) (r1 : Int) (r2 : Int) (r3 : Int) (r4 : Int) (r5 : ByteArray) (w0 w : World) (hI : IsS25 w0 w g s0_0 s0_1 s0_2 s0_3) (hB : Below w0.heap.size w0 w) (h : impl_Decoder_shifted.f k s0_0 s0_1 s0_2 s0_3 a1 = some (r1, r2, r3, r4, r5)) :
  Calls Tryd.prog 112 #[.pointer (some ⟨g, 0, none⟩), .int .i64 a1] w fun e w' => e = .returned (.int .i64 r1) ∧ IsS25 w0 w' g r2 r3 r4 r5 ∧ Below w0.heap.size w0 w' ∧ KeepBut w w' g none := by
 have HI0 := Aside0.mk hI
 have HK := Aside0.mk (KeepBut.refl w g none)
 have HL := Aside0.mk hB.size
 clear hI
 have HW0 := Aside0.mk hB.size
 have HB := Aside0.mk hB
 clear hB
 have H : (if a1 < 32 then (impl_Decoder_shifted.j0 k a1 true s0_0 s0_1 s0_2 s0_3) else (if a1 < 128 then (impl_Decoder_shifted.j0 k a1 (s0_1 == 0) s0_0 s0_1 s0_2 s0_3) else (impl_Decoder_shifted.j0 k a1 false s0_0 s0_1 s0_2 s0_3))) = some (r1, r2, r3, r4, r5) := h
 clear h
 have HC3 := Aside0.mk H
 clear H
 go_enter Tryd.func112, Tryd.ntmps112
 go_upto_region 1 with (fail)
 go_cut [5] (fun v5 wc => ∃ (kq : Nat) (x5_2 : Bool), v5 = .bool x5_2 ∧ Aside0 (impl_Decoder_shifted.j0 kq a1 x5_2 s0_0 s0_1 s0_2 s0_3 = some (r1, r2, r3, r4, r5)) ∧ Aside0 (kq ≤ k) ∧ Aside0 (IsS25 w0 wc g s0_0 s0_1 s0_2 s0_3) ∧ Aside0 (KeepBut w wc g none) ∧ Aside0 (Below w0.heap.size w0 wc))
 case first =>
  have H := HC3.out
  clear HC3
  by_cases c4 : a1 < 32
  ·rw [if_pos c4] at H
   have c4b0 : decide (a1 < 32) = true := decide_eq_true c4
   clear c4
   (first | rw [c4b0] | (simp only [i64_w, i32_w]; rw [c4b0]) | skip)
   have H' := Aside0.mk H
   clear H
   go_wp2
   go_meet
   case rel => exact ⟨_, (true), Sw.r, H', ⟨by first | omega | exact Nat.le_refl _⟩, ⟨Zb112_0⟩, ⟨Zb112_2⟩, ⟨Zb112_1⟩⟩
  ·rw [if_neg c4] at H
   have c4b0 : decide (a1 < 32) = false := decide_eq_false c4
   clear c4
   (first | rw [c4b0] | (simp only [i64_w, i32_w]; rw [c4b0]) | skip)
   by_cases c5 : a1 < 128
   ·rw [if_pos c5] at H
    have c5b0 : decide (a1 < 128) = true := decide_eq_true c5
    clear c5
    have H' := Aside0.mk H
    clear H
    obtain ⟨HGz6, hgz6⟩ := HI0.out
    have hcz6_0 := cellS25_0 HGz6
    have hcz6_1 := cellS25_1 HGz6
    have hcz6_2 := cellS25_2 HGz6
    have hcz6_3 := cellS25_3 HGz6
    have hfz6_0 := blk_frozen HGz6 0
    have hfz6_1 := blk_frozen HGz6 1
    have hfz6_2 := blk_frozen HGz6 2
    have hfz6_3 := blk_frozen HGz6 3
    clear HGz6 hgz6
    go_wp2
    go_meet
    case rel => exact ⟨_, ((s0_1 == 0)), Sw.r, H', ⟨by first | omega | exact Nat.le_refl _⟩, ⟨Zb112_0⟩, ⟨Zb112_2⟩, ⟨Zb112_1⟩⟩
   ·rw [if_neg c5] at H
    have c5b0 : decide (a1 < 128) = false := decide_eq_false c5
    clear c5
    have H' := Aside0.mk H
    clear H
    go_wp2
    go_meet
    case rel => exact ⟨_, (false), Sw.r, H', ⟨by first | omega | exact Nat.le_refl _⟩, ⟨Zb112_0⟩, ⟨Zb112_2⟩, ⟨Zb112_1⟩⟩
 case rest =>
  clear HC3
  try clear c1
  try clear p2
  try clear c4
  try clear c4b0
  try clear c5
  try clear c5b0
  try clear hcz6_0 hcz6_1 hcz6_2 hcz6_3
  try clear hfz6_0 hfz6_1 hfz6_2 hfz6_3
  obtain ⟨kq, x5_2, rfl, HA, HJ2, HI0, HK, HB⟩ := hcut
  cases kq with
  | zero => exact absurd HA.out (by simp [impl_Decoder_shifted.j0])
  | succ kj2 =>
   have H := HA.out
   clear HA
   simp only [impl_Decoder_shifted.j0] at H
   by_cases c7 : x5_2 = true
   ·subst c7
    have H1 : (some (a1, s0_0, s0_1, s0_2, s0_3)) = some (r1, r2, r3, r4, r5) := by rw [if_pos rfl] at H; exact H
    clear H
    have H := H1
    clear H1
    simp only [Option.some.injEq, Prod.mk.injEq] at H
    obtain ⟨rfl, rfl, rfl, rfl, rfl⟩ := H
    go_wp2
    go_ret
    exact ⟨Sw.e, Zb112_0, Zb112_1, Zb112_2⟩
   ·replace c7 := Bool.eq_false_iff.mpr c7
    subst c7
    have H1 : (if a1 ≤ 126 then (some (wrap64 ((wrap64 (12352 + a1)) - 32), s0_0, s0_1, s0_2, s0_3)) else (some (65533, s0_0, s0_1, s0_2, s0_3))) = some (r1, r2, r3, r4, r5) := by rw [if_neg (show ¬ (false = true) by decide)] at H; exact H
    clear H
    have H := H1
    clear H1
    by_cases c8 : a1 ≤ 126
    ·rw [if_pos c8] at H
     have c8b0 : decide (a1 ≤ 126) = true := decide_eq_true c8
     clear c8
     simp only [Option.some.injEq, Prod.mk.injEq] at H
     obtain ⟨rfl, rfl, rfl, rfl, rfl⟩ := H
     go_wp2
     go_ret
     exact ⟨Sw.e, Zb112_0, Zb112_1, Zb112_2⟩
    ·rw [if_neg c8] at H
     have c8b0 : decide (a1 ≤ 126) = false := decide_eq_false c8
     clear c8
     simp only [Option.some.injEq, Prod.mk.injEq] at H
     obtain ⟨rfl, rfl, rfl, rfl, rfl⟩ := H
     go_wp2
     go_ret
     exact ⟨Sw.e, Zb112_0, Zb112_1, Zb112_2⟩

def impl_isLow.f (a0 : Int) : Option (Bool) := (impl_inRange.f a0 56320 57343).bind fun t397 => (some t397)
theorem impl_isLow.calls (a0 : Int) (r : Bool) (w : World) (h : impl_isLow.f a0 = some r) :
    Calls Tryd.prog 113 #[.int .i64 a0] w fun e w' => e = .returned (.bool r) ∧ Drawn0 w w' := by
  have H : ((impl_inRange.f a0 56320 57343).bind fun t397 => (some t397)) = some r := h
  clear h
  replace H := Option.bind_eq_some_iff.mp H
  obtain ⟨t397, A20, H⟩ := H
  replace H : (some t397) = some r := H
  have A2 := Aside0.mk A20
  clear A20
  obtain rfl := Option.some.inj H
  go_enter Tryd.func113, Tryd.ntmps113
  go_wp2_with (first | ((with_reducible refine gate_callee (f := 55) rfl ?_); refine goesL_ (some 4) rfl rfl Tryd.func55 (by kernel_rfl) rfl #[.int .i64 a0, .int .i64 56320, .int .i64 57343] rfl (by (try simp only [List.map_toArray, List.map_cons, List.map_nil]); first | done | rfl | (simp only [List.length_drop, List.length_take]; rfl)) ?_; (with_reducible refine (impl_inRange.calls a0 56320 57343 t397 _ A2.out).mono ?_); rintro e w' ⟨rfl, ⟨nd, rfl⟩⟩; refine ⟨_, rfl, ?_⟩))
  go_ret
  exact ⟨Sw.r, Sw.dr⟩

theorem Zb95_0 {p : Prop} (h : p := by repeat (first | (with_reducible first | exact HI0.out | apply IsS25.alloc | apply IsS25.drewN | apply IsS25.drew | apply IsS25.set_0 | apply IsS25.set_1 | apply IsS25.set_2 | apply IsS25.set_3) | exact HI0.out)) : p := h
theorem Zb95_1 {p : Prop} (h : p := by repeat (first | (with_reducible first | exact HB.out | apply below_alloc | apply pw_below_drewN | apply below_drew1 | refine below_set ?_ (IsS25.ge HI0.out)) | exact HB.out)) : p := h
theorem Zb95_2 {p : Prop} (h : p := by repeat (first | (with_reducible first | exact HK.out | apply KeepBut.set_ | apply keep_drewN | apply keep_drew | apply keep_alloc) | exact HK.out)) : p := h
def impl_Decoder_next.j0 : Nat → ByteArray → Int → Bool → Int → Int → Int → ByteArray → Option (Int × Int × Int × Int × Int × ByteArray)
 | 0, _, _, _, _, _, _, _ => none
 | k + 1, x1, x6, x41, x1000, x1001, x1002, x1003 => if x41 = true then (some (0, 0, x1000, x1001, x1002, x1003)) else ((impl_isHigh.f x6).bind fun t408 => (if t408 = true then (if 2 ≤ (x1.size : Int) then ((impl_unitAt.f x1000 (x1.extract 2 x1.size)).bind fun t409 => ((impl_isLow.f t409).bind fun t410 => (if t410 = true then (some (wrap64 ((wrap64 ((wrap64 (65536 + (wrap64 ((wrap64 (x6 - 55296)) * 1024)))) + t409)) - 56320), 4, x1000, x1001, x1002, x1003)) else (some (65533, 2, x1000, x1001, x1002, x1003))))) else (none)) else ((impl_isLow.f x6).bind fun t411 => (if t411 = true then (some (65533, 2, x1000, x1001, x1002, x1003)) else (some (x6, 2, x1000, x1001, x1002, x1003))))))
def impl_Decoder_next.f (k : Nat) (s0_0 : Int) (s0_1 : Int) (s0_2 : Int) (s0_3 : ByteArray) (a1 : ByteArray) : Option (Int × Int × Int × Int × Int × ByteArray) := if s0_0 = 1 then ((impl_IsBegun.f a1).bind fun t398 => (if t398 = true then (some (0, 0, s0_0, s0_1, s0_2, s0_3)) else ((impl_runeAt.f a1).bind fun bt399 => (some (bt399.1, bt399.2, s0_0, s0_1, s0_2, s0_3))))) else (if s0_0 = 4 then (if 0 < (a1.size : Int) then (some (wrap64 (bt a1 0), 1, s0_0, s0_1, s0_2, s0_3)) else (none)) else (if s0_0 = 5 then (if 0 < (a1.size : Int) then ((impl_Decoder_shifted.f k s0_0 s0_1 s0_2 s0_3 (wrap64 (bt a1 0))).bind fun bt401 => (some (bt401.1, 1, bt401.2.1, bt401.2.2.1, bt401.2.2.2.1, bt401.2.2.2.2))) else (none)) else (if (a1.size : Int) < 2 then (some (0, 0, s0_0, s0_1, s0_2, s0_3)) else ((impl_unitAt.f s0_0 a1).bind fun t406 => ((impl_isHigh.f t406).bind fun t407 => (if t407 = true then (impl_Decoder_next.j0 k a1 t406 (decide ((a1.size : Int) < 4)) s0_0 s0_1 s0_2 s0_3) else (impl_Decoder_next.j0 k a1 t406 false s0_0 s0_1 s0_2 s0_3)))))))
theorem impl_Decoder_next.mono_l : ∀ k, (∀ y0 y1 y2 y3 y4 y5 y6, LeO (impl_Decoder_next.j0 k y0 y1 y2 y3 y4 y5 y6) (impl_Decoder_next.j0 (k + 1) y0 y1 y2 y3 y4 y5 y6))
 | 0 => fun _ _ _ _ _ _ _ r h => by simp [impl_Decoder_next.j0] at h
 | k + 1 => by
  have ih0 := impl_Decoder_next.mono_l k
  ·intro y0 y1 y2 y3 y4 y5 y6
   unfold impl_Decoder_next.j0
   with_reducible repeat' first | exact ih0 _ _ _ _ _ _ _ | exact impl_Decoder_shifted.mono _ _ _ _ _ _ | exact LeO.refl _ | exact LeO.none _ | refine LeO.ite ?_ ?_ | refine LeO.bind ?_ (fun _ => ?_)
theorem impl_Decoder_next.mono : ∀ a0 a1 a2 a3 a4 k, LeO (impl_Decoder_next.f k a0 a1 a2 a3 a4) (impl_Decoder_next.f (k + 1) a0 a1 a2 a3 a4) := by
 intro a0 a1 a2 a3 a4 k
 have ih0 := impl_Decoder_next.mono_l k
 unfold impl_Decoder_next.f
 with_reducible repeat' first | exact ih0 _ _ _ _ _ _ _ | exact impl_Decoder_shifted.mono _ _ _ _ _ _ | exact LeO.refl _ | exact LeO.none _ | refine LeO.ite ?_ ?_ | refine LeO.bind ?_ (fun _ => ?_)
theorem impl_Decoder_next.calls (k : Nat) (g : Nat) (s0_0 : Int) (s0_1 : Int) (s0_2 : Int) (s0_3 : ByteArray) (a1 : ByteArray) (r1 : Int) (r2 : Int) (r3 : Int) (r4 : Int) (r5 : Int) (r6 : ByteArray) (w0 w : World) (hI : IsS25 w0 w g s0_0 s0_1 s0_2 s0_3) (hB : Below w0.heap.size w0 w) (hT : Lib.Utf8Tabs 0 1 w0) (h : impl_Decoder_next.f k s0_0 s0_1 s0_2 s0_3 a1 = some (r1, r2, r3, r4, r5, r6)) :
  Calls Tryd.prog 95 #[.pointer (some ⟨g, 0, none⟩), .string a1] w fun e w' => e = .returned (.tuple #[.int .i64 r1, .int .i64 r2]) ∧ IsS25 w0 w' g r3 r4 r5 r6 ∧ Below w0.heap.size w0 w' ∧ KeepBut w w' g none := by
 have HT := Aside0.mk hT
 clear hT
 have HI0 := Aside0.mk hI
 have HK := Aside0.mk (KeepBut.refl w g none)
 have HL := Aside0.mk hB.size
 clear hI
 have HW0 := Aside0.mk hB.size
 have HB := Aside0.mk hB
 clear hB
 have H : (if s0_0 = 1 then ((impl_IsBegun.f a1).bind fun t398 => (if t398 = true then (some (0, 0, s0_0, s0_1, s0_2, s0_3)) else ((impl_runeAt.f a1).bind fun bt399 => (some (bt399.1, bt399.2, s0_0, s0_1, s0_2, s0_3))))) else (if s0_0 = 4 then (if 0 < (a1.size : Int) then (some (wrap64 (bt a1 0), 1, s0_0, s0_1, s0_2, s0_3)) else (none)) else (if s0_0 = 5 then (if 0 < (a1.size : Int) then ((impl_Decoder_shifted.f k s0_0 s0_1 s0_2 s0_3 (wrap64 (bt a1 0))).bind fun bt401 => (some (bt401.1, 1, bt401.2.1, bt401.2.2.1, bt401.2.2.2.1, bt401.2.2.2.2))) else (none)) else (if (a1.size : Int) < 2 then (some (0, 0, s0_0, s0_1, s0_2, s0_3)) else ((impl_unitAt.f s0_0 a1).bind fun t406 => ((impl_isHigh.f t406).bind fun t407 => (if t407 = true then (impl_Decoder_next.j0 k a1 t406 (decide ((a1.size : Int) < 4)) s0_0 s0_1 s0_2 s0_3) else (impl_Decoder_next.j0 k a1 t406 false s0_0 s0_1 s0_2 s0_3)))))))) = some (r1, r2, r3, r4, r5, r6) := h
 clear h
 by_cases c3 : s0_0 = 1
 ·rw [if_pos c3] at H
  have c3b0 : (s0_0 == 1) = true := beq_iff_eq.mpr c3
  have c3b1 : (s0_0 != 1) = false := bne_eq_false_iff_eq.mpr c3
  clear c3
  replace H := Option.bind_eq_some_iff.mp H
  obtain ⟨t398, A40, H⟩ := H
  replace H : (if t398 = true then (some (0, 0, s0_0, s0_1, s0_2, s0_3)) else ((impl_runeAt.f a1).bind fun bt399 => (some (bt399.1, bt399.2, s0_0, s0_1, s0_2, s0_3)))) = some (r1, r2, r3, r4, r5, r6) := H
  have A4 := Aside0.mk A40
  clear A40
  by_cases c5 : t398 = true
  ·subst c5
   have H1 : (some (0, 0, s0_0, s0_1, s0_2, s0_3)) = some (r1, r2, r3, r4, r5, r6) := by rw [if_pos rfl] at H; exact H
   clear H
   have H := H1
   clear H1
   simp only [Option.some.injEq, Prod.mk.injEq] at H
   obtain ⟨rfl, rfl, rfl, rfl, rfl, rfl⟩ := H
   obtain ⟨HGz6, hgz6⟩ := HI0.out
   have hcz6_0 := cellS25_0 HGz6
   have hcz6_1 := cellS25_1 HGz6
   have hcz6_2 := cellS25_2 HGz6
   have hcz6_3 := cellS25_3 HGz6
   have hfz6_0 := blk_frozen HGz6 0
   have hfz6_1 := blk_frozen HGz6 1
   have hfz6_2 := blk_frozen HGz6 2
   have hfz6_3 := blk_frozen HGz6 3
   clear HGz6 hgz6
   go_enter Tryd.func95, Tryd.ntmps95
   go_wp2_with (first | (go_at_call 24; (with_reducible refine (impl_IsBegun.calls a1 true _ Sw.ht A4.out).mono ?_); rintro e w7 ⟨rfl, hb⟩; replace HK := Aside0.mk (KeepBut.trans HK.out (KeepBut.of_below hb g none) (.inl rfl)); replace HB := Aside0.mk (below_step HB.out hb); replace HI0 := Aside0.mk (IsS25.below HI0.out hb)))
   repeat (go_quiet (first | (go_at_call 24; (with_reducible refine (impl_IsBegun.calls a1 true _ Sw.ht A4.out).mono ?_); rintro e w7 ⟨rfl, hb⟩; replace HK := Aside0.mk (KeepBut.trans HK.out (KeepBut.of_below hb g none) (.inl rfl)); replace HB := Aside0.mk (below_step HB.out hb); replace HI0 := Aside0.mk (IsS25.below HI0.out hb))); try go_wp2_with (first | (go_at_call 24; (with_reducible refine (impl_IsBegun.calls a1 true _ Sw.ht A4.out).mono ?_); rintro e w7 ⟨rfl, hb⟩; replace HK := Aside0.mk (KeepBut.trans HK.out (KeepBut.of_below hb g none) (.inl rfl)); replace HB := Aside0.mk (below_step HB.out hb); replace HI0 := Aside0.mk (IsS25.below HI0.out hb))))
   go_ret2
   exact ⟨Sw.e, HI0.out, HB.out, HK.out⟩
  ·replace c5 := Bool.eq_false_iff.mpr c5
   subst c5
   have H1 : ((impl_runeAt.f a1).bind fun bt399 => (some (bt399.1, bt399.2, s0_0, s0_1, s0_2, s0_3))) = some (r1, r2, r3, r4, r5, r6) := by rw [if_neg (show ¬ (false = true) by decide)] at H; exact H
   clear H
   have H := H1
   clear H1
   replace H := Option.bind_eq_some_iff.mp H
   obtain ⟨⟨t399, t400⟩, A80, H⟩ := H
   replace H : (some (t399, t400, s0_0, s0_1, s0_2, s0_3)) = some (r1, r2, r3, r4, r5, r6) := H
   have A8 := Aside0.mk A80
   clear A80
   simp only [Option.some.injEq, Prod.mk.injEq] at H
   obtain ⟨rfl, rfl, rfl, rfl, rfl, rfl⟩ := H
   obtain ⟨HGz9, hgz9⟩ := HI0.out
   have hcz9_0 := cellS25_0 HGz9
   have hcz9_1 := cellS25_1 HGz9
   have hcz9_2 := cellS25_2 HGz9
   have hcz9_3 := cellS25_3 HGz9
   have hfz9_0 := blk_frozen HGz9 0
   have hfz9_1 := blk_frozen HGz9 1
   have hfz9_2 := blk_frozen HGz9 2
   have hfz9_3 := blk_frozen HGz9 3
   clear HGz9 hgz9
   go_enter Tryd.func95, Tryd.ntmps95
   go_wp2_with (first | (go_at_call 24; (with_reducible refine (impl_IsBegun.calls a1 false _ Sw.ht A4.out).mono ?_); rintro e w10 ⟨rfl, hb⟩; replace HK := Aside0.mk (KeepBut.trans HK.out (KeepBut.of_below hb g none) (.inl rfl)); replace HB := Aside0.mk (below_step HB.out hb); replace HI0 := Aside0.mk (IsS25.below HI0.out hb)) | (go_at_call 72; (with_reducible refine (impl_runeAt.calls a1 t399 t400 _ Sw.ht A8.out).mono ?_); rintro e w11 ⟨rfl, hb⟩; replace HK := Aside0.mk (KeepBut.trans HK.out (KeepBut.of_below hb g none) (.inl rfl)); replace HB := Aside0.mk (below_step HB.out hb); replace HI0 := Aside0.mk (IsS25.below HI0.out hb)))
   repeat (go_quiet (first | (go_at_call 24; (with_reducible refine (impl_IsBegun.calls a1 false _ Sw.ht A4.out).mono ?_); rintro e w10 ⟨rfl, hb⟩; replace HK := Aside0.mk (KeepBut.trans HK.out (KeepBut.of_below hb g none) (.inl rfl)); replace HB := Aside0.mk (below_step HB.out hb); replace HI0 := Aside0.mk (IsS25.below HI0.out hb)) | (go_at_call 72; (with_reducible refine (impl_runeAt.calls a1 t399 t400 _ Sw.ht A8.out).mono ?_); rintro e w11 ⟨rfl, hb⟩; replace HK := Aside0.mk (KeepBut.trans HK.out (KeepBut.of_below hb g none) (.inl rfl)); replace HB := Aside0.mk (below_step HB.out hb); replace HI0 := Aside0.mk (IsS25.below HI0.out hb))); try go_wp2_with (first | (go_at_call 24; (with_reducible refine (impl_IsBegun.calls a1 false _ Sw.ht A4.out).mono ?_); rintro e w10 ⟨rfl, hb⟩; replace HK := Aside0.mk (KeepBut.trans HK.out (KeepBut.of_below hb g none) (.inl rfl)); replace HB := Aside0.mk (below_step HB.out hb); replace HI0 := Aside0.mk (IsS25.below HI0.out hb)) | (go_at_call 72; (with_reducible refine (impl_runeAt.calls a1 t399 t400 _ Sw.ht A8.out).mono ?_); rintro e w11 ⟨rfl, hb⟩; replace HK := Aside0.mk (KeepBut.trans HK.out (KeepBut.of_below hb g none) (.inl rfl)); replace HB := Aside0.mk (below_step HB.out hb); replace HI0 := Aside0.mk (IsS25.below HI0.out hb))))
   go_ret2
   exact ⟨Sw.e, HI0.out, HB.out, HK.out⟩
 ·rw [if_neg c3] at H
  have c3b0 : (s0_0 == 1) = false := beq_eq_false_iff_ne.mpr c3
  have c3b1 : (s0_0 != 1) = true := bne_iff_ne.mpr c3
  by_cases c12 : s0_0 = 4
  ·rw [if_pos c12] at H
   have c12b0 : (s0_0 == 4) = true := beq_iff_eq.mpr c12
   have c12b1 : (s0_0 != 4) = false := bne_eq_false_iff_eq.mpr c12
   clear c12
   by_cases c13 : 0 < (a1.size : Int)
   ·rw [if_pos c13] at H
    have c13b0 : decide (0 < (a1.size : Int)) = true := decide_eq_true c13
    have c13b1 : decide (0 < a1.size) = true := decide_eq_true (by omega)
    clear c13
    simp only [Option.some.injEq, Prod.mk.injEq] at H
    obtain ⟨rfl, rfl, rfl, rfl, rfl, rfl⟩ := H
    obtain ⟨HGz15, hgz15⟩ := HI0.out
    have hcz15_0 := cellS25_0 HGz15
    have hcz15_1 := cellS25_1 HGz15
    have hcz15_2 := cellS25_2 HGz15
    have hcz15_3 := cellS25_3 HGz15
    have hfz15_0 := blk_frozen HGz15 0
    have hfz15_1 := blk_frozen HGz15 1
    have hfz15_2 := blk_frozen HGz15 2
    have hfz15_3 := blk_frozen HGz15 3
    clear HGz15 hgz15
    have p14 : 0 ≤ (0 : Int) := (by omega)
    have q14 : 0 < a1.size := (by have : (0 : Int) < (a1.size : Int) := of_decide_eq_true (by assumption); omega)
    have hx14 : ∀ h : 0 < a1.size, ((a1[0]'h).toNat : Int) = bt a1 0 := bt_at a1 0
    clear p14
    have qi14 : (0 < (a1.size : Int)) = True := eq_true (of_decide_eq_true (by assumption))
    replace q14 := eq_true q14
    go_enter Tryd.func95, Tryd.ntmps95
    go_wp2
    repeat (go_quiet (fail); try go_wp2)
    go_ret2
    exact ⟨Sw.e, HI0.out, HB.out, HK.out⟩
   ·rw [if_neg c13] at H
    exact absurd H (by simp)
  ·rw [if_neg c12] at H
   have c12b0 : (s0_0 == 4) = false := beq_eq_false_iff_ne.mpr c12
   have c12b1 : (s0_0 != 4) = true := bne_iff_ne.mpr c12
   by_cases c16 : s0_0 = 5
   ·rw [if_pos c16] at H
    have c16b0 : (s0_0 == 5) = true := beq_iff_eq.mpr c16
    have c16b1 : (s0_0 != 5) = false := bne_eq_false_iff_eq.mpr c16
    clear c16
    by_cases c17 : 0 < (a1.size : Int)
    ·rw [if_pos c17] at H
     have c17b0 : decide (0 < (a1.size : Int)) = true := decide_eq_true c17
     have c17b1 : decide (0 < a1.size) = true := decide_eq_true (by omega)
     clear c17
     replace H := Option.bind_eq_some_iff.mp H
     obtain ⟨⟨t401, t402, t403, t404, t405⟩, A190, H⟩ := H
     replace H : (some (t401, 1, t402, t403, t404, t405)) = some (r1, r2, r3, r4, r5, r6) := H
     have A19 := Aside0.mk A190
     clear A190
     simp only [Option.some.injEq, Prod.mk.injEq] at H
     obtain ⟨rfl, rfl, rfl, rfl, rfl, rfl⟩ := H
     obtain ⟨HGz20, hgz20⟩ := HI0.out
     have hcz20_0 := cellS25_0 HGz20
     have hcz20_1 := cellS25_1 HGz20
     have hcz20_2 := cellS25_2 HGz20
     have hcz20_3 := cellS25_3 HGz20
     have hfz20_0 := blk_frozen HGz20 0
     have hfz20_1 := blk_frozen HGz20 1
     have hfz20_2 := blk_frozen HGz20 2
     have hfz20_3 := blk_frozen HGz20 3
     clear HGz20 hgz20
     have p18 : 0 ≤ (0 : Int) := (by omega)
     have q18 : 0 < a1.size := (by have : (0 : Int) < (a1.size : Int) := of_decide_eq_true (by assumption); omega)
     have hx18 : ∀ h : 0 < a1.size, ((a1[0]'h).toNat : Int) = bt a1 0 := bt_at a1 0
     clear p18
     have qi18 : (0 < (a1.size : Int)) = True := eq_true (of_decide_eq_true (by assumption))
     replace q18 := eq_true q18
     go_enter Tryd.func95, Tryd.ntmps95
     go_wp2_with (first | (go_at_call 112; (with_reducible refine (impl_Decoder_shifted.calls k g s0_0 s0_1 s0_2 s0_3 (wrap64 (bt a1 0)) t401 t402 t403 t404 t405 w0 _ ?side1 ?side2 A19.out).mono ?_); (case side1 => exact HI0.out); (case side2 => exact HB.out); rintro e w21 ⟨rfl, hi, hb, hk⟩; replace HK := Aside0.mk (KeepBut.trans HK.out hk (.inl rfl)); replace HB := Aside0.mk (hb); replace HI0 := Aside0.mk (hi)))
     repeat (go_quiet (first | (go_at_call 112; (with_reducible refine (impl_Decoder_shifted.calls k g s0_0 s0_1 s0_2 s0_3 (wrap64 (bt a1 0)) t401 t402 t403 t404 t405 w0 _ ?side1 ?side2 A19.out).mono ?_); (case side1 => exact HI0.out); (case side2 => exact HB.out); rintro e w21 ⟨rfl, hi, hb, hk⟩; replace HK := Aside0.mk (KeepBut.trans HK.out hk (.inl rfl)); replace HB := Aside0.mk (hb); replace HI0 := Aside0.mk (hi))); try go_wp2_with (first | (go_at_call 112; (with_reducible refine (impl_Decoder_shifted.calls k g s0_0 s0_1 s0_2 s0_3 (wrap64 (bt a1 0)) t401 t402 t403 t404 t405 w0 _ ?side1 ?side2 A19.out).mono ?_); (case side1 => exact HI0.out); (case side2 => exact HB.out); rintro e w21 ⟨rfl, hi, hb, hk⟩; replace HK := Aside0.mk (KeepBut.trans HK.out hk (.inl rfl)); replace HB := Aside0.mk (hb); replace HI0 := Aside0.mk (hi))))
     go_ret2
     exact ⟨Sw.e, HI0.out, HB.out, HK.out⟩
    ·rw [if_neg c17] at H
     exact absurd H (by simp)
   ·rw [if_neg c16] at H
    have c16b0 : (s0_0 == 5) = false := beq_eq_false_iff_ne.mpr c16
    have c16b1 : (s0_0 != 5) = true := bne_iff_ne.mpr c16
    by_cases c22 : (a1.size : Int) < 2
    ·rw [if_pos c22] at H
     have c22b0 : decide ((a1.size : Int) < 2) = true := decide_eq_true c22
     have c22b1 : decide (a1.size < 2) = true := decide_eq_true (by omega)
     clear c22
     simp only [Option.some.injEq, Prod.mk.injEq] at H
     obtain ⟨rfl, rfl, rfl, rfl, rfl, rfl⟩ := H
     obtain ⟨HGz23, hgz23⟩ := HI0.out
     have hcz23_0 := cellS25_0 HGz23
     have hcz23_1 := cellS25_1 HGz23
     have hcz23_2 := cellS25_2 HGz23
     have hcz23_3 := cellS25_3 HGz23
     have hfz23_0 := blk_frozen HGz23 0
     have hfz23_1 := blk_frozen HGz23 1
     have hfz23_2 := blk_frozen HGz23 2
     have hfz23_3 := blk_frozen HGz23 3
     clear HGz23 hgz23
     go_enter Tryd.func95, Tryd.ntmps95
     go_wp2
     repeat (go_quiet (fail); try go_wp2)
     go_ret2
     exact ⟨Sw.e, HI0.out, HB.out, HK.out⟩
    ·rw [if_neg c22] at H
     have c22b0 : decide ((a1.size : Int) < 2) = false := decide_eq_false c22
     have c22b1 : decide (a1.size < 2) = false := decide_eq_false (by omega)
     clear c22
     replace H := Option.bind_eq_some_iff.mp H
     obtain ⟨t406, A240, H⟩ := H
     replace H : ((impl_isHigh.f t406).bind fun t407 => (if t407 = true then (impl_Decoder_next.j0 k a1 t406 (decide ((a1.size : Int) < 4)) s0_0 s0_1 s0_2 s0_3) else (impl_Decoder_next.j0 k a1 t406 false s0_0 s0_1 s0_2 s0_3))) = some (r1, r2, r3, r4, r5, r6) := H
     have A24 := Aside0.mk A240
     clear A240
     have HC25 := Aside0.mk H
     clear H
     obtain ⟨HGz26, hgz26⟩ := HI0.out
     have hcz26_0 := cellS25_0 HGz26
     have hcz26_1 := cellS25_1 HGz26
     have hcz26_2 := cellS25_2 HGz26
     have hcz26_3 := cellS25_3 HGz26
     have hfz26_0 := blk_frozen HGz26 0
     have hfz26_1 := blk_frozen HGz26 1
     have hfz26_2 := blk_frozen HGz26 2
     have hfz26_3 := blk_frozen HGz26 3
     clear HGz26 hgz26
     go_enter Tryd.func95, Tryd.ntmps95
     go_upto_region 13 with (first | (go_at_call 58; (with_reducible refine (impl_unitAt.calls s0_0 a1 t406 _ A24.out).mono ?_); rintro e w' ⟨rfl, ⟨nd, rfl⟩⟩; (try first | exact ⟨rfl, _, World.drewN_drewN _ _ _⟩ | exact ⟨rfl, _, Eq.trans (World.drewN_drewN _ _ _) (congrArg (World.drewN _) (Nat.add_assoc _ _ _))⟩)))
     repeat (go_quiet (first | (go_at_call 58; (with_reducible refine (impl_unitAt.calls s0_0 a1 t406 _ A24.out).mono ?_); rintro e w' ⟨rfl, ⟨nd, rfl⟩⟩; (try first | exact ⟨rfl, _, World.drewN_drewN _ _ _⟩ | exact ⟨rfl, _, Eq.trans (World.drewN_drewN _ _ _) (congrArg (World.drewN _) (Nat.add_assoc _ _ _))⟩))); go_upto_region 13 with (first | (go_at_call 58; (with_reducible refine (impl_unitAt.calls s0_0 a1 t406 _ A24.out).mono ?_); rintro e w' ⟨rfl, ⟨nd, rfl⟩⟩; (try first | exact ⟨rfl, _, World.drewN_drewN _ _ _⟩ | exact ⟨rfl, _, Eq.trans (World.drewN_drewN _ _ _) (congrArg (World.drewN _) (Nat.add_assoc _ _ _))⟩))))
     (try simp only [Act.put, List.setIfInBounds_toArray, List.set_cons_zero, List.set_cons_succ])
     go_cut [41] (fun v41 wc => ∃ (kq : Nat) (x41_24 : Bool), v41 = .bool x41_24 ∧ Aside0 (impl_Decoder_next.j0 kq a1 t406 x41_24 s0_0 s0_1 s0_2 s0_3 = some (r1, r2, r3, r4, r5, r6)) ∧ Aside0 (kq ≤ k) ∧ Aside0 (IsS25 w0 wc g s0_0 s0_1 s0_2 s0_3) ∧ Aside0 (KeepBut w wc g none) ∧ Aside0 (Below w0.heap.size w0 wc))
     case first =>
      have H := HC25.out
      clear HC25
      replace H := Option.bind_eq_some_iff.mp H
      obtain ⟨t407, A270, H⟩ := H
      replace H : (if t407 = true then (impl_Decoder_next.j0 k a1 t406 (decide ((a1.size : Int) < 4)) s0_0 s0_1 s0_2 s0_3) else (impl_Decoder_next.j0 k a1 t406 false s0_0 s0_1 s0_2 s0_3)) = some (r1, r2, r3, r4, r5, r6) := H
      have A27 := Aside0.mk A270
      clear A270
      by_cases c28 : t407 = true
      ·subst c28
       have H1 : (impl_Decoder_next.j0 k a1 t406 (decide ((a1.size : Int) < 4)) s0_0 s0_1 s0_2 s0_3) = some (r1, r2, r3, r4, r5, r6) := by rw [if_pos rfl] at H; exact H
       clear H
       have H := H1
       clear H1
       have H' := Aside0.mk H
       clear H
       go_wp2_with (first | (go_at_call 57; (with_reducible refine (impl_isHigh.calls t406 true _ A27.out).mono ?_); rintro e w' ⟨rfl, ⟨nd, rfl⟩⟩; (try first | exact ⟨rfl, _, World.drewN_drewN _ _ _⟩ | exact ⟨rfl, _, Eq.trans (World.drewN_drewN _ _ _) (congrArg (World.drewN _) (Nat.add_assoc _ _ _))⟩)))
       repeat (go_quiet (first | (go_at_call 57; (with_reducible refine (impl_isHigh.calls t406 true _ A27.out).mono ?_); rintro e w' ⟨rfl, ⟨nd, rfl⟩⟩; (try first | exact ⟨rfl, _, World.drewN_drewN _ _ _⟩ | exact ⟨rfl, _, Eq.trans (World.drewN_drewN _ _ _) (congrArg (World.drewN _) (Nat.add_assoc _ _ _))⟩))); try go_wp2_with (first | (go_at_call 57; (with_reducible refine (impl_isHigh.calls t406 true _ A27.out).mono ?_); rintro e w' ⟨rfl, ⟨nd, rfl⟩⟩; (try first | exact ⟨rfl, _, World.drewN_drewN _ _ _⟩ | exact ⟨rfl, _, Eq.trans (World.drewN_drewN _ _ _) (congrArg (World.drewN _) (Nat.add_assoc _ _ _))⟩))))
       go_meet
       case rel => exact ⟨_, (decide ((a1.size : Int) < 4)), Sw.r, H', ⟨by first | omega | exact Nat.le_refl _⟩, ⟨Zb95_0⟩, ⟨Zb95_2⟩, ⟨Zb95_1⟩⟩
      ·replace c28 := Bool.eq_false_iff.mpr c28
       subst c28
       have H1 : (impl_Decoder_next.j0 k a1 t406 false s0_0 s0_1 s0_2 s0_3) = some (r1, r2, r3, r4, r5, r6) := by rw [if_neg (show ¬ (false = true) by decide)] at H; exact H
       clear H
       have H := H1
       clear H1
       have H' := Aside0.mk H
       clear H
       go_wp2_with (first | (go_at_call 57; (with_reducible refine (impl_isHigh.calls t406 false _ A27.out).mono ?_); rintro e w' ⟨rfl, ⟨nd, rfl⟩⟩; (try first | exact ⟨rfl, _, World.drewN_drewN _ _ _⟩ | exact ⟨rfl, _, Eq.trans (World.drewN_drewN _ _ _) (congrArg (World.drewN _) (Nat.add_assoc _ _ _))⟩)))
       repeat (go_quiet (first | (go_at_call 57; (with_reducible refine (impl_isHigh.calls t406 false _ A27.out).mono ?_); rintro e w' ⟨rfl, ⟨nd, rfl⟩⟩; (try first | exact ⟨rfl, _, World.drewN_drewN _ _ _⟩ | exact ⟨rfl, _, Eq.trans (World.drewN_drewN _ _ _) (congrArg (World.drewN _) (Nat.add_assoc _ _ _))⟩))); try go_wp2_with (first | (go_at_call 57; (with_reducible refine (impl_isHigh.calls t406 false _ A27.out).mono ?_); rintro e w' ⟨rfl, ⟨nd, rfl⟩⟩; (try first | exact ⟨rfl, _, World.drewN_drewN _ _ _⟩ | exact ⟨rfl, _, Eq.trans (World.drewN_drewN _ _ _) (congrArg (World.drewN _) (Nat.add_assoc _ _ _))⟩))))
       go_meet
       case rel => exact ⟨_, (false), Sw.r, H', ⟨by first | omega | exact Nat.le_refl _⟩, ⟨Zb95_0⟩, ⟨Zb95_2⟩, ⟨Zb95_1⟩⟩
     case rest =>
      clear HC25
      try clear c1
      try clear p1
      try clear q1
      try clear hx1
      try clear qi1
      try clear c2
      try clear p2
      try clear c3
      try clear c3b0
      try clear c3b1
      try clear c5
      try clear p6
      try clear c9
      try clear c12
      try clear c12b0
      try clear c12b1
      try clear c13
      try clear c13b0
      try clear c13b1
      try clear p14
      try clear q14
      try clear hx14
      try clear qi14
      try clear c16
      try clear c16b0
      try clear c16b1
      try clear c17
      try clear c17b0
      try clear c17b1
      try clear p18
      try clear q18
      try clear hx18
      try clear qi18
      try clear c22
      try clear c22b0
      try clear c22b1
      try clear c28
      try clear hcz15_0 hcz15_1 hcz15_2 hcz15_3
      try clear hcz20_0 hcz20_1 hcz20_2 hcz20_3
      try clear hcz23_0 hcz23_1 hcz23_2 hcz23_3
      try clear hcz26_0 hcz26_1 hcz26_2 hcz26_3
      try clear hcz6_0 hcz6_1 hcz6_2 hcz6_3
      try clear hcz9_0 hcz9_1 hcz9_2 hcz9_3
      try clear hfz15_0 hfz15_1 hfz15_2 hfz15_3
      try clear hfz20_0 hfz20_1 hfz20_2 hfz20_3
      try clear hfz23_0 hfz23_1 hfz23_2 hfz23_3
      try clear hfz26_0 hfz26_1 hfz26_2 hfz26_3
      try clear hfz6_0 hfz6_1 hfz6_2 hfz6_3
      try clear hfz9_0 hfz9_1 hfz9_2 hfz9_3
      try clear p14
      try clear p18
      try clear q14
      try clear q18
      obtain ⟨kq, x41_24, rfl, HA, HJ24, HI0, HK, HB⟩ := hcut
      cases kq with
      | zero => exact absurd HA.out (by simp [impl_Decoder_next.j0])
      | succ kj24 =>
       have H := HA.out
       clear HA
       simp only [impl_Decoder_next.j0] at H
       by_cases c29 : x41_24 = true
       ·subst c29
        have H1 : (some (0, 0, s0_0, s0_1, s0_2, s0_3)) = some (r1, r2, r3, r4, r5, r6) := by rw [if_pos rfl] at H; exact H
        clear H
        have H := H1
        clear H1
        simp only [Option.some.injEq, Prod.mk.injEq] at H
        obtain ⟨rfl, rfl, rfl, rfl, rfl, rfl⟩ := H
        go_wp2
        repeat (go_quiet (fail); try go_wp2)
        go_ret2
        exact ⟨Sw.e, HI0.out, HB.out, HK.out⟩
       ·replace c29 := Bool.eq_false_iff.mpr c29
        subst c29
        have H1 : ((impl_isHigh.f t406).bind fun t408 => (if t408 = true then (if 2 ≤ (a1.size : Int) then ((impl_unitAt.f s0_0 (a1.extract 2 a1.size)).bind fun t409 => ((impl_isLow.f t409).bind fun t410 => (if t410 = true then (some (wrap64 ((wrap64 ((wrap64 (65536 + (wrap64 ((wrap64 (t406 - 55296)) * 1024)))) + t409)) - 56320), 4, s0_0, s0_1, s0_2, s0_3)) else (some (65533, 2, s0_0, s0_1, s0_2, s0_3))))) else (none)) else ((impl_isLow.f t406).bind fun t411 => (if t411 = true then (some (65533, 2, s0_0, s0_1, s0_2, s0_3)) else (some (t406, 2, s0_0, s0_1, s0_2, s0_3)))))) = some (r1, r2, r3, r4, r5, r6) := by rw [if_neg (show ¬ (false = true) by decide)] at H; exact H
        clear H
        have H := H1
        clear H1
        replace H := Option.bind_eq_some_iff.mp H
        obtain ⟨t408, A300, H⟩ := H
        replace H : (if t408 = true then (if 2 ≤ (a1.size : Int) then ((impl_unitAt.f s0_0 (a1.extract 2 a1.size)).bind fun t409 => ((impl_isLow.f t409).bind fun t410 => (if t410 = true then (some (wrap64 ((wrap64 ((wrap64 (65536 + (wrap64 ((wrap64 (t406 - 55296)) * 1024)))) + t409)) - 56320), 4, s0_0, s0_1, s0_2, s0_3)) else (some (65533, 2, s0_0, s0_1, s0_2, s0_3))))) else (none)) else ((impl_isLow.f t406).bind fun t411 => (if t411 = true then (some (65533, 2, s0_0, s0_1, s0_2, s0_3)) else (some (t406, 2, s0_0, s0_1, s0_2, s0_3))))) = some (r1, r2, r3, r4, r5, r6) := H
        have A30 := Aside0.mk A300
        clear A300
        by_cases c31 : t408 = true
        ·subst c31
         have H1 : (if 2 ≤ (a1.size : Int) then ((impl_unitAt.f s0_0 (a1.extract 2 a1.size)).bind fun t409 => ((impl_isLow.f t409).bind fun t410 => (if t410 = true then (some (wrap64 ((wrap64 ((wrap64 (65536 + (wrap64 ((wrap64 (t406 - 55296)) * 1024)))) + t409)) - 56320), 4, s0_0, s0_1, s0_2, s0_3)) else (some (65533, 2, s0_0, s0_1, s0_2, s0_3))))) else (none)) = some (r1, r2, r3, r4, r5, r6) := by rw [if_pos rfl] at H; exact H
         clear H
         have H := H1
         clear H1
         by_cases c32 : 2 ≤ (a1.size : Int)
         ·rw [if_pos c32] at H
          have c32b0 := eq_true c32
          have c32b1 : decide (2 ≤ (a1.size : Int)) = true := decide_eq_true c32
          clear c32
          replace H := Option.bind_eq_some_iff.mp H
          obtain ⟨t409, A330, H⟩ := H
          replace H : ((impl_isLow.f t409).bind fun t410 => (if t410 = true then (some (wrap64 ((wrap64 ((wrap64 (65536 + (wrap64 ((wrap64 (t406 - 55296)) * 1024)))) + t409)) - 56320), 4, s0_0, s0_1, s0_2, s0_3)) else (some (65533, 2, s0_0, s0_1, s0_2, s0_3)))) = some (r1, r2, r3, r4, r5, r6) := H
          have A33 := Aside0.mk A330
          clear A330
          replace H := Option.bind_eq_some_iff.mp H
          obtain ⟨t410, A340, H⟩ := H
          replace H : (if t410 = true then (some (wrap64 ((wrap64 ((wrap64 (65536 + (wrap64 ((wrap64 (t406 - 55296)) * 1024)))) + t409)) - 56320), 4, s0_0, s0_1, s0_2, s0_3)) else (some (65533, 2, s0_0, s0_1, s0_2, s0_3))) = some (r1, r2, r3, r4, r5, r6) := H
          have A34 := Aside0.mk A340
          clear A340
          by_cases c35 : t410 = true
          ·subst c35
           have H1 : (some (wrap64 ((wrap64 ((wrap64 (65536 + (wrap64 ((wrap64 (t406 - 55296)) * 1024)))) + t409)) - 56320), 4, s0_0, s0_1, s0_2, s0_3)) = some (r1, r2, r3, r4, r5, r6) := by rw [if_pos rfl] at H; exact H
           clear H
           have H := H1
           clear H1
           simp only [Option.some.injEq, Prod.mk.injEq] at H
           obtain ⟨rfl, rfl, rfl, rfl, rfl, rfl⟩ := H
           go_wp2_with (first | (go_at_call 57; (with_reducible refine (impl_isHigh.calls t406 true _ A30.out).mono ?_); rintro e w' ⟨rfl, ⟨nd, rfl⟩⟩; (try first | exact ⟨rfl, _, World.drewN_drewN _ _ _⟩ | exact ⟨rfl, _, Eq.trans (World.drewN_drewN _ _ _) (congrArg (World.drewN _) (Nat.add_assoc _ _ _))⟩); obtain ⟨HGz36, hgz36⟩ := HI0.out; have hcz36_0 := cellS25_0 HGz36; have hcz36_1 := cellS25_1 HGz36; have hcz36_2 := cellS25_2 HGz36; have hcz36_3 := cellS25_3 HGz36; have hfz36_0 := blk_frozen HGz36 0; have hfz36_1 := blk_frozen HGz36 1; have hfz36_2 := blk_frozen HGz36 2; have hfz36_3 := blk_frozen HGz36 3; clear HGz36 hgz36) | (go_at_call 58; (with_reducible refine (impl_unitAt.calls s0_0 (a1.extract 2 a1.size) t409 _ A33.out).mono ?_); rintro e w' ⟨rfl, ⟨nd, rfl⟩⟩; (try first | exact ⟨rfl, _, World.drewN_drewN _ _ _⟩ | exact ⟨rfl, _, Eq.trans (World.drewN_drewN _ _ _) (congrArg (World.drewN _) (Nat.add_assoc _ _ _))⟩)) | (go_at_call 113; (with_reducible refine (impl_isLow.calls t409 true _ A34.out).mono ?_); rintro e w' ⟨rfl, ⟨nd, rfl⟩⟩; (try first | exact ⟨rfl, _, World.drewN_drewN _ _ _⟩ | exact ⟨rfl, _, Eq.trans (World.drewN_drewN _ _ _) (congrArg (World.drewN _) (Nat.add_assoc _ _ _))⟩)))
           repeat (go_quiet (first | (go_at_call 57; (with_reducible refine (impl_isHigh.calls t406 true _ A30.out).mono ?_); rintro e w' ⟨rfl, ⟨nd, rfl⟩⟩; (try first | exact ⟨rfl, _, World.drewN_drewN _ _ _⟩ | exact ⟨rfl, _, Eq.trans (World.drewN_drewN _ _ _) (congrArg (World.drewN _) (Nat.add_assoc _ _ _))⟩); obtain ⟨HGz36, hgz36⟩ := HI0.out; have hcz36_0 := cellS25_0 HGz36; have hcz36_1 := cellS25_1 HGz36; have hcz36_2 := cellS25_2 HGz36; have hcz36_3 := cellS25_3 HGz36; have hfz36_0 := blk_frozen HGz36 0; have hfz36_1 := blk_frozen HGz36 1; have hfz36_2 := blk_frozen HGz36 2; have hfz36_3 := blk_frozen HGz36 3; clear HGz36 hgz36) | (go_at_call 58; (with_reducible refine (impl_unitAt.calls s0_0 (a1.extract 2 a1.size) t409 _ A33.out).mono ?_); rintro e w' ⟨rfl, ⟨nd, rfl⟩⟩; (try first | exact ⟨rfl, _, World.drewN_drewN _ _ _⟩ | exact ⟨rfl, _, Eq.trans (World.drewN_drewN _ _ _) (congrArg (World.drewN _) (Nat.add_assoc _ _ _))⟩)) | (go_at_call 113; (with_reducible refine (impl_isLow.calls t409 true _ A34.out).mono ?_); rintro e w' ⟨rfl, ⟨nd, rfl⟩⟩; (try first | exact ⟨rfl, _, World.drewN_drewN _ _ _⟩ | exact ⟨rfl, _, Eq.trans (World.drewN_drewN _ _ _) (congrArg (World.drewN _) (Nat.add_assoc _ _ _))⟩))); try go_wp2_with (first | (go_at_call 57; (with_reducible refine (impl_isHigh.calls t406 true _ A30.out).mono ?_); rintro e w' ⟨rfl, ⟨nd, rfl⟩⟩; (try first | exact ⟨rfl, _, World.drewN_drewN _ _ _⟩ | exact ⟨rfl, _, Eq.trans (World.drewN_drewN _ _ _) (congrArg (World.drewN _) (Nat.add_assoc _ _ _))⟩); obtain ⟨HGz36, hgz36⟩ := HI0.out; have hcz36_0 := cellS25_0 HGz36; have hcz36_1 := cellS25_1 HGz36; have hcz36_2 := cellS25_2 HGz36; have hcz36_3 := cellS25_3 HGz36; have hfz36_0 := blk_frozen HGz36 0; have hfz36_1 := blk_frozen HGz36 1; have hfz36_2 := blk_frozen HGz36 2; have hfz36_3 := blk_frozen HGz36 3; clear HGz36 hgz36) | (go_at_call 58; (with_reducible refine (impl_unitAt.calls s0_0 (a1.extract 2 a1.size) t409 _ A33.out).mono ?_); rintro e w' ⟨rfl, ⟨nd, rfl⟩⟩; (try first | exact ⟨rfl, _, World.drewN_drewN _ _ _⟩ | exact ⟨rfl, _, Eq.trans (World.drewN_drewN _ _ _) (congrArg (World.drewN _) (Nat.add_assoc _ _ _))⟩)) | (go_at_call 113; (with_reducible refine (impl_isLow.calls t409 true _ A34.out).mono ?_); rintro e w' ⟨rfl, ⟨nd, rfl⟩⟩; (try first | exact ⟨rfl, _, World.drewN_drewN _ _ _⟩ | exact ⟨rfl, _, Eq.trans (World.drewN_drewN _ _ _) (congrArg (World.drewN _) (Nat.add_assoc _ _ _))⟩))))
           go_ret2
           exact ⟨Sw.e, Zb95_0, Zb95_1, Zb95_2⟩
          ·replace c35 := Bool.eq_false_iff.mpr c35
           subst c35
           have H1 : (some (65533, 2, s0_0, s0_1, s0_2, s0_3)) = some (r1, r2, r3, r4, r5, r6) := by rw [if_neg (show ¬ (false = true) by decide)] at H; exact H
           clear H
           have H := H1
           clear H1
           simp only [Option.some.injEq, Prod.mk.injEq] at H
           obtain ⟨rfl, rfl, rfl, rfl, rfl, rfl⟩ := H
           go_wp2_with (first | (go_at_call 57; (with_reducible refine (impl_isHigh.calls t406 true _ A30.out).mono ?_); rintro e w' ⟨rfl, ⟨nd, rfl⟩⟩; (try first | exact ⟨rfl, _, World.drewN_drewN _ _ _⟩ | exact ⟨rfl, _, Eq.trans (World.drewN_drewN _ _ _) (congrArg (World.drewN _) (Nat.add_assoc _ _ _))⟩); obtain ⟨HGz37, hgz37⟩ := HI0.out; have hcz37_0 := cellS25_0 HGz37; have hcz37_1 := cellS25_1 HGz37; have hcz37_2 := cellS25_2 HGz37; have hcz37_3 := cellS25_3 HGz37; have hfz37_0 := blk_frozen HGz37 0; have hfz37_1 := blk_frozen HGz37 1; have hfz37_2 := blk_frozen HGz37 2; have hfz37_3 := blk_frozen HGz37 3; clear HGz37 hgz37) | (go_at_call 58; (with_reducible refine (impl_unitAt.calls s0_0 (a1.extract 2 a1.size) t409 _ A33.out).mono ?_); rintro e w' ⟨rfl, ⟨nd, rfl⟩⟩; (try first | exact ⟨rfl, _, World.drewN_drewN _ _ _⟩ | exact ⟨rfl, _, Eq.trans (World.drewN_drewN _ _ _) (congrArg (World.drewN _) (Nat.add_assoc _ _ _))⟩)) | (go_at_call 113; (with_reducible refine (impl_isLow.calls t409 false _ A34.out).mono ?_); rintro e w' ⟨rfl, ⟨nd, rfl⟩⟩; (try first | exact ⟨rfl, _, World.drewN_drewN _ _ _⟩ | exact ⟨rfl, _, Eq.trans (World.drewN_drewN _ _ _) (congrArg (World.drewN _) (Nat.add_assoc _ _ _))⟩)))
           repeat (go_quiet (first | (go_at_call 57; (with_reducible refine (impl_isHigh.calls t406 true _ A30.out).mono ?_); rintro e w' ⟨rfl, ⟨nd, rfl⟩⟩; (try first | exact ⟨rfl, _, World.drewN_drewN _ _ _⟩ | exact ⟨rfl, _, Eq.trans (World.drewN_drewN _ _ _) (congrArg (World.drewN _) (Nat.add_assoc _ _ _))⟩); obtain ⟨HGz37, hgz37⟩ := HI0.out; have hcz37_0 := cellS25_0 HGz37; have hcz37_1 := cellS25_1 HGz37; have hcz37_2 := cellS25_2 HGz37; have hcz37_3 := cellS25_3 HGz37; have hfz37_0 := blk_frozen HGz37 0; have hfz37_1 := blk_frozen HGz37 1; have hfz37_2 := blk_frozen HGz37 2; have hfz37_3 := blk_frozen HGz37 3; clear HGz37 hgz37) | (go_at_call 58; (with_reducible refine (impl_unitAt.calls s0_0 (a1.extract 2 a1.size) t409 _ A33.out).mono ?_); rintro e w' ⟨rfl, ⟨nd, rfl⟩⟩; (try first | exact ⟨rfl, _, World.drewN_drewN _ _ _⟩ | exact ⟨rfl, _, Eq.trans (World.drewN_drewN _ _ _) (congrArg (World.drewN _) (Nat.add_assoc _ _ _))⟩)) | (go_at_call 113; (with_reducible refine (impl_isLow.calls t409 false _ A34.out).mono ?_); rintro e w' ⟨rfl, ⟨nd, rfl⟩⟩; (try first | exact ⟨rfl, _, World.drewN_drewN _ _ _⟩ | exact ⟨rfl, _, Eq.trans (World.drewN_drewN _ _ _) (congrArg (World.drewN _) (Nat.add_assoc _ _ _))⟩))); try go_wp2_with (first | (go_at_call 57; (with_reducible refine (impl_isHigh.calls t406 true _ A30.out).mono ?_); rintro e w' ⟨rfl, ⟨nd, rfl⟩⟩; (try first | exact ⟨rfl, _, World.drewN_drewN _ _ _⟩ | exact ⟨rfl, _, Eq.trans (World.drewN_drewN _ _ _) (congrArg (World.drewN _) (Nat.add_assoc _ _ _))⟩); obtain ⟨HGz37, hgz37⟩ := HI0.out; have hcz37_0 := cellS25_0 HGz37; have hcz37_1 := cellS25_1 HGz37; have hcz37_2 := cellS25_2 HGz37; have hcz37_3 := cellS25_3 HGz37; have hfz37_0 := blk_frozen HGz37 0; have hfz37_1 := blk_frozen HGz37 1; have hfz37_2 := blk_frozen HGz37 2; have hfz37_3 := blk_frozen HGz37 3; clear HGz37 hgz37) | (go_at_call 58; (with_reducible refine (impl_unitAt.calls s0_0 (a1.extract 2 a1.size) t409 _ A33.out).mono ?_); rintro e w' ⟨rfl, ⟨nd, rfl⟩⟩; (try first | exact ⟨rfl, _, World.drewN_drewN _ _ _⟩ | exact ⟨rfl, _, Eq.trans (World.drewN_drewN _ _ _) (congrArg (World.drewN _) (Nat.add_assoc _ _ _))⟩)) | (go_at_call 113; (with_reducible refine (impl_isLow.calls t409 false _ A34.out).mono ?_); rintro e w' ⟨rfl, ⟨nd, rfl⟩⟩; (try first | exact ⟨rfl, _, World.drewN_drewN _ _ _⟩ | exact ⟨rfl, _, Eq.trans (World.drewN_drewN _ _ _) (congrArg (World.drewN _) (Nat.add_assoc _ _ _))⟩))))
           go_ret2
           exact ⟨Sw.e, Zb95_0, Zb95_1, Zb95_2⟩
         ·rw [if_neg c32] at H
          exact absurd H (by simp)
        ·replace c31 := Bool.eq_false_iff.mpr c31
         subst c31
         have H1 : ((impl_isLow.f t406).bind fun t411 => (if t411 = true then (some (65533, 2, s0_0, s0_1, s0_2, s0_3)) else (some (t406, 2, s0_0, s0_1, s0_2, s0_3)))) = some (r1, r2, r3, r4, r5, r6) := by rw [if_neg (show ¬ (false = true) by decide)] at H; exact H
         clear H
         have H := H1
         clear H1
         replace H := Option.bind_eq_some_iff.mp H
         obtain ⟨t411, A380, H⟩ := H
         replace H : (if t411 = true then (some (65533, 2, s0_0, s0_1, s0_2, s0_3)) else (some (t406, 2, s0_0, s0_1, s0_2, s0_3))) = some (r1, r2, r3, r4, r5, r6) := H
         have A38 := Aside0.mk A380
         clear A380
         by_cases c39 : t411 = true
         ·subst c39
          have H1 : (some (65533, 2, s0_0, s0_1, s0_2, s0_3)) = some (r1, r2, r3, r4, r5, r6) := by rw [if_pos rfl] at H; exact H
          clear H
          have H := H1
          clear H1
          simp only [Option.some.injEq, Prod.mk.injEq] at H
          obtain ⟨rfl, rfl, rfl, rfl, rfl, rfl⟩ := H
          go_wp2_with (first | (go_at_call 57; (with_reducible refine (impl_isHigh.calls t406 false _ A30.out).mono ?_); rintro e w' ⟨rfl, ⟨nd, rfl⟩⟩; (try first | exact ⟨rfl, _, World.drewN_drewN _ _ _⟩ | exact ⟨rfl, _, Eq.trans (World.drewN_drewN _ _ _) (congrArg (World.drewN _) (Nat.add_assoc _ _ _))⟩)) | (go_at_call 113; (with_reducible refine (impl_isLow.calls t406 true _ A38.out).mono ?_); rintro e w' ⟨rfl, ⟨nd, rfl⟩⟩; (try first | exact ⟨rfl, _, World.drewN_drewN _ _ _⟩ | exact ⟨rfl, _, Eq.trans (World.drewN_drewN _ _ _) (congrArg (World.drewN _) (Nat.add_assoc _ _ _))⟩)))
          repeat (go_quiet (first | (go_at_call 57; (with_reducible refine (impl_isHigh.calls t406 false _ A30.out).mono ?_); rintro e w' ⟨rfl, ⟨nd, rfl⟩⟩; (try first | exact ⟨rfl, _, World.drewN_drewN _ _ _⟩ | exact ⟨rfl, _, Eq.trans (World.drewN_drewN _ _ _) (congrArg (World.drewN _) (Nat.add_assoc _ _ _))⟩)) | (go_at_call 113; (with_reducible refine (impl_isLow.calls t406 true _ A38.out).mono ?_); rintro e w' ⟨rfl, ⟨nd, rfl⟩⟩; (try first | exact ⟨rfl, _, World.drewN_drewN _ _ _⟩ | exact ⟨rfl, _, Eq.trans (World.drewN_drewN _ _ _) (congrArg (World.drewN _) (Nat.add_assoc _ _ _))⟩))); try go_wp2_with (first | (go_at_call 57; (with_reducible refine (impl_isHigh.calls t406 false _ A30.out).mono ?_); rintro e w' ⟨rfl, ⟨nd, rfl⟩⟩; (try first | exact ⟨rfl, _, World.drewN_drewN _ _ _⟩ | exact ⟨rfl, _, Eq.trans (World.drewN_drewN _ _ _) (congrArg (World.drewN _) (Nat.add_assoc _ _ _))⟩)) | (go_at_call 113; (with_reducible refine (impl_isLow.calls t406 true _ A38.out).mono ?_); rintro e w' ⟨rfl, ⟨nd, rfl⟩⟩; (try first | exact ⟨rfl, _, World.drewN_drewN _ _ _⟩ | exact ⟨rfl, _, Eq.trans (World.drewN_drewN _ _ _) (congrArg (World.drewN _) (Nat.add_assoc _ _ _))⟩))))
          go_ret2
          exact ⟨Sw.e, Zb95_0, Zb95_1, Zb95_2⟩
         ·replace c39 := Bool.eq_false_iff.mpr c39
          subst c39
          have H1 : (some (t406, 2, s0_0, s0_1, s0_2, s0_3)) = some (r1, r2, r3, r4, r5, r6) := by rw [if_neg (show ¬ (false = true) by decide)] at H; exact H
          clear H
          have H := H1
          clear H1
          simp only [Option.some.injEq, Prod.mk.injEq] at H
          obtain ⟨rfl, rfl, rfl, rfl, rfl, rfl⟩ := H
          go_wp2_with (first | (go_at_call 57; (with_reducible refine (impl_isHigh.calls t406 false _ A30.out).mono ?_); rintro e w' ⟨rfl, ⟨nd, rfl⟩⟩; (try first | exact ⟨rfl, _, World.drewN_drewN _ _ _⟩ | exact ⟨rfl, _, Eq.trans (World.drewN_drewN _ _ _) (congrArg (World.drewN _) (Nat.add_assoc _ _ _))⟩)) | (go_at_call 113; (with_reducible refine (impl_isLow.calls t406 false _ A38.out).mono ?_); rintro e w' ⟨rfl, ⟨nd, rfl⟩⟩; (try first | exact ⟨rfl, _, World.drewN_drewN _ _ _⟩ | exact ⟨rfl, _, Eq.trans (World.drewN_drewN _ _ _) (congrArg (World.drewN _) (Nat.add_assoc _ _ _))⟩)))
          repeat (go_quiet (first | (go_at_call 57; (with_reducible refine (impl_isHigh.calls t406 false _ A30.out).mono ?_); rintro e w' ⟨rfl, ⟨nd, rfl⟩⟩; (try first | exact ⟨rfl, _, World.drewN_drewN _ _ _⟩ | exact ⟨rfl, _, Eq.trans (World.drewN_drewN _ _ _) (congrArg (World.drewN _) (Nat.add_assoc _ _ _))⟩)) | (go_at_call 113; (with_reducible refine (impl_isLow.calls t406 false _ A38.out).mono ?_); rintro e w' ⟨rfl, ⟨nd, rfl⟩⟩; (try first | exact ⟨rfl, _, World.drewN_drewN _ _ _⟩ | exact ⟨rfl, _, Eq.trans (World.drewN_drewN _ _ _) (congrArg (World.drewN _) (Nat.add_assoc _ _ _))⟩))); try go_wp2_with (first | (go_at_call 57; (with_reducible refine (impl_isHigh.calls t406 false _ A30.out).mono ?_); rintro e w' ⟨rfl, ⟨nd, rfl⟩⟩; (try first | exact ⟨rfl, _, World.drewN_drewN _ _ _⟩ | exact ⟨rfl, _, Eq.trans (World.drewN_drewN _ _ _) (congrArg (World.drewN _) (Nat.add_assoc _ _ _))⟩)) | (go_at_call 113; (with_reducible refine (impl_isLow.calls t406 false _ A38.out).mono ?_); rintro e w' ⟨rfl, ⟨nd, rfl⟩⟩; (try first | exact ⟨rfl, _, World.drewN_drewN _ _ _⟩ | exact ⟨rfl, _, Eq.trans (World.drewN_drewN _ _ _) (congrArg (World.drewN _) (Nat.add_assoc _ _ _))⟩))))
          go_ret2
          exact ⟨Sw.e, Zb95_0, Zb95_1, Zb95_2⟩

theorem Zb51_0 {p : Prop} (h : p := by repeat (first | (with_reducible first | exact HI0.out | apply IsS25.alloc | apply IsS25.drewN | apply IsS25.drew | apply IsS25.set_0 | apply IsS25.set_1 | apply IsS25.set_2 | apply IsS25.set_3) | exact HI0.out)) : p := h
theorem Zb51_1 {p : Prop} (h : p := by repeat (first | (with_reducible first | exact HB.out | apply below_alloc | apply pw_below_drewN | apply below_drew1 | refine below_set ?_ (IsS25.ge HI0.out)) | exact HB.out)) : p := h
theorem Zb51_2 {p : Prop} (h : p := by repeat (first | (with_reducible first | exact HK.out | apply KeepBut.set_ | apply keep_drewN | apply keep_drew | apply keep_alloc) | exact HK.out)) : p := h
theorem Zb51_3 {p : Prop} (h : p := by (with_reducible repeat (first | apply Kd.R_alloc | apply Kd.R_drewN | apply Kd.R_drew)); exact Kd.R_mono (Kd.R_far (p := ⟨g, 3, none⟩) (IsS25.apart HI0.out HO_6.out (by decide)) (fun _ hk => hk.2) (.string x8_1)) (fun _ hk => hk.1)) : p := h
theorem Zb51_4 {p : Prop} (h : p := by (with_reducible repeat (first | apply Kd.R_alloc | apply Kd.R_drewN | apply Kd.R_drew)); exact Kd.R_mono (Kd.R_far (p := ⟨g, 3, none⟩) (IsS25.apart HI0.out HO_7.out (by decide)) (fun _ hk => hk.2) (.string x8_1)) (fun _ hk => hk.1)) : p := h
theorem Zb51_5 {p : Prop} (h : p := by simp only [putAll, Act.put, List.setIfInBounds_toArray, List.set_cons_zero, List.set_cons_succ]) : p := h
theorem Zb51_6 {p : Prop} (h : p := by have := HK1.out; first | omega | exact Nat.le_refl _) : p := h
mutual
def impl_Decoder_feed.l0 : Nat → List Int → List Int → ByteArray → Int → Int → Int → ByteArray → Option (List Int × List Int × Int × Int × Int × ByteArray)
 | 0, _, _, _, _, _, _, _ => none
 | k + 1, x6, x7, x8, x1000, x1001, x1002, x1003 => if x8.toList = ([] : List UInt8) then (some (x6, x7, x1000, x1001, x1002, x8)) else (if x1000 = 5 then (if 0 < (x8.size : Int) then (if (bt x8 0) = 14 then (impl_Decoder_feed.j1 k x6 x7 x8 true x1000 x1001 x1002 x1003) else (impl_Decoder_feed.j1 k x6 x7 x8 ((bt x8 0) == 15) x1000 x1001 x1002 x1003)) else (none)) else (impl_Decoder_feed.j1 k x6 x7 x8 false x1000 x1001 x1002 x1003))
def impl_Decoder_feed.j1 : Nat → List Int → List Int → ByteArray → Bool → Int → Int → Int → ByteArray → Option (List Int × List Int × Int × Int × Int × ByteArray)
 | 0, _, _, _, _, _, _, _, _ => none
 | k + 1, x6, x7, x8, x35, x1000, x1001, x1002, x1003 => if x35 = true then (if 0 < (x8.size : Int) then (if 1 ≤ (x8.size : Int) then (impl_Decoder_feed.l0 k x6 x7 (x8.extract 1 x8.size) x1000 (wrap64 (15 - (wrap64 (bt x8 0)))) (wrap64 (x1002 + 1)) x1003) else (none)) else (none)) else ((impl_Decoder_next.f k x1000 x1001 x1002 x1003 x8).bind fun bt418 => (if bt418.2.1 = 0 then (some (x6, x7, bt418.2.2.1, bt418.2.2.2.1, bt418.2.2.2.2.1, x8)) else ((some (([bt418.1] : List Int) : List Int)).bind fun y424 => (if x6.length + y424.length < 17592186044416 then ((some (([wrap64 (bt418.2.1 + bt418.2.2.2.2.1)] : List Int) : List Int)).bind fun y430 => (if x7.length + y430.length < 17592186044416 then (if 0 ≤ bt418.2.1 then (if bt418.2.1 ≤ (x8.size : Int) then (impl_Decoder_feed.l0 k (x6 ++ y424) (x7 ++ y430) (x8.extract (bt418.2.1 : Int).toNat x8.size) bt418.2.2.1 bt418.2.2.2.1 0 bt418.2.2.2.2.2) else (none)) else (none)) else (none))) else (none)))))
end
def impl_Decoder_feed.f (k : Nat) (s0_0 : Int) (s0_1 : Int) (s0_2 : Int) (s0_3 : ByteArray) (a1 : ByteArray) : Option (List Int × List Int × Int × Int × Int × ByteArray) := if s0_3.size + a1.size ≤ 9223372036854775807 then (impl_Decoder_feed.l0 k (([] : List Int)) (([] : List Int)) (s0_3 ++ a1) s0_0 s0_1 s0_2 s0_3) else (none)
theorem impl_Decoder_feed.mono_l : ∀ k, (∀ y0 y1 y2 y3 y4 y5 y6, LeO (impl_Decoder_feed.l0 k y0 y1 y2 y3 y4 y5 y6) (impl_Decoder_feed.l0 (k + 1) y0 y1 y2 y3 y4 y5 y6)) ∧ (∀ y0 y1 y2 y3 y4 y5 y6 y7, LeO (impl_Decoder_feed.j1 k y0 y1 y2 y3 y4 y5 y6 y7) (impl_Decoder_feed.j1 (k + 1) y0 y1 y2 y3 y4 y5 y6 y7))
 | 0 => ⟨fun _ _ _ _ _ _ _ r h => by simp [impl_Decoder_feed.l0] at h, fun _ _ _ _ _ _ _ _ r h => by simp [impl_Decoder_feed.j1] at h⟩
 | k + 1 => by
  obtain ⟨ih0, ih1⟩ := impl_Decoder_feed.mono_l k
  refine ⟨?_, ?_⟩
  ·intro y0 y1 y2 y3 y4 y5 y6
   unfold impl_Decoder_feed.l0
   with_reducible repeat' first | exact ih0 _ _ _ _ _ _ _ | exact ih1 _ _ _ _ _ _ _ _ | exact impl_Decoder_next.mono _ _ _ _ _ _ | exact LeO.refl _ | exact LeO.none _ | refine LeO.ite ?_ ?_ | refine LeO.bind ?_ (fun _ => ?_)
  ·intro y0 y1 y2 y3 y4 y5 y6 y7
   unfold impl_Decoder_feed.j1
   with_reducible repeat' first | exact ih0 _ _ _ _ _ _ _ | exact ih1 _ _ _ _ _ _ _ _ | exact impl_Decoder_next.mono _ _ _ _ _ _ | exact LeO.refl _ | exact LeO.none _ | refine LeO.ite ?_ ?_ | refine LeO.bind ?_ (fun _ => ?_)
theorem impl_Decoder_feed.mono : ∀ a0 a1 a2 a3 a4 k, LeO (impl_Decoder_feed.f k a0 a1 a2 a3 a4) (impl_Decoder_feed.f (k + 1) a0 a1 a2 a3 a4) := by
 intro a0 a1 a2 a3 a4 k
 obtain ⟨ih0, ih1⟩ := impl_Decoder_feed.mono_l k
 unfold impl_Decoder_feed.f
 with_reducible repeat' first | exact ih0 _ _ _ _ _ _ _ | exact ih1 _ _ _ _ _ _ _ _ | exact impl_Decoder_next.mono _ _ _ _ _ _ | exact LeO.refl _ | exact LeO.none _ | refine LeO.ite ?_ ?_ | refine LeO.bind ?_ (fun _ => ?_)
def impl_Decoder_feed.T10 : Bool × List (List Nat × List Nat) := (true, [([], []), ([], []), ([1], [1]), ([0, 2], [0, 2]), ([], []), ([], []), ([], []), ([6], [6]), ([7], [7]), ([8], [8]), ([5, 9], [5, 9]), ([10], [10]), ([4, 11, 3], [4, 11]), ([3, 12, 0, 1, 2, 3], [0, 3]), ([12, 13, 0, 1, 2, 3, 4, 5, 6, 7, 8, 9, 10, 11, 12, 13], [4, 12])])
def impl_Decoder_feed.B10 : List Nat := [0, 0, 2, 7, 0, 0, 0, 64, 192, 448, 992, 2016, 4095, 8191, 16383]
theorem impl_Decoder_feed.tab10 : rtab .any (opsOf Tryd.f51 10) = impl_Decoder_feed.T10 := by kernel_rfl
theorem impl_Decoder_feed.bits10 : waitsOk impl_Decoder_feed.T10.2 impl_Decoder_feed.B10 = true := by kernel_rfl
def impl_Decoder_feed.T11 : Bool × List (List Nat × List Nat) := (true, [([], []), ([], []), ([], []), ([1, 2], [1, 2]), ([0, 0], [0]), ([4, 0], [4]), ([5, 0], [5]), ([3, 6, 0, 1, 2, 3, 4, 5, 6], [1, 3])])
def impl_Decoder_feed.B11 : List Nat := [0, 0, 0, 6, 1, 17, 49, 127]
theorem impl_Decoder_feed.tab11 : rtab .any (opsOf Tryd.f51 11) = impl_Decoder_feed.T11 := by kernel_rfl
theorem impl_Decoder_feed.bits11 : waitsOk impl_Decoder_feed.T11.2 impl_Decoder_feed.B11 = true := by kernel_rfl
theorem impl_Decoder_feed.calls (k : Nat) (g : Nat) (s0_0 : Int) (s0_1 : Int) (s0_2 : Int) (s0_3 : ByteArray) (a1 : ByteArray) (r1 : List Int) (r2 : List Int) (r3 : Int) (r4 : Int) (r5 : Int) (r6 : ByteArray) (w0 w : World) (hI : IsS25 w0 w g s0_0 s0_1 s0_2 s0_3) (hB : Below w0.heap.size w0 w) (hT : Lib.Utf8Tabs 0 1 w0) (h : impl_Decoder_feed.f k s0_0 s0_1 s0_2 s0_3 a1 = some (r1, r2, r3, r4, r5, r6)) :
  Calls Tryd.prog 51 #[.pointer (some ⟨g, 0, none⟩), .string a1] w fun e w' => ∃ v0_ v1_ : Value, e = .returned (.tuple #[v0_, v1_]) ∧ Kd.R (Kd.int .i64) 3 w' w.heap.size (fun k_ => some k_ ≠ (v1_ : Value).ownBlock) v0_ r1 ∧ Kd.R (Kd.int .i64) 3 w' w.heap.size (fun k_ => some k_ ≠ (v0_ : Value).ownBlock) v1_ r2 ∧ IsS25 w0 w' g r3 r4 r5 r6 ∧ Below w0.heap.size w0 w' ∧ KeepBut w w' g none := by
 have HT := Aside0.mk hT
 clear hT
 have HI0 := Aside0.mk hI
 have HK := Aside0.mk (KeepBut.refl w g none)
 have HL := Aside0.mk hB.size
 clear hI
 have HW0 := Aside0.mk hB.size
 have HB := Aside0.mk hB
 clear hB
 have H : (if s0_3.size + a1.size ≤ 9223372036854775807 then (impl_Decoder_feed.l0 k (([] : List Int)) (([] : List Int)) (s0_3 ++ a1) s0_0 s0_1 s0_2 s0_3) else (none)) = some (r1, r2, r3, r4, r5, r6) := h
 clear h
 obtain ⟨y412, hy412⟩ : ∃ y_ : List Int, y_ = (([] : List Int)) := ⟨_, rfl⟩
 replace H : (if s0_3.size + a1.size ≤ 9223372036854775807 then (impl_Decoder_feed.l0 k y412 (([] : List Int)) (s0_3 ++ a1) s0_0 s0_1 s0_2 s0_3) else (none)) = some (r1, r2, r3, r4, r5, r6) := by rw [hy412]; exact H
 have Ny412 := Aside0.mk hy412
 clear hy412
 obtain ⟨y415, hy415⟩ : ∃ y_ : List Int, y_ = (([] : List Int)) := ⟨_, rfl⟩
 replace H : (if s0_3.size + a1.size ≤ 9223372036854775807 then (impl_Decoder_feed.l0 k y412 y415 (s0_3 ++ a1) s0_0 s0_1 s0_2 s0_3) else (none)) = some (r1, r2, r3, r4, r5, r6) := by rw [hy415]; exact H
 have Ny415 := Aside0.mk hy415
 clear hy415
 by_cases c3 : s0_3.size + a1.size ≤ 9223372036854775807
 ·rw [if_pos c3] at H
  have c3b0 := eq_true c3
  have c3b1 : decide (s0_3.size + a1.size ≤ 9223372036854775807) = true := decide_eq_true c3
  try have c3b2 : (9223372036854775807 < s0_3.size + a1.size) = False := eq_false (Nat.not_lt.2 c3)
  have H' := Aside0.mk H
  clear H
  go_enter Tryd.func51, Tryd.ntmps51
  go_wp2_with (first | ((with_reducible refine gate_dst (N := 11) rfl ?_); refine Kd.R_lit (Kd.int .i64) _ 3 ?hg (N := 11) ?hd (xs := ([] : List Int)) (inner := []) (ok := fun _ => True) (okp := fun _ => True) ?hr ?hp (fun _ hk => hk) trivial (Below.refl _ _) (Nat.le_refl _) (by simp) ?_; (case hd => rfl); (case hg => rfl); (case hr => go_simp <;> rfl); (case hp => exact (Reps.none _ _)); intro v413 w4 ho5 hb hg_ hnew_; clear hg_ hnew_; (first | rw [← Ny412.out] at ho5 | (simp only [Int.reduceToNat] at ho5; rw [← Ny412.out] at ho5)); have HO414 := Aside0.mk (Kd.R_lower ho5 (keep_size (w := w) (g := g) (row := none) HK.out)); replace HK := Aside0.mk (KeepBut.trans HK.out (KeepBut.of_below hb g none) (.inl rfl)); replace HB := Aside0.mk (below_step HB.out hb); replace HI0 := Aside0.mk (IsS25.below HI0.out hb); clear hb ho5) | ((with_reducible refine gate_dst (N := 12) rfl ?_); refine Kd.R_lit (Kd.int .i64) _ 3 ?hg (N := 12) ?hd (xs := ([] : List Int)) (inner := []) (ok := fun _ => True) (okp := fun _ => True) ?hr ?hp (fun _ hk => hk) trivial (Below.refl _ _) (Nat.le_refl _) (by simp) ?_; (case hd => rfl); (case hg => rfl); (case hr => go_simp <;> rfl); (case hp => exact (Reps.none _ _)); intro v416 w6 ho7 hb hg_ hnew_; clear hg_ hnew_; (first | rw [← Ny415.out] at ho7 | (simp only [Int.reduceToNat] at ho7; rw [← Ny415.out] at ho7)); have HO417 := Aside0.mk (Kd.R_lower (Kd.R_new' ho7 (Kd.R_lt (Sw.rt HO414.out))) (keep_size (w := w) (g := g) (row := none) HK.out)); replace HO414 := Aside0.mk (Kd.R_elder' (Sw.rt HO414.out) (Kd.R_base ho7) hb); replace HK := Aside0.mk (KeepBut.trans HK.out (KeepBut.of_below hb g none) (.inl rfl)); replace HB := Aside0.mk (below_step HB.out hb); replace HI0 := Aside0.mk (IsS25.below HI0.out hb); clear hb ho7; obtain ⟨HGz8, hgz8⟩ := HI0.out; have hcz8_0 := cellS25_0 HGz8; have hcz8_1 := cellS25_1 HGz8; have hcz8_2 := cellS25_2 HGz8; have hcz8_3 := cellS25_3 HGz8; have hfz8_0 := blk_frozen HGz8 0; have hfz8_1 := blk_frozen HGz8 1; have hfz8_2 := blk_frozen HGz8 2; have hfz8_3 := blk_frozen HGz8 3; clear HGz8 hgz8))
  go_loopg [6, 7, 8] k (fun kq v6 v7 v8 w' => ∃ (x6_1 : List Int) (x7_1 : List Int) (x8_1 : ByteArray) (x1000_1 : Int) (x1001_1 : Int) (x1002_1 : Int) (x1003_1 : ByteArray), v8 = .string x8_1 ∧ Aside0 (impl_Decoder_feed.l0 kq x6_1 x7_1 x8_1 x1000_1 x1001_1 x1002_1 x1003_1 = some (r1, r2, r3, r4, r5, r6)) ∧ Aside0 (kq ≤ k) ∧ Aside0 (Kd.R (Kd.int .i64) 3 w' w.heap.size (fun k_ => some k_ ≠ (v7 : Value).ownBlock) v6 x6_1) ∧ Aside0 (Kd.R (Kd.int .i64) 3 w' w.heap.size (fun k_ => some k_ ≠ (v6 : Value).ownBlock) v7 x7_1) ∧ Aside0 (IsS25 w0 w' g x1000_1 x1001_1 x1002_1 x1003_1) ∧ Aside0 (KeepBut w w' g none) ∧ Aside0 (Below w0.heap.size w0 w'))
  case atStart => exact ⟨(y412), (y415), (s0_3 ++ a1), (s0_0), (s0_1), (s0_2), (s0_3), Sw.r, H', ⟨Nat.le_refl _⟩, ⟨Sw.rt (Kd.R_mono HO414.out (fun _ hk => hk.2))⟩, ⟨Sw.rt (Kd.R_mono HO417.out (fun _ hk => hk.2))⟩, ⟨HI0.out⟩, ⟨HK.out⟩, ⟨HB.out⟩⟩
  case round =>
   clear H'
   try clear p2
   try clear c3
   try clear c3b0
   try clear c3b1
   try clear c3b2
   try clear c5
   try clear hcz8_0 hcz8_1 hcz8_2 hcz8_3
   try clear hfz8_0 hfz8_1 hfz8_2 hfz8_3
   obtain ⟨x6_1, x7_1, x8_1, x1000_1, x1001_1, x1002_1, x1003_1, rfl, HA, HK1, HO_6, HO_7, HI0, HK, HB⟩ := hrel
   cases gk with
   | zero => exact absurd HA.out (by simp [impl_Decoder_feed.l0])
   | succ k1 =>
    have H := HA.out
    clear HA
    simp only [impl_Decoder_feed.l0] at H
    by_cases c9 : x8_1.toList = ([] : List UInt8)
    ·rw [if_pos c9] at H
     have c9b0 : (x8_1.toList == ([] : List UInt8)) = true := beq_iff_eq.mpr c9
     have c9b1 : (x8_1.toList != ([] : List UInt8)) = false := bne_eq_false_iff_eq.mpr c9
     clear c9
     simp only [Option.some.injEq, Prod.mk.injEq] at H
     obtain ⟨rfl, rfl, rfl, rfl, rfl, rfl⟩ := H
     obtain ⟨HGz10, hgz10⟩ := HI0.out
     have hcz10_0 := cellS25_0 HGz10
     have hcz10_1 := cellS25_1 HGz10
     have hcz10_2 := cellS25_2 HGz10
     have hcz10_3 := cellS25_3 HGz10
     have hfz10_0 := blk_frozen HGz10 0
     have hfz10_1 := blk_frozen HGz10 1
     have hfz10_2 := blk_frozen HGz10 2
     have hfz10_3 := blk_frozen HGz10 3
     clear HGz10 hgz10
     go_wp2
     go_ret2
     exact ⟨_, _, Sw.e, Zb51_3, Zb51_4, Zb51_0, Zb51_1, Zb51_2⟩
    ·rw [if_neg c9] at H
     have c9b0 : (x8_1.toList == ([] : List UInt8)) = false := beq_eq_false_iff_ne.mpr c9
     have c9b1 : (x8_1.toList != ([] : List UInt8)) = true := bne_iff_ne.mpr c9
     have HC11 := Aside0.mk H
     clear H
     go_upto_region 4 with (fail)
     go_cut [35] (fun v35 wc => ∃ (kq : Nat) (x35_10 : Bool), v35 = .bool x35_10 ∧ Aside0 (impl_Decoder_feed.j1 kq x6_1 x7_1 x8_1 x35_10 x1000_1 x1001_1 x1002_1 x1003_1 = some (r1, r2, r3, r4, r5, r6)) ∧ Aside0 (kq ≤ k1) ∧ Aside0 (Kd.R (Kd.int .i64) 3 wc w.heap.size (fun k_ => some k_ ≠ (u7 : Value).ownBlock) u6 x6_1) ∧ Aside0 (Kd.R (Kd.int .i64) 3 wc w.heap.size (fun k_ => some k_ ≠ (u6 : Value).ownBlock) u7 x7_1) ∧ Aside0 (IsS25 w0 wc g x1000_1 x1001_1 x1002_1 x1003_1) ∧ Aside0 (KeepBut w wc g none) ∧ Aside0 (Below w0.heap.size w0 wc))
     case first =>
      have H := HC11.out
      clear HC11
      by_cases c12 : x1000_1 = 5
      ·rw [if_pos c12] at H
       have c12b0 : (x1000_1 == 5) = true := beq_iff_eq.mpr c12
       have c12b1 : (x1000_1 != 5) = false := bne_eq_false_iff_eq.mpr c12
       clear c12
       (first | rw [c12b0] | (simp only [i64_w, i32_w]; rw [c12b0]) | skip)
       by_cases c13 : 0 < (x8_1.size : Int)
       ·rw [if_pos c13] at H
        have c13b0 : decide (0 < (x8_1.size : Int)) = true := decide_eq_true c13
        have c13b1 : decide (0 < x8_1.size) = true := decide_eq_true (by omega)
        clear c13
        by_cases c15 : (bt x8_1 0) = 14
        ·rw [if_pos c15] at H
         have c15b0 : ((bt x8_1 0) == 14) = true := beq_iff_eq.mpr c15
         have c15b1 : ((bt x8_1 0) != 14) = false := bne_eq_false_iff_eq.mpr c15
         clear c15
         have H' := Aside0.mk H
         clear H
         obtain ⟨HGz16, hgz16⟩ := HI0.out
         have hcz16_0 := cellS25_0 HGz16
         have hcz16_1 := cellS25_1 HGz16
         have hcz16_2 := cellS25_2 HGz16
         have hcz16_3 := cellS25_3 HGz16
         have hfz16_0 := blk_frozen HGz16 0
         have hfz16_1 := blk_frozen HGz16 1
         have hfz16_2 := blk_frozen HGz16 2
         have hfz16_3 := blk_frozen HGz16 3
         clear HGz16 hgz16
         have p14 : 0 ≤ (0 : Int) := (by omega)
         have q14 : 0 < x8_1.size := (by have : (0 : Int) < (x8_1.size : Int) := of_decide_eq_true (by assumption); omega)
         have hx14 : ∀ h : 0 < x8_1.size, ((x8_1[0]'h).toNat : Int) = bt x8_1 0 := bt_at x8_1 0
         clear p14
         have qi14 : (0 < (x8_1.size : Int)) = True := eq_true (of_decide_eq_true (by assumption))
         replace q14 := eq_true q14
         go_wp2
         go_meet
         case rel => exact ⟨_, (true), Sw.r, H', ⟨Zb51_6⟩, ⟨Sw.rt HO_6.out⟩, ⟨Sw.rt HO_7.out⟩, ⟨HI0.out⟩, ⟨HK.out⟩, ⟨HB.out⟩⟩
        ·rw [if_neg c15] at H
         have c15b0 : ((bt x8_1 0) == 14) = false := beq_eq_false_iff_ne.mpr c15
         have c15b1 : ((bt x8_1 0) != 14) = true := bne_iff_ne.mpr c15
         have H' := Aside0.mk H
         clear H
         obtain ⟨HGz18, hgz18⟩ := HI0.out
         have hcz18_0 := cellS25_0 HGz18
         have hcz18_1 := cellS25_1 HGz18
         have hcz18_2 := cellS25_2 HGz18
         have hcz18_3 := cellS25_3 HGz18
         have hfz18_0 := blk_frozen HGz18 0
         have hfz18_1 := blk_frozen HGz18 1
         have hfz18_2 := blk_frozen HGz18 2
         have hfz18_3 := blk_frozen HGz18 3
         clear HGz18 hgz18
         have p14 : 0 ≤ (0 : Int) := (by omega)
         have q14 : 0 < x8_1.size := (by have : (0 : Int) < (x8_1.size : Int) := of_decide_eq_true (by assumption); omega)
         have hx14 : ∀ h : 0 < x8_1.size, ((x8_1[0]'h).toNat : Int) = bt x8_1 0 := bt_at x8_1 0
         clear p14
         have qi14 : (0 < (x8_1.size : Int)) = True := eq_true (of_decide_eq_true (by assumption))
         replace q14 := eq_true q14
         have p17 : 0 ≤ (0 : Int) := (by omega)
         have q17 : 0 < x8_1.size := (by have : (0 : Int) < (x8_1.size : Int) := of_decide_eq_true (by assumption); omega)
         have hx17 : ∀ h : 0 < x8_1.size, ((x8_1[0]'h).toNat : Int) = bt x8_1 0 := bt_at x8_1 0
         clear p17
         have qi17 : (0 < (x8_1.size : Int)) = True := eq_true (of_decide_eq_true (by assumption))
         replace q17 := eq_true q17
         go_wp2
         go_meet
         case rel => exact ⟨_, (((bt x8_1 0) == 15)), Sw.r, H', ⟨Zb51_6⟩, ⟨Sw.rt HO_6.out⟩, ⟨Sw.rt HO_7.out⟩, ⟨HI0.out⟩, ⟨HK.out⟩, ⟨HB.out⟩⟩
       ·rw [if_neg c13] at H
        exact absurd H (by simp)
      ·rw [if_neg c12] at H
       have c12b0 : (x1000_1 == 5) = false := beq_eq_false_iff_ne.mpr c12
       have c12b1 : (x1000_1 != 5) = true := bne_iff_ne.mpr c12
       (first | rw [c12b0] | (simp only [i64_w, i32_w]; rw [c12b0]) | skip)
       have H' := Aside0.mk H
       clear H
       obtain ⟨HGz19, hgz19⟩ := HI0.out
       have hcz19_0 := cellS25_0 HGz19
       have hcz19_1 := cellS25_1 HGz19
       have hcz19_2 := cellS25_2 HGz19
       have hcz19_3 := cellS25_3 HGz19
       have hfz19_0 := blk_frozen HGz19 0
       have hfz19_1 := blk_frozen HGz19 1
       have hfz19_2 := blk_frozen HGz19 2
       have hfz19_3 := blk_frozen HGz19 3
       clear HGz19 hgz19
       go_wp2
       go_meet
       case rel => exact ⟨_, (false), Sw.r, H', ⟨Zb51_6⟩, ⟨Sw.rt HO_6.out⟩, ⟨Sw.rt HO_7.out⟩, ⟨HI0.out⟩, ⟨HK.out⟩, ⟨HB.out⟩⟩
     case rest =>
      clear HC11
      try clear c1
      try clear p1
      try clear q1
      try clear hx1
      try clear qi1
      try clear p2
      try clear c3
      try clear c3b0
      try clear c3b1
      try clear c3b2
      try clear c5
      try clear c9
      try clear c9b0
      try clear c9b1
      try clear c12
      try clear c12b0
      try clear c12b1
      try clear c13
      try clear c13b0
      try clear c13b1
      try clear p14
      try clear q14
      try clear hx14
      try clear qi14
      try clear c15
      try clear c15b0
      try clear c15b1
      try clear p17
      try clear q17
      try clear hx17
      try clear qi17
      try clear hcz10_0 hcz10_1 hcz10_2 hcz10_3
      try clear hcz16_0 hcz16_1 hcz16_2 hcz16_3
      try clear hcz18_0 hcz18_1 hcz18_2 hcz18_3
      try clear hcz19_0 hcz19_1 hcz19_2 hcz19_3
      try clear hcz8_0 hcz8_1 hcz8_2 hcz8_3
      try clear hfz10_0 hfz10_1 hfz10_2 hfz10_3
      try clear hfz16_0 hfz16_1 hfz16_2 hfz16_3
      try clear hfz18_0 hfz18_1 hfz18_2 hfz18_3
      try clear hfz19_0 hfz19_1 hfz19_2 hfz19_3
      try clear hfz8_0 hfz8_1 hfz8_2 hfz8_3
      try clear p14
      try clear p17
      try clear p2
      try clear q14
      try clear q17
      obtain ⟨kq, x35_10, rfl, HA, HJ10, HO_6, HO_7, HI0, HK, HB⟩ := hcut
      cases kq with
      | zero => exact absurd HA.out (by simp [impl_Decoder_feed.j1])
      | succ kj10 =>
       have H := HA.out
       clear HA
       simp only [impl_Decoder_feed.j1] at H
       by_cases c20 : x35_10 = true
       ·subst c20
        have H1 : (if 0 < (x8_1.size : Int) then (if 1 ≤ (x8_1.size : Int) then (impl_Decoder_feed.l0 kj10 x6_1 x7_1 (x8_1.extract 1 x8_1.size) x1000_1 (wrap64 (15 - (wrap64 (bt x8_1 0)))) (wrap64 (x1002_1 + 1)) x1003_1) else (none)) else (none)) = some (r1, r2, r3, r4, r5, r6) := by rw [if_pos rfl] at H; exact H
        clear H
        have H := H1
        clear H1
        by_cases c21 : 0 < (x8_1.size : Int)
        ·rw [if_pos c21] at H
         have c21b0 : decide (0 < (x8_1.size : Int)) = true := decide_eq_true c21
         have c21b1 : decide (0 < x8_1.size) = true := decide_eq_true (by omega)
         clear c21
         by_cases c23 : 1 ≤ (x8_1.size : Int)
         ·rw [if_pos c23] at H
          have c23b0 := eq_true c23
          have c23b1 : decide (1 ≤ (x8_1.size : Int)) = true := decide_eq_true c23
          clear c23
          have H' := Aside0.mk H
          clear H
          have p22 : 0 ≤ (0 : Int) := (by omega)
          have q22 : 0 < x8_1.size := (by have : (0 : Int) < (x8_1.size : Int) := of_decide_eq_true (by assumption); omega)
          have hx22 : ∀ h : 0 < x8_1.size, ((x8_1[0]'h).toNat : Int) = bt x8_1 0 := bt_at x8_1 0
          clear p22
          have qi22 : (0 < (x8_1.size : Int)) = True := eq_true (of_decide_eq_true (by assumption))
          replace q22 := eq_true q22
          obtain ⟨HGz24, hgz24⟩ := HI0.out
          have hcz24_0 := cellS25_0 HGz24
          have hcz24_1 := cellS25_1 HGz24
          have hcz24_2 := cellS25_2 HGz24
          have hcz24_3 := cellS25_3 HGz24
          have hfz24_0 := blk_frozen HGz24 0
          have hfz24_1 := blk_frozen HGz24 1
          have hfz24_2 := blk_frozen HGz24 2
          have hfz24_3 := blk_frozen HGz24 3
          clear HGz24 hgz24
          go_wp2
          go_roundg kj10
          case measure => have := HK1.out; have := HJ10.out; omega
          case rel => exact ⟨(x6_1), (x7_1), (x8_1.extract 1 x8_1.size), (x1000_1), (wrap64 (15 - (wrap64 (bt x8_1 0)))), (wrap64 (x1002_1 + 1)), (x1003_1), Sw.r, H', ⟨by have := HK1.out; have := HJ10.out; omega⟩, ⟨Sw.rt (Kd.R_mono (Kd.R_far (p := ⟨g, 2, none⟩) (Kd.R_far (p := ⟨g, 1, none⟩) (IsS25.apart HI0.out HO_6.out (by decide)) (fun _ hk => hk.2) (.int .i64 (wrap64 (15 - (wrap64 (bt x8_1 0)))))) (fun _ hk => hk.2) (.int .i64 (wrap64 (x1002_1 + 1)))) (fun _ hk => hk.1))⟩, ⟨Sw.rt (Kd.R_mono (Kd.R_far (p := ⟨g, 2, none⟩) (Kd.R_far (p := ⟨g, 1, none⟩) (IsS25.apart HI0.out HO_7.out (by decide)) (fun _ hk => hk.2) (.int .i64 (wrap64 (15 - (wrap64 (bt x8_1 0)))))) (fun _ hk => hk.2) (.int .i64 (wrap64 (x1002_1 + 1)))) (fun _ hk => hk.1))⟩, ⟨Zb51_0⟩, ⟨Zb51_2⟩, ⟨Zb51_1⟩⟩
         ·rw [if_neg c23] at H
          exact absurd H (by simp)
        ·rw [if_neg c21] at H
         exact absurd H (by simp)
       ·replace c20 := Bool.eq_false_iff.mpr c20
        subst c20
        have H1 : ((impl_Decoder_next.f kj10 x1000_1 x1001_1 x1002_1 x1003_1 x8_1).bind fun bt418 => (if bt418.2.1 = 0 then (some (x6_1, x7_1, bt418.2.2.1, bt418.2.2.2.1, bt418.2.2.2.2.1, x8_1)) else ((some (([bt418.1] : List Int) : List Int)).bind fun y424 => (if x6_1.length + y424.length < 17592186044416 then ((some (([wrap64 (bt418.2.1 + bt418.2.2.2.2.1)] : List Int) : List Int)).bind fun y430 => (if x7_1.length + y430.length < 17592186044416 then (if 0 ≤ bt418.2.1 then (if bt418.2.1 ≤ (x8_1.size : Int) then (impl_Decoder_feed.l0 kj10 (x6_1 ++ y424) (x7_1 ++ y430) (x8_1.extract (bt418.2.1 : Int).toNat x8_1.size) bt418.2.2.1 bt418.2.2.2.1 0 bt418.2.2.2.2.2) else (none)) else (none)) else (none))) else (none))))) = some (r1, r2, r3, r4, r5, r6) := by rw [if_neg (show ¬ (false = true) by decide)] at H; exact H
        clear H
        have H := H1
        clear H1
        replace H := Option.bind_eq_some_iff.mp H
        obtain ⟨⟨t418, t419, t420, t421, t422, t423⟩, A250, H⟩ := H
        replace H : (if t419 = 0 then (some (x6_1, x7_1, t420, t421, t422, x8_1)) else ((some (([t418] : List Int) : List Int)).bind fun y424 => (if x6_1.length + y424.length < 17592186044416 then ((some (([wrap64 (t419 + t422)] : List Int) : List Int)).bind fun y430 => (if x7_1.length + y430.length < 17592186044416 then (if 0 ≤ t419 then (if t419 ≤ (x8_1.size : Int) then (impl_Decoder_feed.l0 kj10 (x6_1 ++ y424) (x7_1 ++ y430) (x8_1.extract (t419 : Int).toNat x8_1.size) t420 t421 0 t423) else (none)) else (none)) else (none))) else (none)))) = some (r1, r2, r3, r4, r5, r6) := H
        have A25 := Aside0.mk A250
        clear A250
        by_cases c26 : t419 = 0
        ·rw [if_pos c26] at H
         have c26b0 : (t419 == 0) = true := beq_iff_eq.mpr c26
         have c26b1 : (t419 != 0) = false := bne_eq_false_iff_eq.mpr c26
         clear c26
         simp only [Option.some.injEq, Prod.mk.injEq] at H
         obtain ⟨rfl, rfl, rfl, rfl, rfl, rfl⟩ := H
         go_wp2_with (first | ((with_reducible refine gate_callee (f := 95) rfl ?_); refine goesL_ (some 55) rfl rfl Tryd.func95 (by kernel_rfl) rfl #[.pointer (some ⟨g, 0, none⟩), .string x8_1] rfl (by simp only [List.map_toArray, List.map_cons, List.map_nil] <;> rfl) ?_; (with_reducible refine (impl_Decoder_next.calls kj10 g x1000_1 x1001_1 x1002_1 x1003_1 x8_1 t418 t419 t420 t421 t422 t423 w0 _ ?side1 ?side2 Sw.ht A25.out).mono ?_); (case side1 => exact HI0.out); (case side2 => exact HB.out); rintro e w27 ⟨rfl, hi, hb, hk⟩; refine ⟨_, rfl, ?_⟩; replace HO_6 := Aside0.mk (Kd.R_mono (Kd.R_keep (IsS25.apart (show IsS25 w0 _ g x1000_1 x1001_1 x1002_1 x1003_1 from Zb51_0) (Sw.rt HO_6.out) (by decide)) hk (fun _ h => h.2)) (fun _ h => h.1)); replace HO_7 := Aside0.mk (Kd.R_mono (Kd.R_keep (IsS25.apart (show IsS25 w0 _ g x1000_1 x1001_1 x1002_1 x1003_1 from Zb51_0) (Sw.rt HO_7.out) (by decide)) hk (fun _ h => h.2)) (fun _ h => h.1)); replace HK := Aside0.mk (KeepBut.trans HK.out hk (.inl rfl)); replace HB := Aside0.mk (hb); replace HI0 := Aside0.mk (hi); obtain ⟨HGz28, hgz28⟩ := HI0.out; have hcz28_0 := cellS25_0 HGz28; have hcz28_1 := cellS25_1 HGz28; have hcz28_2 := cellS25_2 HGz28; have hcz28_3 := cellS25_3 HGz28; have hfz28_0 := blk_frozen HGz28 0; have hfz28_1 := blk_frozen HGz28 1; have hfz28_2 := blk_frozen HGz28 2; have hfz28_3 := blk_frozen HGz28 3; clear HGz28 hgz28))
         go_ret2
         exact ⟨_, _, Sw.e, Zb51_3, Zb51_4, Zb51_0, Zb51_1, Zb51_2⟩
        ·rw [if_neg c26] at H
         have c26b0 : (t419 == 0) = false := beq_eq_false_iff_ne.mpr c26
         have c26b1 : (t419 != 0) = true := bne_iff_ne.mpr c26
         obtain ⟨y424, hy424⟩ : ∃ y_ : List Int, y_ = (([t418] : List Int)) := ⟨_, rfl⟩
         replace H : (if x6_1.length + y424.length < 17592186044416 then ((some (([wrap64 (t419 + t422)] : List Int) : List Int)).bind fun y430 => (if x7_1.length + y430.length < 17592186044416 then (if 0 ≤ t419 then (if t419 ≤ (x8_1.size : Int) then (impl_Decoder_feed.l0 kj10 (x6_1 ++ y424) (x7_1 ++ y430) (x8_1.extract (t419 : Int).toNat x8_1.size) t420 t421 0 t423) else (none)) else (none)) else (none))) else (none)) = some (r1, r2, r3, r4, r5, r6) := by rw [hy424]; exact H
         have Ny424 := Aside0.mk hy424
         clear hy424
         by_cases c29 : x6_1.length + y424.length < 17592186044416
         ·rw [if_pos c29] at H
          have LMc29 := Aside0.mk c29
          clear c29
          obtain ⟨y427, hy427⟩ : ∃ y_ : List Int, y_ = (x6_1 ++ y424) := ⟨_, rfl⟩
          replace H : ((some (([wrap64 (t419 + t422)] : List Int) : List Int)).bind fun y430 => (if x7_1.length + y430.length < 17592186044416 then (if 0 ≤ t419 then (if t419 ≤ (x8_1.size : Int) then (impl_Decoder_feed.l0 kj10 y427 (x7_1 ++ y430) (x8_1.extract (t419 : Int).toNat x8_1.size) t420 t421 0 t423) else (none)) else (none)) else (none))) = some (r1, r2, r3, r4, r5, r6) := by rw [hy427]; exact H
          have Ny427 := Aside0.mk hy427
          clear hy427
          obtain ⟨y430, hy430⟩ : ∃ y_ : List Int, y_ = (([wrap64 (t419 + t422)] : List Int)) := ⟨_, rfl⟩
          replace H : (if x7_1.length + y430.length < 17592186044416 then (if 0 ≤ t419 then (if t419 ≤ (x8_1.size : Int) then (impl_Decoder_feed.l0 kj10 y427 (x7_1 ++ y430) (x8_1.extract (t419 : Int).toNat x8_1.size) t420 t421 0 t423) else (none)) else (none)) else (none)) = some (r1, r2, r3, r4, r5, r6) := by rw [hy430]; exact H
          have Ny430 := Aside0.mk hy430
          clear hy430
          by_cases c30 : x7_1.length + y430.length < 17592186044416
          ·rw [if_pos c30] at H
           have LMc30 := Aside0.mk c30
           clear c30
           obtain ⟨y433, hy433⟩ : ∃ y_ : List Int, y_ = (x7_1 ++ y430) := ⟨_, rfl⟩
           replace H : (if 0 ≤ t419 then (if t419 ≤ (x8_1.size : Int) then (impl_Decoder_feed.l0 kj10 y427 y433 (x8_1.extract (t419 : Int).toNat x8_1.size) t420 t421 0 t423) else (none)) else (none)) = some (r1, r2, r3, r4, r5, r6) := by rw [hy433]; exact H
           have Ny433 := Aside0.mk hy433
           clear hy433
           by_cases c31 : 0 ≤ t419
           ·rw [if_pos c31] at H
            have c31b0 := eq_true c31
            have c31b1 : decide (0 ≤ t419) = true := decide_eq_true c31
            clear c31
            by_cases c32 : t419 ≤ (x8_1.size : Int)
            ·rw [if_pos c32] at H
             have c32b0 := eq_true c32
             have c32b1 : decide (t419 ≤ (x8_1.size : Int)) = true := decide_eq_true c32
             clear c32
             have H' := Aside0.mk H
             clear H
             try go_wp2_with (first | ((with_reducible refine gate_callee (f := 95) rfl ?_); refine goesL_ (some 55) rfl rfl Tryd.func95 (by kernel_rfl) rfl #[.pointer (some ⟨g, 0, none⟩), .string x8_1] rfl (by simp only [List.map_toArray, List.map_cons, List.map_nil] <;> rfl) ?_; (with_reducible refine (impl_Decoder_next.calls kj10 g x1000_1 x1001_1 x1002_1 x1003_1 x8_1 t418 t419 t420 t421 t422 t423 w0 _ ?side1 ?side2 Sw.ht A25.out).mono ?_); (case side1 => exact HI0.out); (case side2 => exact HB.out); rintro e w33 ⟨rfl, hi, hb, hk⟩; refine ⟨_, rfl, ?_⟩; replace HO_6 := Aside0.mk (Kd.R_mono (Kd.R_keep (IsS25.apart (show IsS25 w0 _ g x1000_1 x1001_1 x1002_1 x1003_1 from Zb51_0) (Sw.rt HO_6.out) (by decide)) hk (fun _ h => h.2)) (fun _ h => h.1)); replace HO_7 := Aside0.mk (Kd.R_mono (Kd.R_keep (IsS25.apart (show IsS25 w0 _ g x1000_1 x1001_1 x1002_1 x1003_1 from Zb51_0) (Sw.rt HO_7.out) (by decide)) hk (fun _ h => h.2)) (fun _ h => h.1)); replace HK := Aside0.mk (KeepBut.trans HK.out hk (.inl rfl)); replace HB := Aside0.mk (hb); replace HI0 := Aside0.mk (hi); obtain ⟨Ao34, co34, eo34⟩ := Kd.R_slice HO_6.out; subst eo34; obtain ⟨Ao35, co35, eo35⟩ := Kd.R_slice HO_7.out; subst eo35))
             replace HO_6 := Aside0.mk (Kd.R_drew HO_6.out)
             replace HO_7 := Aside0.mk (Kd.R_drew HO_7.out)
             replace HI0 := Aside0.mk (IsS25.drew HI0.out)
             replace HK := Aside0.mk (keep_drew HK.out)
             replace HB := Aside0.mk (below_drew1 HB.out)
             refine start_ (n := 15) (S := fun w' => w'.cell? ⟨g, 0, none⟩ = some (.int .i64 t420) ∧ w'.cell? ⟨g, 1, none⟩ = some (.int .i64 t421) ∧ w'.cell? ⟨g, 2, none⟩ = some (.int .i64 t422) ∧ w'.cell? ⟨g, 3, none⟩ = some (.string t423)) (ds := []) (Sw.b 15 0) (by kernel_rfl) rfl rfl ⟨(blk_cell HI0.out.1 0).trans rfl, (blk_cell HI0.out.1 1).trans rfl, (blk_cell HI0.out.1 2).trans rfl, (blk_cell HI0.out.1 3).trans rfl⟩ (fun hHeld => ?_); refine with_tabW impl_Decoder_feed.tab10 impl_Decoder_feed.bits10 (fun HT_ HW_ => ?_)
             generalize w33.drew = w36 at HO_6 HO_7 HI0 HK HB hHeld ⊢
             refine Sw.pw 0 60 (Sw.b 15 1) ?_
             refine Sw.pw 1 61 (Sw.b 15 3) ?_
             refine Sw.pw 4 64 (Sw.b 15 19) ?_
             refine Sw.pw 5 65 (Sw.b 15 51) ?_
             refine Sw.pw 6 66 (Sw.b 15 115) ?_
             refine Sw.pw 7 67 (Sw.b 15 243) ?_
             refine Sw.pw 8 68 (Sw.b 15 499) ?_
             refine take_ (i := 9) (N := some 69) (v := ?_) (a' := ?_) (Sw.b 15 1011) rfl rfl (take_ofW HT_.out HW_.out (by kernel_rfl)) (fun _ _ _ h => h) (Or.inl ⟨by rfl, ?_⟩) hHeld ?_ ?_
             rotate_left
             ·rintro w' ⟨s0, s1, s2, s3⟩
              go_simp
              with_reducible rfl
             rotate_left
             ·simp only [Act.put, List.setIfInBounds_toArray, List.set_cons_zero, List.set_cons_succ, i64_w, i32_w]
              rfl
             refine Sw.pw 10 70 (Sw.b 15 2035) ?_
             refine join_ (σ := Value × Value × Value) 3 (Sw.b 15 4095) (fun s_ => [(62, s_.1), (63, s_.2.1), (71, s_.2.2)]) (fun s_ w' => (w'.cell? ⟨g, 0, none⟩ = some (.int .i64 t420) ∧ w'.cell? ⟨g, 1, none⟩ = some (.int .i64 t421) ∧ w'.cell? ⟨g, 2, none⟩ = some (.int .i64 t422) ∧ w'.cell? ⟨g, 3, none⟩ = some (.string t423)) ∧ (Kd.R (Kd.int .i64) 3 w' w.heap.size (fun k_ => some k_ ≠ (s_.2.1 : Value).ownBlock ∧ some k_ ≠ (s_.2.2 : Value).ownBlock ∧ some k_ ≠ (.slice Ao35 x7_1.length co35 : Value).ownBlock) s_.1 y424) ∧ (Kd.R (Kd.int .i64) 3 w' w.heap.size (fun k_ => some k_ ≠ (s_.1 : Value).ownBlock ∧ some k_ ≠ (s_.2.2 : Value).ownBlock ∧ some k_ ≠ (.slice Ao35 x7_1.length co35 : Value).ownBlock) s_.2.1 y427) ∧ (Kd.R (Kd.int .i64) 3 w' w.heap.size (fun k_ => some k_ ≠ (s_.1 : Value).ownBlock ∧ some k_ ≠ (s_.2.1 : Value).ownBlock ∧ some k_ ≠ (.slice Ao35 x7_1.length co35 : Value).ownBlock) s_.2.2 y430) ∧ (Kd.R (Kd.int .i64) 3 w' w.heap.size (fun k_ => some k_ ≠ (s_.1 : Value).ownBlock ∧ some k_ ≠ (s_.2.1 : Value).ownBlock ∧ some k_ ≠ (s_.2.2 : Value).ownBlock) (.slice Ao35 x7_1.length co35) x7_1) ∧ (IsS25 w0 w' g t420 t421 t422 t423) ∧ (KeepBut w w' g none) ∧ (Below w0.heap.size w0 w')) ?_ ?_
             rotate_left
             ·intro hCont
              refine two_ (i := 2) (j := 11) (Ni := some 62) (Nj := some 71) (Sw.b 15 2039) (Sw.b 15 4083) rfl rfl rfl rfl (two_of HT_.out (by kernel_rfl)) (by decide) (by decide) (fun K hK => ?_) (fun K hK => ?_)
              ·skip
               refine Kd.R_lit_step (Kd.int .i64) _ 3 ?hg (N := 62) ?hd (xs := ([t418] : List Int)) (inner := [.int .i64 t418]) (ok := fun _ => True) (okp := fun _ => True) ?hr ?hp (fun _ hk => hk) trivial (Below.refl _ _) (Nat.le_refl _) (by simp) ?_; (case hd => rfl); (case hg => rfl); (case hr => go_simp <;> rfl); (case hp => exact (Reps.one (show Kd.M (Kd.int .i64) _ _ _ t418 [.int .i64 t418] from rfl) (Reps.none _ _)))
               intro v425 w37 ho38 hb hg_ hnew_
               clear hg_ hnew_
               (first | rw [← Ny424.out] at ho38 | (simp only [Int.reduceToNat] at ho38; rw [← Ny424.out] at ho38))
               have HO426 := Aside0.mk (Kd.R_lower (Kd.R_new' (Kd.R_new' ho38 (Kd.R_lt (Sw.rt HO_6.out))) (Kd.R_lt (Sw.rt HO_7.out))) (keep_size (w := w) (g := g) (row := none) HK.out))
               replace HO_6 := Aside0.mk (Kd.R_elder' (Sw.rt HO_6.out) (Kd.R_base ho38) hb)
               replace HO_7 := Aside0.mk (Kd.R_elder' (Sw.rt HO_7.out) (Kd.R_base ho38) hb)
               replace HK := Aside0.mk (KeepBut.trans HK.out (KeepBut.of_below hb g none) (.inl rfl))
               replace HB := Aside0.mk (below_step HB.out hb)
               replace HI0 := Aside0.mk (IsS25.below HI0.out hb)
               clear hb ho38
               obtain ⟨Ao40, co40, eo40⟩ := Kd.R_slice HO426.out
               (first | subst eo40 | (injection eo40 with f1_ f2_ f3_; have f4_ := f1_.symm; have f5_ := f3_.symm; clear f1_ f2_ f3_; subst f4_; subst f5_))
               refine hK.out _ _ ⟨(blk_cell HI0.out.1 0).trans rfl, (blk_cell HI0.out.1 1).trans rfl, (blk_cell HI0.out.1 2).trans rfl, (blk_cell HI0.out.1 3).trans rfl⟩ (fun hHeld => ?_)
               clear hK K
               refine norm_ (a' := ?_) ?_ ?_
               rotate_left
               ·show Act.put _ (some 62) _ = _
                simp only [Act.put, List.setIfInBounds_toArray, List.set_cons_zero, List.set_cons_succ, i64_w, i32_w]
                rfl
               refine two_ (i := 3) (j := 11) (Ni := some 63) (Nj := some 71) (Sw.b 15 2047) (Sw.b 15 4087) rfl rfl rfl rfl (two_of HT_.out (by kernel_rfl)) (by decide) (by decide) (fun K hK => ?_) (fun K hK => ?_)
               ·skip
                refine Kd.R_append_rows_step (Kd.int .i64) w.heap.size (by rfl) (.tmp 60) (.tmp 62) 28 3 (.int .i64 0) 8 rfl Tryd.underlying28 info3 rfl (by decide) (by omega) (.slice Ao34 x6_1.length co34) x6_1 y424 _ _ _ (fun k_ => some k_ ≠ (.slice Ao35 x7_1.length co35 : Value).ownBlock ∧ some k_ ≠ (.slice Ao40 y424.length co40 : Value).ownBlock) (fun _ => False) rfl rfl ?aO ?aR (fun _ _ h => h) (fun _ h => h.elim) ?aF (Below.refl _ _) ?aS ?aL ?_
                (case aR => repeat (first | exact (Kd.R_reads' HO426.out).2.2 | (with_reducible refine Kd.C_alloc ?_ _) | (with_reducible refine Kd.C_drewN ?_ _) | (with_reducible refine Kd.C_drew ?_)))
                (case aF => exact (fun k_ hk => ⟨Kd.fresh' (Kd.R_lt (Sw.rt HO_7.out)) k_ hk, Kd.fresh' (Kd.R_lt (Sw.rt HO426.out)) k_ hk⟩))
                (case aO => exact (Sw.rt HO_6.out))
                (case aS => exact (keep_size (w := w) (g := g) (row := none) HK.out))
                (case aL => have := LMc29.out; omega)
                intro v428 w39 ho hb hg hat
                rw [← Ny427.out] at ho
                replace HO_7 := Aside0.mk (Kd.R_after (ok := (fun k_ => some k_ ≠ (.slice Ao40 y424.length co40 : Value).ownBlock)) (Sw.rt (Kd.R_mono HO_7.out (fun _ hk => ⟨hk.2, hk.1⟩))) hg hat)
                replace HO426 := Aside0.mk (Kd.R_after (ok := (fun k_ => some k_ ≠ (.slice Ao35 x7_1.length co35 : Value).ownBlock)) (Sw.rt (Kd.R_mono HO426.out (fun _ hk => ⟨hk.2, hk.1.2⟩))) hg hat)
                replace HB := Aside0.mk (below_weaken HB.out HL.out hb)
                replace HI0 := Aside0.mk (IsS25.grown HI0.out hg (IsS25.own_ne HI0.out HO_6.out (by decide)))
                replace HK := Aside0.mk (KeepBut.trans HK.out (KeepBut.of_grown hg g) (Kd.R_base2 HO_6.out))
                have HO429 := Aside0.mk (ho)
                clear HO_6
                clear ho hb hg hat
                refine hK.out _ _ ⟨(blk_cell HI0.out.1 0).trans rfl, (blk_cell HI0.out.1 1).trans rfl, (blk_cell HI0.out.1 2).trans rfl, (blk_cell HI0.out.1 3).trans rfl⟩ (fun hHeld => ?_)
                clear hK K
                refine norm_ (a' := ?_) ?_ ?_
                rotate_left
                ·show Act.put _ (some 63) _ = _
                 simp only [Act.put, List.setIfInBounds_toArray, List.set_cons_zero, List.set_cons_succ, i64_w, i32_w]
                 rfl
                refine one_ (i := 11) (N := some 71) (Sw.b 15 4095) rfl rfl (one_of HT_.out (by kernel_rfl)) (by decide) (fun K hK => ?_)
                refine Kd.R_lit_step (Kd.int .i64) _ 3 ?hg (N := 71) ?hd (xs := ([wrap64 (t419 + t422)] : List Int)) (inner := [.int .i64 (wrap64 (t419 + t422))]) (ok := fun _ => True) (okp := fun _ => True) ?hr ?hp (fun _ hk => hk) trivial (Below.refl _ _) (Nat.le_refl _) (by simp) ?_; (case hd => rfl); (case hg => rfl); (case hr => go_simp <;> rfl); (case hp => exact (Reps.one (show Kd.M (Kd.int .i64) _ _ _ (wrap64 (t419 + t422)) [.int .i64 (wrap64 (t419 + t422))] from rfl) (Reps.none _ _)))
                intro v431 w41 ho42 hb hg_ hnew_
                clear hg_ hnew_
                (first | rw [← Ny430.out] at ho42 | (simp only [Int.reduceToNat] at ho42; rw [← Ny430.out] at ho42))
                have HO432 := Aside0.mk (Kd.R_lower (Kd.R_new' (Kd.R_new' (Kd.R_new' ho42 (Kd.R_lt (Sw.rt HO_7.out))) (Kd.R_lt (Sw.rt HO426.out))) (Kd.R_lt (Sw.rt HO429.out))) (keep_size (w := w) (g := g) (row := none) HK.out))
                replace HO_7 := Aside0.mk (Kd.R_elder' (Sw.rt HO_7.out) (Kd.R_base ho42) hb)
                replace HO426 := Aside0.mk (Kd.R_elder' (Sw.rt HO426.out) (Kd.R_base ho42) hb)
                replace HO429 := Aside0.mk (Kd.R_elder' (Sw.rt HO429.out) (Kd.R_base ho42) hb)
                replace HK := Aside0.mk (KeepBut.trans HK.out (KeepBut.of_below hb g none) (.inl rfl))
                replace HB := Aside0.mk (below_step HB.out hb)
                replace HI0 := Aside0.mk (IsS25.below HI0.out hb)
                clear hb ho42
                refine hK.out _ _ ⟨(blk_cell HI0.out.1 0).trans rfl, (blk_cell HI0.out.1 1).trans rfl, (blk_cell HI0.out.1 2).trans rfl, (blk_cell HI0.out.1 3).trans rfl⟩ (fun hHeld => ?_)
                clear hK K
                refine norm_ (a' := ?_) ?_ ?_
                rotate_left
                ·show Act.put _ (some 71) _ = _
                 simp only [Act.put, List.setIfInBounds_toArray, List.set_cons_zero, List.set_cons_succ, i64_w, i32_w]
                 rfl
                exact norm_ Zb51_5 (hCont (.slice Ao40 y424.length co40, v428, v431) _ ⟨hHeld, (Sw.rt (Kd.R_mono HO426.out (fun _ hk => ⟨hk.1.2, ⟨hk.2, hk.1.1⟩⟩))), (Sw.rt (Kd.R_mono HO429.out (fun _ hk => ⟨hk.1.2, ⟨hk.2, hk.1.1⟩⟩))), (Sw.rt (Kd.R_mono HO432.out (fun _ hk => ⟨hk.1.2, ⟨hk.2, hk.1.1.2⟩⟩))), (Sw.rt (Kd.R_mono HO_7.out (fun _ hk => ⟨hk.1.1, ⟨hk.1.2, hk.2⟩⟩))), HI0.out, HK.out, HB.out⟩)
               ·skip
                refine Kd.R_lit_step (Kd.int .i64) _ 3 ?hg (N := 71) ?hd (xs := ([wrap64 (t419 + t422)] : List Int)) (inner := [.int .i64 (wrap64 (t419 + t422))]) (ok := fun _ => True) (okp := fun _ => True) ?hr ?hp (fun _ hk => hk) trivial (Below.refl _ _) (Nat.le_refl _) (by simp) ?_; (case hd => rfl); (case hg => rfl); (case hr => go_simp <;> rfl); (case hp => exact (Reps.one (show Kd.M (Kd.int .i64) _ _ _ (wrap64 (t419 + t422)) [.int .i64 (wrap64 (t419 + t422))] from rfl) (Reps.none _ _)))
                intro v431 w39 ho40 hb hg_ hnew_
                clear hg_ hnew_
                (first | rw [← Ny430.out] at ho40 | (simp only [Int.reduceToNat] at ho40; rw [← Ny430.out] at ho40))
                have HO432 := Aside0.mk (Kd.R_lower (Kd.R_new' (Kd.R_new' (Kd.R_new' ho40 (Kd.R_lt (Sw.rt HO_6.out))) (Kd.R_lt (Sw.rt HO_7.out))) (Kd.R_lt (Sw.rt HO426.out))) (keep_size (w := w) (g := g) (row := none) HK.out))
                replace HO_6 := Aside0.mk (Kd.R_elder' (Sw.rt HO_6.out) (Kd.R_base ho40) hb)
                replace HO_7 := Aside0.mk (Kd.R_elder' (Sw.rt HO_7.out) (Kd.R_base ho40) hb)
                replace HO426 := Aside0.mk (Kd.R_elder' (Sw.rt HO426.out) (Kd.R_base ho40) hb)
                replace HK := Aside0.mk (KeepBut.trans HK.out (KeepBut.of_below hb g none) (.inl rfl))
                replace HB := Aside0.mk (below_step HB.out hb)
                replace HI0 := Aside0.mk (IsS25.below HI0.out hb)
                clear hb ho40
                obtain ⟨Ao42, co42, eo42⟩ := Kd.R_slice HO426.out
                (first | subst eo42 | (injection eo42 with f1_ f2_ f3_; have f4_ := f1_.symm; have f5_ := f3_.symm; clear f1_ f2_ f3_; subst f4_; subst f5_))
                refine hK.out _ _ ⟨(blk_cell HI0.out.1 0).trans rfl, (blk_cell HI0.out.1 1).trans rfl, (blk_cell HI0.out.1 2).trans rfl, (blk_cell HI0.out.1 3).trans rfl⟩ (fun hHeld => ?_)
                clear hK K
                refine norm_ (a' := ?_) ?_ ?_
                rotate_left
                ·show Act.put _ (some 71) _ = _
                 simp only [Act.put, List.setIfInBounds_toArray, List.set_cons_zero, List.set_cons_succ, i64_w, i32_w]
                 rfl
                refine one_ (i := 3) (N := some 63) (Sw.b 15 4095) rfl rfl (one_of HT_.out (by kernel_rfl)) (by decide) (fun K hK => ?_)
                refine Kd.R_append_rows_step (Kd.int .i64) w.heap.size (by rfl) (.tmp 60) (.tmp 62) 28 3 (.int .i64 0) 8 rfl Tryd.underlying28 info3 rfl (by decide) (by omega) (.slice Ao34 x6_1.length co34) x6_1 y424 _ _ _ (fun k_ => some k_ ≠ (.slice Ao35 x7_1.length co35 : Value).ownBlock ∧ some k_ ≠ (.slice Ao42 y424.length co42 : Value).ownBlock ∧ some k_ ≠ (v431 : Value).ownBlock) (fun _ => False) rfl rfl ?aO ?aR (fun _ _ h => h) (fun _ h => h.elim) ?aF (Below.refl _ _) ?aS ?aL ?_
                (case aR => repeat (first | exact (Kd.R_reads' HO426.out).2.2 | (with_reducible refine Kd.C_alloc ?_ _) | (with_reducible refine Kd.C_drewN ?_ _) | (with_reducible refine Kd.C_drew ?_)))
                (case aF => exact (fun k_ hk => ⟨Kd.fresh' (Kd.R_lt (Sw.rt HO_7.out)) k_ hk, Kd.fresh' (Kd.R_lt (Sw.rt HO426.out)) k_ hk, Kd.fresh' (Kd.R_lt (Sw.rt HO432.out)) k_ hk⟩))
                (case aO => exact (Sw.rt (Kd.R_mono HO_6.out (fun _ hk => ⟨hk.1.1, ⟨hk.1.2, hk.2⟩⟩))))
                (case aS => exact (keep_size (w := w) (g := g) (row := none) HK.out))
                (case aL => have := LMc29.out; omega)
                intro v428 w41 ho hb hg hat
                rw [← Ny427.out] at ho
                replace HO_7 := Aside0.mk (Kd.R_after (ok := (fun k_ => some k_ ≠ (.slice Ao42 y424.length co42 : Value).ownBlock ∧ some k_ ≠ (v431 : Value).ownBlock)) (Sw.rt (Kd.R_mono HO_7.out (fun _ hk => ⟨⟨hk.1.2, hk.2⟩, hk.1.1⟩))) hg hat)
                replace HO426 := Aside0.mk (Kd.R_after (ok := (fun k_ => some k_ ≠ (.slice Ao35 x7_1.length co35 : Value).ownBlock ∧ some k_ ≠ (v431 : Value).ownBlock)) (Sw.rt (Kd.R_mono HO426.out (fun _ hk => ⟨⟨hk.1.2, hk.2⟩, hk.1.1.2⟩))) hg hat)
                replace HO432 := Aside0.mk (Kd.R_after (ok := (fun k_ => some k_ ≠ (.slice Ao35 x7_1.length co35 : Value).ownBlock ∧ some k_ ≠ (.slice Ao42 y424.length co42 : Value).ownBlock)) (Sw.rt (Kd.R_mono HO432.out (fun _ hk => ⟨⟨hk.1.2, hk.2⟩, hk.1.1.2⟩))) hg hat)
                replace HB := Aside0.mk (below_weaken HB.out HL.out hb)
                replace HI0 := Aside0.mk (IsS25.grown HI0.out hg (IsS25.own_ne HI0.out HO_6.out (by decide)))
                replace HK := Aside0.mk (KeepBut.trans HK.out (KeepBut.of_grown hg g) (Kd.R_base2 HO_6.out))
                have HO429 := Aside0.mk (ho)
                clear HO_6
                clear ho hb hg hat
                refine hK.out _ _ ⟨(blk_cell HI0.out.1 0).trans rfl, (blk_cell HI0.out.1 1).trans rfl, (blk_cell HI0.out.1 2).trans rfl, (blk_cell HI0.out.1 3).trans rfl⟩ (fun hHeld => ?_)
                clear hK K
                refine norm_ (a' := ?_) ?_ ?_
                rotate_left
                ·show Act.put _ (some 63) _ = _
                 simp only [Act.put, List.setIfInBounds_toArray, List.set_cons_zero, List.set_cons_succ, i64_w, i32_w]
                 rfl
                exact norm_ Zb51_5 (hCont (.slice Ao42 y424.length co42, v428, v431) _ ⟨hHeld, (Sw.rt (Kd.R_mono HO426.out (fun _ hk => ⟨hk.2, ⟨hk.1.2, hk.1.1⟩⟩))), (Sw.rt (Kd.R_mono HO429.out (fun _ hk => ⟨hk.2.1, ⟨hk.2.2, hk.1⟩⟩))), (Sw.rt (Kd.R_mono HO432.out (fun _ hk => ⟨hk.1.2, ⟨hk.2, hk.1.1⟩⟩))), (Sw.rt (Kd.R_mono HO_7.out (fun _ hk => ⟨hk.1.1, ⟨hk.2, hk.1.2⟩⟩))), HI0.out, HK.out, HB.out⟩)
              ·skip
               refine Kd.R_lit_step (Kd.int .i64) _ 3 ?hg (N := 71) ?hd (xs := ([wrap64 (t419 + t422)] : List Int)) (inner := [.int .i64 (wrap64 (t419 + t422))]) (ok := fun _ => True) (okp := fun _ => True) ?hr ?hp (fun _ hk => hk) trivial (Below.refl _ _) (Nat.le_refl _) (by simp) ?_; (case hd => rfl); (case hg => rfl); (case hr => go_simp <;> rfl); (case hp => exact (Reps.one (show Kd.M (Kd.int .i64) _ _ _ (wrap64 (t419 + t422)) [.int .i64 (wrap64 (t419 + t422))] from rfl) (Reps.none _ _)))
               intro v431 w37 ho38 hb hg_ hnew_
               clear hg_ hnew_
               (first | rw [← Ny430.out] at ho38 | (simp only [Int.reduceToNat] at ho38; rw [← Ny430.out] at ho38))
               have HO432 := Aside0.mk (Kd.R_lower (Kd.R_new' (Kd.R_new' ho38 (Kd.R_lt (Sw.rt HO_6.out))) (Kd.R_lt (Sw.rt HO_7.out))) (keep_size (w := w) (g := g) (row := none) HK.out))
               replace HO_6 := Aside0.mk (Kd.R_elder' (Sw.rt HO_6.out) (Kd.R_base ho38) hb)
               replace HO_7 := Aside0.mk (Kd.R_elder' (Sw.rt HO_7.out) (Kd.R_base ho38) hb)
               replace HK := Aside0.mk (KeepBut.trans HK.out (KeepBut.of_below hb g none) (.inl rfl))
               replace HB := Aside0.mk (below_step HB.out hb)
               replace HI0 := Aside0.mk (IsS25.below HI0.out hb)
               clear hb ho38
               refine hK.out _ _ ⟨(blk_cell HI0.out.1 0).trans rfl, (blk_cell HI0.out.1 1).trans rfl, (blk_cell HI0.out.1 2).trans rfl, (blk_cell HI0.out.1 3).trans rfl⟩ (fun hHeld => ?_)
               clear hK K
               refine norm_ (a' := ?_) ?_ ?_
               rotate_left
               ·show Act.put _ (some 71) _ = _
                simp only [Act.put, List.setIfInBounds_toArray, List.set_cons_zero, List.set_cons_succ, i64_w, i32_w]
                rfl
               refine one_ (i := 2) (N := some 62) (Sw.b 15 4087) rfl rfl (one_of HT_.out (by kernel_rfl)) (by decide) (fun K hK => ?_)
               refine Kd.R_lit_step (Kd.int .i64) _ 3 ?hg (N := 62) ?hd (xs := ([t418] : List Int)) (inner := [.int .i64 t418]) (ok := fun _ => True) (okp := fun _ => True) ?hr ?hp (fun _ hk => hk) trivial (Below.refl _ _) (Nat.le_refl _) (by simp) ?_; (case hd => rfl); (case hg => rfl); (case hr => go_simp <;> rfl); (case hp => exact (Reps.one (show Kd.M (Kd.int .i64) _ _ _ t418 [.int .i64 t418] from rfl) (Reps.none _ _)))
               intro v425 w39 ho40 hb hg_ hnew_
               clear hg_ hnew_
               (first | rw [← Ny424.out] at ho40 | (simp only [Int.reduceToNat] at ho40; rw [← Ny424.out] at ho40))
               have HO426 := Aside0.mk (Kd.R_lower (Kd.R_new' (Kd.R_new' (Kd.R_new' ho40 (Kd.R_lt (Sw.rt HO_6.out))) (Kd.R_lt (Sw.rt HO_7.out))) (Kd.R_lt (Sw.rt HO432.out))) (keep_size (w := w) (g := g) (row := none) HK.out))
               replace HO_6 := Aside0.mk (Kd.R_elder' (Sw.rt HO_6.out) (Kd.R_base ho40) hb)
               replace HO_7 := Aside0.mk (Kd.R_elder' (Sw.rt HO_7.out) (Kd.R_base ho40) hb)
               replace HO432 := Aside0.mk (Kd.R_elder' (Sw.rt HO432.out) (Kd.R_base ho40) hb)
               replace HK := Aside0.mk (KeepBut.trans HK.out (KeepBut.of_below hb g none) (.inl rfl))
               replace HB := Aside0.mk (below_step HB.out hb)
               replace HI0 := Aside0.mk (IsS25.below HI0.out hb)
               clear hb ho40
               obtain ⟨Ao42, co42, eo42⟩ := Kd.R_slice HO426.out
               (first | subst eo42 | (injection eo42 with f1_ f2_ f3_; have f4_ := f1_.symm; have f5_ := f3_.symm; clear f1_ f2_ f3_; subst f4_; subst f5_))
               refine hK.out _ _ ⟨(blk_cell HI0.out.1 0).trans rfl, (blk_cell HI0.out.1 1).trans rfl, (blk_cell HI0.out.1 2).trans rfl, (blk_cell HI0.out.1 3).trans rfl⟩ (fun hHeld => ?_)
               clear hK K
               refine norm_ (a' := ?_) ?_ ?_
               rotate_left
               ·show Act.put _ (some 62) _ = _
                simp only [Act.put, List.setIfInBounds_toArray, List.set_cons_zero, List.set_cons_succ, i64_w, i32_w]
                rfl
               refine one_ (i := 3) (N := some 63) (Sw.b 15 4095) rfl rfl (one_of HT_.out (by kernel_rfl)) (by decide) (fun K hK => ?_)
               refine Kd.R_append_rows_step (Kd.int .i64) w.heap.size (by rfl) (.tmp 60) (.tmp 62) 28 3 (.int .i64 0) 8 rfl Tryd.underlying28 info3 rfl (by decide) (by omega) (.slice Ao34 x6_1.length co34) x6_1 y424 _ _ _ (fun k_ => some k_ ≠ (.slice Ao35 x7_1.length co35 : Value).ownBlock ∧ some k_ ≠ (v431 : Value).ownBlock ∧ some k_ ≠ (.slice Ao42 y424.length co42 : Value).ownBlock) (fun _ => False) rfl rfl ?aO ?aR (fun _ _ h => h) (fun _ h => h.elim) ?aF (Below.refl _ _) ?aS ?aL ?_
               (case aR => repeat (first | exact (Kd.R_reads' HO426.out).2.2 | (with_reducible refine Kd.C_alloc ?_ _) | (with_reducible refine Kd.C_drewN ?_ _) | (with_reducible refine Kd.C_drew ?_)))
               (case aF => exact (fun k_ hk => ⟨Kd.fresh' (Kd.R_lt (Sw.rt HO_7.out)) k_ hk, Kd.fresh' (Kd.R_lt (Sw.rt HO432.out)) k_ hk, Kd.fresh' (Kd.R_lt (Sw.rt HO426.out)) k_ hk⟩))
               (case aO => exact (Sw.rt (Kd.R_mono HO_6.out (fun _ hk => ⟨hk.1.1, ⟨hk.1.2, hk.2⟩⟩))))
               (case aS => exact (keep_size (w := w) (g := g) (row := none) HK.out))
               (case aL => have := LMc29.out; omega)
               intro v428 w41 ho hb hg hat
               rw [← Ny427.out] at ho
               replace HO_7 := Aside0.mk (Kd.R_after (ok := (fun k_ => some k_ ≠ (v431 : Value).ownBlock ∧ some k_ ≠ (.slice Ao42 y424.length co42 : Value).ownBlock)) (Sw.rt (Kd.R_mono HO_7.out (fun _ hk => ⟨⟨hk.1.2, hk.2⟩, hk.1.1⟩))) hg hat)
               replace HO432 := Aside0.mk (Kd.R_after (ok := (fun k_ => some k_ ≠ (.slice Ao35 x7_1.length co35 : Value).ownBlock ∧ some k_ ≠ (.slice Ao42 y424.length co42 : Value).ownBlock)) (Sw.rt (Kd.R_mono HO432.out (fun _ hk => ⟨⟨hk.1.2, hk.2⟩, hk.1.1.2⟩))) hg hat)
               replace HO426 := Aside0.mk (Kd.R_after (ok := (fun k_ => some k_ ≠ (.slice Ao35 x7_1.length co35 : Value).ownBlock ∧ some k_ ≠ (v431 : Value).ownBlock)) (Sw.rt (Kd.R_mono HO426.out (fun _ hk => ⟨⟨hk.1.2, hk.2⟩, hk.1.1.2⟩))) hg hat)
               replace HB := Aside0.mk (below_weaken HB.out HL.out hb)
               replace HI0 := Aside0.mk (IsS25.grown HI0.out hg (IsS25.own_ne HI0.out HO_6.out (by decide)))
               replace HK := Aside0.mk (KeepBut.trans HK.out (KeepBut.of_grown hg g) (Kd.R_base2 HO_6.out))
               have HO429 := Aside0.mk (ho)
               clear HO_6
               clear ho hb hg hat
               refine hK.out _ _ ⟨(blk_cell HI0.out.1 0).trans rfl, (blk_cell HI0.out.1 1).trans rfl, (blk_cell HI0.out.1 2).trans rfl, (blk_cell HI0.out.1 3).trans rfl⟩ (fun hHeld => ?_)
               clear hK K
               refine norm_ (a' := ?_) ?_ ?_
               rotate_left
               ·show Act.put _ (some 63) _ = _
                simp only [Act.put, List.setIfInBounds_toArray, List.set_cons_zero, List.set_cons_succ, i64_w, i32_w]
                rfl
               exact norm_ Zb51_5 (hCont (.slice Ao42 y424.length co42, v428, v431) _ ⟨hHeld, (Sw.rt (Kd.R_mono HO426.out (fun _ hk => ⟨hk.2, ⟨hk.1.2, hk.1.1⟩⟩))), (Sw.rt (Kd.R_mono HO429.out (fun _ hk => ⟨hk.2.2, ⟨hk.2.1, hk.1⟩⟩))), (Sw.rt (Kd.R_mono HO432.out (fun _ hk => ⟨hk.1.2, ⟨hk.2, hk.1.1⟩⟩))), (Sw.rt (Kd.R_mono HO_7.out (fun _ hk => ⟨hk.1.2, ⟨hk.2, hk.1.1⟩⟩))), HI0.out, HK.out, HB.out⟩)
             rintro ⟨v425, v428, v431⟩ w43 ⟨hS_, h0_, h1_, h2_, h3_, h4_, h5_, h6_⟩
             have n0_ : Aside0 (Kd.R (Kd.int .i64) 3 w43 w.heap.size (fun k_ => some k_ ≠ (v428 : Value).ownBlock ∧ some k_ ≠ (v431 : Value).ownBlock ∧ some k_ ≠ (.slice Ao35 x7_1.length co35 : Value).ownBlock) v425 y424) := ⟨h0_⟩
             have n1_ : Aside0 (Kd.R (Kd.int .i64) 3 w43 w.heap.size (fun k_ => some k_ ≠ (v425 : Value).ownBlock ∧ some k_ ≠ (v431 : Value).ownBlock ∧ some k_ ≠ (.slice Ao35 x7_1.length co35 : Value).ownBlock) v428 y427) := ⟨h1_⟩
             have n2_ : Aside0 (Kd.R (Kd.int .i64) 3 w43 w.heap.size (fun k_ => some k_ ≠ (v425 : Value).ownBlock ∧ some k_ ≠ (v428 : Value).ownBlock ∧ some k_ ≠ (.slice Ao35 x7_1.length co35 : Value).ownBlock) v431 y430) := ⟨h2_⟩
             have n3_ : Aside0 (Kd.R (Kd.int .i64) 3 w43 w.heap.size (fun k_ => some k_ ≠ (v425 : Value).ownBlock ∧ some k_ ≠ (v428 : Value).ownBlock ∧ some k_ ≠ (v431 : Value).ownBlock) (.slice Ao35 x7_1.length co35) x7_1) := ⟨h3_⟩
             have n4_ : Aside0 (IsS25 w0 w43 g t420 t421 t422 t423) := ⟨h4_⟩
             have n5_ : Aside0 (KeepBut w w43 g none) := ⟨h5_⟩
             have n6_ : Aside0 (Below w0.heap.size w0 w43) := ⟨h6_⟩
             clear HO_6
             clear HO_7
             clear HI0
             clear HK
             clear HB
             clear h0_ h1_ h2_ h3_ h4_ h5_ h6_
             have HO426 := n0_
             have HO429 := n1_
             have HO432 := n2_
             have HO_7 := n3_
             have HI0 := n4_
             have HK := n5_
             have HB := n6_
             clear n0_ n1_ n2_ n3_ n4_ n5_ n6_
             have hHeld : w43.cell? ⟨g, 0, none⟩ = some (.int .i64 t420) ∧ w43.cell? ⟨g, 1, none⟩ = some (.int .i64 t421) ∧ w43.cell? ⟨g, 2, none⟩ = some (.int .i64 t422) ∧ w43.cell? ⟨g, 3, none⟩ = some (.string t423) := hS_
             obtain ⟨Ao45, co45, eo45⟩ := Kd.R_slice HO432.out
             (first | subst eo45 | (injection eo45 with f1_ f2_ f3_; have f4_ := f1_.symm; have f5_ := f3_.symm; clear f1_ f2_ f3_; subst f4_; subst f5_))
             refine norm_ (a' := ?_) ?_ ?_
             rotate_left
             ·simp only [putAll, Act.put, List.setIfInBounds_toArray, List.set_cons_zero, List.set_cons_succ]
              rfl
             refine one_ (i := 12) (N := some 72) (Sw.b 15 8191) rfl rfl (one_of HT_.out (by kernel_rfl)) (by decide) (fun K hK => ?_)
             refine Kd.R_append_rows_step (Kd.int .i64) w.heap.size (by rfl) (.tmp 64) (.tmp 71) 28 3 (.int .i64 0) 8 rfl Tryd.underlying28 info3 rfl (by decide) (by omega) (.slice Ao35 x7_1.length co35) x7_1 y430 _ _ _ (fun k_ => some k_ ≠ (v425 : Value).ownBlock ∧ some k_ ≠ (v428 : Value).ownBlock ∧ some k_ ≠ (.slice Ao45 y430.length co45 : Value).ownBlock) (fun _ => False) rfl rfl ?aO ?aR (fun _ _ h => h) (fun _ h => h.elim) ?aF (Below.refl _ _) ?aS ?aL ?_
             (case aR => repeat (first | exact (Kd.R_reads' HO432.out).2.2 | (with_reducible refine Kd.C_alloc ?_ _) | (with_reducible refine Kd.C_drewN ?_ _) | (with_reducible refine Kd.C_drew ?_)))
             (case aF => exact (fun k_ hk => ⟨Kd.fresh' (Kd.R_lt (Sw.rt HO426.out)) k_ hk, Kd.fresh' (Kd.R_lt (Sw.rt HO429.out)) k_ hk, Kd.fresh' (Kd.R_lt (Sw.rt HO432.out)) k_ hk⟩))
             (case aO => exact (Sw.rt HO_7.out))
             (case aS => exact (keep_size (w := w) (g := g) (row := none) HK.out))
             (case aL => have := LMc30.out; omega)
             intro v434 w44 ho hb hg hat
             rw [← Ny433.out] at ho
             replace HO426 := Aside0.mk (Kd.R_after (ok := (fun k_ => some k_ ≠ (v428 : Value).ownBlock ∧ some k_ ≠ (.slice Ao45 y430.length co45 : Value).ownBlock)) (Sw.rt (Kd.R_mono HO426.out (fun _ hk => ⟨⟨hk.1, hk.2.1⟩, hk.2.2⟩))) hg hat)
             replace HO429 := Aside0.mk (Kd.R_after (ok := (fun k_ => some k_ ≠ (v425 : Value).ownBlock ∧ some k_ ≠ (.slice Ao45 y430.length co45 : Value).ownBlock)) (Sw.rt (Kd.R_mono HO429.out (fun _ hk => ⟨⟨hk.1, hk.2.1⟩, hk.2.2⟩))) hg hat)
             replace HO432 := Aside0.mk (Kd.R_after (ok := (fun k_ => some k_ ≠ (v425 : Value).ownBlock ∧ some k_ ≠ (v428 : Value).ownBlock)) (Sw.rt (Kd.R_mono HO432.out (fun _ hk => ⟨⟨hk.1, hk.2.1⟩, hk.2.2⟩))) hg hat)
             replace HB := Aside0.mk (below_weaken HB.out HL.out hb)
             replace HI0 := Aside0.mk (IsS25.grown HI0.out hg (IsS25.own_ne HI0.out HO_7.out (by decide)))
             replace HK := Aside0.mk (KeepBut.trans HK.out (KeepBut.of_grown hg g) (Kd.R_base2 HO_7.out))
             have HO435 := Aside0.mk (ho)
             clear HO_7
             clear ho hb hg hat
             refine hK.out _ _ ⟨(blk_cell HI0.out.1 0).trans rfl, (blk_cell HI0.out.1 1).trans rfl, (blk_cell HI0.out.1 2).trans rfl, (blk_cell HI0.out.1 3).trans rfl⟩ (fun hHeld => ?_)
             clear hK K
             refine norm_ (a' := ?_) ?_ ?_
             rotate_left
             ·show Act.put _ (some 72) _ = _
              simp only [Act.put, List.setIfInBounds_toArray, List.set_cons_zero, List.set_cons_succ, i64_w, i32_w]
              rfl
             refine Sw.pw 13 6 (Sw.b 15 16383) ?_
             refine Sw.pw 14 7 (Sw.b 15 32767) ?_
             refine done_ (done_of HT_.out (by kernel_rfl)) ?_
             try go_wp2
             replace HO426 := Aside0.mk (Kd.R_drew HO426.out)
             replace HO429 := Aside0.mk (Kd.R_drew HO429.out)
             replace HO432 := Aside0.mk (Kd.R_drew HO432.out)
             replace HO435 := Aside0.mk (Kd.R_drew HO435.out)
             replace HI0 := Aside0.mk (IsS25.drew HI0.out)
             replace HK := Aside0.mk (keep_drew HK.out)
             replace HB := Aside0.mk (below_drew1 HB.out)
             refine start_ (n := 8) (S := fun w' => True) (ds := []) (Sw.b 8 0) (by kernel_rfl) rfl rfl trivial (fun hHeld => ?_); refine with_tabW impl_Decoder_feed.tab11 impl_Decoder_feed.bits11 (fun HT_ HW_ => ?_)
             generalize w44.drew = w46 at HO426 HO429 HO432 HO435 HI0 HK HB hHeld ⊢
             refine Sw.pw 0 73 (Sw.b 8 1) ?_
             refine Sw.pw 1 74 (Sw.b 8 3) ?_
             refine Sw.pw 2 75 (Sw.b 8 7) ?_
             refine Sw.pw 3 76 (Sw.b 8 15) ?_
             refine Sw.pw 4 77 (Sw.b 8 31) ?_
             refine Sw.pw 5 78 (Sw.b 8 63) ?_
             refine one_ (i := 6) (N := none) (Sw.b 8 127) rfl rfl (one_of HT_.out (by kernel_rfl)) (by decide) (fun K hK => ?_)
             refine skip_ (w1 := ?_) (by rfl) rfl ?_ ?_
             rotate_left
             ·(try (have hcs0_ := cellS25_0 HI0.out.1; have hfs0_ := blk_frozen HI0.out.1 0; have hcs1_ := cellS25_1 HI0.out.1; have hfs1_ := blk_frozen HI0.out.1 1; have hcs2_ := cellS25_2 HI0.out.1; have hfs2_ := blk_frozen HI0.out.1 2; have hcs3_ := cellS25_3 HI0.out.1; have hfs3_ := blk_frozen HI0.out.1 3)); go_simp
              rfl
             refine hK.out _ _ trivial (fun hHeld => ?_)
             clear hK K
             refine Sw.pw 7 8 (Sw.b 8 255) ?_
             refine done_ (done_of HT_.out (by kernel_rfl)) ?_
             try go_wp2
             go_roundg kj10
             case measure => have := HK1.out; have := HJ10.out; omega
             case rel => exact ⟨(y427), (y433), (x8_1.extract (t419 : Int).toNat x8_1.size), (t420), (t421), (0), (t423), Sw.r, H', ⟨by have := HK1.out; have := HJ10.out; omega⟩, ⟨Sw.rt (Kd.R_mono (Kd.R_far (p := ⟨g, 2, none⟩) (IsS25.apart HI0.out HO429.out (by decide)) (fun _ hk => hk.2) (.int .i64 0)) (fun _ hk => hk.1.2))⟩, ⟨Sw.rt (Kd.R_mono (Kd.R_far (p := ⟨g, 2, none⟩) (IsS25.apart HI0.out HO435.out (by decide)) (fun _ hk => hk.2) (.int .i64 0)) (fun _ hk => hk.1.2.1))⟩, ⟨Zb51_0⟩, ⟨Zb51_2⟩, ⟨Zb51_1⟩⟩
            ·rw [if_neg c32] at H
             exact absurd H (by simp)
           ·rw [if_neg c31] at H
            exact absurd H (by simp)
          ·rw [if_neg c30] at H
           exact absurd H (by simp)
         ·rw [if_neg c29] at H
          exact absurd H (by simp)
 ·rw [if_neg c3] at H
  exact absurd H (by simp)


end Go.Proofs.YtliafedmhgkciaaDoor.P
