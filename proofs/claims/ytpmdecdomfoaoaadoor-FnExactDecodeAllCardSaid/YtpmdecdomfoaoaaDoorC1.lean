import Derived.Test.YtpmdecdomfoaoaaDoorCP0
import Derived.Test.YtpmdecdomfoaoaaDoorC0
namespace Go.Proofs.YtpmdecdomfoaoaaDoor.P
open Go.RowKit Go.Proofs.YtpmdecdomfoaoaaDoorW.PrintWords Go.Proofs.YtpmdecdomfoaoaaDoorW.PrintLast Go.Proofs.YtpmdecdomfoaoaaDoorW.PrintMore
attribute [local go_sem] max2_int min2_int max_two min_two max_three min_three max_four min_four   -- for this text's walks alone
set_option linter.unusedVariables false
set_option linter.unusedSimpArgs false


def spec_l1AllRunes.l0 : Nat → List Int → List Int → Int → Int → Option (Bool)
 | 0, _, _, _, _ => none
 | k + 1, x0, x5, x6, x7 => if x7 < x6 then (if 0 ≤ x7 then (if x7 < (x5.length : Int) then ((spec_GoodRune.f (rd x5 x7)).bind fun t143 => (if t143 = true then (spec_l1AllRunes.l0 k x0 x5 x6 (wrap64 (x7 + 1))) else (some false))) else (none)) else (none)) else (some (decide ((x0.length : Int) ≤ 1000)))
def spec_l1AllRunes.f (k : Nat) (l0 : List Int) : Option (Bool) := spec_l1AllRunes.l0 k l0 l0 (l0.length : Int) 0
theorem spec_l1AllRunes.mono_l : ∀ k, (∀ y0 y1 y2 y3, LeO (spec_l1AllRunes.l0 k y0 y1 y2 y3) (spec_l1AllRunes.l0 (k + 1) y0 y1 y2 y3))
 | 0 => fun _ _ _ _ r h => by simp [spec_l1AllRunes.l0] at h
 | k + 1 => by
  have ih0 := spec_l1AllRunes.mono_l k
  ·intro y0 y1 y2 y3
   unfold spec_l1AllRunes.l0
   repeat' first
   | (with_reducible exact ih0 _ _ _ _)
   | (with_reducible exact LeO.refl _)
   | (with_reducible exact LeO.none _)
   | (with_reducible refine LeO.ite ?_ ?_)
   | (with_reducible refine LeO.bind ?_ (fun _ => ?_))
   | exact ih0 _ _ _ _
   | exact LeO.none _
   | refine LeO.ite ?_ ?_
   | refine LeO.bind ?_ (fun _ => ?_)
theorem spec_l1AllRunes.mono : ∀ a0 k, LeO (spec_l1AllRunes.f k a0) (spec_l1AllRunes.f (k + 1) a0) := by
 intro a0 k
 have ih0 := spec_l1AllRunes.mono_l k
 unfold spec_l1AllRunes.f
 repeat' first
   | (with_reducible exact ih0 _ _ _ _)
   | (with_reducible exact LeO.refl _)
   | (with_reducible exact LeO.none _)
   | (with_reducible refine LeO.ite ?_ ?_)
   | (with_reducible refine LeO.bind ?_ (fun _ => ?_))
   | exact ih0 _ _ _ _
   | exact LeO.none _
   | refine LeO.ite ?_ ?_
   | refine LeO.bind ?_ (fun _ => ?_)
set_option maxHeartbeats 8000000 in
set_option maxRecDepth 100000 in
theorem spec_l1AllRunes.calls (k : Nat) (A0 : Option Addr) (c0 : Nat) (l0 : List Int) (r : Bool) (w : World) (hr0 : Kd.C (Kd.int .i64) w A0 l0.length l0) (hc0 : l0.length ≤ c0) (h : spec_l1AllRunes.f k l0 = some r) :
  Calls Tryd.prog 41 #[.slice A0 l0.length c0] w fun e w' => e = .returned (.bool r) ∧ Drawn0 w w' := by
 have HR0 := Aside0.mk hr0
 have HC0 := Aside0.mk hc0
 clear hr0 hc0
 have H : (spec_l1AllRunes.l0 k l0 l0 (l0.length : Int) 0) = some r := h
 clear h
 have H' := Aside0.mk H
 clear H
 go_enter Tryd.func41, Tryd.ntmps41
 go_wp2
 go_loopg [7] k (fun kq v7 w' => ∃ (x7_1 : Int), v7 = .int .i64 x7_1 ∧ Aside0 (spec_l1AllRunes.l0 kq l0 l0 (l0.length : Int) x7_1 = some r) ∧ Aside0 (kq ≤ k) ∧ Drawn0 w w')
 case atStart => exact ⟨(0), (by first | rfl | (simp; done) | (simp [*]; done)), H', ⟨Nat.le_refl _⟩, by repeat (first | exact Drawn0.refl _ | apply Drawn0.step)⟩
 case round =>
  clear H'
  obtain ⟨x7_1, rfl, HA, HK1, ⟨m1, rfl⟩⟩ := hrel
  cases gk with
  | zero => exact absurd HA.out (by simp [spec_l1AllRunes.l0])
  | succ k1 =>
   have H := HA.out
   clear HA
   simp only [spec_l1AllRunes.l0] at H
   by_cases c2 : x7_1 < (l0.length : Int)
   ·rw [if_pos c2] at H
    have c2b0 : decide (x7_1 < (l0.length : Int)) = true := decide_eq_true c2
    clear c2
    by_cases c3 : 0 ≤ x7_1
    ·rw [if_pos c3] at H
     have c3b0 : decide (0 ≤ x7_1) = true := decide_eq_true c3
     clear c3
     by_cases c4 : x7_1 < (l0.length : Int)
     ·rw [if_pos c4] at H
      have c4b0 : decide (x7_1 < (l0.length : Int)) = true := decide_eq_true c4
      clear c4
      replace H := Option.bind_eq_some_iff.mp H
      obtain ⟨t143, A50, H⟩ := H
      replace H : (if t143 = true then (spec_l1AllRunes.l0 k1 l0 l0 (l0.length : Int) (wrap64 (x7_1 + 1))) else (some false)) = some r := H
      have A5 := Aside0.mk A50
      clear A50
      by_cases c6 : t143 = true
      ·subst c6
       have H1 : (spec_l1AllRunes.l0 k1 l0 l0 (l0.length : Int) (wrap64 (x7_1 + 1))) = some r := by rw [if_pos rfl] at H; exact H
       clear H
       have H := H1
       clear H1
       have H' := Aside0.mk H
       clear H
       have p142 : 0 ≤ (x7_1 : Int) := of_decide_eq_true (by first | (with_reducible assumption) | assumption)
       have q142 : x7_1 < (l0.length : Int) := of_decide_eq_true (by first | (with_reducible assumption) | assumption)
       obtain ⟨ad142, e142, hx142_0⟩ := Kd.at_int HR0.out x7_1 p142 q142
       cases e142
       replace p142 := eq_true p142
       replace q142 := eq_true q142
       go_wp2_with (first | ((with_reducible refine gate_callee (f := 58) rfl ?_); refine goesL_ (some 12) rfl rfl Tryd.func58 (by kernel_rfl) rfl #[.int .i64 (rd l0 x7_1)] rfl (by (try simp only [List.map_toArray, List.map_cons, List.map_nil]); first | done | rfl | (simp only [List.length_drop, List.length_take]; rfl)) ?_; (with_reducible refine (spec_GoodRune.calls (rd l0 x7_1) true _ A5.out).mono ?_); rintro e w' ⟨rfl, ⟨nd, rfl⟩⟩; refine ⟨_, rfl, ?_⟩))
       go_roundg k1
       case measure => have := HK1.out; omega
       case rel => exact ⟨(wrap64 (x7_1 + 1)), (by first | rfl | (simp; done) | (simp [*]; done)), H', ⟨by have := HK1.out; omega⟩, by repeat (first | exact Drawn0.refl _ | apply Drawn0.step)⟩
      ·replace c6 := Bool.eq_false_iff.mpr c6
       subst c6
       have H1 : (some false) = some r := by rw [if_neg (show ¬ (false = true) by decide)] at H; exact H
       clear H
       have H := H1
       clear H1
       obtain rfl := Option.some.inj H
       have p142 : 0 ≤ (x7_1 : Int) := of_decide_eq_true (by first | (with_reducible assumption) | assumption)
       have q142 : x7_1 < (l0.length : Int) := of_decide_eq_true (by first | (with_reducible assumption) | assumption)
       obtain ⟨ad142, e142, hx142_0⟩ := Kd.at_int HR0.out x7_1 p142 q142
       cases e142
       replace p142 := eq_true p142
       replace q142 := eq_true q142
       go_wp2_with (first | ((with_reducible refine gate_callee (f := 58) rfl ?_); refine goesL_ (some 12) rfl rfl Tryd.func58 (by kernel_rfl) rfl #[.int .i64 (rd l0 x7_1)] rfl (by (try simp only [List.map_toArray, List.map_cons, List.map_nil]); first | done | rfl | (simp only [List.length_drop, List.length_take]; rfl)) ?_; (with_reducible refine (spec_GoodRune.calls (rd l0 x7_1) false _ A5.out).mono ?_); rintro e w' ⟨rfl, ⟨nd, rfl⟩⟩; refine ⟨_, rfl, ?_⟩))
       go_ret
       exact ⟨by first | rfl | (simp; done) | (simp [*]; done), by repeat (first | exact Drawn0.refl _ | apply Drawn0.step)⟩
     ·rw [if_neg c4] at H
      exact absurd H (by simp)
    ·rw [if_neg c3] at H
     exact absurd H (by simp)
   ·rw [if_neg c2] at H
    have c2b0 : decide (x7_1 < (l0.length : Int)) = false := decide_eq_false c2
    clear c2
    obtain rfl := Option.some.inj H
    go_wp2
    go_ret
    exact ⟨by first | rfl | (simp; done) | (simp [*]; done), by repeat (first | exact Drawn0.refl _ | apply Drawn0.step)⟩

def spec_l1All.l0 : Nat → Int → Int → List Int → Int → Int → Option (Bool)
 | 0, _, _, _, _, _ => none
 | k + 1, x1, x2, x9, x10, x11 => if x11 < x10 then (if 0 ≤ x11 then (if x11 < (x9.length : Int) then ((spec_l1In.f (rd x9 x11) x1 x2).bind fun t145 => (if t145 = true then (spec_l1All.l0 k x1 x2 x9 x10 (wrap64 (x11 + 1))) else (some false))) else (none)) else (none)) else (some true)
def spec_l1All.f (k : Nat) (l0 : List Int) (a1 : Int) (a2 : Int) : Option (Bool) := spec_l1All.l0 k a1 a2 l0 (l0.length : Int) 0
theorem spec_l1All.mono_l : ∀ k, (∀ y0 y1 y2 y3 y4, LeO (spec_l1All.l0 k y0 y1 y2 y3 y4) (spec_l1All.l0 (k + 1) y0 y1 y2 y3 y4))
 | 0 => fun _ _ _ _ _ r h => by simp [spec_l1All.l0] at h
 | k + 1 => by
  have ih0 := spec_l1All.mono_l k
  ·intro y0 y1 y2 y3 y4
   unfold spec_l1All.l0
   repeat' first
   | (with_reducible exact ih0 _ _ _ _ _)
   | (with_reducible exact LeO.refl _)
   | (with_reducible exact LeO.none _)
   | (with_reducible refine LeO.ite ?_ ?_)
   | (with_reducible refine LeO.bind ?_ (fun _ => ?_))
   | exact ih0 _ _ _ _ _
   | exact LeO.none _
   | refine LeO.ite ?_ ?_
   | refine LeO.bind ?_ (fun _ => ?_)
theorem spec_l1All.mono : ∀ a0 a1 a2 k, LeO (spec_l1All.f k a0 a1 a2) (spec_l1All.f (k + 1) a0 a1 a2) := by
 intro a0 a1 a2 k
 have ih0 := spec_l1All.mono_l k
 unfold spec_l1All.f
 repeat' first
   | (with_reducible exact ih0 _ _ _ _ _)
   | (with_reducible exact LeO.refl _)
   | (with_reducible exact LeO.none _)
   | (with_reducible refine LeO.ite ?_ ?_)
   | (with_reducible refine LeO.bind ?_ (fun _ => ?_))
   | exact ih0 _ _ _ _ _
   | exact LeO.none _
   | refine LeO.ite ?_ ?_
   | refine LeO.bind ?_ (fun _ => ?_)
set_option maxHeartbeats 8000000 in
set_option maxRecDepth 100000 in
theorem spec_l1All.calls (k : Nat) (A0 : Option Addr) (c0 : Nat) (l0 : List Int) (a1 : Int) (a2 : Int) (r : Bool) (w : World) (hr0 : Kd.C (Kd.int .i64) w A0 l0.length l0) (hc0 : l0.length ≤ c0) (h : spec_l1All.f k l0 a1 a2 = some r) :
  Calls Tryd.prog 42 #[.slice A0 l0.length c0, .int .i64 a1, .int .i64 a2] w fun e w' => e = .returned (.bool r) ∧ Drawn0 w w' := by
 have HR0 := Aside0.mk hr0
 have HC0 := Aside0.mk hc0
 clear hr0 hc0
 have H : (spec_l1All.l0 k a1 a2 l0 (l0.length : Int) 0) = some r := h
 clear h
 have H' := Aside0.mk H
 clear H
 go_enter Tryd.func42, Tryd.ntmps42
 go_wp2
 go_loopg [11] k (fun kq v11 w' => ∃ (x11_1 : Int), v11 = .int .i64 x11_1 ∧ Aside0 (spec_l1All.l0 kq a1 a2 l0 (l0.length : Int) x11_1 = some r) ∧ Aside0 (kq ≤ k) ∧ Drawn0 w w')
 case atStart => exact ⟨(0), (by first | rfl | (simp; done) | (simp [*]; done)), H', ⟨Nat.le_refl _⟩, by repeat (first | exact Drawn0.refl _ | apply Drawn0.step)⟩
 case round =>
  clear H'
  try clear p2
  obtain ⟨x11_1, rfl, HA, HK1, ⟨m1, rfl⟩⟩ := hrel
  cases gk with
  | zero => exact absurd HA.out (by simp [spec_l1All.l0])
  | succ k1 =>
   have H := HA.out
   clear HA
   simp only [spec_l1All.l0] at H
   by_cases c4 : x11_1 < (l0.length : Int)
   ·rw [if_pos c4] at H
    have c4b0 : decide (x11_1 < (l0.length : Int)) = true := decide_eq_true c4
    clear c4
    by_cases c5 : 0 ≤ x11_1
    ·rw [if_pos c5] at H
     have c5b0 : decide (0 ≤ x11_1) = true := decide_eq_true c5
     clear c5
     by_cases c6 : x11_1 < (l0.length : Int)
     ·rw [if_pos c6] at H
      have c6b0 : decide (x11_1 < (l0.length : Int)) = true := decide_eq_true c6
      clear c6
      replace H := Option.bind_eq_some_iff.mp H
      obtain ⟨t145, A70, H⟩ := H
      replace H : (if t145 = true then (spec_l1All.l0 k1 a1 a2 l0 (l0.length : Int) (wrap64 (x11_1 + 1))) else (some false)) = some r := H
      have A7 := Aside0.mk A70
      clear A70
      by_cases c8 : t145 = true
      ·subst c8
       have H1 : (spec_l1All.l0 k1 a1 a2 l0 (l0.length : Int) (wrap64 (x11_1 + 1))) = some r := by rw [if_pos rfl] at H; exact H
       clear H
       have H := H1
       clear H1
       have H' := Aside0.mk H
       clear H
       have p144 : 0 ≤ (x11_1 : Int) := of_decide_eq_true (by first | (with_reducible assumption) | assumption)
       have q144 : x11_1 < (l0.length : Int) := of_decide_eq_true (by first | (with_reducible assumption) | assumption)
       obtain ⟨ad144, e144, hx144_0⟩ := Kd.at_int HR0.out x11_1 p144 q144
       cases e144
       replace p144 := eq_true p144
       replace q144 := eq_true q144
       go_wp2_with (first | ((with_reducible refine gate_callee (f := 36) rfl ?_); refine goesL_ (some 18) rfl rfl Tryd.func36 (by kernel_rfl) rfl #[.int .i64 (rd l0 x11_1), .int .i64 a1, .int .i64 a2] rfl (by (try simp only [List.map_toArray, List.map_cons, List.map_nil]); first | done | rfl | (simp only [List.length_drop, List.length_take]; rfl)) ?_; (with_reducible refine (spec_l1In.calls (rd l0 x11_1) a1 a2 true _ A7.out).mono ?_); rintro e w' ⟨rfl, ⟨nd, rfl⟩⟩; refine ⟨_, rfl, ?_⟩))
       go_roundg k1
       case measure => have := HK1.out; omega
       case rel => exact ⟨(wrap64 (x11_1 + 1)), (by first | rfl | (simp; done) | (simp [*]; done)), H', ⟨by have := HK1.out; omega⟩, by repeat (first | exact Drawn0.refl _ | apply Drawn0.step)⟩
      ·replace c8 := Bool.eq_false_iff.mpr c8
       subst c8
       have H1 : (some false) = some r := by rw [if_neg (show ¬ (false = true) by decide)] at H; exact H
       clear H
       have H := H1
       clear H1
       obtain rfl := Option.some.inj H
       have p144 : 0 ≤ (x11_1 : Int) := of_decide_eq_true (by first | (with_reducible assumption) | assumption)
       have q144 : x11_1 < (l0.length : Int) := of_decide_eq_true (by first | (with_reducible assumption) | assumption)
       obtain ⟨ad144, e144, hx144_0⟩ := Kd.at_int HR0.out x11_1 p144 q144
       cases e144
       replace p144 := eq_true p144
       replace q144 := eq_true q144
       go_wp2_with (first | ((with_reducible refine gate_callee (f := 36) rfl ?_); refine goesL_ (some 18) rfl rfl Tryd.func36 (by kernel_rfl) rfl #[.int .i64 (rd l0 x11_1), .int .i64 a1, .int .i64 a2] rfl (by (try simp only [List.map_toArray, List.map_cons, List.map_nil]); first | done | rfl | (simp only [List.length_drop, List.length_take]; rfl)) ?_; (with_reducible refine (spec_l1In.calls (rd l0 x11_1) a1 a2 false _ A7.out).mono ?_); rintro e w' ⟨rfl, ⟨nd, rfl⟩⟩; refine ⟨_, rfl, ?_⟩))
       go_ret
       exact ⟨by first | rfl | (simp; done) | (simp [*]; done), by repeat (first | exact Drawn0.refl _ | apply Drawn0.step)⟩
     ·rw [if_neg c6] at H
      exact absurd H (by simp)
    ·rw [if_neg c5] at H
     exact absurd H (by simp)
   ·rw [if_neg c4] at H
    have c4b0 : decide (x11_1 < (l0.length : Int)) = false := decide_eq_false c4
    clear c4
    obtain rfl := Option.some.inj H
    go_wp2
    go_ret
    exact ⟨by first | rfl | (simp; done) | (simp [*]; done), by repeat (first | exact Drawn0.refl _ | apply Drawn0.step)⟩

def laws_toIntS.l0 : Nat → List Int → List Int → Int → Option (List Int)
 | 0, _, _, _ => none
 | k + 1, x0, x3, x4 => if x4 < (x0.length : Int) then (if 0 ≤ x4 then (if x4 < (x3.length : Int) then (laws_toIntS.l0 k x0 (x3.set (x4 : Int).toNat (rd x0 x4)) (wrap64 (x4 + 1))) else (none)) else (none)) else (some x3)
def laws_toIntS.f (k : Nat) (l0 : List Int) : Option (List Int) := if 0 ≤ (l0.length : Int) then (if ((l0.length : Int) : Int).toNat ≤ 35184372088832 then (laws_toIntS.l0 k l0 (List.replicate ((l0.length : Int) : Int).toNat 0) 0) else (none)) else (none)
theorem laws_toIntS.mono_l : ∀ k, (∀ y0 y1 y2, LeO (laws_toIntS.l0 k y0 y1 y2) (laws_toIntS.l0 (k + 1) y0 y1 y2))
 | 0 => fun _ _ _ r h => by simp [laws_toIntS.l0] at h
 | k + 1 => by
  have ih0 := laws_toIntS.mono_l k
  ·intro y0 y1 y2
   unfold laws_toIntS.l0
   repeat' first
   | (with_reducible exact ih0 _ _ _)
   | (with_reducible exact LeO.refl _)
   | (with_reducible exact LeO.none _)
   | (with_reducible refine LeO.ite ?_ ?_)
   | (with_reducible refine LeO.bind ?_ (fun _ => ?_))
   | exact ih0 _ _ _
   | exact LeO.none _
   | refine LeO.ite ?_ ?_
   | refine LeO.bind ?_ (fun _ => ?_)
theorem laws_toIntS.mono : ∀ a0 k, LeO (laws_toIntS.f k a0) (laws_toIntS.f (k + 1) a0) := by
 intro a0 k
 have ih0 := laws_toIntS.mono_l k
 unfold laws_toIntS.f
 repeat' first
   | (with_reducible exact ih0 _ _ _)
   | (with_reducible exact LeO.refl _)
   | (with_reducible exact LeO.none _)
   | (with_reducible refine LeO.ite ?_ ?_)
   | (with_reducible refine LeO.bind ?_ (fun _ => ?_))
   | exact ih0 _ _ _
   | exact LeO.none _
   | refine LeO.ite ?_ ?_
   | refine LeO.bind ?_ (fun _ => ?_)
set_option maxHeartbeats 8000000 in
set_option maxRecDepth 100000 in
theorem laws_toIntS.calls (k : Nat) (A0 : Option Addr) (c0 : Nat) (l0 : List Int) (r : List Int) (w : World) (hr0 : Kd.C (Kd.int .i64) w A0 l0.length l0) (hc0 : l0.length ≤ c0) (h : laws_toIntS.f k l0 = some r) :
  Calls Tryd.prog 43 #[.slice A0 l0.length c0] w fun e w' => ∃ v0_ : Value, e = .returned (v0_) ∧ Kd.R (Kd.int .i64) 3 w' w.heap.size (fun _ => True) v0_ r ∧ Below w.heap.size w w' := by
 have HR0 := Aside0.mk hr0
 have HC0 := Aside0.mk hc0
 clear hr0 hc0
 have HB := Aside0.mk (Below.refl w.heap.size w)
 have H : (if 0 ≤ (l0.length : Int) then (if ((l0.length : Int) : Int).toNat ≤ 35184372088832 then (laws_toIntS.l0 k l0 (List.replicate ((l0.length : Int) : Int).toNat 0) 0) else (none)) else (none)) = some r := h
 clear h
 by_cases c2 : 0 ≤ (l0.length : Int)
 ·rw [if_pos c2] at H
  have c2b0 := eq_true c2
  have c2b1 : decide (0 ≤ (l0.length : Int)) = true := decide_eq_true c2
  clear c2
  by_cases c3 : ((l0.length : Int) : Int).toNat ≤ 35184372088832
  ·rw [if_pos c3] at H
   have c3b0 := eq_true c3
   have c3b1 : decide (((l0.length : Int) : Int).toNat ≤ 35184372088832) = true := decide_eq_true c3
   clear c3
   obtain ⟨y157, hy157⟩ : ∃ y_ : List Int, y_ = (List.replicate ((l0.length : Int) : Int).toNat 0) := ⟨_, rfl⟩
   replace H : (laws_toIntS.l0 k l0 y157 0) = some r := by rw [hy157]; exact H
   have Ny157 := Aside0.mk hy157
   clear hy157
   have H' := Aside0.mk H
   clear H
   go_enter Tryd.func43, Tryd.ntmps43
   go_wp2_with (first | ((with_reducible refine gate_dst (N := 7) rfl ?_); refine Kd.R_make (Kd.int .i64) _ 3 rfl (N := 7) rfl 24 _ _ rfl (l0.length : Int) rfl rfl Tryd.underlying24 (.int .i64 0) 8 info3 rfl (by decide) (by omega) 0 (ok := fun _ => True) (okp := fun _ => True) rfl (fun _ hk => hk) trivial (of_decide_eq_true (by assumption)) (Nat.le_trans (Nat.mul_le_mul_right _ (of_decide_eq_true (by assumption) : (l0.length : Int).toNat ≤ 35184372088832)) (by omega)) (Below.refl _ _) (Nat.le_refl _) ?_; intro v158 w4 ho5 hb hg_ hnew_; clear hg_ hnew_; (first | rw [← Ny157.out] at ho5 | (simp only [Int.reduceToNat] at ho5; rw [← Ny157.out] at ho5)); have n0_ := Aside0.mk (Kd.R_lower ho5 (below_size HB.out)); have n1_ := Aside0.mk (below_step HB.out hb); clear HB; have HO159 := n0_; have HB := n1_; clear n0_ n1_; clear hb ho5))
   go_loopg [4] k (fun kq v4 w' => ∃ (x3_1 : List Int) (x4_1 : Int), v4 = .int .i64 x4_1 ∧ Aside0 (laws_toIntS.l0 kq l0 x3_1 x4_1 = some r) ∧ Aside0 (kq ≤ k) ∧ Aside0 (Kd.R (Kd.int .i64) 3 w' w.heap.size (fun _ => True) v158 x3_1) ∧ Aside0 (Below w.heap.size w w'))
   case atStart => exact ⟨(y157), (0), (by first | rfl | (simp; done) | (simp [*]; done)), H', ⟨Nat.le_refl _⟩, ⟨HO159.out⟩, ⟨HB.out⟩⟩
   case round =>
    clear H'
    try clear c2
    try clear c2b0
    try clear c2b1
    try clear p2
    try clear c3
    try clear c3b0
    try clear c3b1
    try clear c4
    obtain ⟨x3_1, x4_1, rfl, HA, HK1, HO_3, HB⟩ := hrel
    cases gk with
    | zero => exact absurd HA.out (by simp [laws_toIntS.l0])
    | succ k1 =>
     have H := HA.out
     clear HA
     simp only [laws_toIntS.l0] at H
     by_cases c6 : x4_1 < (l0.length : Int)
     ·rw [if_pos c6] at H
      have c6b0 : decide (x4_1 < (l0.length : Int)) = true := decide_eq_true c6
      clear c6
      by_cases c7 : 0 ≤ x4_1
      ·rw [if_pos c7] at H
       have c7b0 : decide (0 ≤ x4_1) = true := decide_eq_true c7
       clear c7
       by_cases c8 : x4_1 < (x3_1.length : Int)
       ·rw [if_pos c8] at H
        have c8b0 : decide (x4_1 < (x3_1.length : Int)) = true := decide_eq_true c8
        clear c8
        obtain ⟨y161, hy161⟩ : ∃ y_ : List Int, y_ = (x3_1.set (x4_1 : Int).toNat (rd l0 x4_1)) := ⟨_, rfl⟩
        replace H : (laws_toIntS.l0 k1 l0 y161 (wrap64 (x4_1 + 1))) = some r := by rw [hy161]; exact H
        have Ny161 := Aside0.mk hy161
        clear hy161
        have H' := Aside0.mk H
        clear H
        have p160 : 0 ≤ (x4_1 : Int) := of_decide_eq_true (by assumption)
        have q160 : x4_1 < (l0.length : Int) := of_decide_eq_true (by assumption)
        obtain ⟨ad160, e160, hx160_0⟩ := Kd.at_int HR0.out x4_1 p160 q160
        cases e160
        replace hx160_0 := (HB.out.cell (World.block_lt_of_cell? w _ hx160_0)).trans hx160_0
        replace p160 := eq_true p160
        replace q160 := eq_true q160
        have p9 : 0 ≤ (x4_1 : Int) := of_decide_eq_true (by assumption)
        have q9 : (x4_1 : Int) < ((x3_1.length : Int) : Int) := of_decide_eq_true (by assumption)
        obtain ⟨go9, co9, eo9, gb9, gl9, cl9, HG9⟩ := Kd.R_form HO_3.out (by omega)
        (first | cases eo9 | (injection eo9 with ea_ en_ ec_; (first | subst ea_ | (injection ea_ with ea_; subst ea_)); subst ec_; clear en_))
        have GB9 := Aside0.mk gb9
        have GG9 := Aside0.mk HG9
        clear gb9 gl9 HG9
        obtain ⟨hx9_0, hf9_0⟩ := Kd.R_celln 0 HO_3.out (x4_1 : Int) p9 q9
        replace p9 := eq_true p9
        replace q9 := eq_true q9
        have HP10 := Kd.R_putg HO_3.out (x4_1 : Int) (rd l0 x4_1)
        go_wp2_with (first | ((with_reducible refine gate_store (t := 3) (p := 20) rfl ?_); refine store_event (t := 3) (p := 20) (v := ?vo_w11) (w1 := (wr.setCell ⟨go9, (x4_1 : Int).toNat, none⟩ (.int .i64 (rd l0 x4_1)))) ?hg ?ho ?hn ?hr ?_; (case ho => rfl); (case hg => rfl); (case hn => rfl); (case hr => go_simp <;> rfl); intro w11 hw; have hg : wr.grownBy w11 (some go9) := (by rw [hw]; exact HP10.2); have hp_ : Kd.R (Kd.int .i64) 3 w11 w.heap.size (fun _ => True) (.slice (some ⟨go9, 0, none⟩) x3_1.length co9) y161 := (by rw [hw, Ny161.out]; exact HP10.1); clear HP10; have n0_ := Aside0.mk (hp_); have n1_ := Aside0.mk ((by rw [hw]; exact below_set (HB.out) GB9.out : Below w.heap.size w w11)); clear HO_3; clear HB; have HO_3 := n0_; have HB := n1_; clear n0_ n1_; clear hg hw hp_))
        go_roundg k1
        case measure => have := HK1.out; omega
        case rel => exact ⟨(y161), (wrap64 (x4_1 + 1)), (by first | rfl | (simp; done) | (simp [*]; done)), H', ⟨by have := HK1.out; omega⟩, ⟨HO_3.out⟩, ⟨HB.out⟩⟩
       ·rw [if_neg c8] at H
        exact absurd H (by simp)
      ·rw [if_neg c7] at H
       exact absurd H (by simp)
     ·rw [if_neg c6] at H
      have c6b0 : decide (x4_1 < (l0.length : Int)) = false := decide_eq_false c6
      clear c6
      obtain rfl := Option.some.inj H
      go_wp2
      go_ret
      exact ⟨_, by first | rfl | (simp [errW_none, errW_some] <;> rfl) | (simp [*, errW_none, errW_some] <;> rfl), by (with_reducible repeat (first | apply Kd.R_alloc | apply Kd.R_drewN | apply Kd.R_drew)); exact HO_3.out, HB.out⟩
  ·rw [if_neg c3] at H
   exact absurd H (by simp)
 ·rw [if_neg c2] at H
  exact absurd H (by simp)

def impl_inRange.f (a0 : Int) (a1 : Int) (a2 : Int) : Option (Bool) := if a1 ≤ a0 then (some (decide (a0 ≤ a2))) else (some false)
set_option maxHeartbeats 8000000 in
set_option maxRecDepth 100000 in
theorem impl_inRange.calls (a0 : Int) (a1 : Int) (a2 : Int) (r : Bool) (w : World) (h : impl_inRange.f a0 a1 a2 = some r) :
    Calls Tryd.prog 44 #[.int .i64 a0, .int .i64 a1, .int .i64 a2] w fun e w' => e = .returned (.bool r) ∧ Drawn0 w w' := by
  have H : (if a1 ≤ a0 then (some (decide (a0 ≤ a2))) else (some false)) = some r := h
  clear h
  by_cases c4 : a1 ≤ a0
  · rw [if_pos c4] at H
    have c4b0 : decide (a1 ≤ a0) = true := decide_eq_true c4
    clear c4
    obtain rfl := Option.some.inj H
    go_enter Tryd.func44, Tryd.ntmps44
    go_wp2
    go_ret
    exact ⟨by first | rfl | (simp; done) | (simp [*]; done), by repeat (first | exact Drawn0.refl _ | apply Drawn0.step)⟩
  · rw [if_neg c4] at H
    have c4b0 : decide (a1 ≤ a0) = false := decide_eq_false c4
    clear c4
    obtain rfl := Option.some.inj H
    go_enter Tryd.func44, Tryd.ntmps44
    go_wp2
    go_ret
    exact ⟨by first | rfl | (simp; done) | (simp [*]; done), by repeat (first | exact Drawn0.refl _ | apply Drawn0.step)⟩

def impl_isCode.f (a0 : Int) : Option (Bool) := (impl_inRange.f a0 1 5).bind fun t186 => (some t186)
set_option maxHeartbeats 8000000 in
set_option maxRecDepth 100000 in
theorem impl_isCode.calls (a0 : Int) (r : Bool) (w : World) (h : impl_isCode.f a0 = some r) :
    Calls Tryd.prog 33 #[.int .i64 a0] w fun e w' => e = .returned (.bool r) ∧ Drawn0 w w' := by
  have H : ((impl_inRange.f a0 1 5).bind fun t186 => (some t186)) = some r := h
  clear h
  replace H := Option.bind_eq_some_iff.mp H
  obtain ⟨t186, A20, H⟩ := H
  replace H : (some t186) = some r := H
  have A2 := Aside0.mk A20
  clear A20
  obtain rfl := Option.some.inj H
  go_enter Tryd.func33, Tryd.ntmps33
  go_wp2_with (first | ((with_reducible refine gate_callee (f := 44) rfl ?_); refine goesL_ (some 4) rfl rfl Tryd.func44 (by kernel_rfl) rfl #[.int .i64 a0, .int .i64 1, .int .i64 5] rfl (by (try simp only [List.map_toArray, List.map_cons, List.map_nil]); first | done | rfl | (simp only [List.length_drop, List.length_take]; rfl)) ?_; (with_reducible refine (impl_inRange.calls a0 1 5 t186 _ A2.out).mono ?_); rintro e w' ⟨rfl, ⟨nd, rfl⟩⟩; refine ⟨_, rfl, ?_⟩))
  go_ret
  exact ⟨by first | rfl | (simp; done) | (simp [*]; done), by repeat (first | exact Drawn0.refl _ | apply Drawn0.step)⟩

abbrev utf8_FullRuneInString.q16_0 : Array Bool := #[false, false, false, false, false, false, false, false, false, false, false, false, false, false, false, false]
abbrev utf8_FullRuneInString.q16_1 : Array Bool := #[true, false, false, false, false, false, false, false, false, false, false, false, false, false, false, false]
abbrev utf8_FullRuneInString.q16_2 : Array Bool := #[true, true, false, false, false, false, false, false, false, false, false, false, false, false, false, false]
abbrev utf8_FullRuneInString.q16_3 : Array Bool := #[true, true, true, false, false, false, false, false, false, false, false, false, false, false, false, false]
abbrev utf8_FullRuneInString.q16_4 : Array Bool := #[true, true, true, true, false, false, false, false, false, false, false, false, false, false, false, false]
abbrev utf8_FullRuneInString.q16_5 : Array Bool := #[true, true, true, true, true, false, false, false, false, false, false, false, false, false, false, false]
abbrev utf8_FullRuneInString.q16_6 : Array Bool := #[true, true, true, true, true, true, false, false, false, false, false, false, false, false, false, false]
abbrev utf8_FullRuneInString.q16_7 : Array Bool := #[true, true, true, true, true, true, true, false, false, false, false, false, false, false, false, false]
abbrev utf8_FullRuneInString.q16_8 : Array Bool := #[true, true, true, true, true, true, true, true, false, false, false, false, false, false, false, false]
abbrev utf8_FullRuneInString.q16_9 : Array Bool := #[true, true, true, true, true, true, true, true, true, false, false, false, false, false, false, false]
abbrev utf8_FullRuneInString.q16_10 : Array Bool := #[true, true, true, true, true, true, true, true, true, true, false, false, false, false, false, false]
abbrev utf8_FullRuneInString.q16_11 : Array Bool := #[true, true, true, true, true, true, true, true, true, true, true, false, false, false, false, false]
abbrev utf8_FullRuneInString.q16_12 : Array Bool := #[true, true, true, true, true, true, true, true, true, true, true, true, false, false, false, false]
abbrev utf8_FullRuneInString.q16_13 : Array Bool := #[true, true, true, true, true, true, true, true, true, true, true, true, true, false, false, false]
abbrev utf8_FullRuneInString.q16_14 : Array Bool := #[true, true, true, true, true, true, true, true, true, true, true, true, true, true, false, false]
abbrev utf8_FullRuneInString.q16_15 : Array Bool := #[true, true, true, true, true, true, true, true, true, true, true, true, true, true, true, false]
abbrev utf8_FullRuneInString.q16_16 : Array Bool := #[true, true, true, true, true, true, true, true, true, true, true, true, true, true, true, true]
section
variable {P : Program} {ops : Array Oper} {Q : Exit → Act → World → Prop} {md : Region.Mode} {S : World → Prop} {ds : List Nat} {oi : Oper} {v : Value} {fuel : Nat} {l : Array Bool} {a a' : Act} {w : World}
theorem utf8_FullRuneInString.pv (i : Nat) (N : Tmp) (l' : Array Bool) (h : wpAnyLast P md ops Q S ds fuel l' a' w) (hi : ops[i]? = some oi := by rfl) (hN : oi.dst = some N := by rfl) (hc : anyB md ops l l' i = true := by kernel_rfl)
    (hQ : ∀ c a w, Q (.panic c) (a.put oi.dst v) w → Q (.panic c) a w := by exact fun _ _ _ h => h) (hw : Region.wanted oi (yielded ops a.tmps) = true := by rfl)
    (hy : ∀ w, (execOp a.eval oi).run P w = .ok (.value v) w := by (intro w'; go_simp; with_reducible rfl)) (ha : a.put (some N) v = a' := by (simp only [Act.put, List.setIfInBounds_toArray, List.set_cons_zero, List.set_cons_succ, i64_w, i32_w]; rfl)) :
    wpAnyLast P md ops Q S ds (fuel + 1) l a w := pure_ l' hi hN hc hQ (.inl ⟨hw, hy⟩) ha h
theorem utf8_FullRuneInString.pu (i : Nat) (N : Tmp) (l' : Array Bool) (h : wpAnyLast P md ops Q S ds fuel l' a' w) (hi : ops[i]? = some oi := by rfl) (hN : oi.dst = some N := by rfl) (hc : anyB md ops l l' i = true := by kernel_rfl)
    (hQ : ∀ c a w, Q (.panic c) (a.put oi.dst undef) w → Q (.panic c) a w := by exact fun _ _ _ h => h) (hw : Region.wanted oi (yielded ops a.tmps) = false := by rfl)
    (ha : a.put (some N) undef = a' := by (simp only [Act.put, List.setIfInBounds_toArray, List.set_cons_zero, List.set_cons_succ, i64_w, i32_w]; rfl)) :
    wpAnyLast P md ops Q S ds (fuel + 1) l a w := pure_ l' hi hN hc hQ (.inr ⟨hw, rfl⟩) ha h
end
theorem utf8_FullRuneInString.tv {P : Program} {ops : Array Oper} {Q : Exit → Act → World → Prop} {md : Region.Mode} {S : World → Prop} {ds : List Nat} {oi : Oper} {v : Value} {fuel : Nat} {l : Array Bool} {a a' : Act} {w : World}
    (hS : S w) (i : Nat) (N : Tmp) (l' : Array Bool) (h : wpAnyLast P md ops Q S ds fuel l' a' w) (hi : ops[i]? = some oi := by rfl) (hN : oi.dst = some N := by rfl) (hc : takeB md ops ds l l' i = true := by kernel_rfl)
    (hQ : ∀ c a w, Q (.panic c) (a.put oi.dst v) w → Q (.panic c) a w := by exact fun _ _ _ h => h) (hw : Region.wanted oi (yielded ops a.tmps) = true := by rfl)
    (hy : ∀ w, S w → (execOp a.eval oi).run P w = .ok (.value v) w := by (rintro w' ⟨s0, s1⟩; go_simp; with_reducible rfl)) (ha : a.put (some N) v = a' := by (simp only [Act.put, List.setIfInBounds_toArray, List.set_cons_zero, List.set_cons_succ, i64_w, i32_w]; rfl)) :
    wpAnyLast P md ops Q S ds (fuel + 1) l a w := take_ l' hi hN hc hQ (.inl ⟨hw, hy⟩) hS ha h
def utf8_FullRuneInString.N (n x b1 b2 : Nat) : Bool := decide (x % 8 ≤ n) || ((decide (1 < n) && (decide (b1 < Lib.accLo (x / 16)) || decide (Lib.accHi (x / 16) < b1))) || (decide (2 < n) && (decide (b2 < 128) || decide (191 < b2))))
def utf8_FullRuneInString.f (s : ByteArray) : Option Bool := some (if s.size = 0 then false else utf8_FullRuneInString.N s.size (Lib.firstT (s.get! 0).toNat) (s.get! 1).toNat (s.get! 2).toNat)
set_option maxHeartbeats 8000000 in
set_option maxRecDepth 100000 in
theorem utf8_FullRuneInString.calls (s : ByteArray) (r : Bool) (w : World) (hT : Lib.Utf8Tabs 0 1 w) (h : utf8_FullRuneInString.f s = some r) :
    Calls Tryd.prog 59 #[.string s] w fun e w' => e = .returned (.bool r) ∧ Below w.heap.size w w' := by
  have u84 := Tryd.underlying84
  have h := Option.some.inj h
  by_cases h0 : s.size = 0
  · rw [if_pos h0] at h
    subst h
    have hz : (s.size : Int) = 0 := by omega
    go_enter Tryd.func59, Tryd.ntmps59
    go_wp2
    go_ret
    exact ⟨rfl, Below.refl _ _⟩
  rw [if_neg h0] at h
  have hz0 : (0 : Int) < (s.size : Int) := by omega
  have hz0' : ¬ ((s.size : Int) = 0) := by omega
  obtain ⟨x0, hx0⟩ : ∃ x0, s.get! 0 = x0 := ⟨_, rfl⟩
  obtain ⟨x1, hx1⟩ : ∃ x1, s.get! 1 = x1 := ⟨_, rfl⟩
  obtain ⟨x2, hx2⟩ : ∃ x2, s.get! 2 = x2 := ⟨_, rfl⟩
  have hs0 : s[0]'(by omega) = x0 := by rw [← hx0]; exact (Utf8W.get!_of_lt s 0 (by omega)).symm
  have l0 := x0.toNat_lt
  have l1 := x1.toNat_lt
  have l2 := x2.toNat_lt
  rw [hx0, hx1, hx2] at h
  have hc0 := hT.1 x0.toNat (by omega)
  rcases Lib.firstT_cases x0.toNat with hX | hX | hX | hX | hX | hX | hX | hX | hX
  · rw [hX] at hc0 h
    have hr : utf8_FullRuneInString.N s.size 240 x1.toNat x2.toNat = true := by unfold utf8_FullRuneInString.N; simp
    rw [hr] at h
    subst h
    clear hT hX
    go_enter Tryd.func59, Tryd.ntmps59
    go_wp2
    go_ret
    exact ⟨rfl, Below.refl _ _⟩
  · rw [hX] at hc0 h
    have hr : utf8_FullRuneInString.N s.size 241 x1.toNat x2.toNat = true := by unfold utf8_FullRuneInString.N; simp; omega
    rw [hr] at h
    subst h
    clear hT hX
    have hge : (1 : Int) ≤ (s.size : Int) := by omega
    go_enter Tryd.func59, Tryd.ntmps59
    go_wp2
    go_ret
    exact ⟨rfl, Below.refl _ _⟩
  · rw [hX] at hc0 h
    have ha0 := (hT.2 0 (by omega)).1
    have ha1 := (hT.2 0 (by omega)).2
    simp only [Lib.accLo, Lib.accHi, Nat.reduceMul, Nat.reduceAdd, Nat.reduceEqDiff, if_true, if_false] at ha0 ha1
    by_cases hn : 2 ≤ s.size
    · have hr : utf8_FullRuneInString.N s.size 2 x1.toNat x2.toNat = true := by unfold utf8_FullRuneInString.N; simp; omega
      rw [hr] at h
      subst h
      clear hT hX
      have hge : (2 : Int) ≤ (s.size : Int) := by omega
      go_enter Tryd.func59, Tryd.ntmps59
      go_wp2
      go_ret
      exact ⟨rfl, Below.refl _ _⟩
    have hn1 : s.size = 1 := by omega
    rw [hn1] at h
    have hsz : (s.size : Int) = 1 := by omega
    have hr : utf8_FullRuneInString.N 1 2 x1.toNat x2.toNat = false := by unfold utf8_FullRuneInString.N; simp only [Lib.accLo, Lib.accHi, Nat.reduceMod, Nat.reduceDiv, Nat.reduceEqDiff, if_true, if_false, Nat.reduceLeDiff, Nat.reduceLT, decide_true, decide_false]; simp
    rw [hr] at h
    subst h
    clear hT hX
    go_enter Tryd.func59, Tryd.ntmps59
    have hk0 : (w.alloc (Obj.cells #[Value.int .u8 128, Value.int .u8 191] 84)).cell? ⟨w.heap.size, 0, none⟩ = some (.int .u8 128) := bc0 (heap_alloc_new w (Obj.cells #[Value.int .u8 128, Value.int .u8 191] 84))
    have hk1 : (w.alloc (Obj.cells #[Value.int .u8 128, Value.int .u8 191] 84)).cell? ⟨w.heap.size, 1, none⟩ = some (.int .u8 191) := bc1 (heap_alloc_new w (Obj.cells #[Value.int .u8 128, Value.int .u8 191] 84))
    go_wp2
    refine start_ (n := 16) (S := fun w' => w'.cell? ⟨w.heap.size, 0, none⟩ = some (.int .u8 128) ∧ w'.cell? ⟨w.heap.size, 1, none⟩ = some (.int .u8 191)) (ds := []) utf8_FullRuneInString.q16_0 (by kernel_rfl) rfl rfl ⟨hk0, hk1⟩ (fun hHeld => ?_)
    refine utf8_FullRuneInString.pv 0 23 utf8_FullRuneInString.q16_1 ?_
    refine utf8_FullRuneInString.pv 1 24 utf8_FullRuneInString.q16_2 ?_
    refine utf8_FullRuneInString.pv 2 25 utf8_FullRuneInString.q16_3 ?_
    refine utf8_FullRuneInString.pu 3 26 utf8_FullRuneInString.q16_4 ?_
    refine utf8_FullRuneInString.pu 4 27 utf8_FullRuneInString.q16_5 ?_
    refine utf8_FullRuneInString.pu 5 28 utf8_FullRuneInString.q16_6 ?_
    refine utf8_FullRuneInString.pu 6 29 utf8_FullRuneInString.q16_7 ?_
    refine utf8_FullRuneInString.pu 7 30 utf8_FullRuneInString.q16_8 ?_
    refine utf8_FullRuneInString.pu 8 31 utf8_FullRuneInString.q16_9 ?_
    refine utf8_FullRuneInString.pu 9 32 utf8_FullRuneInString.q16_10 ?_
    refine utf8_FullRuneInString.pu 10 33 utf8_FullRuneInString.q16_11 ?_
    refine utf8_FullRuneInString.pu 11 34 utf8_FullRuneInString.q16_12 ?_
    refine utf8_FullRuneInString.pu 12 35 utf8_FullRuneInString.q16_13 ?_
    refine utf8_FullRuneInString.pu 13 36 utf8_FullRuneInString.q16_14 ?_
    refine utf8_FullRuneInString.pu 14 37 utf8_FullRuneInString.q16_15 ?_
    refine utf8_FullRuneInString.pv 15 38 utf8_FullRuneInString.q16_16 ?_
    refine done_ (by kernel_rfl) ?_
    go_wp2
    go_ret
    exact ⟨rfl, ((Below.refl _ _).alloc (Nat.le_refl _) _).drew⟩
  · rw [hX] at hc0 h
    have ha0 := (hT.2 1 (by omega)).1
    have ha1 := (hT.2 1 (by omega)).2
    simp only [Lib.accLo, Lib.accHi, Nat.reduceMul, Nat.reduceAdd, Nat.reduceEqDiff, if_true, if_false] at ha0 ha1
    by_cases hn : 3 ≤ s.size
    · have hr : utf8_FullRuneInString.N s.size 19 x1.toNat x2.toNat = true := by unfold utf8_FullRuneInString.N; simp; omega
      rw [hr] at h
      subst h
      clear hT hX
      have hge : (3 : Int) ≤ (s.size : Int) := by omega
      go_enter Tryd.func59, Tryd.ntmps59
      go_wp2
      go_ret
      exact ⟨rfl, Below.refl _ _⟩
    by_cases hn1 : s.size = 1
    · rw [hn1] at h
      have hsz : (s.size : Int) = 1 := by omega
      have hr : utf8_FullRuneInString.N 1 19 x1.toNat x2.toNat = false := by unfold utf8_FullRuneInString.N; simp only [Lib.accLo, Lib.accHi, Nat.reduceMod, Nat.reduceDiv, Nat.reduceEqDiff, if_true, if_false, Nat.reduceLeDiff, Nat.reduceLT, decide_true, decide_false]; simp
      rw [hr] at h
      subst h
      clear hT hX
      go_enter Tryd.func59, Tryd.ntmps59
      have hk0 : (w.alloc (Obj.cells #[Value.int .u8 160, Value.int .u8 191] 84)).cell? ⟨w.heap.size, 0, none⟩ = some (.int .u8 160) := bc0 (heap_alloc_new w (Obj.cells #[Value.int .u8 160, Value.int .u8 191] 84))
      have hk1 : (w.alloc (Obj.cells #[Value.int .u8 160, Value.int .u8 191] 84)).cell? ⟨w.heap.size, 1, none⟩ = some (.int .u8 191) := bc1 (heap_alloc_new w (Obj.cells #[Value.int .u8 160, Value.int .u8 191] 84))
      go_wp2
      refine start_ (n := 16) (S := fun w' => w'.cell? ⟨w.heap.size, 0, none⟩ = some (.int .u8 160) ∧ w'.cell? ⟨w.heap.size, 1, none⟩ = some (.int .u8 191)) (ds := []) utf8_FullRuneInString.q16_0 (by kernel_rfl) rfl rfl ⟨hk0, hk1⟩ (fun hHeld => ?_)
      refine utf8_FullRuneInString.pv 0 23 utf8_FullRuneInString.q16_1 ?_
      refine utf8_FullRuneInString.pv 1 24 utf8_FullRuneInString.q16_2 ?_
      refine utf8_FullRuneInString.pv 2 25 utf8_FullRuneInString.q16_3 ?_
      refine utf8_FullRuneInString.pu 3 26 utf8_FullRuneInString.q16_4 ?_
      refine utf8_FullRuneInString.pu 4 27 utf8_FullRuneInString.q16_5 ?_
      refine utf8_FullRuneInString.pu 5 28 utf8_FullRuneInString.q16_6 ?_
      refine utf8_FullRuneInString.pu 6 29 utf8_FullRuneInString.q16_7 ?_
      refine utf8_FullRuneInString.pu 7 30 utf8_FullRuneInString.q16_8 ?_
      refine utf8_FullRuneInString.pu 8 31 utf8_FullRuneInString.q16_9 ?_
      refine utf8_FullRuneInString.pu 9 32 utf8_FullRuneInString.q16_10 ?_
      refine utf8_FullRuneInString.pu 10 33 utf8_FullRuneInString.q16_11 ?_
      refine utf8_FullRuneInString.pu 11 34 utf8_FullRuneInString.q16_12 ?_
      refine utf8_FullRuneInString.pu 12 35 utf8_FullRuneInString.q16_13 ?_
      refine utf8_FullRuneInString.pu 13 36 utf8_FullRuneInString.q16_14 ?_
      refine utf8_FullRuneInString.pu 14 37 utf8_FullRuneInString.q16_15 ?_
      refine utf8_FullRuneInString.pv 15 38 utf8_FullRuneInString.q16_16 ?_
      refine done_ (by kernel_rfl) ?_
      go_wp2
      go_ret
      exact ⟨rfl, ((Below.refl _ _).alloc (Nat.le_refl _) _).drew⟩
    have hn2 : s.size = 2 := by omega
    rw [hn2] at h
    have hsz : (s.size : Int) = 2 := by omega
    have hs1 : s[1]'(by omega) = x1 := by rw [← hx1]; exact (Utf8W.get!_of_lt s 1 (by omega)).symm
    by_cases hb1 : x1.toNat < 160
    · skip
      have hr : utf8_FullRuneInString.N 2 19 x1.toNat x2.toNat = true := by unfold utf8_FullRuneInString.N; simp only [Lib.accLo, Lib.accHi, Nat.reduceMod, Nat.reduceDiv, Nat.reduceEqDiff, if_true, if_false, Nat.reduceLeDiff, Nat.reduceLT, decide_true, decide_false]; simp; omega
      rw [hr] at h
      subst h
      clear hT hX
      have hb1z : (x1.toNat : Int) < 160 := by omega
      have hb1d : decide ((x1.toNat : Int) < 160) = true := decide_eq_true hb1z
      go_enter Tryd.func59, Tryd.ntmps59
      have hk0 : (w.alloc (Obj.cells #[Value.int .u8 160, Value.int .u8 191] 84)).cell? ⟨w.heap.size, 0, none⟩ = some (.int .u8 160) := bc0 (heap_alloc_new w (Obj.cells #[Value.int .u8 160, Value.int .u8 191] 84))
      have hk1 : (w.alloc (Obj.cells #[Value.int .u8 160, Value.int .u8 191] 84)).cell? ⟨w.heap.size, 1, none⟩ = some (.int .u8 191) := bc1 (heap_alloc_new w (Obj.cells #[Value.int .u8 160, Value.int .u8 191] 84))
      go_wp2
      refine start_ (n := 16) (S := fun w' => w'.cell? ⟨w.heap.size, 0, none⟩ = some (.int .u8 160) ∧ w'.cell? ⟨w.heap.size, 1, none⟩ = some (.int .u8 191)) (ds := []) utf8_FullRuneInString.q16_0 (by kernel_rfl) rfl rfl ⟨hk0, hk1⟩ (fun hHeld => ?_)
      refine utf8_FullRuneInString.pv 0 23 utf8_FullRuneInString.q16_1 ?_
      refine utf8_FullRuneInString.pv 1 24 utf8_FullRuneInString.q16_2 ?_
      refine utf8_FullRuneInString.pv 2 25 utf8_FullRuneInString.q16_3 ?_
      refine utf8_FullRuneInString.pv 3 26 utf8_FullRuneInString.q16_4 ?_
      refine utf8_FullRuneInString.pv 5 28 #[true, true, true, true, false, true, false, false, false, false, false, false, false, false, false, false] ?_
      refine utf8_FullRuneInString.tv hHeld 4 27 utf8_FullRuneInString.q16_6 ?_
      refine utf8_FullRuneInString.tv hHeld 6 29 utf8_FullRuneInString.q16_7 ?_
      refine utf8_FullRuneInString.pv 7 30 utf8_FullRuneInString.q16_8 ?_
      refine utf8_FullRuneInString.pv 8 31 utf8_FullRuneInString.q16_9 ?_
      refine utf8_FullRuneInString.pu 9 32 utf8_FullRuneInString.q16_10 ?_
      refine utf8_FullRuneInString.pu 10 33 utf8_FullRuneInString.q16_11 ?_
      refine utf8_FullRuneInString.pu 11 34 utf8_FullRuneInString.q16_12 ?_
      refine utf8_FullRuneInString.pu 12 35 utf8_FullRuneInString.q16_13 ?_
      refine utf8_FullRuneInString.pu 13 36 utf8_FullRuneInString.q16_14 ?_
      refine utf8_FullRuneInString.pv 14 37 utf8_FullRuneInString.q16_15 ?_
      refine utf8_FullRuneInString.pv 15 38 utf8_FullRuneInString.q16_16 ?_
      refine done_ (by kernel_rfl) ?_
      go_wp2
      go_ret
      exact ⟨rfl, ((Below.refl _ _).alloc (Nat.le_refl _) _).drew⟩
    have hb1z : ¬ ((x1.toNat : Int) < 160) := by omega
    have hb1d : decide ((x1.toNat : Int) < 160) = false := decide_eq_false hb1z
    by_cases hb2 : 191 < x1.toNat
    · skip
      have hr : utf8_FullRuneInString.N 2 19 x1.toNat x2.toNat = true := by unfold utf8_FullRuneInString.N; simp only [Lib.accLo, Lib.accHi, Nat.reduceMod, Nat.reduceDiv, Nat.reduceEqDiff, if_true, if_false, Nat.reduceLeDiff, Nat.reduceLT, decide_true, decide_false]; simp; omega
      rw [hr] at h
      subst h
      clear hT hX
      have hb2z : (191 : Int) < (x1.toNat : Int) := by omega
      have hb2d : decide ((191 : Int) < (x1.toNat : Int)) = true := decide_eq_true hb2z
      go_enter Tryd.func59, Tryd.ntmps59
      have hk0 : (w.alloc (Obj.cells #[Value.int .u8 160, Value.int .u8 191] 84)).cell? ⟨w.heap.size, 0, none⟩ = some (.int .u8 160) := bc0 (heap_alloc_new w (Obj.cells #[Value.int .u8 160, Value.int .u8 191] 84))
      have hk1 : (w.alloc (Obj.cells #[Value.int .u8 160, Value.int .u8 191] 84)).cell? ⟨w.heap.size, 1, none⟩ = some (.int .u8 191) := bc1 (heap_alloc_new w (Obj.cells #[Value.int .u8 160, Value.int .u8 191] 84))
      go_wp2
      refine start_ (n := 16) (S := fun w' => w'.cell? ⟨w.heap.size, 0, none⟩ = some (.int .u8 160) ∧ w'.cell? ⟨w.heap.size, 1, none⟩ = some (.int .u8 191)) (ds := []) utf8_FullRuneInString.q16_0 (by kernel_rfl) rfl rfl ⟨hk0, hk1⟩ (fun hHeld => ?_)
      refine utf8_FullRuneInString.pv 0 23 utf8_FullRuneInString.q16_1 ?_
      refine utf8_FullRuneInString.pv 1 24 utf8_FullRuneInString.q16_2 ?_
      refine utf8_FullRuneInString.pv 2 25 utf8_FullRuneInString.q16_3 ?_
      refine utf8_FullRuneInString.pv 3 26 utf8_FullRuneInString.q16_4 ?_
      refine utf8_FullRuneInString.pv 5 28 #[true, true, true, true, false, true, false, false, false, false, false, false, false, false, false, false] ?_
      refine utf8_FullRuneInString.tv hHeld 4 27 utf8_FullRuneInString.q16_6 ?_
      refine utf8_FullRuneInString.tv hHeld 6 29 utf8_FullRuneInString.q16_7 ?_
      refine utf8_FullRuneInString.pv 7 30 utf8_FullRuneInString.q16_8 ?_
      refine utf8_FullRuneInString.pv 8 31 utf8_FullRuneInString.q16_9 ?_
      refine utf8_FullRuneInString.pv 9 32 utf8_FullRuneInString.q16_10 ?_
      refine utf8_FullRuneInString.pv 11 34 #[true, true, true, true, true, true, true, true, true, true, false, true, false, false, false, false] ?_
      refine utf8_FullRuneInString.tv hHeld 10 33 utf8_FullRuneInString.q16_12 ?_
      refine utf8_FullRuneInString.tv hHeld 12 35 utf8_FullRuneInString.q16_13 ?_
      refine utf8_FullRuneInString.pv 13 36 utf8_FullRuneInString.q16_14 ?_
      refine utf8_FullRuneInString.pv 14 37 utf8_FullRuneInString.q16_15 ?_
      refine utf8_FullRuneInString.pv 15 38 utf8_FullRuneInString.q16_16 ?_
      refine done_ (by kernel_rfl) ?_
      go_wp2
      go_ret
      exact ⟨rfl, ((Below.refl _ _).alloc (Nat.le_refl _) _).drew⟩
    have hb2z : ¬ ((191 : Int) < (x1.toNat : Int)) := by omega
    have hb2d : decide ((191 : Int) < (x1.toNat : Int)) = false := decide_eq_false hb2z
    have hr : utf8_FullRuneInString.N 2 19 x1.toNat x2.toNat = false := by unfold utf8_FullRuneInString.N; simp only [Lib.accLo, Lib.accHi, Nat.reduceMod, Nat.reduceDiv, Nat.reduceEqDiff, if_true, if_false, Nat.reduceLeDiff, Nat.reduceLT, decide_true, decide_false]; simp; omega
    rw [hr] at h
    subst h
    clear hT hX
    go_enter Tryd.func59, Tryd.ntmps59
    have hk0 : (w.alloc (Obj.cells #[Value.int .u8 160, Value.int .u8 191] 84)).cell? ⟨w.heap.size, 0, none⟩ = some (.int .u8 160) := bc0 (heap_alloc_new w (Obj.cells #[Value.int .u8 160, Value.int .u8 191] 84))
    have hk1 : (w.alloc (Obj.cells #[Value.int .u8 160, Value.int .u8 191] 84)).cell? ⟨w.heap.size, 1, none⟩ = some (.int .u8 191) := bc1 (heap_alloc_new w (Obj.cells #[Value.int .u8 160, Value.int .u8 191] 84))
    go_wp2
    refine start_ (n := 16) (S := fun w' => w'.cell? ⟨w.heap.size, 0, none⟩ = some (.int .u8 160) ∧ w'.cell? ⟨w.heap.size, 1, none⟩ = some (.int .u8 191)) (ds := []) utf8_FullRuneInString.q16_0 (by kernel_rfl) rfl rfl ⟨hk0, hk1⟩ (fun hHeld => ?_)
    refine utf8_FullRuneInString.pv 0 23 utf8_FullRuneInString.q16_1 ?_
    refine utf8_FullRuneInString.pv 1 24 utf8_FullRuneInString.q16_2 ?_
    refine utf8_FullRuneInString.pv 2 25 utf8_FullRuneInString.q16_3 ?_
    refine utf8_FullRuneInString.pv 3 26 utf8_FullRuneInString.q16_4 ?_
    refine utf8_FullRuneInString.pv 5 28 #[true, true, true, true, false, true, false, false, false, false, false, false, false, false, false, false] ?_
    refine utf8_FullRuneInString.tv hHeld 4 27 utf8_FullRuneInString.q16_6 ?_
    refine utf8_FullRuneInString.tv hHeld 6 29 utf8_FullRuneInString.q16_7 ?_
    refine utf8_FullRuneInString.pv 7 30 utf8_FullRuneInString.q16_8 ?_
    refine utf8_FullRuneInString.pv 8 31 utf8_FullRuneInString.q16_9 ?_
    refine utf8_FullRuneInString.pv 9 32 utf8_FullRuneInString.q16_10 ?_
    refine utf8_FullRuneInString.pv 11 34 #[true, true, true, true, true, true, true, true, true, true, false, true, false, false, false, false] ?_
    refine utf8_FullRuneInString.tv hHeld 10 33 utf8_FullRuneInString.q16_12 ?_
    refine utf8_FullRuneInString.tv hHeld 12 35 utf8_FullRuneInString.q16_13 ?_
    refine utf8_FullRuneInString.pv 13 36 utf8_FullRuneInString.q16_14 ?_
    refine utf8_FullRuneInString.pv 14 37 utf8_FullRuneInString.q16_15 ?_
    refine utf8_FullRuneInString.pv 15 38 utf8_FullRuneInString.q16_16 ?_
    refine done_ (by kernel_rfl) ?_
    go_wp2
    go_ret
    exact ⟨rfl, ((Below.refl _ _).alloc (Nat.le_refl _) _).drew⟩
  · rw [hX] at hc0 h
    have ha0 := (hT.2 0 (by omega)).1
    have ha1 := (hT.2 0 (by omega)).2
    simp only [Lib.accLo, Lib.accHi, Nat.reduceMul, Nat.reduceAdd, Nat.reduceEqDiff, if_true, if_false] at ha0 ha1
    by_cases hn : 3 ≤ s.size
    · have hr : utf8_FullRuneInString.N s.size 3 x1.toNat x2.toNat = true := by unfold utf8_FullRuneInString.N; simp; omega
      rw [hr] at h
      subst h
      clear hT hX
      have hge : (3 : Int) ≤ (s.size : Int) := by omega
      go_enter Tryd.func59, Tryd.ntmps59
      go_wp2
      go_ret
      exact ⟨rfl, Below.refl _ _⟩
    by_cases hn1 : s.size = 1
    · rw [hn1] at h
      have hsz : (s.size : Int) = 1 := by omega
      have hr : utf8_FullRuneInString.N 1 3 x1.toNat x2.toNat = false := by unfold utf8_FullRuneInString.N; simp only [Lib.accLo, Lib.accHi, Nat.reduceMod, Nat.reduceDiv, Nat.reduceEqDiff, if_true, if_false, Nat.reduceLeDiff, Nat.reduceLT, decide_true, decide_false]; simp
      rw [hr] at h
      subst h
      clear hT hX
      go_enter Tryd.func59, Tryd.ntmps59
      have hk0 : (w.alloc (Obj.cells #[Value.int .u8 128, Value.int .u8 191] 84)).cell? ⟨w.heap.size, 0, none⟩ = some (.int .u8 128) := bc0 (heap_alloc_new w (Obj.cells #[Value.int .u8 128, Value.int .u8 191] 84))
      have hk1 : (w.alloc (Obj.cells #[Value.int .u8 128, Value.int .u8 191] 84)).cell? ⟨w.heap.size, 1, none⟩ = some (.int .u8 191) := bc1 (heap_alloc_new w (Obj.cells #[Value.int .u8 128, Value.int .u8 191] 84))
      go_wp2
      refine start_ (n := 16) (S := fun w' => w'.cell? ⟨w.heap.size, 0, none⟩ = some (.int .u8 128) ∧ w'.cell? ⟨w.heap.size, 1, none⟩ = some (.int .u8 191)) (ds := []) utf8_FullRuneInString.q16_0 (by kernel_rfl) rfl rfl ⟨hk0, hk1⟩ (fun hHeld => ?_)
      refine utf8_FullRuneInString.pv 0 23 utf8_FullRuneInString.q16_1 ?_
      refine utf8_FullRuneInString.pv 1 24 utf8_FullRuneInString.q16_2 ?_
      refine utf8_FullRuneInString.pv 2 25 utf8_FullRuneInString.q16_3 ?_
      refine utf8_FullRuneInString.pu 3 26 utf8_FullRuneInString.q16_4 ?_
      refine utf8_FullRuneInString.pu 4 27 utf8_FullRuneInString.q16_5 ?_
      refine utf8_FullRuneInString.pu 5 28 utf8_FullRuneInString.q16_6 ?_
      refine utf8_FullRuneInString.pu 6 29 utf8_FullRuneInString.q16_7 ?_
      refine utf8_FullRuneInString.pu 7 30 utf8_FullRuneInString.q16_8 ?_
      refine utf8_FullRuneInString.pu 8 31 utf8_FullRuneInString.q16_9 ?_
      refine utf8_FullRuneInString.pu 9 32 utf8_FullRuneInString.q16_10 ?_
      refine utf8_FullRuneInString.pu 10 33 utf8_FullRuneInString.q16_11 ?_
      refine utf8_FullRuneInString.pu 11 34 utf8_FullRuneInString.q16_12 ?_
      refine utf8_FullRuneInString.pu 12 35 utf8_FullRuneInString.q16_13 ?_
      refine utf8_FullRuneInString.pu 13 36 utf8_FullRuneInString.q16_14 ?_
      refine utf8_FullRuneInString.pu 14 37 utf8_FullRuneInString.q16_15 ?_
      refine utf8_FullRuneInString.pv 15 38 utf8_FullRuneInString.q16_16 ?_
      refine done_ (by kernel_rfl) ?_
      go_wp2
      go_ret
      exact ⟨rfl, ((Below.refl _ _).alloc (Nat.le_refl _) _).drew⟩
    have hn2 : s.size = 2 := by omega
    rw [hn2] at h
    have hsz : (s.size : Int) = 2 := by omega
    have hs1 : s[1]'(by omega) = x1 := by rw [← hx1]; exact (Utf8W.get!_of_lt s 1 (by omega)).symm
    by_cases hb1 : x1.toNat < 128
    · skip
      have hr : utf8_FullRuneInString.N 2 3 x1.toNat x2.toNat = true := by unfold utf8_FullRuneInString.N; simp only [Lib.accLo, Lib.accHi, Nat.reduceMod, Nat.reduceDiv, Nat.reduceEqDiff, if_true, if_false, Nat.reduceLeDiff, Nat.reduceLT, decide_true, decide_false]; simp; omega
      rw [hr] at h
      subst h
      clear hT hX
      have hb1z : (x1.toNat : Int) < 128 := by omega
      have hb1d : decide ((x1.toNat : Int) < 128) = true := decide_eq_true hb1z
      go_enter Tryd.func59, Tryd.ntmps59
      have hk0 : (w.alloc (Obj.cells #[Value.int .u8 128, Value.int .u8 191] 84)).cell? ⟨w.heap.size, 0, none⟩ = some (.int .u8 128) := bc0 (heap_alloc_new w (Obj.cells #[Value.int .u8 128, Value.int .u8 191] 84))
      have hk1 : (w.alloc (Obj.cells #[Value.int .u8 128, Value.int .u8 191] 84)).cell? ⟨w.heap.size, 1, none⟩ = some (.int .u8 191) := bc1 (heap_alloc_new w (Obj.cells #[Value.int .u8 128, Value.int .u8 191] 84))
      go_wp2
      refine start_ (n := 16) (S := fun w' => w'.cell? ⟨w.heap.size, 0, none⟩ = some (.int .u8 128) ∧ w'.cell? ⟨w.heap.size, 1, none⟩ = some (.int .u8 191)) (ds := []) utf8_FullRuneInString.q16_0 (by kernel_rfl) rfl rfl ⟨hk0, hk1⟩ (fun hHeld => ?_)
      refine utf8_FullRuneInString.pv 0 23 utf8_FullRuneInString.q16_1 ?_
      refine utf8_FullRuneInString.pv 1 24 utf8_FullRuneInString.q16_2 ?_
      refine utf8_FullRuneInString.pv 2 25 utf8_FullRuneInString.q16_3 ?_
      refine utf8_FullRuneInString.pv 3 26 utf8_FullRuneInString.q16_4 ?_
      refine utf8_FullRuneInString.pv 5 28 #[true, true, true, true, false, true, false, false, false, false, false, false, false, false, false, false] ?_
      refine utf8_FullRuneInString.tv hHeld 4 27 utf8_FullRuneInString.q16_6 ?_
      refine utf8_FullRuneInString.tv hHeld 6 29 utf8_FullRuneInString.q16_7 ?_
      refine utf8_FullRuneInString.pv 7 30 utf8_FullRuneInString.q16_8 ?_
      refine utf8_FullRuneInString.pv 8 31 utf8_FullRuneInString.q16_9 ?_
      refine utf8_FullRuneInString.pu 9 32 utf8_FullRuneInString.q16_10 ?_
      refine utf8_FullRuneInString.pu 10 33 utf8_FullRuneInString.q16_11 ?_
      refine utf8_FullRuneInString.pu 11 34 utf8_FullRuneInString.q16_12 ?_
      refine utf8_FullRuneInString.pu 12 35 utf8_FullRuneInString.q16_13 ?_
      refine utf8_FullRuneInString.pu 13 36 utf8_FullRuneInString.q16_14 ?_
      refine utf8_FullRuneInString.pv 14 37 utf8_FullRuneInString.q16_15 ?_
      refine utf8_FullRuneInString.pv 15 38 utf8_FullRuneInString.q16_16 ?_
      refine done_ (by kernel_rfl) ?_
      go_wp2
      go_ret
      exact ⟨rfl, ((Below.refl _ _).alloc (Nat.le_refl _) _).drew⟩
    have hb1z : ¬ ((x1.toNat : Int) < 128) := by omega
    have hb1d : decide ((x1.toNat : Int) < 128) = false := decide_eq_false hb1z
    by_cases hb2 : 191 < x1.toNat
    · skip
      have hr : utf8_FullRuneInString.N 2 3 x1.toNat x2.toNat = true := by unfold utf8_FullRuneInString.N; simp only [Lib.accLo, Lib.accHi, Nat.reduceMod, Nat.reduceDiv, Nat.reduceEqDiff, if_true, if_false, Nat.reduceLeDiff, Nat.reduceLT, decide_true, decide_false]; simp; omega
      rw [hr] at h
      subst h
      clear hT hX
      have hb2z : (191 : Int) < (x1.toNat : Int) := by omega
      have hb2d : decide ((191 : Int) < (x1.toNat : Int)) = true := decide_eq_true hb2z
      go_enter Tryd.func59, Tryd.ntmps59
      have hk0 : (w.alloc (Obj.cells #[Value.int .u8 128, Value.int .u8 191] 84)).cell? ⟨w.heap.size, 0, none⟩ = some (.int .u8 128) := bc0 (heap_alloc_new w (Obj.cells #[Value.int .u8 128, Value.int .u8 191] 84))
      have hk1 : (w.alloc (Obj.cells #[Value.int .u8 128, Value.int .u8 191] 84)).cell? ⟨w.heap.size, 1, none⟩ = some (.int .u8 191) := bc1 (heap_alloc_new w (Obj.cells #[Value.int .u8 128, Value.int .u8 191] 84))
      go_wp2
      refine start_ (n := 16) (S := fun w' => w'.cell? ⟨w.heap.size, 0, none⟩ = some (.int .u8 128) ∧ w'.cell? ⟨w.heap.size, 1, none⟩ = some (.int .u8 191)) (ds := []) utf8_FullRuneInString.q16_0 (by kernel_rfl) rfl rfl ⟨hk0, hk1⟩ (fun hHeld => ?_)
      refine utf8_FullRuneInString.pv 0 23 utf8_FullRuneInString.q16_1 ?_
      refine utf8_FullRuneInString.pv 1 24 utf8_FullRuneInString.q16_2 ?_
      refine utf8_FullRuneInString.pv 2 25 utf8_FullRuneInString.q16_3 ?_
      refine utf8_FullRuneInString.pv 3 26 utf8_FullRuneInString.q16_4 ?_
      refine utf8_FullRuneInString.pv 5 28 #[true, true, true, true, false, true, false, false, false, false, false, false, false, false, false, false] ?_
      refine utf8_FullRuneInString.tv hHeld 4 27 utf8_FullRuneInString.q16_6 ?_
      refine utf8_FullRuneInString.tv hHeld 6 29 utf8_FullRuneInString.q16_7 ?_
      refine utf8_FullRuneInString.pv 7 30 utf8_FullRuneInString.q16_8 ?_
      refine utf8_FullRuneInString.pv 8 31 utf8_FullRuneInString.q16_9 ?_
      refine utf8_FullRuneInString.pv 9 32 utf8_FullRuneInString.q16_10 ?_
      refine utf8_FullRuneInString.pv 11 34 #[true, true, true, true, true, true, true, true, true, true, false, true, false, false, false, false] ?_
      refine utf8_FullRuneInString.tv hHeld 10 33 utf8_FullRuneInString.q16_12 ?_
      refine utf8_FullRuneInString.tv hHeld 12 35 utf8_FullRuneInString.q16_13 ?_
      refine utf8_FullRuneInString.pv 13 36 utf8_FullRuneInString.q16_14 ?_
      refine utf8_FullRuneInString.pv 14 37 utf8_FullRuneInString.q16_15 ?_
      refine utf8_FullRuneInString.pv 15 38 utf8_FullRuneInString.q16_16 ?_
      refine done_ (by kernel_rfl) ?_
      go_wp2
      go_ret
      exact ⟨rfl, ((Below.refl _ _).alloc (Nat.le_refl _) _).drew⟩
    have hb2z : ¬ ((191 : Int) < (x1.toNat : Int)) := by omega
    have hb2d : decide ((191 : Int) < (x1.toNat : Int)) = false := decide_eq_false hb2z
    have hr : utf8_FullRuneInString.N 2 3 x1.toNat x2.toNat = false := by unfold utf8_FullRuneInString.N; simp only [Lib.accLo, Lib.accHi, Nat.reduceMod, Nat.reduceDiv, Nat.reduceEqDiff, if_true, if_false, Nat.reduceLeDiff, Nat.reduceLT, decide_true, decide_false]; simp; omega
    rw [hr] at h
    subst h
    clear hT hX
    go_enter Tryd.func59, Tryd.ntmps59
    have hk0 : (w.alloc (Obj.cells #[Value.int .u8 128, Value.int .u8 191] 84)).cell? ⟨w.heap.size, 0, none⟩ = some (.int .u8 128) := bc0 (heap_alloc_new w (Obj.cells #[Value.int .u8 128, Value.int .u8 191] 84))
    have hk1 : (w.alloc (Obj.cells #[Value.int .u8 128, Value.int .u8 191] 84)).cell? ⟨w.heap.size, 1, none⟩ = some (.int .u8 191) := bc1 (heap_alloc_new w (Obj.cells #[Value.int .u8 128, Value.int .u8 191] 84))
    go_wp2
    refine start_ (n := 16) (S := fun w' => w'.cell? ⟨w.heap.size, 0, none⟩ = some (.int .u8 128) ∧ w'.cell? ⟨w.heap.size, 1, none⟩ = some (.int .u8 191)) (ds := []) utf8_FullRuneInString.q16_0 (by kernel_rfl) rfl rfl ⟨hk0, hk1⟩ (fun hHeld => ?_)
    refine utf8_FullRuneInString.pv 0 23 utf8_FullRuneInString.q16_1 ?_
    refine utf8_FullRuneInString.pv 1 24 utf8_FullRuneInString.q16_2 ?_
    refine utf8_FullRuneInString.pv 2 25 utf8_FullRuneInString.q16_3 ?_
    refine utf8_FullRuneInString.pv 3 26 utf8_FullRuneInString.q16_4 ?_
    refine utf8_FullRuneInString.pv 5 28 #[true, true, true, true, false, true, false, false, false, false, false, false, false, false, false, false] ?_
    refine utf8_FullRuneInString.tv hHeld 4 27 utf8_FullRuneInString.q16_6 ?_
    refine utf8_FullRuneInString.tv hHeld 6 29 utf8_FullRuneInString.q16_7 ?_
    refine utf8_FullRuneInString.pv 7 30 utf8_FullRuneInString.q16_8 ?_
    refine utf8_FullRuneInString.pv 8 31 utf8_FullRuneInString.q16_9 ?_
    refine utf8_FullRuneInString.pv 9 32 utf8_FullRuneInString.q16_10 ?_
    refine utf8_FullRuneInString.pv 11 34 #[true, true, true, true, true, true, true, true, true, true, false, true, false, false, false, false] ?_
    refine utf8_FullRuneInString.tv hHeld 10 33 utf8_FullRuneInString.q16_12 ?_
    refine utf8_FullRuneInString.tv hHeld 12 35 utf8_FullRuneInString.q16_13 ?_
    refine utf8_FullRuneInString.pv 13 36 utf8_FullRuneInString.q16_14 ?_
    refine utf8_FullRuneInString.pv 14 37 utf8_FullRuneInString.q16_15 ?_
    refine utf8_FullRuneInString.pv 15 38 utf8_FullRuneInString.q16_16 ?_
    refine done_ (by kernel_rfl) ?_
    go_wp2
    go_ret
    exact ⟨rfl, ((Below.refl _ _).alloc (Nat.le_refl _) _).drew⟩
  · rw [hX] at hc0 h
    have ha0 := (hT.2 2 (by omega)).1
    have ha1 := (hT.2 2 (by omega)).2
    simp only [Lib.accLo, Lib.accHi, Nat.reduceMul, Nat.reduceAdd, Nat.reduceEqDiff, if_true, if_false] at ha0 ha1
    by_cases hn : 3 ≤ s.size
    · have hr : utf8_FullRuneInString.N s.size 35 x1.toNat x2.toNat = true := by unfold utf8_FullRuneInString.N; simp; omega
      rw [hr] at h
      subst h
      clear hT hX
      have hge : (3 : Int) ≤ (s.size : Int) := by omega
      go_enter Tryd.func59, Tryd.ntmps59
      go_wp2
      go_ret
      exact ⟨rfl, Below.refl _ _⟩
    by_cases hn1 : s.size = 1
    · rw [hn1] at h
      have hsz : (s.size : Int) = 1 := by omega
      have hr : utf8_FullRuneInString.N 1 35 x1.toNat x2.toNat = false := by unfold utf8_FullRuneInString.N; simp only [Lib.accLo, Lib.accHi, Nat.reduceMod, Nat.reduceDiv, Nat.reduceEqDiff, if_true, if_false, Nat.reduceLeDiff, Nat.reduceLT, decide_true, decide_false]; simp
      rw [hr] at h
      subst h
      clear hT hX
      go_enter Tryd.func59, Tryd.ntmps59
      have hk0 : (w.alloc (Obj.cells #[Value.int .u8 128, Value.int .u8 159] 84)).cell? ⟨w.heap.size, 0, none⟩ = some (.int .u8 128) := bc0 (heap_alloc_new w (Obj.cells #[Value.int .u8 128, Value.int .u8 159] 84))
      have hk1 : (w.alloc (Obj.cells #[Value.int .u8 128, Value.int .u8 159] 84)).cell? ⟨w.heap.size, 1, none⟩ = some (.int .u8 159) := bc1 (heap_alloc_new w (Obj.cells #[Value.int .u8 128, Value.int .u8 159] 84))
      go_wp2
      refine start_ (n := 16) (S := fun w' => w'.cell? ⟨w.heap.size, 0, none⟩ = some (.int .u8 128) ∧ w'.cell? ⟨w.heap.size, 1, none⟩ = some (.int .u8 159)) (ds := []) utf8_FullRuneInString.q16_0 (by kernel_rfl) rfl rfl ⟨hk0, hk1⟩ (fun hHeld => ?_)
      refine utf8_FullRuneInString.pv 0 23 utf8_FullRuneInString.q16_1 ?_
      refine utf8_FullRuneInString.pv 1 24 utf8_FullRuneInString.q16_2 ?_
      refine utf8_FullRuneInString.pv 2 25 utf8_FullRuneInString.q16_3 ?_
      refine utf8_FullRuneInString.pu 3 26 utf8_FullRuneInString.q16_4 ?_
      refine utf8_FullRuneInString.pu 4 27 utf8_FullRuneInString.q16_5 ?_
      refine utf8_FullRuneInString.pu 5 28 utf8_FullRuneInString.q16_6 ?_
      refine utf8_FullRuneInString.pu 6 29 utf8_FullRuneInString.q16_7 ?_
      refine utf8_FullRuneInString.pu 7 30 utf8_FullRuneInString.q16_8 ?_
      refine utf8_FullRuneInString.pu 8 31 utf8_FullRuneInString.q16_9 ?_
      refine utf8_FullRuneInString.pu 9 32 utf8_FullRuneInString.q16_10 ?_
      refine utf8_FullRuneInString.pu 10 33 utf8_FullRuneInString.q16_11 ?_
      refine utf8_FullRuneInString.pu 11 34 utf8_FullRuneInString.q16_12 ?_
      refine utf8_FullRuneInString.pu 12 35 utf8_FullRuneInString.q16_13 ?_
      refine utf8_FullRuneInString.pu 13 36 utf8_FullRuneInString.q16_14 ?_
      refine utf8_FullRuneInString.pu 14 37 utf8_FullRuneInString.q16_15 ?_
      refine utf8_FullRuneInString.pv 15 38 utf8_FullRuneInString.q16_16 ?_
      refine done_ (by kernel_rfl) ?_
      go_wp2
      go_ret
      exact ⟨rfl, ((Below.refl _ _).alloc (Nat.le_refl _) _).drew⟩
    have hn2 : s.size = 2 := by omega
    rw [hn2] at h
    have hsz : (s.size : Int) = 2 := by omega
    have hs1 : s[1]'(by omega) = x1 := by rw [← hx1]; exact (Utf8W.get!_of_lt s 1 (by omega)).symm
    by_cases hb1 : x1.toNat < 128
    · skip
      have hr : utf8_FullRuneInString.N 2 35 x1.toNat x2.toNat = true := by unfold utf8_FullRuneInString.N; simp only [Lib.accLo, Lib.accHi, Nat.reduceMod, Nat.reduceDiv, Nat.reduceEqDiff, if_true, if_false, Nat.reduceLeDiff, Nat.reduceLT, decide_true, decide_false]; simp; omega
      rw [hr] at h
      subst h
      clear hT hX
      have hb1z : (x1.toNat : Int) < 128 := by omega
      have hb1d : decide ((x1.toNat : Int) < 128) = true := decide_eq_true hb1z
      go_enter Tryd.func59, Tryd.ntmps59
      have hk0 : (w.alloc (Obj.cells #[Value.int .u8 128, Value.int .u8 159] 84)).cell? ⟨w.heap.size, 0, none⟩ = some (.int .u8 128) := bc0 (heap_alloc_new w (Obj.cells #[Value.int .u8 128, Value.int .u8 159] 84))
      have hk1 : (w.alloc (Obj.cells #[Value.int .u8 128, Value.int .u8 159] 84)).cell? ⟨w.heap.size, 1, none⟩ = some (.int .u8 159) := bc1 (heap_alloc_new w (Obj.cells #[Value.int .u8 128, Value.int .u8 159] 84))
      go_wp2
      refine start_ (n := 16) (S := fun w' => w'.cell? ⟨w.heap.size, 0, none⟩ = some (.int .u8 128) ∧ w'.cell? ⟨w.heap.size, 1, none⟩ = some (.int .u8 159)) (ds := []) utf8_FullRuneInString.q16_0 (by kernel_rfl) rfl rfl ⟨hk0, hk1⟩ (fun hHeld => ?_)
      refine utf8_FullRuneInString.pv 0 23 utf8_FullRuneInString.q16_1 ?_
      refine utf8_FullRuneInString.pv 1 24 utf8_FullRuneInString.q16_2 ?_
      refine utf8_FullRuneInString.pv 2 25 utf8_FullRuneInString.q16_3 ?_
      refine utf8_FullRuneInString.pv 3 26 utf8_FullRuneInString.q16_4 ?_
      refine utf8_FullRuneInString.pv 5 28 #[true, true, true, true, false, true, false, false, false, false, false, false, false, false, false, false] ?_
      refine utf8_FullRuneInString.tv hHeld 4 27 utf8_FullRuneInString.q16_6 ?_
      refine utf8_FullRuneInString.tv hHeld 6 29 utf8_FullRuneInString.q16_7 ?_
      refine utf8_FullRuneInString.pv 7 30 utf8_FullRuneInString.q16_8 ?_
      refine utf8_FullRuneInString.pv 8 31 utf8_FullRuneInString.q16_9 ?_
      refine utf8_FullRuneInString.pu 9 32 utf8_FullRuneInString.q16_10 ?_
      refine utf8_FullRuneInString.pu 10 33 utf8_FullRuneInString.q16_11 ?_
      refine utf8_FullRuneInString.pu 11 34 utf8_FullRuneInString.q16_12 ?_
      refine utf8_FullRuneInString.pu 12 35 utf8_FullRuneInString.q16_13 ?_
      refine utf8_FullRuneInString.pu 13 36 utf8_FullRuneInString.q16_14 ?_
      refine utf8_FullRuneInString.pv 14 37 utf8_FullRuneInString.q16_15 ?_
      refine utf8_FullRuneInString.pv 15 38 utf8_FullRuneInString.q16_16 ?_
      refine done_ (by kernel_rfl) ?_
      go_wp2
      go_ret
      exact ⟨rfl, ((Below.refl _ _).alloc (Nat.le_refl _) _).drew⟩
    have hb1z : ¬ ((x1.toNat : Int) < 128) := by omega
    have hb1d : decide ((x1.toNat : Int) < 128) = false := decide_eq_false hb1z
    by_cases hb2 : 159 < x1.toNat
    · skip
      have hr : utf8_FullRuneInString.N 2 35 x1.toNat x2.toNat = true := by unfold utf8_FullRuneInString.N; simp only [Lib.accLo, Lib.accHi, Nat.reduceMod, Nat.reduceDiv, Nat.reduceEqDiff, if_true, if_false, Nat.reduceLeDiff, Nat.reduceLT, decide_true, decide_false]; simp; omega
      rw [hr] at h
      subst h
      clear hT hX
      have hb2z : (159 : Int) < (x1.toNat : Int) := by omega
      have hb2d : decide ((159 : Int) < (x1.toNat : Int)) = true := decide_eq_true hb2z
      go_enter Tryd.func59, Tryd.ntmps59
      have hk0 : (w.alloc (Obj.cells #[Value.int .u8 128, Value.int .u8 159] 84)).cell? ⟨w.heap.size, 0, none⟩ = some (.int .u8 128) := bc0 (heap_alloc_new w (Obj.cells #[Value.int .u8 128, Value.int .u8 159] 84))
      have hk1 : (w.alloc (Obj.cells #[Value.int .u8 128, Value.int .u8 159] 84)).cell? ⟨w.heap.size, 1, none⟩ = some (.int .u8 159) := bc1 (heap_alloc_new w (Obj.cells #[Value.int .u8 128, Value.int .u8 159] 84))
      go_wp2
      refine start_ (n := 16) (S := fun w' => w'.cell? ⟨w.heap.size, 0, none⟩ = some (.int .u8 128) ∧ w'.cell? ⟨w.heap.size, 1, none⟩ = some (.int .u8 159)) (ds := []) utf8_FullRuneInString.q16_0 (by kernel_rfl) rfl rfl ⟨hk0, hk1⟩ (fun hHeld => ?_)
      refine utf8_FullRuneInString.pv 0 23 utf8_FullRuneInString.q16_1 ?_
      refine utf8_FullRuneInString.pv 1 24 utf8_FullRuneInString.q16_2 ?_
      refine utf8_FullRuneInString.pv 2 25 utf8_FullRuneInString.q16_3 ?_
      refine utf8_FullRuneInString.pv 3 26 utf8_FullRuneInString.q16_4 ?_
      refine utf8_FullRuneInString.pv 5 28 #[true, true, true, true, false, true, false, false, false, false, false, false, false, false, false, false] ?_
      refine utf8_FullRuneInString.tv hHeld 4 27 utf8_FullRuneInString.q16_6 ?_
      refine utf8_FullRuneInString.tv hHeld 6 29 utf8_FullRuneInString.q16_7 ?_
      refine utf8_FullRuneInString.pv 7 30 utf8_FullRuneInString.q16_8 ?_
      refine utf8_FullRuneInString.pv 8 31 utf8_FullRuneInString.q16_9 ?_
      refine utf8_FullRuneInString.pv 9 32 utf8_FullRuneInString.q16_10 ?_
      refine utf8_FullRuneInString.pv 11 34 #[true, true, true, true, true, true, true, true, true, true, false, true, false, false, false, false] ?_
      refine utf8_FullRuneInString.tv hHeld 10 33 utf8_FullRuneInString.q16_12 ?_
      refine utf8_FullRuneInString.tv hHeld 12 35 utf8_FullRuneInString.q16_13 ?_
      refine utf8_FullRuneInString.pv 13 36 utf8_FullRuneInString.q16_14 ?_
      refine utf8_FullRuneInString.pv 14 37 utf8_FullRuneInString.q16_15 ?_
      refine utf8_FullRuneInString.pv 15 38 utf8_FullRuneInString.q16_16 ?_
      refine done_ (by kernel_rfl) ?_
      go_wp2
      go_ret
      exact ⟨rfl, ((Below.refl _ _).alloc (Nat.le_refl _) _).drew⟩
    have hb2z : ¬ ((159 : Int) < (x1.toNat : Int)) := by omega
    have hb2d : decide ((159 : Int) < (x1.toNat : Int)) = false := decide_eq_false hb2z
    have hr : utf8_FullRuneInString.N 2 35 x1.toNat x2.toNat = false := by unfold utf8_FullRuneInString.N; simp only [Lib.accLo, Lib.accHi, Nat.reduceMod, Nat.reduceDiv, Nat.reduceEqDiff, if_true, if_false, Nat.reduceLeDiff, Nat.reduceLT, decide_true, decide_false]; simp; omega
    rw [hr] at h
    subst h
    clear hT hX
    go_enter Tryd.func59, Tryd.ntmps59
    have hk0 : (w.alloc (Obj.cells #[Value.int .u8 128, Value.int .u8 159] 84)).cell? ⟨w.heap.size, 0, none⟩ = some (.int .u8 128) := bc0 (heap_alloc_new w (Obj.cells #[Value.int .u8 128, Value.int .u8 159] 84))
    have hk1 : (w.alloc (Obj.cells #[Value.int .u8 128, Value.int .u8 159] 84)).cell? ⟨w.heap.size, 1, none⟩ = some (.int .u8 159) := bc1 (heap_alloc_new w (Obj.cells #[Value.int .u8 128, Value.int .u8 159] 84))
    go_wp2
    refine start_ (n := 16) (S := fun w' => w'.cell? ⟨w.heap.size, 0, none⟩ = some (.int .u8 128) ∧ w'.cell? ⟨w.heap.size, 1, none⟩ = some (.int .u8 159)) (ds := []) utf8_FullRuneInString.q16_0 (by kernel_rfl) rfl rfl ⟨hk0, hk1⟩ (fun hHeld => ?_)
    refine utf8_FullRuneInString.pv 0 23 utf8_FullRuneInString.q16_1 ?_
    refine utf8_FullRuneInString.pv 1 24 utf8_FullRuneInString.q16_2 ?_
    refine utf8_FullRuneInString.pv 2 25 utf8_FullRuneInString.q16_3 ?_
    refine utf8_FullRuneInString.pv 3 26 utf8_FullRuneInString.q16_4 ?_
    refine utf8_FullRuneInString.pv 5 28 #[true, true, true, true, false, true, false, false, false, false, false, false, false, false, false, false] ?_
    refine utf8_FullRuneInString.tv hHeld 4 27 utf8_FullRuneInString.q16_6 ?_
    refine utf8_FullRuneInString.tv hHeld 6 29 utf8_FullRuneInString.q16_7 ?_
    refine utf8_FullRuneInString.pv 7 30 utf8_FullRuneInString.q16_8 ?_
    refine utf8_FullRuneInString.pv 8 31 utf8_FullRuneInString.q16_9 ?_
    refine utf8_FullRuneInString.pv 9 32 utf8_FullRuneInString.q16_10 ?_
    refine utf8_FullRuneInString.pv 11 34 #[true, true, true, true, true, true, true, true, true, true, false, true, false, false, false, false] ?_
    refine utf8_FullRuneInString.tv hHeld 10 33 utf8_FullRuneInString.q16_12 ?_
    refine utf8_FullRuneInString.tv hHeld 12 35 utf8_FullRuneInString.q16_13 ?_
    refine utf8_FullRuneInString.pv 13 36 utf8_FullRuneInString.q16_14 ?_
    refine utf8_FullRuneInString.pv 14 37 utf8_FullRuneInString.q16_15 ?_
    refine utf8_FullRuneInString.pv 15 38 utf8_FullRuneInString.q16_16 ?_
    refine done_ (by kernel_rfl) ?_
    go_wp2
    go_ret
    exact ⟨rfl, ((Below.refl _ _).alloc (Nat.le_refl _) _).drew⟩
  · rw [hX] at hc0 h
    have ha0 := (hT.2 3 (by omega)).1
    have ha1 := (hT.2 3 (by omega)).2
    simp only [Lib.accLo, Lib.accHi, Nat.reduceMul, Nat.reduceAdd, Nat.reduceEqDiff, if_true, if_false] at ha0 ha1
    by_cases hn : 4 ≤ s.size
    · have hr : utf8_FullRuneInString.N s.size 52 x1.toNat x2.toNat = true := by unfold utf8_FullRuneInString.N; simp; omega
      rw [hr] at h
      subst h
      clear hT hX
      have hge : (4 : Int) ≤ (s.size : Int) := by omega
      go_enter Tryd.func59, Tryd.ntmps59
      go_wp2
      go_ret
      exact ⟨rfl, Below.refl _ _⟩
    by_cases hn1 : s.size = 1
    · rw [hn1] at h
      have hsz : (s.size : Int) = 1 := by omega
      have hr : utf8_FullRuneInString.N 1 52 x1.toNat x2.toNat = false := by unfold utf8_FullRuneInString.N; simp only [Lib.accLo, Lib.accHi, Nat.reduceMod, Nat.reduceDiv, Nat.reduceEqDiff, if_true, if_false, Nat.reduceLeDiff, Nat.reduceLT, decide_true, decide_false]; simp
      rw [hr] at h
      subst h
      clear hT hX
      go_enter Tryd.func59, Tryd.ntmps59
      have hk0 : (w.alloc (Obj.cells #[Value.int .u8 144, Value.int .u8 191] 84)).cell? ⟨w.heap.size, 0, none⟩ = some (.int .u8 144) := bc0 (heap_alloc_new w (Obj.cells #[Value.int .u8 144, Value.int .u8 191] 84))
      have hk1 : (w.alloc (Obj.cells #[Value.int .u8 144, Value.int .u8 191] 84)).cell? ⟨w.heap.size, 1, none⟩ = some (.int .u8 191) := bc1 (heap_alloc_new w (Obj.cells #[Value.int .u8 144, Value.int .u8 191] 84))
      go_wp2
      refine start_ (n := 16) (S := fun w' => w'.cell? ⟨w.heap.size, 0, none⟩ = some (.int .u8 144) ∧ w'.cell? ⟨w.heap.size, 1, none⟩ = some (.int .u8 191)) (ds := []) utf8_FullRuneInString.q16_0 (by kernel_rfl) rfl rfl ⟨hk0, hk1⟩ (fun hHeld => ?_)
      refine utf8_FullRuneInString.pv 0 23 utf8_FullRuneInString.q16_1 ?_
      refine utf8_FullRuneInString.pv 1 24 utf8_FullRuneInString.q16_2 ?_
      refine utf8_FullRuneInString.pv 2 25 utf8_FullRuneInString.q16_3 ?_
      refine utf8_FullRuneInString.pu 3 26 utf8_FullRuneInString.q16_4 ?_
      refine utf8_FullRuneInString.pu 4 27 utf8_FullRuneInString.q16_5 ?_
      refine utf8_FullRuneInString.pu 5 28 utf8_FullRuneInString.q16_6 ?_
      refine utf8_FullRuneInString.pu 6 29 utf8_FullRuneInString.q16_7 ?_
      refine utf8_FullRuneInString.pu 7 30 utf8_FullRuneInString.q16_8 ?_
      refine utf8_FullRuneInString.pu 8 31 utf8_FullRuneInString.q16_9 ?_
      refine utf8_FullRuneInString.pu 9 32 utf8_FullRuneInString.q16_10 ?_
      refine utf8_FullRuneInString.pu 10 33 utf8_FullRuneInString.q16_11 ?_
      refine utf8_FullRuneInString.pu 11 34 utf8_FullRuneInString.q16_12 ?_
      refine utf8_FullRuneInString.pu 12 35 utf8_FullRuneInString.q16_13 ?_
      refine utf8_FullRuneInString.pu 13 36 utf8_FullRuneInString.q16_14 ?_
      refine utf8_FullRuneInString.pu 14 37 utf8_FullRuneInString.q16_15 ?_
      refine utf8_FullRuneInString.pv 15 38 utf8_FullRuneInString.q16_16 ?_
      refine done_ (by kernel_rfl) ?_
      go_wp2
      go_ret
      exact ⟨rfl, ((Below.refl _ _).alloc (Nat.le_refl _) _).drew⟩
    by_cases hn2 : s.size = 2
    · rw [hn2] at h
      have hsz : (s.size : Int) = 2 := by omega
      have hs1 : s[1]'(by omega) = x1 := by rw [← hx1]; exact (Utf8W.get!_of_lt s 1 (by omega)).symm
      by_cases hb1 : x1.toNat < 144
      · skip
        have hr : utf8_FullRuneInString.N 2 52 x1.toNat x2.toNat = true := by unfold utf8_FullRuneInString.N; simp only [Lib.accLo, Lib.accHi, Nat.reduceMod, Nat.reduceDiv, Nat.reduceEqDiff, if_true, if_false, Nat.reduceLeDiff, Nat.reduceLT, decide_true, decide_false]; simp; omega
        rw [hr] at h
        subst h
        clear hT hX
        have hb1z : (x1.toNat : Int) < 144 := by omega
        have hb1d : decide ((x1.toNat : Int) < 144) = true := decide_eq_true hb1z
        go_enter Tryd.func59, Tryd.ntmps59
        have hk0 : (w.alloc (Obj.cells #[Value.int .u8 144, Value.int .u8 191] 84)).cell? ⟨w.heap.size, 0, none⟩ = some (.int .u8 144) := bc0 (heap_alloc_new w (Obj.cells #[Value.int .u8 144, Value.int .u8 191] 84))
        have hk1 : (w.alloc (Obj.cells #[Value.int .u8 144, Value.int .u8 191] 84)).cell? ⟨w.heap.size, 1, none⟩ = some (.int .u8 191) := bc1 (heap_alloc_new w (Obj.cells #[Value.int .u8 144, Value.int .u8 191] 84))
        go_wp2
        refine start_ (n := 16) (S := fun w' => w'.cell? ⟨w.heap.size, 0, none⟩ = some (.int .u8 144) ∧ w'.cell? ⟨w.heap.size, 1, none⟩ = some (.int .u8 191)) (ds := []) utf8_FullRuneInString.q16_0 (by kernel_rfl) rfl rfl ⟨hk0, hk1⟩ (fun hHeld => ?_)
        refine utf8_FullRuneInString.pv 0 23 utf8_FullRuneInString.q16_1 ?_
        refine utf8_FullRuneInString.pv 1 24 utf8_FullRuneInString.q16_2 ?_
        refine utf8_FullRuneInString.pv 2 25 utf8_FullRuneInString.q16_3 ?_
        refine utf8_FullRuneInString.pv 3 26 utf8_FullRuneInString.q16_4 ?_
        refine utf8_FullRuneInString.pv 5 28 #[true, true, true, true, false, true, false, false, false, false, false, false, false, false, false, false] ?_
        refine utf8_FullRuneInString.tv hHeld 4 27 utf8_FullRuneInString.q16_6 ?_
        refine utf8_FullRuneInString.tv hHeld 6 29 utf8_FullRuneInString.q16_7 ?_
        refine utf8_FullRuneInString.pv 7 30 utf8_FullRuneInString.q16_8 ?_
        refine utf8_FullRuneInString.pv 8 31 utf8_FullRuneInString.q16_9 ?_
        refine utf8_FullRuneInString.pu 9 32 utf8_FullRuneInString.q16_10 ?_
        refine utf8_FullRuneInString.pu 10 33 utf8_FullRuneInString.q16_11 ?_
        refine utf8_FullRuneInString.pu 11 34 utf8_FullRuneInString.q16_12 ?_
        refine utf8_FullRuneInString.pu 12 35 utf8_FullRuneInString.q16_13 ?_
        refine utf8_FullRuneInString.pu 13 36 utf8_FullRuneInString.q16_14 ?_
        refine utf8_FullRuneInString.pv 14 37 utf8_FullRuneInString.q16_15 ?_
        refine utf8_FullRuneInString.pv 15 38 utf8_FullRuneInString.q16_16 ?_
        refine done_ (by kernel_rfl) ?_
        go_wp2
        go_ret
        exact ⟨rfl, ((Below.refl _ _).alloc (Nat.le_refl _) _).drew⟩
      have hb1z : ¬ ((x1.toNat : Int) < 144) := by omega
      have hb1d : decide ((x1.toNat : Int) < 144) = false := decide_eq_false hb1z
      by_cases hb2 : 191 < x1.toNat
      · skip
        have hr : utf8_FullRuneInString.N 2 52 x1.toNat x2.toNat = true := by unfold utf8_FullRuneInString.N; simp only [Lib.accLo, Lib.accHi, Nat.reduceMod, Nat.reduceDiv, Nat.reduceEqDiff, if_true, if_false, Nat.reduceLeDiff, Nat.reduceLT, decide_true, decide_false]; simp; omega
        rw [hr] at h
        subst h
        clear hT hX
        have hb2z : (191 : Int) < (x1.toNat : Int) := by omega
        have hb2d : decide ((191 : Int) < (x1.toNat : Int)) = true := decide_eq_true hb2z
        go_enter Tryd.func59, Tryd.ntmps59
        have hk0 : (w.alloc (Obj.cells #[Value.int .u8 144, Value.int .u8 191] 84)).cell? ⟨w.heap.size, 0, none⟩ = some (.int .u8 144) := bc0 (heap_alloc_new w (Obj.cells #[Value.int .u8 144, Value.int .u8 191] 84))
        have hk1 : (w.alloc (Obj.cells #[Value.int .u8 144, Value.int .u8 191] 84)).cell? ⟨w.heap.size, 1, none⟩ = some (.int .u8 191) := bc1 (heap_alloc_new w (Obj.cells #[Value.int .u8 144, Value.int .u8 191] 84))
        go_wp2
        refine start_ (n := 16) (S := fun w' => w'.cell? ⟨w.heap.size, 0, none⟩ = some (.int .u8 144) ∧ w'.cell? ⟨w.heap.size, 1, none⟩ = some (.int .u8 191)) (ds := []) utf8_FullRuneInString.q16_0 (by kernel_rfl) rfl rfl ⟨hk0, hk1⟩ (fun hHeld => ?_)
        refine utf8_FullRuneInString.pv 0 23 utf8_FullRuneInString.q16_1 ?_
        refine utf8_FullRuneInString.pv 1 24 utf8_FullRuneInString.q16_2 ?_
        refine utf8_FullRuneInString.pv 2 25 utf8_FullRuneInString.q16_3 ?_
        refine utf8_FullRuneInString.pv 3 26 utf8_FullRuneInString.q16_4 ?_
        refine utf8_FullRuneInString.pv 5 28 #[true, true, true, true, false, true, false, false, false, false, false, false, false, false, false, false] ?_
        refine utf8_FullRuneInString.tv hHeld 4 27 utf8_FullRuneInString.q16_6 ?_
        refine utf8_FullRuneInString.tv hHeld 6 29 utf8_FullRuneInString.q16_7 ?_
        refine utf8_FullRuneInString.pv 7 30 utf8_FullRuneInString.q16_8 ?_
        refine utf8_FullRuneInString.pv 8 31 utf8_FullRuneInString.q16_9 ?_
        refine utf8_FullRuneInString.pv 9 32 utf8_FullRuneInString.q16_10 ?_
        refine utf8_FullRuneInString.pv 11 34 #[true, true, true, true, true, true, true, true, true, true, false, true, false, false, false, false] ?_
        refine utf8_FullRuneInString.tv hHeld 10 33 utf8_FullRuneInString.q16_12 ?_
        refine utf8_FullRuneInString.tv hHeld 12 35 utf8_FullRuneInString.q16_13 ?_
        refine utf8_FullRuneInString.pv 13 36 utf8_FullRuneInString.q16_14 ?_
        refine utf8_FullRuneInString.pv 14 37 utf8_FullRuneInString.q16_15 ?_
        refine utf8_FullRuneInString.pv 15 38 utf8_FullRuneInString.q16_16 ?_
        refine done_ (by kernel_rfl) ?_
        go_wp2
        go_ret
        exact ⟨rfl, ((Below.refl _ _).alloc (Nat.le_refl _) _).drew⟩
      have hb2z : ¬ ((191 : Int) < (x1.toNat : Int)) := by omega
      have hb2d : decide ((191 : Int) < (x1.toNat : Int)) = false := decide_eq_false hb2z
      have hr : utf8_FullRuneInString.N 2 52 x1.toNat x2.toNat = false := by unfold utf8_FullRuneInString.N; simp only [Lib.accLo, Lib.accHi, Nat.reduceMod, Nat.reduceDiv, Nat.reduceEqDiff, if_true, if_false, Nat.reduceLeDiff, Nat.reduceLT, decide_true, decide_false]; simp; omega
      rw [hr] at h
      subst h
      clear hT hX
      go_enter Tryd.func59, Tryd.ntmps59
      have hk0 : (w.alloc (Obj.cells #[Value.int .u8 144, Value.int .u8 191] 84)).cell? ⟨w.heap.size, 0, none⟩ = some (.int .u8 144) := bc0 (heap_alloc_new w (Obj.cells #[Value.int .u8 144, Value.int .u8 191] 84))
      have hk1 : (w.alloc (Obj.cells #[Value.int .u8 144, Value.int .u8 191] 84)).cell? ⟨w.heap.size, 1, none⟩ = some (.int .u8 191) := bc1 (heap_alloc_new w (Obj.cells #[Value.int .u8 144, Value.int .u8 191] 84))
      go_wp2
      refine start_ (n := 16) (S := fun w' => w'.cell? ⟨w.heap.size, 0, none⟩ = some (.int .u8 144) ∧ w'.cell? ⟨w.heap.size, 1, none⟩ = some (.int .u8 191)) (ds := []) utf8_FullRuneInString.q16_0 (by kernel_rfl) rfl rfl ⟨hk0, hk1⟩ (fun hHeld => ?_)
      refine utf8_FullRuneInString.pv 0 23 utf8_FullRuneInString.q16_1 ?_
      refine utf8_FullRuneInString.pv 1 24 utf8_FullRuneInString.q16_2 ?_
      refine utf8_FullRuneInString.pv 2 25 utf8_FullRuneInString.q16_3 ?_
      refine utf8_FullRuneInString.pv 3 26 utf8_FullRuneInString.q16_4 ?_
      refine utf8_FullRuneInString.pv 5 28 #[true, true, true, true, false, true, false, false, false, false, false, false, false, false, false, false] ?_
      refine utf8_FullRuneInString.tv hHeld 4 27 utf8_FullRuneInString.q16_6 ?_
      refine utf8_FullRuneInString.tv hHeld 6 29 utf8_FullRuneInString.q16_7 ?_
      refine utf8_FullRuneInString.pv 7 30 utf8_FullRuneInString.q16_8 ?_
      refine utf8_FullRuneInString.pv 8 31 utf8_FullRuneInString.q16_9 ?_
      refine utf8_FullRuneInString.pv 9 32 utf8_FullRuneInString.q16_10 ?_
      refine utf8_FullRuneInString.pv 11 34 #[true, true, true, true, true, true, true, true, true, true, false, true, false, false, false, false] ?_
      refine utf8_FullRuneInString.tv hHeld 10 33 utf8_FullRuneInString.q16_12 ?_
      refine utf8_FullRuneInString.tv hHeld 12 35 utf8_FullRuneInString.q16_13 ?_
      refine utf8_FullRuneInString.pv 13 36 utf8_FullRuneInString.q16_14 ?_
      refine utf8_FullRuneInString.pv 14 37 utf8_FullRuneInString.q16_15 ?_
      refine utf8_FullRuneInString.pv 15 38 utf8_FullRuneInString.q16_16 ?_
      refine done_ (by kernel_rfl) ?_
      go_wp2
      go_ret
      exact ⟨rfl, ((Below.refl _ _).alloc (Nat.le_refl _) _).drew⟩
    have hn3 : s.size = 3 := by omega
    rw [hn3] at h
    have hsz : (s.size : Int) = 3 := by omega
    have hs1 : s[1]'(by omega) = x1 := by rw [← hx1]; exact (Utf8W.get!_of_lt s 1 (by omega)).symm
    have hs2 : s[2]'(by omega) = x2 := by rw [← hx2]; exact (Utf8W.get!_of_lt s 2 (by omega)).symm
    by_cases hb1 : x1.toNat < 144
    · skip
      have hr : utf8_FullRuneInString.N 3 52 x1.toNat x2.toNat = true := by unfold utf8_FullRuneInString.N; simp only [Lib.accLo, Lib.accHi, Nat.reduceMod, Nat.reduceDiv, Nat.reduceEqDiff, if_true, if_false, Nat.reduceLeDiff, Nat.reduceLT, decide_true, decide_false]; simp; omega
      rw [hr] at h
      subst h
      clear hT hX
      have hb1z : (x1.toNat : Int) < 144 := by omega
      have hb1d : decide ((x1.toNat : Int) < 144) = true := decide_eq_true hb1z
      go_enter Tryd.func59, Tryd.ntmps59
      have hk0 : (w.alloc (Obj.cells #[Value.int .u8 144, Value.int .u8 191] 84)).cell? ⟨w.heap.size, 0, none⟩ = some (.int .u8 144) := bc0 (heap_alloc_new w (Obj.cells #[Value.int .u8 144, Value.int .u8 191] 84))
      have hk1 : (w.alloc (Obj.cells #[Value.int .u8 144, Value.int .u8 191] 84)).cell? ⟨w.heap.size, 1, none⟩ = some (.int .u8 191) := bc1 (heap_alloc_new w (Obj.cells #[Value.int .u8 144, Value.int .u8 191] 84))
      go_wp2
      refine start_ (n := 16) (S := fun w' => w'.cell? ⟨w.heap.size, 0, none⟩ = some (.int .u8 144) ∧ w'.cell? ⟨w.heap.size, 1, none⟩ = some (.int .u8 191)) (ds := []) utf8_FullRuneInString.q16_0 (by kernel_rfl) rfl rfl ⟨hk0, hk1⟩ (fun hHeld => ?_)
      refine utf8_FullRuneInString.pv 0 23 utf8_FullRuneInString.q16_1 ?_
      refine utf8_FullRuneInString.pv 1 24 utf8_FullRuneInString.q16_2 ?_
      refine utf8_FullRuneInString.pv 2 25 utf8_FullRuneInString.q16_3 ?_
      refine utf8_FullRuneInString.pv 3 26 utf8_FullRuneInString.q16_4 ?_
      refine utf8_FullRuneInString.pv 5 28 #[true, true, true, true, false, true, false, false, false, false, false, false, false, false, false, false] ?_
      refine utf8_FullRuneInString.tv hHeld 4 27 utf8_FullRuneInString.q16_6 ?_
      refine utf8_FullRuneInString.tv hHeld 6 29 utf8_FullRuneInString.q16_7 ?_
      refine utf8_FullRuneInString.pv 7 30 utf8_FullRuneInString.q16_8 ?_
      refine utf8_FullRuneInString.pv 8 31 utf8_FullRuneInString.q16_9 ?_
      refine utf8_FullRuneInString.pu 9 32 utf8_FullRuneInString.q16_10 ?_
      refine utf8_FullRuneInString.pu 10 33 utf8_FullRuneInString.q16_11 ?_
      refine utf8_FullRuneInString.pu 11 34 utf8_FullRuneInString.q16_12 ?_
      refine utf8_FullRuneInString.pu 12 35 utf8_FullRuneInString.q16_13 ?_
      refine utf8_FullRuneInString.pu 13 36 utf8_FullRuneInString.q16_14 ?_
      refine utf8_FullRuneInString.pv 14 37 utf8_FullRuneInString.q16_15 ?_
      refine utf8_FullRuneInString.pv 15 38 utf8_FullRuneInString.q16_16 ?_
      refine done_ (by kernel_rfl) ?_
      go_wp2
      go_ret
      exact ⟨rfl, ((Below.refl _ _).alloc (Nat.le_refl _) _).drew⟩
    have hb1z : ¬ ((x1.toNat : Int) < 144) := by omega
    have hb1d : decide ((x1.toNat : Int) < 144) = false := decide_eq_false hb1z
    by_cases hb2 : 191 < x1.toNat
    · skip
      have hr : utf8_FullRuneInString.N 3 52 x1.toNat x2.toNat = true := by unfold utf8_FullRuneInString.N; simp only [Lib.accLo, Lib.accHi, Nat.reduceMod, Nat.reduceDiv, Nat.reduceEqDiff, if_true, if_false, Nat.reduceLeDiff, Nat.reduceLT, decide_true, decide_false]; simp; omega
      rw [hr] at h
      subst h
      clear hT hX
      have hb2z : (191 : Int) < (x1.toNat : Int) := by omega
      have hb2d : decide ((191 : Int) < (x1.toNat : Int)) = true := decide_eq_true hb2z
      go_enter Tryd.func59, Tryd.ntmps59
      have hk0 : (w.alloc (Obj.cells #[Value.int .u8 144, Value.int .u8 191] 84)).cell? ⟨w.heap.size, 0, none⟩ = some (.int .u8 144) := bc0 (heap_alloc_new w (Obj.cells #[Value.int .u8 144, Value.int .u8 191] 84))
      have hk1 : (w.alloc (Obj.cells #[Value.int .u8 144, Value.int .u8 191] 84)).cell? ⟨w.heap.size, 1, none⟩ = some (.int .u8 191) := bc1 (heap_alloc_new w (Obj.cells #[Value.int .u8 144, Value.int .u8 191] 84))
      go_wp2
      refine start_ (n := 16) (S := fun w' => w'.cell? ⟨w.heap.size, 0, none⟩ = some (.int .u8 144) ∧ w'.cell? ⟨w.heap.size, 1, none⟩ = some (.int .u8 191)) (ds := []) utf8_FullRuneInString.q16_0 (by kernel_rfl) rfl rfl ⟨hk0, hk1⟩ (fun hHeld => ?_)
      refine utf8_FullRuneInString.pv 0 23 utf8_FullRuneInString.q16_1 ?_
      refine utf8_FullRuneInString.pv 1 24 utf8_FullRuneInString.q16_2 ?_
      refine utf8_FullRuneInString.pv 2 25 utf8_FullRuneInString.q16_3 ?_
      refine utf8_FullRuneInString.pv 3 26 utf8_FullRuneInString.q16_4 ?_
      refine utf8_FullRuneInString.pv 5 28 #[true, true, true, true, false, true, false, false, false, false, false, false, false, false, false, false] ?_
      refine utf8_FullRuneInString.tv hHeld 4 27 utf8_FullRuneInString.q16_6 ?_
      refine utf8_FullRuneInString.tv hHeld 6 29 utf8_FullRuneInString.q16_7 ?_
      refine utf8_FullRuneInString.pv 7 30 utf8_FullRuneInString.q16_8 ?_
      refine utf8_FullRuneInString.pv 8 31 utf8_FullRuneInString.q16_9 ?_
      refine utf8_FullRuneInString.pv 9 32 utf8_FullRuneInString.q16_10 ?_
      refine utf8_FullRuneInString.pv 11 34 #[true, true, true, true, true, true, true, true, true, true, false, true, false, false, false, false] ?_
      refine utf8_FullRuneInString.tv hHeld 10 33 utf8_FullRuneInString.q16_12 ?_
      refine utf8_FullRuneInString.tv hHeld 12 35 utf8_FullRuneInString.q16_13 ?_
      refine utf8_FullRuneInString.pv 13 36 utf8_FullRuneInString.q16_14 ?_
      refine utf8_FullRuneInString.pv 14 37 utf8_FullRuneInString.q16_15 ?_
      refine utf8_FullRuneInString.pv 15 38 utf8_FullRuneInString.q16_16 ?_
      refine done_ (by kernel_rfl) ?_
      go_wp2
      go_ret
      exact ⟨rfl, ((Below.refl _ _).alloc (Nat.le_refl _) _).drew⟩
    have hb2z : ¬ ((191 : Int) < (x1.toNat : Int)) := by omega
    have hb2d : decide ((191 : Int) < (x1.toNat : Int)) = false := decide_eq_false hb2z
    by_cases hb3 : x2.toNat < 128
    · skip
      have hr : utf8_FullRuneInString.N 3 52 x1.toNat x2.toNat = true := by unfold utf8_FullRuneInString.N; simp only [Lib.accLo, Lib.accHi, Nat.reduceMod, Nat.reduceDiv, Nat.reduceEqDiff, if_true, if_false, Nat.reduceLeDiff, Nat.reduceLT, decide_true, decide_false]; simp; omega
      rw [hr] at h
      subst h
      clear hT hX
      have hb3z : (x2.toNat : Int) < 128 := by omega
      go_enter Tryd.func59, Tryd.ntmps59
      have hk0 : (w.alloc (Obj.cells #[Value.int .u8 144, Value.int .u8 191] 84)).cell? ⟨w.heap.size, 0, none⟩ = some (.int .u8 144) := bc0 (heap_alloc_new w (Obj.cells #[Value.int .u8 144, Value.int .u8 191] 84))
      have hk1 : (w.alloc (Obj.cells #[Value.int .u8 144, Value.int .u8 191] 84)).cell? ⟨w.heap.size, 1, none⟩ = some (.int .u8 191) := bc1 (heap_alloc_new w (Obj.cells #[Value.int .u8 144, Value.int .u8 191] 84))
      go_wp2
      refine start_ (n := 16) (S := fun w' => w'.cell? ⟨w.heap.size, 0, none⟩ = some (.int .u8 144) ∧ w'.cell? ⟨w.heap.size, 1, none⟩ = some (.int .u8 191)) (ds := []) utf8_FullRuneInString.q16_0 (by kernel_rfl) rfl rfl ⟨hk0, hk1⟩ (fun hHeld => ?_)
      refine utf8_FullRuneInString.pv 0 23 utf8_FullRuneInString.q16_1 ?_
      refine utf8_FullRuneInString.pv 1 24 utf8_FullRuneInString.q16_2 ?_
      refine utf8_FullRuneInString.pv 2 25 utf8_FullRuneInString.q16_3 ?_
      refine utf8_FullRuneInString.pv 3 26 utf8_FullRuneInString.q16_4 ?_
      refine utf8_FullRuneInString.pv 5 28 #[true, true, true, true, false, true, false, false, false, false, false, false, false, false, false, false] ?_
      refine utf8_FullRuneInString.tv hHeld 4 27 utf8_FullRuneInString.q16_6 ?_
      refine utf8_FullRuneInString.tv hHeld 6 29 utf8_FullRuneInString.q16_7 ?_
      refine utf8_FullRuneInString.pv 7 30 utf8_FullRuneInString.q16_8 ?_
      refine utf8_FullRuneInString.pv 8 31 utf8_FullRuneInString.q16_9 ?_
      refine utf8_FullRuneInString.pv 9 32 utf8_FullRuneInString.q16_10 ?_
      refine utf8_FullRuneInString.pv 11 34 #[true, true, true, true, true, true, true, true, true, true, false, true, false, false, false, false] ?_
      refine utf8_FullRuneInString.tv hHeld 10 33 utf8_FullRuneInString.q16_12 ?_
      refine utf8_FullRuneInString.tv hHeld 12 35 utf8_FullRuneInString.q16_13 ?_
      refine utf8_FullRuneInString.pv 13 36 utf8_FullRuneInString.q16_14 ?_
      refine utf8_FullRuneInString.pv 14 37 utf8_FullRuneInString.q16_15 ?_
      refine utf8_FullRuneInString.pv 15 38 utf8_FullRuneInString.q16_16 ?_
      refine done_ (by kernel_rfl) ?_
      go_wp2
      go_ret
      exact ⟨rfl, ((Below.refl _ _).alloc (Nat.le_refl _) _).drew⟩
    have hb3z : ¬ ((x2.toNat : Int) < 128) := by omega
    by_cases hb4 : 191 < x2.toNat
    · skip
      have hr : utf8_FullRuneInString.N 3 52 x1.toNat x2.toNat = true := by unfold utf8_FullRuneInString.N; simp only [Lib.accLo, Lib.accHi, Nat.reduceMod, Nat.reduceDiv, Nat.reduceEqDiff, if_true, if_false, Nat.reduceLeDiff, Nat.reduceLT, decide_true, decide_false]; simp; omega
      rw [hr] at h
      subst h
      clear hT hX
      have hb4z : (191 : Int) < (x2.toNat : Int) := by omega
      go_enter Tryd.func59, Tryd.ntmps59
      have hk0 : (w.alloc (Obj.cells #[Value.int .u8 144, Value.int .u8 191] 84)).cell? ⟨w.heap.size, 0, none⟩ = some (.int .u8 144) := bc0 (heap_alloc_new w (Obj.cells #[Value.int .u8 144, Value.int .u8 191] 84))
      have hk1 : (w.alloc (Obj.cells #[Value.int .u8 144, Value.int .u8 191] 84)).cell? ⟨w.heap.size, 1, none⟩ = some (.int .u8 191) := bc1 (heap_alloc_new w (Obj.cells #[Value.int .u8 144, Value.int .u8 191] 84))
      go_wp2
      refine start_ (n := 16) (S := fun w' => w'.cell? ⟨w.heap.size, 0, none⟩ = some (.int .u8 144) ∧ w'.cell? ⟨w.heap.size, 1, none⟩ = some (.int .u8 191)) (ds := []) utf8_FullRuneInString.q16_0 (by kernel_rfl) rfl rfl ⟨hk0, hk1⟩ (fun hHeld => ?_)
      refine utf8_FullRuneInString.pv 0 23 utf8_FullRuneInString.q16_1 ?_
      refine utf8_FullRuneInString.pv 1 24 utf8_FullRuneInString.q16_2 ?_
      refine utf8_FullRuneInString.pv 2 25 utf8_FullRuneInString.q16_3 ?_
      refine utf8_FullRuneInString.pv 3 26 utf8_FullRuneInString.q16_4 ?_
      refine utf8_FullRuneInString.pv 5 28 #[true, true, true, true, false, true, false, false, false, false, false, false, false, false, false, false] ?_
      refine utf8_FullRuneInString.tv hHeld 4 27 utf8_FullRuneInString.q16_6 ?_
      refine utf8_FullRuneInString.tv hHeld 6 29 utf8_FullRuneInString.q16_7 ?_
      refine utf8_FullRuneInString.pv 7 30 utf8_FullRuneInString.q16_8 ?_
      refine utf8_FullRuneInString.pv 8 31 utf8_FullRuneInString.q16_9 ?_
      refine utf8_FullRuneInString.pv 9 32 utf8_FullRuneInString.q16_10 ?_
      refine utf8_FullRuneInString.pv 11 34 #[true, true, true, true, true, true, true, true, true, true, false, true, false, false, false, false] ?_
      refine utf8_FullRuneInString.tv hHeld 10 33 utf8_FullRuneInString.q16_12 ?_
      refine utf8_FullRuneInString.tv hHeld 12 35 utf8_FullRuneInString.q16_13 ?_
      refine utf8_FullRuneInString.pv 13 36 utf8_FullRuneInString.q16_14 ?_
      refine utf8_FullRuneInString.pv 14 37 utf8_FullRuneInString.q16_15 ?_
      refine utf8_FullRuneInString.pv 15 38 utf8_FullRuneInString.q16_16 ?_
      refine done_ (by kernel_rfl) ?_
      go_wp2
      go_ret
      exact ⟨rfl, ((Below.refl _ _).alloc (Nat.le_refl _) _).drew⟩
    have hb4z : ¬ ((191 : Int) < (x2.toNat : Int)) := by omega
    have hr : utf8_FullRuneInString.N 3 52 x1.toNat x2.toNat = false := by unfold utf8_FullRuneInString.N; simp only [Lib.accLo, Lib.accHi, Nat.reduceMod, Nat.reduceDiv, Nat.reduceEqDiff, if_true, if_false, Nat.reduceLeDiff, Nat.reduceLT, decide_true, decide_false]; simp; omega
    rw [hr] at h
    subst h
    clear hT hX
    go_enter Tryd.func59, Tryd.ntmps59
    have hk0 : (w.alloc (Obj.cells #[Value.int .u8 144, Value.int .u8 191] 84)).cell? ⟨w.heap.size, 0, none⟩ = some (.int .u8 144) := bc0 (heap_alloc_new w (Obj.cells #[Value.int .u8 144, Value.int .u8 191] 84))
    have hk1 : (w.alloc (Obj.cells #[Value.int .u8 144, Value.int .u8 191] 84)).cell? ⟨w.heap.size, 1, none⟩ = some (.int .u8 191) := bc1 (heap_alloc_new w (Obj.cells #[Value.int .u8 144, Value.int .u8 191] 84))
    go_wp2
    refine start_ (n := 16) (S := fun w' => w'.cell? ⟨w.heap.size, 0, none⟩ = some (.int .u8 144) ∧ w'.cell? ⟨w.heap.size, 1, none⟩ = some (.int .u8 191)) (ds := []) utf8_FullRuneInString.q16_0 (by kernel_rfl) rfl rfl ⟨hk0, hk1⟩ (fun hHeld => ?_)
    refine utf8_FullRuneInString.pv 0 23 utf8_FullRuneInString.q16_1 ?_
    refine utf8_FullRuneInString.pv 1 24 utf8_FullRuneInString.q16_2 ?_
    refine utf8_FullRuneInString.pv 2 25 utf8_FullRuneInString.q16_3 ?_
    refine utf8_FullRuneInString.pv 3 26 utf8_FullRuneInString.q16_4 ?_
    refine utf8_FullRuneInString.pv 5 28 #[true, true, true, true, false, true, false, false, false, false, false, false, false, false, false, false] ?_
    refine utf8_FullRuneInString.tv hHeld 4 27 utf8_FullRuneInString.q16_6 ?_
    refine utf8_FullRuneInString.tv hHeld 6 29 utf8_FullRuneInString.q16_7 ?_
    refine utf8_FullRuneInString.pv 7 30 utf8_FullRuneInString.q16_8 ?_
    refine utf8_FullRuneInString.pv 8 31 utf8_FullRuneInString.q16_9 ?_
    refine utf8_FullRuneInString.pv 9 32 utf8_FullRuneInString.q16_10 ?_
    refine utf8_FullRuneInString.pv 11 34 #[true, true, true, true, true, true, true, true, true, true, false, true, false, false, false, false] ?_
    refine utf8_FullRuneInString.tv hHeld 10 33 utf8_FullRuneInString.q16_12 ?_
    refine utf8_FullRuneInString.tv hHeld 12 35 utf8_FullRuneInString.q16_13 ?_
    refine utf8_FullRuneInString.pv 13 36 utf8_FullRuneInString.q16_14 ?_
    refine utf8_FullRuneInString.pv 14 37 utf8_FullRuneInString.q16_15 ?_
    refine utf8_FullRuneInString.pv 15 38 utf8_FullRuneInString.q16_16 ?_
    refine done_ (by kernel_rfl) ?_
    go_wp2
    go_ret
    exact ⟨rfl, ((Below.refl _ _).alloc (Nat.le_refl _) _).drew⟩
  · rw [hX] at hc0 h
    have ha0 := (hT.2 0 (by omega)).1
    have ha1 := (hT.2 0 (by omega)).2
    simp only [Lib.accLo, Lib.accHi, Nat.reduceMul, Nat.reduceAdd, Nat.reduceEqDiff, if_true, if_false] at ha0 ha1
    by_cases hn : 4 ≤ s.size
    · have hr : utf8_FullRuneInString.N s.size 4 x1.toNat x2.toNat = true := by unfold utf8_FullRuneInString.N; simp; omega
      rw [hr] at h
      subst h
      clear hT hX
      have hge : (4 : Int) ≤ (s.size : Int) := by omega
      go_enter Tryd.func59, Tryd.ntmps59
      go_wp2
      go_ret
      exact ⟨rfl, Below.refl _ _⟩
    by_cases hn1 : s.size = 1
    · rw [hn1] at h
      have hsz : (s.size : Int) = 1 := by omega
      have hr : utf8_FullRuneInString.N 1 4 x1.toNat x2.toNat = false := by unfold utf8_FullRuneInString.N; simp only [Lib.accLo, Lib.accHi, Nat.reduceMod, Nat.reduceDiv, Nat.reduceEqDiff, if_true, if_false, Nat.reduceLeDiff, Nat.reduceLT, decide_true, decide_false]; simp
      rw [hr] at h
      subst h
      clear hT hX
      go_enter Tryd.func59, Tryd.ntmps59
      have hk0 : (w.alloc (Obj.cells #[Value.int .u8 128, Value.int .u8 191] 84)).cell? ⟨w.heap.size, 0, none⟩ = some (.int .u8 128) := bc0 (heap_alloc_new w (Obj.cells #[Value.int .u8 128, Value.int .u8 191] 84))
      have hk1 : (w.alloc (Obj.cells #[Value.int .u8 128, Value.int .u8 191] 84)).cell? ⟨w.heap.size, 1, none⟩ = some (.int .u8 191) := bc1 (heap_alloc_new w (Obj.cells #[Value.int .u8 128, Value.int .u8 191] 84))
      go_wp2
      refine start_ (n := 16) (S := fun w' => w'.cell? ⟨w.heap.size, 0, none⟩ = some (.int .u8 128) ∧ w'.cell? ⟨w.heap.size, 1, none⟩ = some (.int .u8 191)) (ds := []) utf8_FullRuneInString.q16_0 (by kernel_rfl) rfl rfl ⟨hk0, hk1⟩ (fun hHeld => ?_)
      refine utf8_FullRuneInString.pv 0 23 utf8_FullRuneInString.q16_1 ?_
      refine utf8_FullRuneInString.pv 1 24 utf8_FullRuneInString.q16_2 ?_
      refine utf8_FullRuneInString.pv 2 25 utf8_FullRuneInString.q16_3 ?_
      refine utf8_FullRuneInString.pu 3 26 utf8_FullRuneInString.q16_4 ?_
      refine utf8_FullRuneInString.pu 4 27 utf8_FullRuneInString.q16_5 ?_
      refine utf8_FullRuneInString.pu 5 28 utf8_FullRuneInString.q16_6 ?_
      refine utf8_FullRuneInString.pu 6 29 utf8_FullRuneInString.q16_7 ?_
      refine utf8_FullRuneInString.pu 7 30 utf8_FullRuneInString.q16_8 ?_
      refine utf8_FullRuneInString.pu 8 31 utf8_FullRuneInString.q16_9 ?_
      refine utf8_FullRuneInString.pu 9 32 utf8_FullRuneInString.q16_10 ?_
      refine utf8_FullRuneInString.pu 10 33 utf8_FullRuneInString.q16_11 ?_
      refine utf8_FullRuneInString.pu 11 34 utf8_FullRuneInString.q16_12 ?_
      refine utf8_FullRuneInString.pu 12 35 utf8_FullRuneInString.q16_13 ?_
      refine utf8_FullRuneInString.pu 13 36 utf8_FullRuneInString.q16_14 ?_
      refine utf8_FullRuneInString.pu 14 37 utf8_FullRuneInString.q16_15 ?_
      refine utf8_FullRuneInString.pv 15 38 utf8_FullRuneInString.q16_16 ?_
      refine done_ (by kernel_rfl) ?_
      go_wp2
      go_ret
      exact ⟨rfl, ((Below.refl _ _).alloc (Nat.le_refl _) _).drew⟩
    by_cases hn2 : s.size = 2
    · rw [hn2] at h
      have hsz : (s.size : Int) = 2 := by omega
      have hs1 : s[1]'(by omega) = x1 := by rw [← hx1]; exact (Utf8W.get!_of_lt s 1 (by omega)).symm
      by_cases hb1 : x1.toNat < 128
      · skip
        have hr : utf8_FullRuneInString.N 2 4 x1.toNat x2.toNat = true := by unfold utf8_FullRuneInString.N; simp only [Lib.accLo, Lib.accHi, Nat.reduceMod, Nat.reduceDiv, Nat.reduceEqDiff, if_true, if_false, Nat.reduceLeDiff, Nat.reduceLT, decide_true, decide_false]; simp; omega
        rw [hr] at h
        subst h
        clear hT hX
        have hb1z : (x1.toNat : Int) < 128 := by omega
        have hb1d : decide ((x1.toNat : Int) < 128) = true := decide_eq_true hb1z
        go_enter Tryd.func59, Tryd.ntmps59
        have hk0 : (w.alloc (Obj.cells #[Value.int .u8 128, Value.int .u8 191] 84)).cell? ⟨w.heap.size, 0, none⟩ = some (.int .u8 128) := bc0 (heap_alloc_new w (Obj.cells #[Value.int .u8 128, Value.int .u8 191] 84))
        have hk1 : (w.alloc (Obj.cells #[Value.int .u8 128, Value.int .u8 191] 84)).cell? ⟨w.heap.size, 1, none⟩ = some (.int .u8 191) := bc1 (heap_alloc_new w (Obj.cells #[Value.int .u8 128, Value.int .u8 191] 84))
        go_wp2
        refine start_ (n := 16) (S := fun w' => w'.cell? ⟨w.heap.size, 0, none⟩ = some (.int .u8 128) ∧ w'.cell? ⟨w.heap.size, 1, none⟩ = some (.int .u8 191)) (ds := []) utf8_FullRuneInString.q16_0 (by kernel_rfl) rfl rfl ⟨hk0, hk1⟩ (fun hHeld => ?_)
        refine utf8_FullRuneInString.pv 0 23 utf8_FullRuneInString.q16_1 ?_
        refine utf8_FullRuneInString.pv 1 24 utf8_FullRuneInString.q16_2 ?_
        refine utf8_FullRuneInString.pv 2 25 utf8_FullRuneInString.q16_3 ?_
        refine utf8_FullRuneInString.pv 3 26 utf8_FullRuneInString.q16_4 ?_
        refine utf8_FullRuneInString.pv 5 28 #[true, true, true, true, false, true, false, false, false, false, false, false, false, false, false, false] ?_
        refine utf8_FullRuneInString.tv hHeld 4 27 utf8_FullRuneInString.q16_6 ?_
        refine utf8_FullRuneInString.tv hHeld 6 29 utf8_FullRuneInString.q16_7 ?_
        refine utf8_FullRuneInString.pv 7 30 utf8_FullRuneInString.q16_8 ?_
        refine utf8_FullRuneInString.pv 8 31 utf8_FullRuneInString.q16_9 ?_
        refine utf8_FullRuneInString.pu 9 32 utf8_FullRuneInString.q16_10 ?_
        refine utf8_FullRuneInString.pu 10 33 utf8_FullRuneInString.q16_11 ?_
        refine utf8_FullRuneInString.pu 11 34 utf8_FullRuneInString.q16_12 ?_
        refine utf8_FullRuneInString.pu 12 35 utf8_FullRuneInString.q16_13 ?_
        refine utf8_FullRuneInString.pu 13 36 utf8_FullRuneInString.q16_14 ?_
        refine utf8_FullRuneInString.pv 14 37 utf8_FullRuneInString.q16_15 ?_
        refine utf8_FullRuneInString.pv 15 38 utf8_FullRuneInString.q16_16 ?_
        refine done_ (by kernel_rfl) ?_
        go_wp2
        go_ret
        exact ⟨rfl, ((Below.refl _ _).alloc (Nat.le_refl _) _).drew⟩
      have hb1z : ¬ ((x1.toNat : Int) < 128) := by omega
      have hb1d : decide ((x1.toNat : Int) < 128) = false := decide_eq_false hb1z
      by_cases hb2 : 191 < x1.toNat
      · skip
        have hr : utf8_FullRuneInString.N 2 4 x1.toNat x2.toNat = true := by unfold utf8_FullRuneInString.N; simp only [Lib.accLo, Lib.accHi, Nat.reduceMod, Nat.reduceDiv, Nat.reduceEqDiff, if_true, if_false, Nat.reduceLeDiff, Nat.reduceLT, decide_true, decide_false]; simp; omega
        rw [hr] at h
        subst h
        clear hT hX
        have hb2z : (191 : Int) < (x1.toNat : Int) := by omega
        have hb2d : decide ((191 : Int) < (x1.toNat : Int)) = true := decide_eq_true hb2z
        go_enter Tryd.func59, Tryd.ntmps59
        have hk0 : (w.alloc (Obj.cells #[Value.int .u8 128, Value.int .u8 191] 84)).cell? ⟨w.heap.size, 0, none⟩ = some (.int .u8 128) := bc0 (heap_alloc_new w (Obj.cells #[Value.int .u8 128, Value.int .u8 191] 84))
        have hk1 : (w.alloc (Obj.cells #[Value.int .u8 128, Value.int .u8 191] 84)).cell? ⟨w.heap.size, 1, none⟩ = some (.int .u8 191) := bc1 (heap_alloc_new w (Obj.cells #[Value.int .u8 128, Value.int .u8 191] 84))
        go_wp2
        refine start_ (n := 16) (S := fun w' => w'.cell? ⟨w.heap.size, 0, none⟩ = some (.int .u8 128) ∧ w'.cell? ⟨w.heap.size, 1, none⟩ = some (.int .u8 191)) (ds := []) utf8_FullRuneInString.q16_0 (by kernel_rfl) rfl rfl ⟨hk0, hk1⟩ (fun hHeld => ?_)
        refine utf8_FullRuneInString.pv 0 23 utf8_FullRuneInString.q16_1 ?_
        refine utf8_FullRuneInString.pv 1 24 utf8_FullRuneInString.q16_2 ?_
        refine utf8_FullRuneInString.pv 2 25 utf8_FullRuneInString.q16_3 ?_
        refine utf8_FullRuneInString.pv 3 26 utf8_FullRuneInString.q16_4 ?_
        refine utf8_FullRuneInString.pv 5 28 #[true, true, true, true, false, true, false, false, false, false, false, false, false, false, false, false] ?_
        refine utf8_FullRuneInString.tv hHeld 4 27 utf8_FullRuneInString.q16_6 ?_
        refine utf8_FullRuneInString.tv hHeld 6 29 utf8_FullRuneInString.q16_7 ?_
        refine utf8_FullRuneInString.pv 7 30 utf8_FullRuneInString.q16_8 ?_
        refine utf8_FullRuneInString.pv 8 31 utf8_FullRuneInString.q16_9 ?_
        refine utf8_FullRuneInString.pv 9 32 utf8_FullRuneInString.q16_10 ?_
        refine utf8_FullRuneInString.pv 11 34 #[true, true, true, true, true, true, true, true, true, true, false, true, false, false, false, false] ?_
        refine utf8_FullRuneInString.tv hHeld 10 33 utf8_FullRuneInString.q16_12 ?_
        refine utf8_FullRuneInString.tv hHeld 12 35 utf8_FullRuneInString.q16_13 ?_
        refine utf8_FullRuneInString.pv 13 36 utf8_FullRuneInString.q16_14 ?_
        refine utf8_FullRuneInString.pv 14 37 utf8_FullRuneInString.q16_15 ?_
        refine utf8_FullRuneInString.pv 15 38 utf8_FullRuneInString.q16_16 ?_
        refine done_ (by kernel_rfl) ?_
        go_wp2
        go_ret
        exact ⟨rfl, ((Below.refl _ _).alloc (Nat.le_refl _) _).drew⟩
      have hb2z : ¬ ((191 : Int) < (x1.toNat : Int)) := by omega
      have hb2d : decide ((191 : Int) < (x1.toNat : Int)) = false := decide_eq_false hb2z
      have hr : utf8_FullRuneInString.N 2 4 x1.toNat x2.toNat = false := by unfold utf8_FullRuneInString.N; simp only [Lib.accLo, Lib.accHi, Nat.reduceMod, Nat.reduceDiv, Nat.reduceEqDiff, if_true, if_false, Nat.reduceLeDiff, Nat.reduceLT, decide_true, decide_false]; simp; omega
      rw [hr] at h
      subst h
      clear hT hX
      go_enter Tryd.func59, Tryd.ntmps59
      have hk0 : (w.alloc (Obj.cells #[Value.int .u8 128, Value.int .u8 191] 84)).cell? ⟨w.heap.size, 0, none⟩ = some (.int .u8 128) := bc0 (heap_alloc_new w (Obj.cells #[Value.int .u8 128, Value.int .u8 191] 84))
      have hk1 : (w.alloc (Obj.cells #[Value.int .u8 128, Value.int .u8 191] 84)).cell? ⟨w.heap.size, 1, none⟩ = some (.int .u8 191) := bc1 (heap_alloc_new w (Obj.cells #[Value.int .u8 128, Value.int .u8 191] 84))
      go_wp2
      refine start_ (n := 16) (S := fun w' => w'.cell? ⟨w.heap.size, 0, none⟩ = some (.int .u8 128) ∧ w'.cell? ⟨w.heap.size, 1, none⟩ = some (.int .u8 191)) (ds := []) utf8_FullRuneInString.q16_0 (by kernel_rfl) rfl rfl ⟨hk0, hk1⟩ (fun hHeld => ?_)
      refine utf8_FullRuneInString.pv 0 23 utf8_FullRuneInString.q16_1 ?_
      refine utf8_FullRuneInString.pv 1 24 utf8_FullRuneInString.q16_2 ?_
      refine utf8_FullRuneInString.pv 2 25 utf8_FullRuneInString.q16_3 ?_
      refine utf8_FullRuneInString.pv 3 26 utf8_FullRuneInString.q16_4 ?_
      refine utf8_FullRuneInString.pv 5 28 #[true, true, true, true, false, true, false, false, false, false, false, false, false, false, false, false] ?_
      refine utf8_FullRuneInString.tv hHeld 4 27 utf8_FullRuneInString.q16_6 ?_
      refine utf8_FullRuneInString.tv hHeld 6 29 utf8_FullRuneInString.q16_7 ?_
      refine utf8_FullRuneInString.pv 7 30 utf8_FullRuneInString.q16_8 ?_
      refine utf8_FullRuneInString.pv 8 31 utf8_FullRuneInString.q16_9 ?_
      refine utf8_FullRuneInString.pv 9 32 utf8_FullRuneInString.q16_10 ?_
      refine utf8_FullRuneInString.pv 11 34 #[true, true, true, true, true, true, true, true, true, true, false, true, false, false, false, false] ?_
      refine utf8_FullRuneInString.tv hHeld 10 33 utf8_FullRuneInString.q16_12 ?_
      refine utf8_FullRuneInString.tv hHeld 12 35 utf8_FullRuneInString.q16_13 ?_
      refine utf8_FullRuneInString.pv 13 36 utf8_FullRuneInString.q16_14 ?_
      refine utf8_FullRuneInString.pv 14 37 utf8_FullRuneInString.q16_15 ?_
      refine utf8_FullRuneInString.pv 15 38 utf8_FullRuneInString.q16_16 ?_
      refine done_ (by kernel_rfl) ?_
      go_wp2
      go_ret
      exact ⟨rfl, ((Below.refl _ _).alloc (Nat.le_refl _) _).drew⟩
    have hn3 : s.size = 3 := by omega
    rw [hn3] at h
    have hsz : (s.size : Int) = 3 := by omega
    have hs1 : s[1]'(by omega) = x1 := by rw [← hx1]; exact (Utf8W.get!_of_lt s 1 (by omega)).symm
    have hs2 : s[2]'(by omega) = x2 := by rw [← hx2]; exact (Utf8W.get!_of_lt s 2 (by omega)).symm
    by_cases hb1 : x1.toNat < 128
    · skip
      have hr : utf8_FullRuneInString.N 3 4 x1.toNat x2.toNat = true := by unfold utf8_FullRuneInString.N; simp only [Lib.accLo, Lib.accHi, Nat.reduceMod, Nat.reduceDiv, Nat.reduceEqDiff, if_true, if_false, Nat.reduceLeDiff, Nat.reduceLT, decide_true, decide_false]; simp; omega
      rw [hr] at h
      subst h
      clear hT hX
      have hb1z : (x1.toNat : Int) < 128 := by omega
      have hb1d : decide ((x1.toNat : Int) < 128) = true := decide_eq_true hb1z
      go_enter Tryd.func59, Tryd.ntmps59
      have hk0 : (w.alloc (Obj.cells #[Value.int .u8 128, Value.int .u8 191] 84)).cell? ⟨w.heap.size, 0, none⟩ = some (.int .u8 128) := bc0 (heap_alloc_new w (Obj.cells #[Value.int .u8 128, Value.int .u8 191] 84))
      have hk1 : (w.alloc (Obj.cells #[Value.int .u8 128, Value.int .u8 191] 84)).cell? ⟨w.heap.size, 1, none⟩ = some (.int .u8 191) := bc1 (heap_alloc_new w (Obj.cells #[Value.int .u8 128, Value.int .u8 191] 84))
      go_wp2
      refine start_ (n := 16) (S := fun w' => w'.cell? ⟨w.heap.size, 0, none⟩ = some (.int .u8 128) ∧ w'.cell? ⟨w.heap.size, 1, none⟩ = some (.int .u8 191)) (ds := []) utf8_FullRuneInString.q16_0 (by kernel_rfl) rfl rfl ⟨hk0, hk1⟩ (fun hHeld => ?_)
      refine utf8_FullRuneInString.pv 0 23 utf8_FullRuneInString.q16_1 ?_
      refine utf8_FullRuneInString.pv 1 24 utf8_FullRuneInString.q16_2 ?_
      refine utf8_FullRuneInString.pv 2 25 utf8_FullRuneInString.q16_3 ?_
      refine utf8_FullRuneInString.pv 3 26 utf8_FullRuneInString.q16_4 ?_
      refine utf8_FullRuneInString.pv 5 28 #[true, true, true, true, false, true, false, false, false, false, false, false, false, false, false, false] ?_
      refine utf8_FullRuneInString.tv hHeld 4 27 utf8_FullRuneInString.q16_6 ?_
      refine utf8_FullRuneInString.tv hHeld 6 29 utf8_FullRuneInString.q16_7 ?_
      refine utf8_FullRuneInString.pv 7 30 utf8_FullRuneInString.q16_8 ?_
      refine utf8_FullRuneInString.pv 8 31 utf8_FullRuneInString.q16_9 ?_
      refine utf8_FullRuneInString.pu 9 32 utf8_FullRuneInString.q16_10 ?_
      refine utf8_FullRuneInString.pu 10 33 utf8_FullRuneInString.q16_11 ?_
      refine utf8_FullRuneInString.pu 11 34 utf8_FullRuneInString.q16_12 ?_
      refine utf8_FullRuneInString.pu 12 35 utf8_FullRuneInString.q16_13 ?_
      refine utf8_FullRuneInString.pu 13 36 utf8_FullRuneInString.q16_14 ?_
      refine utf8_FullRuneInString.pv 14 37 utf8_FullRuneInString.q16_15 ?_
      refine utf8_FullRuneInString.pv 15 38 utf8_FullRuneInString.q16_16 ?_
      refine done_ (by kernel_rfl) ?_
      go_wp2
      go_ret
      exact ⟨rfl, ((Below.refl _ _).alloc (Nat.le_refl _) _).drew⟩
    have hb1z : ¬ ((x1.toNat : Int) < 128) := by omega
    have hb1d : decide ((x1.toNat : Int) < 128) = false := decide_eq_false hb1z
    by_cases hb2 : 191 < x1.toNat
    · skip
      have hr : utf8_FullRuneInString.N 3 4 x1.toNat x2.toNat = true := by unfold utf8_FullRuneInString.N; simp only [Lib.accLo, Lib.accHi, Nat.reduceMod, Nat.reduceDiv, Nat.reduceEqDiff, if_true, if_false, Nat.reduceLeDiff, Nat.reduceLT, decide_true, decide_false]; simp; omega
      rw [hr] at h
      subst h
      clear hT hX
      have hb2z : (191 : Int) < (x1.toNat : Int) := by omega
      have hb2d : decide ((191 : Int) < (x1.toNat : Int)) = true := decide_eq_true hb2z
      go_enter Tryd.func59, Tryd.ntmps59
      have hk0 : (w.alloc (Obj.cells #[Value.int .u8 128, Value.int .u8 191] 84)).cell? ⟨w.heap.size, 0, none⟩ = some (.int .u8 128) := bc0 (heap_alloc_new w (Obj.cells #[Value.int .u8 128, Value.int .u8 191] 84))
      have hk1 : (w.alloc (Obj.cells #[Value.int .u8 128, Value.int .u8 191] 84)).cell? ⟨w.heap.size, 1, none⟩ = some (.int .u8 191) := bc1 (heap_alloc_new w (Obj.cells #[Value.int .u8 128, Value.int .u8 191] 84))
      go_wp2
      refine start_ (n := 16) (S := fun w' => w'.cell? ⟨w.heap.size, 0, none⟩ = some (.int .u8 128) ∧ w'.cell? ⟨w.heap.size, 1, none⟩ = some (.int .u8 191)) (ds := []) utf8_FullRuneInString.q16_0 (by kernel_rfl) rfl rfl ⟨hk0, hk1⟩ (fun hHeld => ?_)
      refine utf8_FullRuneInString.pv 0 23 utf8_FullRuneInString.q16_1 ?_
      refine utf8_FullRuneInString.pv 1 24 utf8_FullRuneInString.q16_2 ?_
      refine utf8_FullRuneInString.pv 2 25 utf8_FullRuneInString.q16_3 ?_
      refine utf8_FullRuneInString.pv 3 26 utf8_FullRuneInString.q16_4 ?_
      refine utf8_FullRuneInString.pv 5 28 #[true, true, true, true, false, true, false, false, false, false, false, false, false, false, false, false] ?_
      refine utf8_FullRuneInString.tv hHeld 4 27 utf8_FullRuneInString.q16_6 ?_
      refine utf8_FullRuneInString.tv hHeld 6 29 utf8_FullRuneInString.q16_7 ?_
      refine utf8_FullRuneInString.pv 7 30 utf8_FullRuneInString.q16_8 ?_
      refine utf8_FullRuneInString.pv 8 31 utf8_FullRuneInString.q16_9 ?_
      refine utf8_FullRuneInString.pv 9 32 utf8_FullRuneInString.q16_10 ?_
      refine utf8_FullRuneInString.pv 11 34 #[true, true, true, true, true, true, true, true, true, true, false, true, false, false, false, false] ?_
      refine utf8_FullRuneInString.tv hHeld 10 33 utf8_FullRuneInString.q16_12 ?_
      refine utf8_FullRuneInString.tv hHeld 12 35 utf8_FullRuneInString.q16_13 ?_
      refine utf8_FullRuneInString.pv 13 36 utf8_FullRuneInString.q16_14 ?_
      refine utf8_FullRuneInString.pv 14 37 utf8_FullRuneInString.q16_15 ?_
      refine utf8_FullRuneInString.pv 15 38 utf8_FullRuneInString.q16_16 ?_
      refine done_ (by kernel_rfl) ?_
      go_wp2
      go_ret
      exact ⟨rfl, ((Below.refl _ _).alloc (Nat.le_refl _) _).drew⟩
    have hb2z : ¬ ((191 : Int) < (x1.toNat : Int)) := by omega
    have hb2d : decide ((191 : Int) < (x1.toNat : Int)) = false := decide_eq_false hb2z
    by_cases hb3 : x2.toNat < 128
    · skip
      have hr : utf8_FullRuneInString.N 3 4 x1.toNat x2.toNat = true := by unfold utf8_FullRuneInString.N; simp only [Lib.accLo, Lib.accHi, Nat.reduceMod, Nat.reduceDiv, Nat.reduceEqDiff, if_true, if_false, Nat.reduceLeDiff, Nat.reduceLT, decide_true, decide_false]; simp; omega
      rw [hr] at h
      subst h
      clear hT hX
      have hb3z : (x2.toNat : Int) < 128 := by omega
      go_enter Tryd.func59, Tryd.ntmps59
      have hk0 : (w.alloc (Obj.cells #[Value.int .u8 128, Value.int .u8 191] 84)).cell? ⟨w.heap.size, 0, none⟩ = some (.int .u8 128) := bc0 (heap_alloc_new w (Obj.cells #[Value.int .u8 128, Value.int .u8 191] 84))
      have hk1 : (w.alloc (Obj.cells #[Value.int .u8 128, Value.int .u8 191] 84)).cell? ⟨w.heap.size, 1, none⟩ = some (.int .u8 191) := bc1 (heap_alloc_new w (Obj.cells #[Value.int .u8 128, Value.int .u8 191] 84))
      go_wp2
      refine start_ (n := 16) (S := fun w' => w'.cell? ⟨w.heap.size, 0, none⟩ = some (.int .u8 128) ∧ w'.cell? ⟨w.heap.size, 1, none⟩ = some (.int .u8 191)) (ds := []) utf8_FullRuneInString.q16_0 (by kernel_rfl) rfl rfl ⟨hk0, hk1⟩ (fun hHeld => ?_)
      refine utf8_FullRuneInString.pv 0 23 utf8_FullRuneInString.q16_1 ?_
      refine utf8_FullRuneInString.pv 1 24 utf8_FullRuneInString.q16_2 ?_
      refine utf8_FullRuneInString.pv 2 25 utf8_FullRuneInString.q16_3 ?_
      refine utf8_FullRuneInString.pv 3 26 utf8_FullRuneInString.q16_4 ?_
      refine utf8_FullRuneInString.pv 5 28 #[true, true, true, true, false, true, false, false, false, false, false, false, false, false, false, false] ?_
      refine utf8_FullRuneInString.tv hHeld 4 27 utf8_FullRuneInString.q16_6 ?_
      refine utf8_FullRuneInString.tv hHeld 6 29 utf8_FullRuneInString.q16_7 ?_
      refine utf8_FullRuneInString.pv 7 30 utf8_FullRuneInString.q16_8 ?_
      refine utf8_FullRuneInString.pv 8 31 utf8_FullRuneInString.q16_9 ?_
      refine utf8_FullRuneInString.pv 9 32 utf8_FullRuneInString.q16_10 ?_
      refine utf8_FullRuneInString.pv 11 34 #[true, true, true, true, true, true, true, true, true, true, false, true, false, false, false, false] ?_
      refine utf8_FullRuneInString.tv hHeld 10 33 utf8_FullRuneInString.q16_12 ?_
      refine utf8_FullRuneInString.tv hHeld 12 35 utf8_FullRuneInString.q16_13 ?_
      refine utf8_FullRuneInString.pv 13 36 utf8_FullRuneInString.q16_14 ?_
      refine utf8_FullRuneInString.pv 14 37 utf8_FullRuneInString.q16_15 ?_
      refine utf8_FullRuneInString.pv 15 38 utf8_FullRuneInString.q16_16 ?_
      refine done_ (by kernel_rfl) ?_
      go_wp2
      go_ret
      exact ⟨rfl, ((Below.refl _ _).alloc (Nat.le_refl _) _).drew⟩
    have hb3z : ¬ ((x2.toNat : Int) < 128) := by omega
    by_cases hb4 : 191 < x2.toNat
    · skip
      have hr : utf8_FullRuneInString.N 3 4 x1.toNat x2.toNat = true := by unfold utf8_FullRuneInString.N; simp only [Lib.accLo, Lib.accHi, Nat.reduceMod, Nat.reduceDiv, Nat.reduceEqDiff, if_true, if_false, Nat.reduceLeDiff, Nat.reduceLT, decide_true, decide_false]; simp; omega
      rw [hr] at h
      subst h
      clear hT hX
      have hb4z : (191 : Int) < (x2.toNat : Int) := by omega
      go_enter Tryd.func59, Tryd.ntmps59
      have hk0 : (w.alloc (Obj.cells #[Value.int .u8 128, Value.int .u8 191] 84)).cell? ⟨w.heap.size, 0, none⟩ = some (.int .u8 128) := bc0 (heap_alloc_new w (Obj.cells #[Value.int .u8 128, Value.int .u8 191] 84))
      have hk1 : (w.alloc (Obj.cells #[Value.int .u8 128, Value.int .u8 191] 84)).cell? ⟨w.heap.size, 1, none⟩ = some (.int .u8 191) := bc1 (heap_alloc_new w (Obj.cells #[Value.int .u8 128, Value.int .u8 191] 84))
      go_wp2
      refine start_ (n := 16) (S := fun w' => w'.cell? ⟨w.heap.size, 0, none⟩ = some (.int .u8 128) ∧ w'.cell? ⟨w.heap.size, 1, none⟩ = some (.int .u8 191)) (ds := []) utf8_FullRuneInString.q16_0 (by kernel_rfl) rfl rfl ⟨hk0, hk1⟩ (fun hHeld => ?_)
      refine utf8_FullRuneInString.pv 0 23 utf8_FullRuneInString.q16_1 ?_
      refine utf8_FullRuneInString.pv 1 24 utf8_FullRuneInString.q16_2 ?_
      refine utf8_FullRuneInString.pv 2 25 utf8_FullRuneInString.q16_3 ?_
      refine utf8_FullRuneInString.pv 3 26 utf8_FullRuneInString.q16_4 ?_
      refine utf8_FullRuneInString.pv 5 28 #[true, true, true, true, false, true, false, false, false, false, false, false, false, false, false, false] ?_
      refine utf8_FullRuneInString.tv hHeld 4 27 utf8_FullRuneInString.q16_6 ?_
      refine utf8_FullRuneInString.tv hHeld 6 29 utf8_FullRuneInString.q16_7 ?_
      refine utf8_FullRuneInString.pv 7 30 utf8_FullRuneInString.q16_8 ?_
      refine utf8_FullRuneInString.pv 8 31 utf8_FullRuneInString.q16_9 ?_
      refine utf8_FullRuneInString.pv 9 32 utf8_FullRuneInString.q16_10 ?_
      refine utf8_FullRuneInString.pv 11 34 #[true, true, true, true, true, true, true, true, true, true, false, true, false, false, false, false] ?_
      refine utf8_FullRuneInString.tv hHeld 10 33 utf8_FullRuneInString.q16_12 ?_
      refine utf8_FullRuneInString.tv hHeld 12 35 utf8_FullRuneInString.q16_13 ?_
      refine utf8_FullRuneInString.pv 13 36 utf8_FullRuneInString.q16_14 ?_
      refine utf8_FullRuneInString.pv 14 37 utf8_FullRuneInString.q16_15 ?_
      refine utf8_FullRuneInString.pv 15 38 utf8_FullRuneInString.q16_16 ?_
      refine done_ (by kernel_rfl) ?_
      go_wp2
      go_ret
      exact ⟨rfl, ((Below.refl _ _).alloc (Nat.le_refl _) _).drew⟩
    have hb4z : ¬ ((191 : Int) < (x2.toNat : Int)) := by omega
    have hr : utf8_FullRuneInString.N 3 4 x1.toNat x2.toNat = false := by unfold utf8_FullRuneInString.N; simp only [Lib.accLo, Lib.accHi, Nat.reduceMod, Nat.reduceDiv, Nat.reduceEqDiff, if_true, if_false, Nat.reduceLeDiff, Nat.reduceLT, decide_true, decide_false]; simp; omega
    rw [hr] at h
    subst h
    clear hT hX
    go_enter Tryd.func59, Tryd.ntmps59
    have hk0 : (w.alloc (Obj.cells #[Value.int .u8 128, Value.int .u8 191] 84)).cell? ⟨w.heap.size, 0, none⟩ = some (.int .u8 128) := bc0 (heap_alloc_new w (Obj.cells #[Value.int .u8 128, Value.int .u8 191] 84))
    have hk1 : (w.alloc (Obj.cells #[Value.int .u8 128, Value.int .u8 191] 84)).cell? ⟨w.heap.size, 1, none⟩ = some (.int .u8 191) := bc1 (heap_alloc_new w (Obj.cells #[Value.int .u8 128, Value.int .u8 191] 84))
    go_wp2
    refine start_ (n := 16) (S := fun w' => w'.cell? ⟨w.heap.size, 0, none⟩ = some (.int .u8 128) ∧ w'.cell? ⟨w.heap.size, 1, none⟩ = some (.int .u8 191)) (ds := []) utf8_FullRuneInString.q16_0 (by kernel_rfl) rfl rfl ⟨hk0, hk1⟩ (fun hHeld => ?_)
    refine utf8_FullRuneInString.pv 0 23 utf8_FullRuneInString.q16_1 ?_
    refine utf8_FullRuneInString.pv 1 24 utf8_FullRuneInString.q16_2 ?_
    refine utf8_FullRuneInString.pv 2 25 utf8_FullRuneInString.q16_3 ?_
    refine utf8_FullRuneInString.pv 3 26 utf8_FullRuneInString.q16_4 ?_
    refine utf8_FullRuneInString.pv 5 28 #[true, true, true, true, false, true, false, false, false, false, false, false, false, false, false, false] ?_
    refine utf8_FullRuneInString.tv hHeld 4 27 utf8_FullRuneInString.q16_6 ?_
    refine utf8_FullRuneInString.tv hHeld 6 29 utf8_FullRuneInString.q16_7 ?_
    refine utf8_FullRuneInString.pv 7 30 utf8_FullRuneInString.q16_8 ?_
    refine utf8_FullRuneInString.pv 8 31 utf8_FullRuneInString.q16_9 ?_
    refine utf8_FullRuneInString.pv 9 32 utf8_FullRuneInString.q16_10 ?_
    refine utf8_FullRuneInString.pv 11 34 #[true, true, true, true, true, true, true, true, true, true, false, true, false, false, false, false] ?_
    refine utf8_FullRuneInString.tv hHeld 10 33 utf8_FullRuneInString.q16_12 ?_
    refine utf8_FullRuneInString.tv hHeld 12 35 utf8_FullRuneInString.q16_13 ?_
    refine utf8_FullRuneInString.pv 13 36 utf8_FullRuneInString.q16_14 ?_
    refine utf8_FullRuneInString.pv 14 37 utf8_FullRuneInString.q16_15 ?_
    refine utf8_FullRuneInString.pv 15 38 utf8_FullRuneInString.q16_16 ?_
    refine done_ (by kernel_rfl) ?_
    go_wp2
    go_ret
    exact ⟨rfl, ((Below.refl _ _).alloc (Nat.le_refl _) _).drew⟩
  · rw [hX] at hc0 h
    have ha0 := (hT.2 4 (by omega)).1
    have ha1 := (hT.2 4 (by omega)).2
    simp only [Lib.accLo, Lib.accHi, Nat.reduceMul, Nat.reduceAdd, Nat.reduceEqDiff, if_true, if_false] at ha0 ha1
    by_cases hn : 4 ≤ s.size
    · have hr : utf8_FullRuneInString.N s.size 68 x1.toNat x2.toNat = true := by unfold utf8_FullRuneInString.N; simp; omega
      rw [hr] at h
      subst h
      clear hT hX
      have hge : (4 : Int) ≤ (s.size : Int) := by omega
      go_enter Tryd.func59, Tryd.ntmps59
      go_wp2
      go_ret
      exact ⟨rfl, Below.refl _ _⟩
    by_cases hn1 : s.size = 1
    · rw [hn1] at h
      have hsz : (s.size : Int) = 1 := by omega
      have hr : utf8_FullRuneInString.N 1 68 x1.toNat x2.toNat = false := by unfold utf8_FullRuneInString.N; simp only [Lib.accLo, Lib.accHi, Nat.reduceMod, Nat.reduceDiv, Nat.reduceEqDiff, if_true, if_false, Nat.reduceLeDiff, Nat.reduceLT, decide_true, decide_false]; simp
      rw [hr] at h
      subst h
      clear hT hX
      go_enter Tryd.func59, Tryd.ntmps59
      have hk0 : (w.alloc (Obj.cells #[Value.int .u8 128, Value.int .u8 143] 84)).cell? ⟨w.heap.size, 0, none⟩ = some (.int .u8 128) := bc0 (heap_alloc_new w (Obj.cells #[Value.int .u8 128, Value.int .u8 143] 84))
      have hk1 : (w.alloc (Obj.cells #[Value.int .u8 128, Value.int .u8 143] 84)).cell? ⟨w.heap.size, 1, none⟩ = some (.int .u8 143) := bc1 (heap_alloc_new w (Obj.cells #[Value.int .u8 128, Value.int .u8 143] 84))
      go_wp2
      refine start_ (n := 16) (S := fun w' => w'.cell? ⟨w.heap.size, 0, none⟩ = some (.int .u8 128) ∧ w'.cell? ⟨w.heap.size, 1, none⟩ = some (.int .u8 143)) (ds := []) utf8_FullRuneInString.q16_0 (by kernel_rfl) rfl rfl ⟨hk0, hk1⟩ (fun hHeld => ?_)
      refine utf8_FullRuneInString.pv 0 23 utf8_FullRuneInString.q16_1 ?_
      refine utf8_FullRuneInString.pv 1 24 utf8_FullRuneInString.q16_2 ?_
      refine utf8_FullRuneInString.pv 2 25 utf8_FullRuneInString.q16_3 ?_
      refine utf8_FullRuneInString.pu 3 26 utf8_FullRuneInString.q16_4 ?_
      refine utf8_FullRuneInString.pu 4 27 utf8_FullRuneInString.q16_5 ?_
      refine utf8_FullRuneInString.pu 5 28 utf8_FullRuneInString.q16_6 ?_
      refine utf8_FullRuneInString.pu 6 29 utf8_FullRuneInString.q16_7 ?_
      refine utf8_FullRuneInString.pu 7 30 utf8_FullRuneInString.q16_8 ?_
      refine utf8_FullRuneInString.pu 8 31 utf8_FullRuneInString.q16_9 ?_
      refine utf8_FullRuneInString.pu 9 32 utf8_FullRuneInString.q16_10 ?_
      refine utf8_FullRuneInString.pu 10 33 utf8_FullRuneInString.q16_11 ?_
      refine utf8_FullRuneInString.pu 11 34 utf8_FullRuneInString.q16_12 ?_
      refine utf8_FullRuneInString.pu 12 35 utf8_FullRuneInString.q16_13 ?_
      refine utf8_FullRuneInString.pu 13 36 utf8_FullRuneInString.q16_14 ?_
      refine utf8_FullRuneInString.pu 14 37 utf8_FullRuneInString.q16_15 ?_
      refine utf8_FullRuneInString.pv 15 38 utf8_FullRuneInString.q16_16 ?_
      refine done_ (by kernel_rfl) ?_
      go_wp2
      go_ret
      exact ⟨rfl, ((Below.refl _ _).alloc (Nat.le_refl _) _).drew⟩
    by_cases hn2 : s.size = 2
    · rw [hn2] at h
      have hsz : (s.size : Int) = 2 := by omega
      have hs1 : s[1]'(by omega) = x1 := by rw [← hx1]; exact (Utf8W.get!_of_lt s 1 (by omega)).symm
      by_cases hb1 : x1.toNat < 128
      · skip
        have hr : utf8_FullRuneInString.N 2 68 x1.toNat x2.toNat = true := by unfold utf8_FullRuneInString.N; simp only [Lib.accLo, Lib.accHi, Nat.reduceMod, Nat.reduceDiv, Nat.reduceEqDiff, if_true, if_false, Nat.reduceLeDiff, Nat.reduceLT, decide_true, decide_false]; simp; omega
        rw [hr] at h
        subst h
        clear hT hX
        have hb1z : (x1.toNat : Int) < 128 := by omega
        have hb1d : decide ((x1.toNat : Int) < 128) = true := decide_eq_true hb1z
        go_enter Tryd.func59, Tryd.ntmps59
        have hk0 : (w.alloc (Obj.cells #[Value.int .u8 128, Value.int .u8 143] 84)).cell? ⟨w.heap.size, 0, none⟩ = some (.int .u8 128) := bc0 (heap_alloc_new w (Obj.cells #[Value.int .u8 128, Value.int .u8 143] 84))
        have hk1 : (w.alloc (Obj.cells #[Value.int .u8 128, Value.int .u8 143] 84)).cell? ⟨w.heap.size, 1, none⟩ = some (.int .u8 143) := bc1 (heap_alloc_new w (Obj.cells #[Value.int .u8 128, Value.int .u8 143] 84))
        go_wp2
        refine start_ (n := 16) (S := fun w' => w'.cell? ⟨w.heap.size, 0, none⟩ = some (.int .u8 128) ∧ w'.cell? ⟨w.heap.size, 1, none⟩ = some (.int .u8 143)) (ds := []) utf8_FullRuneInString.q16_0 (by kernel_rfl) rfl rfl ⟨hk0, hk1⟩ (fun hHeld => ?_)
        refine utf8_FullRuneInString.pv 0 23 utf8_FullRuneInString.q16_1 ?_
        refine utf8_FullRuneInString.pv 1 24 utf8_FullRuneInString.q16_2 ?_
        refine utf8_FullRuneInString.pv 2 25 utf8_FullRuneInString.q16_3 ?_
        refine utf8_FullRuneInString.pv 3 26 utf8_FullRuneInString.q16_4 ?_
        refine utf8_FullRuneInString.pv 5 28 #[true, true, true, true, false, true, false, false, false, false, false, false, false, false, false, false] ?_
        refine utf8_FullRuneInString.tv hHeld 4 27 utf8_FullRuneInString.q16_6 ?_
        refine utf8_FullRuneInString.tv hHeld 6 29 utf8_FullRuneInString.q16_7 ?_
        refine utf8_FullRuneInString.pv 7 30 utf8_FullRuneInString.q16_8 ?_
        refine utf8_FullRuneInString.pv 8 31 utf8_FullRuneInString.q16_9 ?_
        refine utf8_FullRuneInString.pu 9 32 utf8_FullRuneInString.q16_10 ?_
        refine utf8_FullRuneInString.pu 10 33 utf8_FullRuneInString.q16_11 ?_
        refine utf8_FullRuneInString.pu 11 34 utf8_FullRuneInString.q16_12 ?_
        refine utf8_FullRuneInString.pu 12 35 utf8_FullRuneInString.q16_13 ?_
        refine utf8_FullRuneInString.pu 13 36 utf8_FullRuneInString.q16_14 ?_
        refine utf8_FullRuneInString.pv 14 37 utf8_FullRuneInString.q16_15 ?_
        refine utf8_FullRuneInString.pv 15 38 utf8_FullRuneInString.q16_16 ?_
        refine done_ (by kernel_rfl) ?_
        go_wp2
        go_ret
        exact ⟨rfl, ((Below.refl _ _).alloc (Nat.le_refl _) _).drew⟩
      have hb1z : ¬ ((x1.toNat : Int) < 128) := by omega
      have hb1d : decide ((x1.toNat : Int) < 128) = false := decide_eq_false hb1z
      by_cases hb2 : 143 < x1.toNat
      · skip
        have hr : utf8_FullRuneInString.N 2 68 x1.toNat x2.toNat = true := by unfold utf8_FullRuneInString.N; simp only [Lib.accLo, Lib.accHi, Nat.reduceMod, Nat.reduceDiv, Nat.reduceEqDiff, if_true, if_false, Nat.reduceLeDiff, Nat.reduceLT, decide_true, decide_false]; simp; omega
        rw [hr] at h
        subst h
        clear hT hX
        have hb2z : (143 : Int) < (x1.toNat : Int) := by omega
        have hb2d : decide ((143 : Int) < (x1.toNat : Int)) = true := decide_eq_true hb2z
        go_enter Tryd.func59, Tryd.ntmps59
        have hk0 : (w.alloc (Obj.cells #[Value.int .u8 128, Value.int .u8 143] 84)).cell? ⟨w.heap.size, 0, none⟩ = some (.int .u8 128) := bc0 (heap_alloc_new w (Obj.cells #[Value.int .u8 128, Value.int .u8 143] 84))
        have hk1 : (w.alloc (Obj.cells #[Value.int .u8 128, Value.int .u8 143] 84)).cell? ⟨w.heap.size, 1, none⟩ = some (.int .u8 143) := bc1 (heap_alloc_new w (Obj.cells #[Value.int .u8 128, Value.int .u8 143] 84))
        go_wp2
        refine start_ (n := 16) (S := fun w' => w'.cell? ⟨w.heap.size, 0, none⟩ = some (.int .u8 128) ∧ w'.cell? ⟨w.heap.size, 1, none⟩ = some (.int .u8 143)) (ds := []) utf8_FullRuneInString.q16_0 (by kernel_rfl) rfl rfl ⟨hk0, hk1⟩ (fun hHeld => ?_)
        refine utf8_FullRuneInString.pv 0 23 utf8_FullRuneInString.q16_1 ?_
        refine utf8_FullRuneInString.pv 1 24 utf8_FullRuneInString.q16_2 ?_
        refine utf8_FullRuneInString.pv 2 25 utf8_FullRuneInString.q16_3 ?_
        refine utf8_FullRuneInString.pv 3 26 utf8_FullRuneInString.q16_4 ?_
        refine utf8_FullRuneInString.pv 5 28 #[true, true, true, true, false, true, false, false, false, false, false, false, false, false, false, false] ?_
        refine utf8_FullRuneInString.tv hHeld 4 27 utf8_FullRuneInString.q16_6 ?_
        refine utf8_FullRuneInString.tv hHeld 6 29 utf8_FullRuneInString.q16_7 ?_
        refine utf8_FullRuneInString.pv 7 30 utf8_FullRuneInString.q16_8 ?_
        refine utf8_FullRuneInString.pv 8 31 utf8_FullRuneInString.q16_9 ?_
        refine utf8_FullRuneInString.pv 9 32 utf8_FullRuneInString.q16_10 ?_
        refine utf8_FullRuneInString.pv 11 34 #[true, true, true, true, true, true, true, true, true, true, false, true, false, false, false, false] ?_
        refine utf8_FullRuneInString.tv hHeld 10 33 utf8_FullRuneInString.q16_12 ?_
        refine utf8_FullRuneInString.tv hHeld 12 35 utf8_FullRuneInString.q16_13 ?_
        refine utf8_FullRuneInString.pv 13 36 utf8_FullRuneInString.q16_14 ?_
        refine utf8_FullRuneInString.pv 14 37 utf8_FullRuneInString.q16_15 ?_
        refine utf8_FullRuneInString.pv 15 38 utf8_FullRuneInString.q16_16 ?_
        refine done_ (by kernel_rfl) ?_
        go_wp2
        go_ret
        exact ⟨rfl, ((Below.refl _ _).alloc (Nat.le_refl _) _).drew⟩
      have hb2z : ¬ ((143 : Int) < (x1.toNat : Int)) := by omega
      have hb2d : decide ((143 : Int) < (x1.toNat : Int)) = false := decide_eq_false hb2z
      have hr : utf8_FullRuneInString.N 2 68 x1.toNat x2.toNat = false := by unfold utf8_FullRuneInString.N; simp only [Lib.accLo, Lib.accHi, Nat.reduceMod, Nat.reduceDiv, Nat.reduceEqDiff, if_true, if_false, Nat.reduceLeDiff, Nat.reduceLT, decide_true, decide_false]; simp; omega
      rw [hr] at h
      subst h
      clear hT hX
      go_enter Tryd.func59, Tryd.ntmps59
      have hk0 : (w.alloc (Obj.cells #[Value.int .u8 128, Value.int .u8 143] 84)).cell? ⟨w.heap.size, 0, none⟩ = some (.int .u8 128) := bc0 (heap_alloc_new w (Obj.cells #[Value.int .u8 128, Value.int .u8 143] 84))
      have hk1 : (w.alloc (Obj.cells #[Value.int .u8 128, Value.int .u8 143] 84)).cell? ⟨w.heap.size, 1, none⟩ = some (.int .u8 143) := bc1 (heap_alloc_new w (Obj.cells #[Value.int .u8 128, Value.int .u8 143] 84))
      go_wp2
      refine start_ (n := 16) (S := fun w' => w'.cell? ⟨w.heap.size, 0, none⟩ = some (.int .u8 128) ∧ w'.cell? ⟨w.heap.size, 1, none⟩ = some (.int .u8 143)) (ds := []) utf8_FullRuneInString.q16_0 (by kernel_rfl) rfl rfl ⟨hk0, hk1⟩ (fun hHeld => ?_)
      refine utf8_FullRuneInString.pv 0 23 utf8_FullRuneInString.q16_1 ?_
      refine utf8_FullRuneInString.pv 1 24 utf8_FullRuneInString.q16_2 ?_
      refine utf8_FullRuneInString.pv 2 25 utf8_FullRuneInString.q16_3 ?_
      refine utf8_FullRuneInString.pv 3 26 utf8_FullRuneInString.q16_4 ?_
      refine utf8_FullRuneInString.pv 5 28 #[true, true, true, true, false, true, false, false, false, false, false, false, false, false, false, false] ?_
      refine utf8_FullRuneInString.tv hHeld 4 27 utf8_FullRuneInString.q16_6 ?_
      refine utf8_FullRuneInString.tv hHeld 6 29 utf8_FullRuneInString.q16_7 ?_
      refine utf8_FullRuneInString.pv 7 30 utf8_FullRuneInString.q16_8 ?_
      refine utf8_FullRuneInString.pv 8 31 utf8_FullRuneInString.q16_9 ?_
      refine utf8_FullRuneInString.pv 9 32 utf8_FullRuneInString.q16_10 ?_
      refine utf8_FullRuneInString.pv 11 34 #[true, true, true, true, true, true, true, true, true, true, false, true, false, false, false, false] ?_
      refine utf8_FullRuneInString.tv hHeld 10 33 utf8_FullRuneInString.q16_12 ?_
      refine utf8_FullRuneInString.tv hHeld 12 35 utf8_FullRuneInString.q16_13 ?_
      refine utf8_FullRuneInString.pv 13 36 utf8_FullRuneInString.q16_14 ?_
      refine utf8_FullRuneInString.pv 14 37 utf8_FullRuneInString.q16_15 ?_
      refine utf8_FullRuneInString.pv 15 38 utf8_FullRuneInString.q16_16 ?_
      refine done_ (by kernel_rfl) ?_
      go_wp2
      go_ret
      exact ⟨rfl, ((Below.refl _ _).alloc (Nat.le_refl _) _).drew⟩
    have hn3 : s.size = 3 := by omega
    rw [hn3] at h
    have hsz : (s.size : Int) = 3 := by omega
    have hs1 : s[1]'(by omega) = x1 := by rw [← hx1]; exact (Utf8W.get!_of_lt s 1 (by omega)).symm
    have hs2 : s[2]'(by omega) = x2 := by rw [← hx2]; exact (Utf8W.get!_of_lt s 2 (by omega)).symm
    by_cases hb1 : x1.toNat < 128
    · skip
      have hr : utf8_FullRuneInString.N 3 68 x1.toNat x2.toNat = true := by unfold utf8_FullRuneInString.N; simp only [Lib.accLo, Lib.accHi, Nat.reduceMod, Nat.reduceDiv, Nat.reduceEqDiff, if_true, if_false, Nat.reduceLeDiff, Nat.reduceLT, decide_true, decide_false]; simp; omega
      rw [hr] at h
      subst h
      clear hT hX
      have hb1z : (x1.toNat : Int) < 128 := by omega
      have hb1d : decide ((x1.toNat : Int) < 128) = true := decide_eq_true hb1z
      go_enter Tryd.func59, Tryd.ntmps59
      have hk0 : (w.alloc (Obj.cells #[Value.int .u8 128, Value.int .u8 143] 84)).cell? ⟨w.heap.size, 0, none⟩ = some (.int .u8 128) := bc0 (heap_alloc_new w (Obj.cells #[Value.int .u8 128, Value.int .u8 143] 84))
      have hk1 : (w.alloc (Obj.cells #[Value.int .u8 128, Value.int .u8 143] 84)).cell? ⟨w.heap.size, 1, none⟩ = some (.int .u8 143) := bc1 (heap_alloc_new w (Obj.cells #[Value.int .u8 128, Value.int .u8 143] 84))
      go_wp2
      refine start_ (n := 16) (S := fun w' => w'.cell? ⟨w.heap.size, 0, none⟩ = some (.int .u8 128) ∧ w'.cell? ⟨w.heap.size, 1, none⟩ = some (.int .u8 143)) (ds := []) utf8_FullRuneInString.q16_0 (by kernel_rfl) rfl rfl ⟨hk0, hk1⟩ (fun hHeld => ?_)
      refine utf8_FullRuneInString.pv 0 23 utf8_FullRuneInString.q16_1 ?_
      refine utf8_FullRuneInString.pv 1 24 utf8_FullRuneInString.q16_2 ?_
      refine utf8_FullRuneInString.pv 2 25 utf8_FullRuneInString.q16_3 ?_
      refine utf8_FullRuneInString.pv 3 26 utf8_FullRuneInString.q16_4 ?_
      refine utf8_FullRuneInString.pv 5 28 #[true, true, true, true, false, true, false, false, false, false, false, false, false, false, false, false] ?_
      refine utf8_FullRuneInString.tv hHeld 4 27 utf8_FullRuneInString.q16_6 ?_
      refine utf8_FullRuneInString.tv hHeld 6 29 utf8_FullRuneInString.q16_7 ?_
      refine utf8_FullRuneInString.pv 7 30 utf8_FullRuneInString.q16_8 ?_
      refine utf8_FullRuneInString.pv 8 31 utf8_FullRuneInString.q16_9 ?_
      refine utf8_FullRuneInString.pu 9 32 utf8_FullRuneInString.q16_10 ?_
      refine utf8_FullRuneInString.pu 10 33 utf8_FullRuneInString.q16_11 ?_
      refine utf8_FullRuneInString.pu 11 34 utf8_FullRuneInString.q16_12 ?_
      refine utf8_FullRuneInString.pu 12 35 utf8_FullRuneInString.q16_13 ?_
      refine utf8_FullRuneInString.pu 13 36 utf8_FullRuneInString.q16_14 ?_
      refine utf8_FullRuneInString.pv 14 37 utf8_FullRuneInString.q16_15 ?_
      refine utf8_FullRuneInString.pv 15 38 utf8_FullRuneInString.q16_16 ?_
      refine done_ (by kernel_rfl) ?_
      go_wp2
      go_ret
      exact ⟨rfl, ((Below.refl _ _).alloc (Nat.le_refl _) _).drew⟩
    have hb1z : ¬ ((x1.toNat : Int) < 128) := by omega
    have hb1d : decide ((x1.toNat : Int) < 128) = false := decide_eq_false hb1z
    by_cases hb2 : 143 < x1.toNat
    · skip
      have hr : utf8_FullRuneInString.N 3 68 x1.toNat x2.toNat = true := by unfold utf8_FullRuneInString.N; simp only [Lib.accLo, Lib.accHi, Nat.reduceMod, Nat.reduceDiv, Nat.reduceEqDiff, if_true, if_false, Nat.reduceLeDiff, Nat.reduceLT, decide_true, decide_false]; simp; omega
      rw [hr] at h
      subst h
      clear hT hX
      have hb2z : (143 : Int) < (x1.toNat : Int) := by omega
      have hb2d : decide ((143 : Int) < (x1.toNat : Int)) = true := decide_eq_true hb2z
      go_enter Tryd.func59, Tryd.ntmps59
      have hk0 : (w.alloc (Obj.cells #[Value.int .u8 128, Value.int .u8 143] 84)).cell? ⟨w.heap.size, 0, none⟩ = some (.int .u8 128) := bc0 (heap_alloc_new w (Obj.cells #[Value.int .u8 128, Value.int .u8 143] 84))
      have hk1 : (w.alloc (Obj.cells #[Value.int .u8 128, Value.int .u8 143] 84)).cell? ⟨w.heap.size, 1, none⟩ = some (.int .u8 143) := bc1 (heap_alloc_new w (Obj.cells #[Value.int .u8 128, Value.int .u8 143] 84))
      go_wp2
      refine start_ (n := 16) (S := fun w' => w'.cell? ⟨w.heap.size, 0, none⟩ = some (.int .u8 128) ∧ w'.cell? ⟨w.heap.size, 1, none⟩ = some (.int .u8 143)) (ds := []) utf8_FullRuneInString.q16_0 (by kernel_rfl) rfl rfl ⟨hk0, hk1⟩ (fun hHeld => ?_)
      refine utf8_FullRuneInString.pv 0 23 utf8_FullRuneInString.q16_1 ?_
      refine utf8_FullRuneInString.pv 1 24 utf8_FullRuneInString.q16_2 ?_
      refine utf8_FullRuneInString.pv 2 25 utf8_FullRuneInString.q16_3 ?_
      refine utf8_FullRuneInString.pv 3 26 utf8_FullRuneInString.q16_4 ?_
      refine utf8_FullRuneInString.pv 5 28 #[true, true, true, true, false, true, false, false, false, false, false, false, false, false, false, false] ?_
      refine utf8_FullRuneInString.tv hHeld 4 27 utf8_FullRuneInString.q16_6 ?_
      refine utf8_FullRuneInString.tv hHeld 6 29 utf8_FullRuneInString.q16_7 ?_
      refine utf8_FullRuneInString.pv 7 30 utf8_FullRuneInString.q16_8 ?_
      refine utf8_FullRuneInString.pv 8 31 utf8_FullRuneInString.q16_9 ?_
      refine utf8_FullRuneInString.pv 9 32 utf8_FullRuneInString.q16_10 ?_
      refine utf8_FullRuneInString.pv 11 34 #[true, true, true, true, true, true, true, true, true, true, false, true, false, false, false, false] ?_
      refine utf8_FullRuneInString.tv hHeld 10 33 utf8_FullRuneInString.q16_12 ?_
      refine utf8_FullRuneInString.tv hHeld 12 35 utf8_FullRuneInString.q16_13 ?_
      refine utf8_FullRuneInString.pv 13 36 utf8_FullRuneInString.q16_14 ?_
      refine utf8_FullRuneInString.pv 14 37 utf8_FullRuneInString.q16_15 ?_
      refine utf8_FullRuneInString.pv 15 38 utf8_FullRuneInString.q16_16 ?_
      refine done_ (by kernel_rfl) ?_
      go_wp2
      go_ret
      exact ⟨rfl, ((Below.refl _ _).alloc (Nat.le_refl _) _).drew⟩
    have hb2z : ¬ ((143 : Int) < (x1.toNat : Int)) := by omega
    have hb2d : decide ((143 : Int) < (x1.toNat : Int)) = false := decide_eq_false hb2z
    by_cases hb3 : x2.toNat < 128
    · skip
      have hr : utf8_FullRuneInString.N 3 68 x1.toNat x2.toNat = true := by unfold utf8_FullRuneInString.N; simp only [Lib.accLo, Lib.accHi, Nat.reduceMod, Nat.reduceDiv, Nat.reduceEqDiff, if_true, if_false, Nat.reduceLeDiff, Nat.reduceLT, decide_true, decide_false]; simp; omega
      rw [hr] at h
      subst h
      clear hT hX
      have hb3z : (x2.toNat : Int) < 128 := by omega
      go_enter Tryd.func59, Tryd.ntmps59
      have hk0 : (w.alloc (Obj.cells #[Value.int .u8 128, Value.int .u8 143] 84)).cell? ⟨w.heap.size, 0, none⟩ = some (.int .u8 128) := bc0 (heap_alloc_new w (Obj.cells #[Value.int .u8 128, Value.int .u8 143] 84))
      have hk1 : (w.alloc (Obj.cells #[Value.int .u8 128, Value.int .u8 143] 84)).cell? ⟨w.heap.size, 1, none⟩ = some (.int .u8 143) := bc1 (heap_alloc_new w (Obj.cells #[Value.int .u8 128, Value.int .u8 143] 84))
      go_wp2
      refine start_ (n := 16) (S := fun w' => w'.cell? ⟨w.heap.size, 0, none⟩ = some (.int .u8 128) ∧ w'.cell? ⟨w.heap.size, 1, none⟩ = some (.int .u8 143)) (ds := []) utf8_FullRuneInString.q16_0 (by kernel_rfl) rfl rfl ⟨hk0, hk1⟩ (fun hHeld => ?_)
      refine utf8_FullRuneInString.pv 0 23 utf8_FullRuneInString.q16_1 ?_
      refine utf8_FullRuneInString.pv 1 24 utf8_FullRuneInString.q16_2 ?_
      refine utf8_FullRuneInString.pv 2 25 utf8_FullRuneInString.q16_3 ?_
      refine utf8_FullRuneInString.pv 3 26 utf8_FullRuneInString.q16_4 ?_
      refine utf8_FullRuneInString.pv 5 28 #[true, true, true, true, false, true, false, false, false, false, false, false, false, false, false, false] ?_
      refine utf8_FullRuneInString.tv hHeld 4 27 utf8_FullRuneInString.q16_6 ?_
      refine utf8_FullRuneInString.tv hHeld 6 29 utf8_FullRuneInString.q16_7 ?_
      refine utf8_FullRuneInString.pv 7 30 utf8_FullRuneInString.q16_8 ?_
      refine utf8_FullRuneInString.pv 8 31 utf8_FullRuneInString.q16_9 ?_
      refine utf8_FullRuneInString.pv 9 32 utf8_FullRuneInString.q16_10 ?_
      refine utf8_FullRuneInString.pv 11 34 #[true, true, true, true, true, true, true, true, true, true, false, true, false, false, false, false] ?_
      refine utf8_FullRuneInString.tv hHeld 10 33 utf8_FullRuneInString.q16_12 ?_
      refine utf8_FullRuneInString.tv hHeld 12 35 utf8_FullRuneInString.q16_13 ?_
      refine utf8_FullRuneInString.pv 13 36 utf8_FullRuneInString.q16_14 ?_
      refine utf8_FullRuneInString.pv 14 37 utf8_FullRuneInString.q16_15 ?_
      refine utf8_FullRuneInString.pv 15 38 utf8_FullRuneInString.q16_16 ?_
      refine done_ (by kernel_rfl) ?_
      go_wp2
      go_ret
      exact ⟨rfl, ((Below.refl _ _).alloc (Nat.le_refl _) _).drew⟩
    have hb3z : ¬ ((x2.toNat : Int) < 128) := by omega
    by_cases hb4 : 191 < x2.toNat
    · skip
      have hr : utf8_FullRuneInString.N 3 68 x1.toNat x2.toNat = true := by unfold utf8_FullRuneInString.N; simp only [Lib.accLo, Lib.accHi, Nat.reduceMod, Nat.reduceDiv, Nat.reduceEqDiff, if_true, if_false, Nat.reduceLeDiff, Nat.reduceLT, decide_true, decide_false]; simp; omega
      rw [hr] at h
      subst h
      clear hT hX
      have hb4z : (191 : Int) < (x2.toNat : Int) := by omega
      go_enter Tryd.func59, Tryd.ntmps59
      have hk0 : (w.alloc (Obj.cells #[Value.int .u8 128, Value.int .u8 143] 84)).cell? ⟨w.heap.size, 0, none⟩ = some (.int .u8 128) := bc0 (heap_alloc_new w (Obj.cells #[Value.int .u8 128, Value.int .u8 143] 84))
      have hk1 : (w.alloc (Obj.cells #[Value.int .u8 128, Value.int .u8 143] 84)).cell? ⟨w.heap.size, 1, none⟩ = some (.int .u8 143) := bc1 (heap_alloc_new w (Obj.cells #[Value.int .u8 128, Value.int .u8 143] 84))
      go_wp2
      refine start_ (n := 16) (S := fun w' => w'.cell? ⟨w.heap.size, 0, none⟩ = some (.int .u8 128) ∧ w'.cell? ⟨w.heap.size, 1, none⟩ = some (.int .u8 143)) (ds := []) utf8_FullRuneInString.q16_0 (by kernel_rfl) rfl rfl ⟨hk0, hk1⟩ (fun hHeld => ?_)
      refine utf8_FullRuneInString.pv 0 23 utf8_FullRuneInString.q16_1 ?_
      refine utf8_FullRuneInString.pv 1 24 utf8_FullRuneInString.q16_2 ?_
      refine utf8_FullRuneInString.pv 2 25 utf8_FullRuneInString.q16_3 ?_
      refine utf8_FullRuneInString.pv 3 26 utf8_FullRuneInString.q16_4 ?_
      refine utf8_FullRuneInString.pv 5 28 #[true, true, true, true, false, true, false, false, false, false, false, false, false, false, false, false] ?_
      refine utf8_FullRuneInString.tv hHeld 4 27 utf8_FullRuneInString.q16_6 ?_
      refine utf8_FullRuneInString.tv hHeld 6 29 utf8_FullRuneInString.q16_7 ?_
      refine utf8_FullRuneInString.pv 7 30 utf8_FullRuneInString.q16_8 ?_
      refine utf8_FullRuneInString.pv 8 31 utf8_FullRuneInString.q16_9 ?_
      refine utf8_FullRuneInString.pv 9 32 utf8_FullRuneInString.q16_10 ?_
      refine utf8_FullRuneInString.pv 11 34 #[true, true, true, true, true, true, true, true, true, true, false, true, false, false, false, false] ?_
      refine utf8_FullRuneInString.tv hHeld 10 33 utf8_FullRuneInString.q16_12 ?_
      refine utf8_FullRuneInString.tv hHeld 12 35 utf8_FullRuneInString.q16_13 ?_
      refine utf8_FullRuneInString.pv 13 36 utf8_FullRuneInString.q16_14 ?_
      refine utf8_FullRuneInString.pv 14 37 utf8_FullRuneInString.q16_15 ?_
      refine utf8_FullRuneInString.pv 15 38 utf8_FullRuneInString.q16_16 ?_
      refine done_ (by kernel_rfl) ?_
      go_wp2
      go_ret
      exact ⟨rfl, ((Below.refl _ _).alloc (Nat.le_refl _) _).drew⟩
    have hb4z : ¬ ((191 : Int) < (x2.toNat : Int)) := by omega
    have hr : utf8_FullRuneInString.N 3 68 x1.toNat x2.toNat = false := by unfold utf8_FullRuneInString.N; simp only [Lib.accLo, Lib.accHi, Nat.reduceMod, Nat.reduceDiv, Nat.reduceEqDiff, if_true, if_false, Nat.reduceLeDiff, Nat.reduceLT, decide_true, decide_false]; simp; omega
    rw [hr] at h
    subst h
    clear hT hX
    go_enter Tryd.func59, Tryd.ntmps59
    have hk0 : (w.alloc (Obj.cells #[Value.int .u8 128, Value.int .u8 143] 84)).cell? ⟨w.heap.size, 0, none⟩ = some (.int .u8 128) := bc0 (heap_alloc_new w (Obj.cells #[Value.int .u8 128, Value.int .u8 143] 84))
    have hk1 : (w.alloc (Obj.cells #[Value.int .u8 128, Value.int .u8 143] 84)).cell? ⟨w.heap.size, 1, none⟩ = some (.int .u8 143) := bc1 (heap_alloc_new w (Obj.cells #[Value.int .u8 128, Value.int .u8 143] 84))
    go_wp2
    refine start_ (n := 16) (S := fun w' => w'.cell? ⟨w.heap.size, 0, none⟩ = some (.int .u8 128) ∧ w'.cell? ⟨w.heap.size, 1, none⟩ = some (.int .u8 143)) (ds := []) utf8_FullRuneInString.q16_0 (by kernel_rfl) rfl rfl ⟨hk0, hk1⟩ (fun hHeld => ?_)
    refine utf8_FullRuneInString.pv 0 23 utf8_FullRuneInString.q16_1 ?_
    refine utf8_FullRuneInString.pv 1 24 utf8_FullRuneInString.q16_2 ?_
    refine utf8_FullRuneInString.pv 2 25 utf8_FullRuneInString.q16_3 ?_
    refine utf8_FullRuneInString.pv 3 26 utf8_FullRuneInString.q16_4 ?_
    refine utf8_FullRuneInString.pv 5 28 #[true, true, true, true, false, true, false, false, false, false, false, false, false, false, false, false] ?_
    refine utf8_FullRuneInString.tv hHeld 4 27 utf8_FullRuneInString.q16_6 ?_
    refine utf8_FullRuneInString.tv hHeld 6 29 utf8_FullRuneInString.q16_7 ?_
    refine utf8_FullRuneInString.pv 7 30 utf8_FullRuneInString.q16_8 ?_
    refine utf8_FullRuneInString.pv 8 31 utf8_FullRuneInString.q16_9 ?_
    refine utf8_FullRuneInString.pv 9 32 utf8_FullRuneInString.q16_10 ?_
    refine utf8_FullRuneInString.pv 11 34 #[true, true, true, true, true, true, true, true, true, true, false, true, false, false, false, false] ?_
    refine utf8_FullRuneInString.tv hHeld 10 33 utf8_FullRuneInString.q16_12 ?_
    refine utf8_FullRuneInString.tv hHeld 12 35 utf8_FullRuneInString.q16_13 ?_
    refine utf8_FullRuneInString.pv 13 36 utf8_FullRuneInString.q16_14 ?_
    refine utf8_FullRuneInString.pv 14 37 utf8_FullRuneInString.q16_15 ?_
    refine utf8_FullRuneInString.pv 15 38 utf8_FullRuneInString.q16_16 ?_
    refine done_ (by kernel_rfl) ?_
    go_wp2
    go_ret
    exact ⟨rfl, ((Below.refl _ _).alloc (Nat.le_refl _) _).drew⟩


end Go.Proofs.YtpmdecdomfoaoaaDoor.P
