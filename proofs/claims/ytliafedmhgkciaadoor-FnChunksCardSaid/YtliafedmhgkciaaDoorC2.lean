import Derived.Test.YtliafedmhgkciaaDoorCP0
import Derived.Test.YtliafedmhgkciaaDoorC0
import Derived.Test.YtliafedmhgkciaaDoorC1
namespace Go.Proofs.YtliafedmhgkciaaDoor.P
open Go.RowKit Go.Proofs.YtliafedmhgkciaaDoorW.PrintWords Go.Proofs.YtliafedmhgkciaaDoorW.PrintLast Go.Proofs.YtliafedmhgkciaaDoorW.PrintMore
attribute [local go_sem] max2_int min2_int max_two min_two max_three min_three max_four min_four   -- for this text's walks alone
set_option linter.unusedVariables false
set_option linter.unusedSimpArgs false

set_option maxHeartbeats 16000000
set_option maxRecDepth 1000000

theorem Zb39_0 {p : Prop} (h : p := by simp only [List.map_toArray, List.map_cons, List.map_nil] <;> rfl) : p := h
theorem Zb39_1 {p : Prop} (h : p := by have h_ := c18; simp only [ByteArray.size_append] at h_; omega) : p := h
mutual
def spec_EncodeAll.j0 : Nat → Int → List Int → Bool → Option (ByteArray × Int × Bool)
 | 0, _, _, _ => none
 | k + 1, x0, x1, x21 => if x21 = true then (some ((⟨#[]⟩ : ByteArray), 0, false)) else (spec_EncodeAll.l0 k x0 (⟨#[]⟩ : ByteArray) 0 x1 (x1.length : Int) 0)
def spec_EncodeAll.l0 : Nat → Int → ByteArray → Int → List Int → Int → Int → Option (ByteArray × Int × Bool)
 | 0, _, _, _, _, _, _ => none
 | k + 1, x0, x7, x8, x22, x23, x24 => if x24 < x23 then (if 0 ≤ x24 then (if x24 < (x22.length : Int) then ((spec_l2Put.f k x0 x8 (rd x22 x24)).bind fun bt216 => (if bt216.2.2 = true then (if x7.size + bt216.1.size ≤ 9223372036854775807 then (spec_EncodeAll.l0 k x0 (x7 ++ bt216.1) bt216.2.1 x22 x23 (wrap64 (x24 + 1))) else (none)) else (some ((⟨#[]⟩ : ByteArray), x24, true)))) else (none)) else (none)) else (if x8 = 1 then ((some (([15] : List Int) : List Int)).bind fun y219 => (if x7.size + (strOfNums y219).size ≤ 9223372036854775807 then (if ((x7 ++ (strOfNums y219)).size : Int) > 1000 then (some ((⟨#[]⟩ : ByteArray), 0, false)) else (some (x7 ++ (strOfNums y219), (-1), true))) else (none))) else (if (x7.size : Int) > 1000 then (some ((⟨#[]⟩ : ByteArray), 0, false)) else (some (x7, (-1), true))))
end
def spec_EncodeAll.f (k : Nat) (a0 : Int) (l1 : List Int) : Option (ByteArray × Int × Bool) := (spec_l2Code.f a0).bind fun t213 => (if t213 = true then ((spec_l1AllRunes.f k l1).bind fun t214 => (spec_EncodeAll.j0 k a0 l1 (!t214))) else (spec_EncodeAll.j0 k a0 l1 true))
theorem spec_EncodeAll.mono_l : ∀ k, (∀ y0 y1 y2, LeO (spec_EncodeAll.j0 k y0 y1 y2) (spec_EncodeAll.j0 (k + 1) y0 y1 y2)) ∧ (∀ y0 y1 y2 y3 y4 y5, LeO (spec_EncodeAll.l0 k y0 y1 y2 y3 y4 y5) (spec_EncodeAll.l0 (k + 1) y0 y1 y2 y3 y4 y5))
 | 0 => ⟨fun _ _ _ r h => by simp [spec_EncodeAll.j0] at h, fun _ _ _ _ _ _ r h => by simp [spec_EncodeAll.l0] at h⟩
 | k + 1 => by
  obtain ⟨ih0, ih1⟩ := spec_EncodeAll.mono_l k
  refine ⟨?_, ?_⟩
  ·intro y0 y1 y2
   unfold spec_EncodeAll.j0
   with_reducible repeat' first | exact ih0 _ _ _ | exact ih1 _ _ _ _ _ _ | exact spec_l1AllRunes.mono _ _ | exact spec_l2Put.mono _ _ _ _ | exact LeO.refl _ | exact LeO.none _ | refine LeO.ite ?_ ?_ | refine LeO.bind ?_ (fun _ => ?_)
  ·intro y0 y1 y2 y3 y4 y5
   unfold spec_EncodeAll.l0
   with_reducible repeat' first | exact ih0 _ _ _ | exact ih1 _ _ _ _ _ _ | exact spec_l1AllRunes.mono _ _ | exact spec_l2Put.mono _ _ _ _ | exact LeO.refl _ | exact LeO.none _ | refine LeO.ite ?_ ?_ | refine LeO.bind ?_ (fun _ => ?_)
theorem spec_EncodeAll.mono : ∀ a0 a1 k, LeO (spec_EncodeAll.f k a0 a1) (spec_EncodeAll.f (k + 1) a0 a1) := by
 intro a0 a1 k
 obtain ⟨ih0, ih1⟩ := spec_EncodeAll.mono_l k
 unfold spec_EncodeAll.f
 with_reducible repeat' first | exact ih0 _ _ _ | exact ih1 _ _ _ _ _ _ | exact spec_l1AllRunes.mono _ _ | exact spec_l2Put.mono _ _ _ _ | exact LeO.refl _ | exact LeO.none _ | refine LeO.ite ?_ ?_ | refine LeO.bind ?_ (fun _ => ?_)
theorem spec_EncodeAll.calls (k : Nat) (a0 : Int) (A1 : Option Addr) (c1 : Nat) (l1 : List Int) (r1 : ByteArray) (r2 : Int) (r3 : Bool) (w : World) (hr1 : Kd.C (Kd.int .i64) w A1 l1.length l1) (hc1 : l1.length ≤ c1) (h : spec_EncodeAll.f k a0 l1 = some (r1, r2, r3)) :
  Calls Tryd.prog 39 #[.int .i64 a0, .slice A1 l1.length c1] w fun e w' => e = .returned (.tuple #[.string r1, .int .i64 r2, .bool r3]) ∧ Below w.heap.size w w' := by
 have HR1 := Aside0.mk hr1
 have HC1 := Aside0.mk hc1
 clear hr1 hc1
 have HB := Aside0.mk (Below.refl w.heap.size w)
 have H : ((spec_l2Code.f a0).bind fun t213 => (if t213 = true then ((spec_l1AllRunes.f k l1).bind fun t214 => (spec_EncodeAll.j0 k a0 l1 (!t214))) else (spec_EncodeAll.j0 k a0 l1 true))) = some (r1, r2, r3) := h
 clear h
 have HC3 := Aside0.mk H
 clear H
 go_enter Tryd.func39, Tryd.ntmps39
 go_upto_region 1 with (fail)
 go_cut [21] (fun v21 wc => ∃ (kq : Nat) (x21_2 : Bool), v21 = .bool x21_2 ∧ Aside0 (spec_EncodeAll.j0 kq a0 l1 x21_2 = some (r1, r2, r3)) ∧ Aside0 (kq ≤ k) ∧ Aside0 (Below w.heap.size w wc))
 case first =>
  have H := HC3.out
  clear HC3
  replace H := Option.bind_eq_some_iff.mp H
  obtain ⟨t213, A40, H⟩ := H
  replace H : (if t213 = true then ((spec_l1AllRunes.f k l1).bind fun t214 => (spec_EncodeAll.j0 k a0 l1 (!t214))) else (spec_EncodeAll.j0 k a0 l1 true)) = some (r1, r2, r3) := H
  have A4 := Aside0.mk A40
  clear A40
  by_cases c5 : t213 = true
  ·subst c5
   have H1 : ((spec_l1AllRunes.f k l1).bind fun t214 => (spec_EncodeAll.j0 k a0 l1 (!t214))) = some (r1, r2, r3) := by rw [if_pos rfl] at H; exact H
   clear H
   have H := H1
   clear H1
   replace H := Option.bind_eq_some_iff.mp H
   obtain ⟨t214, A60, H⟩ := H
   replace H : (spec_EncodeAll.j0 k a0 l1 (!t214)) = some (r1, r2, r3) := H
   have A6 := Aside0.mk A60
   clear A60
   have H' := Aside0.mk H
   clear H
   go_wp2_with (first | ((with_reducible refine gate_callee (f := 59) rfl ?_); refine goesL_ (some 15) rfl rfl Tryd.func59 (by kernel_rfl) rfl #[.int .i64 a0] rfl Zb39_0 ?_; (with_reducible refine (spec_l2Code.calls a0 true _ A4.out).mono ?_); rintro e w' ⟨rfl, ⟨nd, rfl⟩⟩; refine ⟨_, rfl, ?_⟩) | (go_at_call 88; (with_reducible refine (spec_l1AllRunes.calls k _ _ l1 t214 _ ?side1 ?side2 A6.out).mono ?_); (case side1 => repeat (first | exact (Kd.C_below HR1.out Sw.hb) | (with_reducible refine Kd.C_alloc ?_ _) | (with_reducible refine Kd.C_drewN ?_ _) | (with_reducible refine Kd.C_drew ?_))); (case side2 => exact HC1.out); rintro e w' ⟨rfl, ⟨nd, rfl⟩⟩))
   go_meet
   case rel => exact ⟨_, (!t214), Sw.r, H', ⟨by first | omega | exact Nat.le_refl _⟩, ⟨Sw.hb⟩⟩
  ·replace c5 := Bool.eq_false_iff.mpr c5
   subst c5
   have H1 : (spec_EncodeAll.j0 k a0 l1 true) = some (r1, r2, r3) := by rw [if_neg (show ¬ (false = true) by decide)] at H; exact H
   clear H
   have H := H1
   clear H1
   have H' := Aside0.mk H
   clear H
   go_wp2_with (first | ((with_reducible refine gate_callee (f := 59) rfl ?_); refine goesL_ (some 15) rfl rfl Tryd.func59 (by kernel_rfl) rfl #[.int .i64 a0] rfl Zb39_0 ?_; (with_reducible refine (spec_l2Code.calls a0 false _ A4.out).mono ?_); rintro e w' ⟨rfl, ⟨nd, rfl⟩⟩; refine ⟨_, rfl, ?_⟩))
   go_meet
   case rel => exact ⟨_, (true), Sw.r, H', ⟨by first | omega | exact Nat.le_refl _⟩, ⟨Sw.hb⟩⟩
 case rest =>
  clear HC3
  try clear c1
  try clear p2
  try clear c3
  try clear c5
  obtain ⟨kq, x21_2, rfl, HA, HJ2, HB⟩ := hcut
  cases kq with
  | zero => exact absurd HA.out (by simp [spec_EncodeAll.j0])
  | succ kj2 =>
   have H := HA.out
   clear HA
   simp only [spec_EncodeAll.j0] at H
   by_cases c7 : x21_2 = true
   ·subst c7
    have H1 : (some ((⟨#[]⟩ : ByteArray), 0, false)) = some (r1, r2, r3) := by rw [if_pos rfl] at H; exact H
    clear H
    have H := H1
    clear H1
    simp only [Option.some.injEq, Prod.mk.injEq] at H
    obtain ⟨rfl, rfl, rfl⟩ := H
    go_wp2
    go_ret3
    exact ⟨Sw.e, HB.out⟩
   ·replace c7 := Bool.eq_false_iff.mpr c7
    subst c7
    have H1 : (spec_EncodeAll.l0 kj2 a0 (⟨#[]⟩ : ByteArray) 0 l1 (l1.length : Int) 0) = some (r1, r2, r3) := by rw [if_neg (show ¬ (false = true) by decide)] at H; exact H
    clear H
    have H := H1
    clear H1
    have H' := Aside0.mk H
    clear H
    go_wp2
    go_loopg [7, 8, 24] kj2 (fun kq v7 v8 v24 w' => ∃ (x7_2 : ByteArray) (x8_2 : Int) (x24_2 : Int), v7 = .string x7_2 ∧ v8 = .int .i64 x8_2 ∧ v24 = .int .i64 x24_2 ∧ Aside0 (spec_EncodeAll.l0 kq a0 x7_2 x8_2 l1 (l1.length : Int) x24_2 = some (r1, r2, r3)) ∧ Aside0 (kq ≤ kj2) ∧ Aside0 (Below w.heap.size w w'))
    case atStart => exact ⟨((⟨#[]⟩ : ByteArray)), (0), (0), Sw.r, Sw.r, Sw.r, H', ⟨Nat.le_refl _⟩, ⟨Sw.hb⟩⟩
    case round =>
     clear H'
     try clear c1
     try clear p2
     try clear c3
     try clear c5
     try clear c7
     try clear p2
     obtain ⟨x7_2, x8_2, x24_2, rfl, rfl, rfl, HA, HK2, HB⟩ := hrel
     cases gk with
     | zero => exact absurd HA.out (by simp [spec_EncodeAll.l0])
     | succ k2 =>
      have H := HA.out
      clear HA
      simp only [spec_EncodeAll.l0] at H
      by_cases c8 : x24_2 < (l1.length : Int)
      ·rw [if_pos c8] at H
       have c8b0 : decide (x24_2 < (l1.length : Int)) = true := decide_eq_true c8
       clear c8
       by_cases c9 : 0 ≤ x24_2
       ·rw [if_pos c9] at H
        have c9b0 : decide (0 ≤ x24_2) = true := decide_eq_true c9
        clear c9
        by_cases c10 : x24_2 < (l1.length : Int)
        ·rw [if_pos c10] at H
         have c10b0 : decide (x24_2 < (l1.length : Int)) = true := decide_eq_true c10
         clear c10
         replace H := Option.bind_eq_some_iff.mp H
         obtain ⟨⟨t216, t217, t218⟩, A110, H⟩ := H
         replace H : (if t218 = true then (if x7_2.size + t216.size ≤ 9223372036854775807 then (spec_EncodeAll.l0 k2 a0 (x7_2 ++ t216) t217 l1 (l1.length : Int) (wrap64 (x24_2 + 1))) else (none)) else (some ((⟨#[]⟩ : ByteArray), x24_2, true))) = some (r1, r2, r3) := H
         have A11 := Aside0.mk A110
         clear A110
         by_cases c12 : t218 = true
         ·subst c12
          have H1 : (if x7_2.size + t216.size ≤ 9223372036854775807 then (spec_EncodeAll.l0 k2 a0 (x7_2 ++ t216) t217 l1 (l1.length : Int) (wrap64 (x24_2 + 1))) else (none)) = some (r1, r2, r3) := by rw [if_pos rfl] at H; exact H
          clear H
          have H := H1
          clear H1
          by_cases c13 : x7_2.size + t216.size ≤ 9223372036854775807
          ·rw [if_pos c13] at H
           have c13b0 := eq_true c13
           have c13b1 : decide (x7_2.size + t216.size ≤ 9223372036854775807) = true := decide_eq_true c13
           try have c13b2 : (9223372036854775807 < x7_2.size + t216.size) = False := eq_false (Nat.not_lt.2 c13)
           have H' := Aside0.mk H
           clear H
           have p215 : 0 ≤ (x24_2 : Int) := of_decide_eq_true (by assumption)
           have q215 : x24_2 < (l1.length : Int) := of_decide_eq_true (by assumption)
           obtain ⟨ad215, e215, hx215_0⟩ := Kd.at_int HR1.out x24_2 p215 q215
           cases e215
           replace hx215_0 := (HB.out.cell (World.block_lt_of_cell? w _ hx215_0)).trans hx215_0
           replace p215 := eq_true p215
           replace q215 := eq_true q215
           go_wp2_with (first | ((with_reducible refine gate_callee (f := 92) rfl ?_); refine goesL_ (some 33) rfl rfl Tryd.func92 (by kernel_rfl) rfl #[.int .i64 a0, .int .i64 x8_2, .int .i64 (rd l1 x24_2)] rfl Zb39_0 ?_; (with_reducible refine (spec_l2Put.calls k2 a0 x8_2 (rd l1 x24_2) t216 t217 true _ A11.out).mono ?_); rintro e w14 ⟨rfl, hb⟩; refine ⟨_, rfl, ?_⟩; replace HB := Aside0.mk (below_step Sw.hb hb)))
           go_roundg k2
           case measure => have := HJ2.out; have := HK2.out; omega
           case rel => exact ⟨(x7_2 ++ t216), (t217), (wrap64 (x24_2 + 1)), Sw.r, Sw.r, Sw.r, H', ⟨by have := HJ2.out; have := HK2.out; omega⟩, ⟨Sw.hb⟩⟩
          ·rw [if_neg c13] at H
           exact absurd H (by simp)
         ·replace c12 := Bool.eq_false_iff.mpr c12
          subst c12
          have H1 : (some ((⟨#[]⟩ : ByteArray), x24_2, true)) = some (r1, r2, r3) := by rw [if_neg (show ¬ (false = true) by decide)] at H; exact H
          clear H
          have H := H1
          clear H1
          simp only [Option.some.injEq, Prod.mk.injEq] at H
          obtain ⟨rfl, rfl, rfl⟩ := H
          have p215 : 0 ≤ (x24_2 : Int) := of_decide_eq_true (by assumption)
          have q215 : x24_2 < (l1.length : Int) := of_decide_eq_true (by assumption)
          obtain ⟨ad215, e215, hx215_0⟩ := Kd.at_int HR1.out x24_2 p215 q215
          cases e215
          replace hx215_0 := (HB.out.cell (World.block_lt_of_cell? w _ hx215_0)).trans hx215_0
          replace p215 := eq_true p215
          replace q215 := eq_true q215
          go_wp2_with (first | ((with_reducible refine gate_callee (f := 92) rfl ?_); refine goesL_ (some 33) rfl rfl Tryd.func92 (by kernel_rfl) rfl #[.int .i64 a0, .int .i64 x8_2, .int .i64 (rd l1 x24_2)] rfl Zb39_0 ?_; (with_reducible refine (spec_l2Put.calls k2 a0 x8_2 (rd l1 x24_2) t216 t217 false _ A11.out).mono ?_); rintro e w15 ⟨rfl, hb⟩; refine ⟨_, rfl, ?_⟩; replace HB := Aside0.mk (below_step Sw.hb hb)))
          go_ret3
          exact ⟨Sw.e, HB.out⟩
        ·rw [if_neg c10] at H
         exact absurd H (by simp)
       ·rw [if_neg c9] at H
        exact absurd H (by simp)
      ·rw [if_neg c8] at H
       have c8b0 : decide (x24_2 < (l1.length : Int)) = false := decide_eq_false c8
       clear c8
       by_cases c16 : x8_2 = 1
       ·rw [if_pos c16] at H
        have c16b0 : (x8_2 == 1) = true := beq_iff_eq.mpr c16
        have c16b1 : (x8_2 != 1) = false := bne_eq_false_iff_eq.mpr c16
        clear c16
        obtain ⟨y219, hy219⟩ : ∃ y_ : List Int, y_ = (([15] : List Int)) := ⟨_, rfl⟩
        replace H : (if x7_2.size + (strOfNums y219).size ≤ 9223372036854775807 then (if ((x7_2 ++ (strOfNums y219)).size : Int) > 1000 then (some ((⟨#[]⟩ : ByteArray), 0, false)) else (some (x7_2 ++ (strOfNums y219), (-1), true))) else (none)) = some (r1, r2, r3) := by rw [hy219]; exact H
        have Ny219 := Aside0.mk hy219
        clear hy219
        by_cases c17 : x7_2.size + (strOfNums y219).size ≤ 9223372036854775807
        ·rw [if_pos c17] at H
         have c17b0 := eq_true c17
         have c17b1 : decide (x7_2.size + (strOfNums y219).size ≤ 9223372036854775807) = true := decide_eq_true c17
         try have c17b2 : (9223372036854775807 < x7_2.size + (strOfNums y219).size) = False := eq_false (Nat.not_lt.2 c17)
         by_cases c18 : ((x7_2 ++ (strOfNums y219)).size : Int) > 1000
         ·rw [if_pos c18] at H
          have c18b0 : decide (1000 < ((x7_2 ++ (strOfNums y219)).size : Int)) = true := decide_eq_true c18
          try have c18b3 : decide ((1000 : Int) < (x7_2.size : Int) + ((strOfNums y219).size : Int)) = true := decide_eq_true Zb39_1
          try have c18b4 : ((1000 : Int) < (x7_2.size : Int) + ((strOfNums y219).size : Int)) = True := eq_true Zb39_1
          have c18b1 : decide (1000 < (x7_2 ++ (strOfNums y219)).size) = true := decide_eq_true (by omega)
          clear c18
          simp only [Option.some.injEq, Prod.mk.injEq] at H
          obtain ⟨rfl, rfl, rfl⟩ := H
          go_wp2_with (first | ((with_reducible refine gate_dst (N := 48) rfl ?_); refine Kd.R_lit (Kd.int .u8) _ 5 ?hg (N := 48) ?hd (xs := ([15] : List Int)) (inner := [.int .u8 15]) (ok := fun _ => True) (okp := fun _ => True) ?hr ?hp (fun _ hk => hk) trivial (Below.refl _ _) (Nat.le_refl _) (by simp) ?_; (case hd => rfl); (case hg => rfl); (case hr => go_simp <;> rfl); (case hp => exact (Reps.one (show Kd.M (Kd.int .u8) _ _ _ 15 [.int .u8 15] from rfl) (Reps.none _ _))); intro v220 w19 ho20 hb hg_ hnew_; clear hg_ hnew_; (first | rw [← Ny219.out] at ho20 | (simp only [Int.reduceToNat] at ho20; rw [← Ny219.out] at ho20)); have HO221 := Aside0.mk (Kd.R_lower ho20 (below_size Sw.hb)); replace HB := Aside0.mk (below_step Sw.hb hb); clear hb ho20; have hcv21 := own_string (P := Tryd.prog) Tryd.underlying22 Tryd.underlying5 Tryd.underlying9 (Kd.own_of_R HO221.out)))
          go_ret3
          exact ⟨Sw.e, HB.out⟩
         ·rw [if_neg c18] at H
          have c18b0 : decide (1000 < ((x7_2 ++ (strOfNums y219)).size : Int)) = false := decide_eq_false c18
          try have c18b3 : decide ((1000 : Int) < (x7_2.size : Int) + ((strOfNums y219).size : Int)) = false := decide_eq_false Zb39_1
          try have c18b4 : ((1000 : Int) < (x7_2.size : Int) + ((strOfNums y219).size : Int)) = False := eq_false Zb39_1
          have c18b1 : decide (1000 < (x7_2 ++ (strOfNums y219)).size) = false := decide_eq_false (by omega)
          clear c18
          simp only [Option.some.injEq, Prod.mk.injEq] at H
          obtain ⟨rfl, rfl, rfl⟩ := H
          go_wp2_with (first | ((with_reducible refine gate_dst (N := 48) rfl ?_); refine Kd.R_lit (Kd.int .u8) _ 5 ?hg (N := 48) ?hd (xs := ([15] : List Int)) (inner := [.int .u8 15]) (ok := fun _ => True) (okp := fun _ => True) ?hr ?hp (fun _ hk => hk) trivial (Below.refl _ _) (Nat.le_refl _) (by simp) ?_; (case hd => rfl); (case hg => rfl); (case hr => go_simp <;> rfl); (case hp => exact (Reps.one (show Kd.M (Kd.int .u8) _ _ _ 15 [.int .u8 15] from rfl) (Reps.none _ _))); intro v220 w22 ho23 hb hg_ hnew_; clear hg_ hnew_; (first | rw [← Ny219.out] at ho23 | (simp only [Int.reduceToNat] at ho23; rw [← Ny219.out] at ho23)); have HO221 := Aside0.mk (Kd.R_lower ho23 (below_size Sw.hb)); replace HB := Aside0.mk (below_step Sw.hb hb); clear hb ho23; have hcv24 := own_string (P := Tryd.prog) Tryd.underlying22 Tryd.underlying5 Tryd.underlying9 (Kd.own_of_R HO221.out)))
          go_ret3
          exact ⟨Sw.e, HB.out⟩
        ·rw [if_neg c17] at H
         exact absurd H (by simp)
       ·rw [if_neg c16] at H
        have c16b0 : (x8_2 == 1) = false := beq_eq_false_iff_ne.mpr c16
        have c16b1 : (x8_2 != 1) = true := bne_iff_ne.mpr c16
        by_cases c25 : (x7_2.size : Int) > 1000
        ·rw [if_pos c25] at H
         have c25b0 : decide (1000 < (x7_2.size : Int)) = true := decide_eq_true c25
         have c25b1 : decide (1000 < x7_2.size) = true := decide_eq_true (by omega)
         clear c25
         simp only [Option.some.injEq, Prod.mk.injEq] at H
         obtain ⟨rfl, rfl, rfl⟩ := H
         go_wp2
         go_ret3
         exact ⟨Sw.e, HB.out⟩
        ·rw [if_neg c25] at H
         have c25b0 : decide (1000 < (x7_2.size : Int)) = false := decide_eq_false c25
         have c25b1 : decide (1000 < x7_2.size) = false := decide_eq_false (by omega)
         clear c25
         simp only [Option.some.injEq, Prod.mk.injEq] at H
         obtain ⟨rfl, rfl, rfl⟩ := H
         go_wp2
         go_ret3
         exact ⟨Sw.e, HB.out⟩

def spec_l1TextOf.l0 : Nat → List Int → List Int → Int → Int → Option (ByteArray)
 | 0, _, _, _, _ => none
 | k + 1, x3, x6, x7, x8 => if x8 < x7 then (if 0 ≤ x8 then (if x8 < (x6.length : Int) then ((spec_l1Utf8.f (rd x6 x8)).bind fun t223 => (if x3.length + t223.size < 140737488355328 then (spec_l1TextOf.l0 k (x3 ++ bytesOf t223) x6 x7 (wrap64 (x8 + 1))) else (none))) else (none)) else (none)) else (some (strOfNums x3))
def spec_l1TextOf.f (k : Nat) (l0 : List Int) : Option (ByteArray) := spec_l1TextOf.l0 k ([] : List Int) l0 (l0.length : Int) 0
theorem spec_l1TextOf.mono_l : ∀ k, (∀ y0 y1 y2 y3, LeO (spec_l1TextOf.l0 k y0 y1 y2 y3) (spec_l1TextOf.l0 (k + 1) y0 y1 y2 y3))
 | 0 => fun _ _ _ _ r h => by simp [spec_l1TextOf.l0] at h
 | k + 1 => by
  have ih0 := spec_l1TextOf.mono_l k
  ·intro y0 y1 y2 y3
   unfold spec_l1TextOf.l0
   with_reducible repeat' first | exact ih0 _ _ _ _ | exact LeO.refl _ | exact LeO.none _ | refine LeO.ite ?_ ?_ | refine LeO.bind ?_ (fun _ => ?_)
theorem spec_l1TextOf.mono : ∀ a0 k, LeO (spec_l1TextOf.f k a0) (spec_l1TextOf.f (k + 1) a0) := by
 intro a0 k
 have ih0 := spec_l1TextOf.mono_l k
 unfold spec_l1TextOf.f
 with_reducible repeat' first | exact ih0 _ _ _ _ | exact LeO.refl _ | exact LeO.none _ | refine LeO.ite ?_ ?_ | refine LeO.bind ?_ (fun _ => ?_)
theorem spec_l1TextOf.calls (k : Nat) (A0 : Option Addr) (c0 : Nat) (l0 : List Int) (r : ByteArray) (w : World) (hr0 : Kd.C (Kd.int .i64) w A0 l0.length l0) (hc0 : l0.length ≤ c0) (h : spec_l1TextOf.f k l0 = some r) :
  Calls Tryd.prog 78 #[.slice A0 l0.length c0] w fun e w' => e = .returned (.string r) ∧ Below w.heap.size w w' := by
 have HR0 := Aside0.mk hr0
 have HC0 := Aside0.mk hc0
 clear hr0 hc0
 have HB := Aside0.mk (Below.refl w.heap.size w)
 have H : (spec_l1TextOf.l0 k ([] : List Int) l0 (l0.length : Int) 0) = some r := h
 clear h
 have H' := Aside0.mk H
 clear H
 go_enter Tryd.func78, Tryd.ntmps78
 go_wp2
 go_loopg [3, 8] k (fun kq v3 v8 w' => ∃ (x3_1 : List Int) (x8_1 : Int), v8 = .int .i64 x8_1 ∧ Aside0 (spec_l1TextOf.l0 kq x3_1 l0 (l0.length : Int) x8_1 = some r) ∧ Aside0 (kq ≤ k) ∧ Aside0 (Kd.R (Kd.int .u8) 5 w' w.heap.size (fun _ => True) v3 x3_1) ∧ Aside0 (Below w.heap.size w w'))
 case atStart => exact ⟨(([] : List Int)), (0), Sw.r, H', ⟨Nat.le_refl _⟩, ⟨by first | exact Kd.R_nil _ _ _ _ _ | exact Kd.N_nil _ _ _ _ _ | exact Kd.V_nil _ _ _ _ _ | exact Kd.Q_nil _ _ _ _ _ | exact Kd.S_nil _ _ _ _ _⟩, ⟨HB.out⟩⟩
 case round =>
  clear H'
  obtain ⟨x3_1, x8_1, rfl, HA, HK1, HO_3, HB⟩ := hrel
  cases gk with
  | zero => exact absurd HA.out (by simp [spec_l1TextOf.l0])
  | succ k1 =>
   have H := HA.out
   clear HA
   simp only [spec_l1TextOf.l0] at H
   by_cases c2 : x8_1 < (l0.length : Int)
   ·rw [if_pos c2] at H
    have c2b0 : decide (x8_1 < (l0.length : Int)) = true := decide_eq_true c2
    clear c2
    by_cases c3 : 0 ≤ x8_1
    ·rw [if_pos c3] at H
     have c3b0 : decide (0 ≤ x8_1) = true := decide_eq_true c3
     clear c3
     by_cases c4 : x8_1 < (l0.length : Int)
     ·rw [if_pos c4] at H
      have c4b0 : decide (x8_1 < (l0.length : Int)) = true := decide_eq_true c4
      clear c4
      replace H := Option.bind_eq_some_iff.mp H
      obtain ⟨t223, A50, H⟩ := H
      replace H : (if x3_1.length + t223.size < 140737488355328 then (spec_l1TextOf.l0 k1 (x3_1 ++ bytesOf t223) l0 (l0.length : Int) (wrap64 (x8_1 + 1))) else (none)) = some r := H
      have A5 := Aside0.mk A50
      clear A50
      by_cases c6 : x3_1.length + t223.size < 140737488355328
      ·rw [if_pos c6] at H
       have LMc6 := Aside0.mk c6
       clear c6
       obtain ⟨y224, hy224⟩ : ∃ y_ : List Int, y_ = (x3_1 ++ bytesOf t223) := ⟨_, rfl⟩
       replace H : (spec_l1TextOf.l0 k1 y224 l0 (l0.length : Int) (wrap64 (x8_1 + 1))) = some r := by rw [hy224]; exact H
       have Ny224 := Aside0.mk hy224
       clear hy224
       have H' := Aside0.mk H
       clear H
       have p222 : 0 ≤ (x8_1 : Int) := of_decide_eq_true (by assumption)
       have q222 : x8_1 < (l0.length : Int) := of_decide_eq_true (by assumption)
       obtain ⟨ad222, e222, hx222_0⟩ := Kd.at_int HR0.out x8_1 p222 q222
       cases e222
       replace hx222_0 := (HB.out.cell (World.block_lt_of_cell? w _ hx222_0)).trans hx222_0
       replace p222 := eq_true p222
       replace q222 := eq_true q222
       go_wp2_with (first | ((with_reducible refine gate_callee (f := 70) rfl ?_); refine goesL_ (some 14) rfl rfl Tryd.func70 (by kernel_rfl) rfl #[.int .i64 (rd l0 x8_1)] rfl (by simp only [List.map_toArray, List.map_cons, List.map_nil] <;> rfl) ?_; (with_reducible refine (spec_l1Utf8.calls (rd l0 x8_1) t223 _ A5.out).mono ?_); rintro e w7 ⟨rfl, hb⟩; refine ⟨_, rfl, ?_⟩; have n0_ := Aside0.mk (Kd.R_below HO_3.out hb); have n1_ := Aside0.mk (below_step HB.out hb); clear HO_3; clear HB; have HO_3 := n0_; have HB := n1_; clear n0_ n1_) | (at_builtin; refine print_append_str (w0 := w) w.heap.size rfl (.tmp 12) _ 22 9 5 rfl Tryd.underlying22 Tryd.underlying9 info5 u3 x3_1 t223 rfl rfl ?aO ?aB ?aS ?aL ?_; (case aB => exact HB.out); (case aO => exact (Kd.own_of_R HO_3.out)); (case aS => exact (below_size HB.out)); (case aL => have := LMc6.out; omega); intro v225 w8 ho0 hb hg; have ho := Kd.R_of_own (h1 := fun _ => rfl) (ok := fun _ => True) ho0 (fun _ _ => trivial); clear ho0; have hat := True.intro; rw [← Ny224.out] at ho; change Kd.R (Kd.int .u8) 5 w8 w.heap.size (fun _ => True) v225 y224 at ho; have n0_ := Aside0.mk (hb); have n1_ := Aside0.mk (ho); clear HB; clear HO_3; have HB := n0_; have HO226 := n1_; clear n0_ n1_; clear ho hb hg hat))
       go_roundg k1
       case measure => have := HK1.out; omega
       case rel => exact ⟨(y224), (wrap64 (x8_1 + 1)), Sw.r, H', ⟨by have := HK1.out; omega⟩, ⟨HO226.out⟩, ⟨HB.out⟩⟩
      ·rw [if_neg c6] at H
       exact absurd H (by simp)
     ·rw [if_neg c4] at H
      exact absurd H (by simp)
    ·rw [if_neg c3] at H
     exact absurd H (by simp)
   ·rw [if_neg c2] at H
    have c2b0 : decide (x8_1 < (l0.length : Int)) = false := decide_eq_false c2
    clear c2
    obtain rfl := Option.some.inj H
    have hcv9 := own_string (P := Tryd.prog) Tryd.underlying22 Tryd.underlying5 Tryd.underlying9 (Kd.own_of_R HO_3.out)
    go_wp2
    go_ret
    exact ⟨Sw.e, HB.out⟩

/-- A state of type 64 at block g of W; what its slices lead to came in by w0. -/
def IsS64 (w0 W : World) (g : Nat) (f0 : List Int) (f1 : Int) (f2 : Int) : Prop := ∃ A0 c0, W.heap[g]? = some (.cells #[.slice A0 f0.length c0, .int .i64 f1, .int .u64 f2] 64 (0, 0)) ∧ w0.heap.size ≤ g ∧ Kd.C (Kd.int .u8) w0 A0 f0.length f0
theorem IsS64.grown {w0 W : World} {g : Nat} {f0 : List Int} {f1 : Int} {f2 : Int} {W1 : World} {row : Option Nat} (h : IsS64 w0 W g f0 f1 f2) (hw : W.grownBy W1 row) (hne : some g ≠ row) : IsS64 w0 W1 g f0 f1 f2 := by
 obtain ⟨A0, c0, hb, hg, hr0⟩ := h
 exact ⟨A0, c0, blk_grown hb hw hne, hg, hr0⟩
theorem IsS64.own_neN {w0 W : World} {g : Nat} {f0 : List Int} {f1 : Int} {f2 : Int} {α : Type} {d : Kd α} {e : Nat} {base : Nat} {ok : Nat → Prop} {v : Value} {xs : List α} (h : IsS64 w0 W g f0 f1 f2) (ho : Kd.N d e W base ok v xs) (ht : e ≠ 64) : some g ≠ v.ownBlock := by
 obtain ⟨A0, c0, hb, hg, hr0⟩ := h
 exact Kd.N_ne ho hb ht
theorem IsS64.fresh {w0 W : World} {g : Nat} {f0 : List Int} {f1 : Int} {f2 : Int} (h : IsS64 w0 W g f0 f1 f2) : ∀ k, W.heap.size ≤ k → k ≠ g := by
 obtain ⟨A0, c0, hb, hg, hr0⟩ := h
 exact Kd.freshB hb
theorem IsS64.kept {w0 W : World} {g : Nat} {f0 : List Int} {f1 : Int} {f2 : Int} {W1 : World} {S : Nat → Prop} (h : IsS64 w0 W g f0 f1 f2) (hk : Kept W W1 S) (hne : ¬ S g) : IsS64 w0 W1 g f0 f1 f2 := by
 obtain ⟨A0, c0, hb, hg, hr0⟩ := h
 exact ⟨A0, c0, blk_kept hb hk hne, hg, hr0⟩
theorem IsS64.below {w0 W : World} {g : Nat} {f0 : List Int} {f1 : Int} {f2 : Int} {W1 : World} (h : IsS64 w0 W g f0 f1 f2) (hw : Below W.heap.size W W1) : IsS64 w0 W1 g f0 f1 f2 := h.grown (grown_of_below hw none) (by simp)
theorem IsS64.alloc {w0 W : World} {g : Nat} {f0 : List Int} {f1 : Int} {f2 : Int} (h : IsS64 w0 W g f0 f1 f2) (o : Obj) : IsS64 w0 (W.alloc o) g f0 f1 f2 := h.below (below_alloc (Below.refl _ _) o)
theorem IsS64.drewN {w0 W : World} {g : Nat} {f0 : List Int} {f1 : Int} {f2 : Int} (h : IsS64 w0 W g f0 f1 f2) (m : Nat) : IsS64 w0 (W.drewN m) g f0 f1 f2 := h
theorem IsS64.drew {w0 W : World} {g : Nat} {f0 : List Int} {f1 : Int} {f2 : Int} (h : IsS64 w0 W g f0 f1 f2) : IsS64 w0 W.drew g f0 f1 f2 := h
theorem IsS64.at_ {w0 W : World} {g : Nat} {f0 : List Int} {f1 : Int} {f2 : Int} {w' : World} {m : Nat} (hq : W.drewN m = w') (h : IsS64 w0 W g f0 f1 f2) : IsS64 w0 w' g f0 f1 f2 := by subst hq; exact IsS64.drewN h m
theorem IsS64.apart {w0 W : World} {g : Nat} {f0 : List Int} {f1 : Int} {f2 : Int} {α : Type} {d : Kd α} {e : Nat} {base : Nat} {ok : Nat → Prop} {v : Value} {xs : List α} (h : IsS64 w0 W g f0 f1 f2) (ho : d.R e W base ok v xs) (ht : ∀ q, q ∈ e :: d.E → q ≠ 64) : d.R e W base (fun k => ok k ∧ k ≠ g) v xs := by
 obtain ⟨A0, c0, hb, hg, hr0⟩ := h
 exact Kd.R_types ho hb ht
theorem IsS64.own_ne {w0 W : World} {g : Nat} {f0 : List Int} {f1 : Int} {f2 : Int} {α : Type} {d : Kd α} {e : Nat} {base : Nat} {ok : Nat → Prop} {v : Value} {xs : List α} (h : IsS64 w0 W g f0 f1 f2) (ho : d.R e W base ok v xs) (ht : e ≠ 64) : some g ≠ v.ownBlock := by
 obtain ⟨A0, c0, hb, hg, hr0⟩ := h
 exact Kd.R_ne ho hb ht
theorem IsS64.apartQ {w0 W : World} {g : Nat} {f0 : List Int} {f1 : Int} {f2 : Int} {α : Type} {d : Kd α} {e : Nat} {base : Nat} {ok : Nat → Prop} {v : Value} {xs : List α} (h : IsS64 w0 W g f0 f1 f2) (ho : d.Q e W base ok v xs) (ht : ∀ q, q ∈ e :: d.E → q ≠ 64) : d.Q e W base (fun k => ok k ∧ k ≠ g) v xs := by
 obtain ⟨A0, c0, hb, hg, hr0⟩ := h
 exact Kd.Q_types ho hb ht
theorem IsS64.own_neQ {w0 W : World} {g : Nat} {f0 : List Int} {f1 : Int} {f2 : Int} {α : Type} {d : Kd α} {e : Nat} {base : Nat} {ok : Nat → Prop} {v : Value} {xs : List α} (h : IsS64 w0 W g f0 f1 f2) (ho : d.Q e W base ok v xs) (ht : e ≠ 64) : some g ≠ v.ownBlock := by
 obtain ⟨A0, c0, hb, hg, hr0⟩ := h
 exact Kd.Q_ne ho hb ht
theorem IsS64.apartS {w0 W : World} {g : Nat} {f0 : List Int} {f1 : Int} {f2 : Int} {α : Type} {d : Kd α} {e : Nat} {base : Nat} {ok : Nat → Prop} {v : Value} {xs : List α} (h : IsS64 w0 W g f0 f1 f2) (ho : d.S e W base ok v xs) (ht : ∀ q, q ∈ e :: d.E → q ≠ 64) : d.S e W base (fun k => ok k ∧ k ≠ g) v xs := by
 obtain ⟨A0, c0, hb, hg, hr0⟩ := h
 exact Kd.S_types ho hb ht
theorem IsS64.own_neS {w0 W : World} {g : Nat} {f0 : List Int} {f1 : Int} {f2 : Int} {α : Type} {d : Kd α} {e : Nat} {base : Nat} {ok : Nat → Prop} {v : Value} {xs : List α} (h : IsS64 w0 W g f0 f1 f2) (ho : d.S e W base ok v xs) (ht : e ≠ 64) : some g ≠ v.ownBlock := by
 obtain ⟨A0, c0, hb, hg, hr0⟩ := h
 exact Kd.S_ne ho hb ht
theorem IsS64.lt {w0 W : World} {g : Nat} {f0 : List Int} {f1 : Int} {f2 : Int} (h : IsS64 w0 W g f0 f1 f2) : g < W.heap.size := by
 obtain ⟨A0, c0, hb, hg, hr0⟩ := h
 exact blk_lt hb
theorem IsS64.ge {w0 W : World} {g : Nat} {f0 : List Int} {f1 : Int} {f2 : Int} (h : IsS64 w0 W g f0 f1 f2) : w0.heap.size ≤ g := by
 obtain ⟨A0, c0, hb, hg, hr0⟩ := h
 exact hg
theorem IsS64.ne_blk {w0 W : World} {g : Nat} {f0 : List Int} {f1 : Int} {f2 : Int} {a : Nat} {cs : Array Value} {t : TypeId} {fr : Nat × Nat} (h : IsS64 w0 W g f0 f1 f2) (hb2 : W.heap[a]? = some (.cells cs t fr)) (ht : t ≠ 64) : g ≠ a := by
 obtain ⟨A0, c0, hb, hg, hr0⟩ := h
 rintro rfl
 rw [hb] at hb2
 injection hb2 with hb2
 injection hb2 with _ ht2
 exact ht ht2.symm
theorem IsS64.far {w0 W : World} {g : Nat} {f0 : List Int} {f1 : Int} {f2 : Int} {p : Addr} (h : IsS64 w0 W g f0 f1 f2) (hne : g ≠ p.block) (u : Value) : IsS64 w0 (W.setCell p u) g f0 f1 f2 := by
 obtain ⟨A0, c0, hb, hg, hr0⟩ := h
 exact ⟨A0, c0, blk_far hb hne u, hg, hr0⟩
theorem cellS64_0 {W : World} {g : Nat} {A0 : Option Addr} {c0 : Nat} {f0 : List Int} {f1 : Int} {f2 : Int} (h : W.heap[g]? = some (.cells #[.slice A0 f0.length c0, .int .i64 f1, .int .u64 f2] 64 (0, 0))) : W.cell? ⟨g, 0, none⟩ = some (.slice A0 f0.length c0) := (blk_cell h 0).trans rfl
theorem cellS64_1 {W : World} {g : Nat} {A0 : Option Addr} {c0 : Nat} {f0 : List Int} {f1 : Int} {f2 : Int} (h : W.heap[g]? = some (.cells #[.slice A0 f0.length c0, .int .i64 f1, .int .u64 f2] 64 (0, 0))) : W.cell? ⟨g, 1, none⟩ = some (.int .i64 f1) := (blk_cell h 1).trans rfl
theorem IsS64.set_1 {w0 W : World} {g : Nat} {f0 : List Int} {f1 : Int} {f2 : Int} (h : IsS64 w0 W g f0 f1 f2) (x : Int) : IsS64 w0 (W.setCell ⟨g, 1, none⟩ (.int .i64 x)) g f0 x f2 := by
 obtain ⟨A0, c0, hb, hg, hr0⟩ := h
 exact ⟨A0, c0, by simpa using blk_set hb 1 (.int .i64 x), hg, hr0⟩
theorem cellS64_2 {W : World} {g : Nat} {A0 : Option Addr} {c0 : Nat} {f0 : List Int} {f1 : Int} {f2 : Int} (h : W.heap[g]? = some (.cells #[.slice A0 f0.length c0, .int .i64 f1, .int .u64 f2] 64 (0, 0))) : W.cell? ⟨g, 2, none⟩ = some (.int .u64 f2) := (blk_cell h 2).trans rfl
theorem IsS64.set_2 {w0 W : World} {g : Nat} {f0 : List Int} {f1 : Int} {f2 : Int} (h : IsS64 w0 W g f0 f1 f2) (x : Int) : IsS64 w0 (W.setCell ⟨g, 2, none⟩ (.int .u64 x)) g f0 f1 x := by
 obtain ⟨A0, c0, hb, hg, hr0⟩ := h
 exact ⟨A0, c0, by simpa using blk_set hb 2 (.int .u64 x), hg, hr0⟩
theorem IsS64.new (w0 W : World) (A0 : Option Addr) (c0 : Nat) (f0 : List Int) (f1 : Int) (f2 : Int) (hB : Below w0.heap.size w0 W) (hr0 : Kd.C (Kd.int .u8) w0 A0 f0.length f0) : IsS64 w0 (W.alloc (.cells #[.slice A0 f0.length c0, .int .i64 f1, .int .u64 f2] 64)) W.heap.size f0 f1 f2 := ⟨A0, c0, by simpa using heap_alloc_new W _, hB.size, hr0⟩

theorem Zb101_0 {p : Prop} (h : p := by repeat (first | (with_reducible first | exact HB.out | apply below_alloc | apply pw_below_drewN | apply below_drew1 | refine below_set ?_ (IsS64.ge HI0.out)) | exact HB.out)) : p := h
theorem Zb101_1 {p : Prop} (h : p := by repeat (first | (with_reducible first | exact HI0.out | apply IsS64.alloc | apply IsS64.drewN | apply IsS64.drew | apply IsS64.set_1 | apply IsS64.set_2) | exact HI0.out)) : p := h
theorem Zb101_2 {p : Prop} (h : p := by repeat (first | (with_reducible first | exact HK.out | apply KeepBut.set_ | apply keep_drewN | apply keep_drew | apply keep_alloc) | exact HK.out)) : p := h
def spec_l1Cur_next.f (s0_0 : List Int) (s0_1 : Int) (s0_2 : Int) : Option (Int × Int × Int) := if s0_1 < (s0_0.length : Int) then (if 0 ≤ s0_1 then (if (wrap64 (s0_1 + 1)) ≤ (s0_0.length : Int) then (some (wrap64 (rd s0_0 s0_1), wrap64 (s0_1 + 1), IntKind.u64.wrap ((IntKind.u64.wrap ((IntKind.u64.wrap (s0_2 * 6364136223846793005)) + (IntKind.u64.wrap (wrap64 (rd s0_0 s0_1))))) + 1442695040888963407))) else (some (wrap64 (Go.bits .and .u64 ((IntKind.u64.wrap ((IntKind.u64.wrap ((IntKind.u64.wrap (s0_2 * 6364136223846793005)) + (IntKind.u64.wrap (wrap64 (rd s0_0 s0_1))))) + 1442695040888963407)) / 1099511627776) 255), wrap64 (s0_1 + 1), IntKind.u64.wrap ((IntKind.u64.wrap ((IntKind.u64.wrap (s0_2 * 6364136223846793005)) + (IntKind.u64.wrap (wrap64 (rd s0_0 s0_1))))) + 1442695040888963407)))) else (none)) else (if (wrap64 (s0_1 + 1)) ≤ (s0_0.length : Int) then (some (0, wrap64 (s0_1 + 1), IntKind.u64.wrap ((IntKind.u64.wrap ((IntKind.u64.wrap (s0_2 * 6364136223846793005)))) + 1442695040888963407))) else (some (wrap64 (Go.bits .and .u64 ((IntKind.u64.wrap ((IntKind.u64.wrap ((IntKind.u64.wrap (s0_2 * 6364136223846793005)))) + 1442695040888963407)) / 1099511627776) 255), wrap64 (s0_1 + 1), IntKind.u64.wrap ((IntKind.u64.wrap ((IntKind.u64.wrap (s0_2 * 6364136223846793005)))) + 1442695040888963407))))
theorem spec_l1Cur_next.calls (g : Nat) (s0_0 : List Int) (s0_1 : Int) (s0_2 : Int) (r1 : Int) (r2 : Int) (r3 : Int) (w0 w : World) (hI : IsS64 w0 w g s0_0 s0_1 s0_2) (hB : Below w0.heap.size w0 w) (h : spec_l1Cur_next.f s0_0 s0_1 s0_2 = some (r1, r2, r3)) :
  Calls Tryd.prog 101 #[.pointer (some ⟨g, 0, none⟩)] w fun e w' => e = .returned (.int .i64 r1) ∧ IsS64 w0 w' g s0_0 r2 r3 ∧ Below w0.heap.size w0 w' ∧ KeepBut w w' g none := by
 have HI0 := Aside0.mk hI
 have HK := Aside0.mk (KeepBut.refl w g none)
 have HL := Aside0.mk hB.size
 clear hI
 have HW0 := Aside0.mk hB.size
 have HB := Aside0.mk hB
 clear hB
 have H : (if s0_1 < (s0_0.length : Int) then (if 0 ≤ s0_1 then (if (wrap64 (s0_1 + 1)) ≤ (s0_0.length : Int) then (some (wrap64 (rd s0_0 s0_1), wrap64 (s0_1 + 1), IntKind.u64.wrap ((IntKind.u64.wrap ((IntKind.u64.wrap (s0_2 * 6364136223846793005)) + (IntKind.u64.wrap (wrap64 (rd s0_0 s0_1))))) + 1442695040888963407))) else (some (wrap64 (Go.bits .and .u64 ((IntKind.u64.wrap ((IntKind.u64.wrap ((IntKind.u64.wrap (s0_2 * 6364136223846793005)) + (IntKind.u64.wrap (wrap64 (rd s0_0 s0_1))))) + 1442695040888963407)) / 1099511627776) 255), wrap64 (s0_1 + 1), IntKind.u64.wrap ((IntKind.u64.wrap ((IntKind.u64.wrap (s0_2 * 6364136223846793005)) + (IntKind.u64.wrap (wrap64 (rd s0_0 s0_1))))) + 1442695040888963407)))) else (none)) else (if (wrap64 (s0_1 + 1)) ≤ (s0_0.length : Int) then (some (0, wrap64 (s0_1 + 1), IntKind.u64.wrap ((IntKind.u64.wrap ((IntKind.u64.wrap (s0_2 * 6364136223846793005)))) + 1442695040888963407))) else (some (wrap64 (Go.bits .and .u64 ((IntKind.u64.wrap ((IntKind.u64.wrap ((IntKind.u64.wrap (s0_2 * 6364136223846793005)))) + 1442695040888963407)) / 1099511627776) 255), wrap64 (s0_1 + 1), IntKind.u64.wrap ((IntKind.u64.wrap ((IntKind.u64.wrap (s0_2 * 6364136223846793005)))) + 1442695040888963407))))) = some (r1, r2, r3) := h
 clear h
 by_cases c2 : s0_1 < (s0_0.length : Int)
 ·rw [if_pos c2] at H
  have c2b0 : decide (s0_1 < (s0_0.length : Int)) = true := decide_eq_true c2
  clear c2
  by_cases c3 : 0 ≤ s0_1
  ·rw [if_pos c3] at H
   have c3b0 : decide (0 ≤ s0_1) = true := decide_eq_true c3
   clear c3
   by_cases c4 : (wrap64 (s0_1 + 1)) ≤ (s0_0.length : Int)
   ·rw [if_pos c4] at H
    have c4b0 : decide ((wrap64 (s0_1 + 1)) ≤ (s0_0.length : Int)) = true := decide_eq_true c4
    clear c4
    simp only [Option.some.injEq, Prod.mk.injEq] at H
    obtain ⟨rfl, rfl, rfl⟩ := H
    obtain ⟨ASz5_0, cSz5_0, HGz5, hgz5, HSz5_0⟩ := HI0.out
    have hcz5_0 := cellS64_0 HGz5
    have hcz5_1 := cellS64_1 HGz5
    have hcz5_2 := cellS64_2 HGz5
    have hfz5_1 := blk_frozen HGz5 1
    have hfz5_2 := blk_frozen HGz5 2
    clear HGz5 hgz5
    have p227 : 0 ≤ (s0_1 : Int) := of_decide_eq_true (by assumption)
    have q227 : s0_1 < (s0_0.length : Int) := of_decide_eq_true (by assumption)
    obtain ⟨ad227, e227, hx227_0⟩ := Kd.at_int HSz5_0 s0_1 p227 q227
    cases e227
    replace hx227_0 := pw_cell_below HB.out hx227_0
    replace p227 := eq_true p227
    replace q227 := eq_true q227
    go_enter Tryd.func101, Tryd.ntmps101
    go_wp2
    repeat (go_quiet (fail); try go_wp2)
    go_ret
    exact ⟨Sw.e, Zb101_1, Zb101_0, Zb101_2⟩
   ·rw [if_neg c4] at H
    have c4b0 : decide ((wrap64 (s0_1 + 1)) ≤ (s0_0.length : Int)) = false := decide_eq_false c4
    clear c4
    simp only [Option.some.injEq, Prod.mk.injEq] at H
    obtain ⟨rfl, rfl, rfl⟩ := H
    obtain ⟨ASz6_0, cSz6_0, HGz6, hgz6, HSz6_0⟩ := HI0.out
    have hcz6_0 := cellS64_0 HGz6
    have hcz6_1 := cellS64_1 HGz6
    have hcz6_2 := cellS64_2 HGz6
    have hfz6_1 := blk_frozen HGz6 1
    have hfz6_2 := blk_frozen HGz6 2
    clear HGz6 hgz6
    have p227 : 0 ≤ (s0_1 : Int) := of_decide_eq_true (by assumption)
    have q227 : s0_1 < (s0_0.length : Int) := of_decide_eq_true (by assumption)
    obtain ⟨ad227, e227, hx227_0⟩ := Kd.at_int HSz6_0 s0_1 p227 q227
    cases e227
    replace hx227_0 := pw_cell_below HB.out hx227_0
    replace p227 := eq_true p227
    replace q227 := eq_true q227
    go_enter Tryd.func101, Tryd.ntmps101
    go_wp2
    repeat (go_quiet (fail); try go_wp2)
    go_ret
    exact ⟨Sw.e, Zb101_1, Zb101_0, Zb101_2⟩
  ·rw [if_neg c3] at H
   exact absurd H (by simp)
 ·rw [if_neg c2] at H
  have c2b0 : decide (s0_1 < (s0_0.length : Int)) = false := decide_eq_false c2
  clear c2
  by_cases c7 : (wrap64 (s0_1 + 1)) ≤ (s0_0.length : Int)
  ·rw [if_pos c7] at H
   have c7b0 : decide ((wrap64 (s0_1 + 1)) ≤ (s0_0.length : Int)) = true := decide_eq_true c7
   clear c7
   simp only [Option.some.injEq, Prod.mk.injEq] at H
   obtain ⟨rfl, rfl, rfl⟩ := H
   obtain ⟨ASz8_0, cSz8_0, HGz8, hgz8, HSz8_0⟩ := HI0.out
   have hcz8_0 := cellS64_0 HGz8
   have hcz8_1 := cellS64_1 HGz8
   have hcz8_2 := cellS64_2 HGz8
   have hfz8_1 := blk_frozen HGz8 1
   have hfz8_2 := blk_frozen HGz8 2
   clear HGz8 hgz8
   go_enter Tryd.func101, Tryd.ntmps101
   go_wp2
   repeat (go_quiet (fail); try go_wp2)
   go_ret
   exact ⟨Sw.e, Zb101_1, Zb101_0, Zb101_2⟩
  ·rw [if_neg c7] at H
   have c7b0 : decide ((wrap64 (s0_1 + 1)) ≤ (s0_0.length : Int)) = false := decide_eq_false c7
   clear c7
   simp only [Option.some.injEq, Prod.mk.injEq] at H
   obtain ⟨rfl, rfl, rfl⟩ := H
   obtain ⟨ASz9_0, cSz9_0, HGz9, hgz9, HSz9_0⟩ := HI0.out
   have hcz9_0 := cellS64_0 HGz9
   have hcz9_1 := cellS64_1 HGz9
   have hcz9_2 := cellS64_2 HGz9
   have hfz9_1 := blk_frozen HGz9 1
   have hfz9_2 := blk_frozen HGz9 2
   clear HGz9 hgz9
   go_enter Tryd.func101, Tryd.ntmps101
   go_wp2
   repeat (go_quiet (fail); try go_wp2)
   go_ret
   exact ⟨Sw.e, Zb101_1, Zb101_0, Zb101_2⟩

theorem Zb82_0 {p : Prop} (h : p := by simp only [List.map_toArray, List.map_cons, List.map_nil] <;> rfl) : p := h
def spec_l1Cur_pick.f (s0_0 : List Int) (s0_1 : Int) (s0_2 : Int) (a1 : Int) : Option (Int × Int × Int) := if a1 ≤ 1 then (some (0, s0_1, s0_2)) else ((spec_l1Cur_next.f s0_0 s0_1 s0_2).bind fun bt228 => (if a1 > 200 then ((spec_l1Cur_next.f s0_0 bt228.2.1 bt228.2.2).bind fun bt231 => (if a1 = 0 then (none) else (some (Int.tmod (wrap64 ((wrap64 (bt228.1 * 256)) + bt231.1)) a1, bt231.2.1, bt231.2.2)))) else (if a1 = 0 then (none) else (some (Int.tmod bt228.1 a1, bt228.2.1, bt228.2.2)))))
theorem spec_l1Cur_pick.calls (g : Nat) (s0_0 : List Int) (s0_1 : Int) (s0_2 : Int) (a1 : Int) (r1 : Int) (r2 : Int) (r3 : Int) (w0 w : World) (hI : IsS64 w0 w g s0_0 s0_1 s0_2) (hB : Below w0.heap.size w0 w) (h : spec_l1Cur_pick.f s0_0 s0_1 s0_2 a1 = some (r1, r2, r3)) :
  Calls Tryd.prog 82 #[.pointer (some ⟨g, 0, none⟩), .int .i64 a1] w fun e w' => e = .returned (.int .i64 r1) ∧ IsS64 w0 w' g s0_0 r2 r3 ∧ Below w0.heap.size w0 w' ∧ KeepBut w w' g none := by
 have HI0 := Aside0.mk hI
 have HK := Aside0.mk (KeepBut.refl w g none)
 have HL := Aside0.mk hB.size
 clear hI
 have HW0 := Aside0.mk hB.size
 have HB := Aside0.mk hB
 clear hB
 have H : (if a1 ≤ 1 then (some (0, s0_1, s0_2)) else ((spec_l1Cur_next.f s0_0 s0_1 s0_2).bind fun bt228 => (if a1 > 200 then ((spec_l1Cur_next.f s0_0 bt228.2.1 bt228.2.2).bind fun bt231 => (if a1 = 0 then (none) else (some (Int.tmod (wrap64 ((wrap64 (bt228.1 * 256)) + bt231.1)) a1, bt231.2.1, bt231.2.2)))) else (if a1 = 0 then (none) else (some (Int.tmod bt228.1 a1, bt228.2.1, bt228.2.2)))))) = some (r1, r2, r3) := h
 clear h
 by_cases c3 : a1 ≤ 1
 ·rw [if_pos c3] at H
  have c3b0 : decide (a1 ≤ 1) = true := decide_eq_true c3
  clear c3
  simp only [Option.some.injEq, Prod.mk.injEq] at H
  obtain ⟨rfl, rfl, rfl⟩ := H
  go_enter Tryd.func82, Tryd.ntmps82
  go_wp2
  go_ret
  exact ⟨Sw.e, HI0.out, HB.out, HK.out⟩
 ·rw [if_neg c3] at H
  have c3b0 : decide (a1 ≤ 1) = false := decide_eq_false c3
  clear c3
  replace H := Option.bind_eq_some_iff.mp H
  obtain ⟨⟨t228, t229, t230⟩, A40, H⟩ := H
  replace H : (if a1 > 200 then ((spec_l1Cur_next.f s0_0 t229 t230).bind fun bt231 => (if a1 = 0 then (none) else (some (Int.tmod (wrap64 ((wrap64 (t228 * 256)) + bt231.1)) a1, bt231.2.1, bt231.2.2)))) else (if a1 = 0 then (none) else (some (Int.tmod t228 a1, t229, t230)))) = some (r1, r2, r3) := H
  have A4 := Aside0.mk A40
  clear A40
  by_cases c5 : a1 > 200
  ·rw [if_pos c5] at H
   have c5b0 : decide (200 < a1) = true := decide_eq_true c5
   clear c5
   replace H := Option.bind_eq_some_iff.mp H
   obtain ⟨⟨t231, t232, t233⟩, A60, H⟩ := H
   replace H : (if a1 = 0 then (none) else (some (Int.tmod (wrap64 ((wrap64 (t228 * 256)) + t231)) a1, t232, t233))) = some (r1, r2, r3) := H
   have A6 := Aside0.mk A60
   clear A60
   by_cases c7 : a1 = 0
   ·rw [if_pos c7] at H
    exact absurd H (by simp)
   ·rw [if_neg c7] at H
    have c7b0 : (a1 == 0) = false := beq_eq_false_iff_ne.mpr c7
    have c7b1 : (a1 != 0) = true := bne_iff_ne.mpr c7
    simp only [Option.some.injEq, Prod.mk.injEq] at H
    obtain ⟨rfl, rfl, rfl⟩ := H
    go_enter Tryd.func82, Tryd.ntmps82
    go_wp2_with (first | ((with_reducible refine gate_callee (f := 101) rfl ?_); refine goesL_ (some 9) rfl rfl Tryd.func101 (by kernel_rfl) rfl #[.pointer (some ⟨g, 0, none⟩)] rfl Zb82_0 ?_; (with_reducible refine (spec_l1Cur_next.calls g s0_0 s0_1 s0_2 t228 t229 t230 w0 _ ?side1 ?side2 A4.out).mono ?_); (case side1 => exact HI0.out); (case side2 => exact HB.out); rintro e w8 ⟨rfl, hi, hb, hk⟩; refine ⟨_, rfl, ?_⟩; replace HK := Aside0.mk (KeepBut.trans HK.out hk (.inl rfl)); replace HB := Aside0.mk (hb); replace HI0 := Aside0.mk (hi)) | ((with_reducible refine gate_callee (f := 101) rfl ?_); refine goesL_ (some 15) rfl rfl Tryd.func101 (by kernel_rfl) rfl #[.pointer (some ⟨g, 0, none⟩)] rfl Zb82_0 ?_; (with_reducible refine (spec_l1Cur_next.calls g s0_0 t229 t230 t231 t232 t233 w0 _ ?side1 ?side2 A6.out).mono ?_); (case side1 => exact HI0.out); (case side2 => exact HB.out); rintro e w9 ⟨rfl, hi, hb, hk⟩; refine ⟨_, rfl, ?_⟩; replace HK := Aside0.mk (KeepBut.trans HK.out hk (.inl rfl)); replace HB := Aside0.mk (hb); replace HI0 := Aside0.mk (hi)))
    go_ret
    exact ⟨Sw.e, HI0.out, HB.out, HK.out⟩
  ·rw [if_neg c5] at H
   have c5b0 : decide (200 < a1) = false := decide_eq_false c5
   clear c5
   by_cases c10 : a1 = 0
   ·rw [if_pos c10] at H
    exact absurd H (by simp)
   ·rw [if_neg c10] at H
    have c10b0 : (a1 == 0) = false := beq_eq_false_iff_ne.mpr c10
    have c10b1 : (a1 != 0) = true := bne_iff_ne.mpr c10
    simp only [Option.some.injEq, Prod.mk.injEq] at H
    obtain ⟨rfl, rfl, rfl⟩ := H
    go_enter Tryd.func82, Tryd.ntmps82
    go_wp2_with (first | ((with_reducible refine gate_callee (f := 101) rfl ?_); refine goesL_ (some 9) rfl rfl Tryd.func101 (by kernel_rfl) rfl #[.pointer (some ⟨g, 0, none⟩)] rfl Zb82_0 ?_; (with_reducible refine (spec_l1Cur_next.calls g s0_0 s0_1 s0_2 t228 t229 t230 w0 _ ?side1 ?side2 A4.out).mono ?_); (case side1 => exact HI0.out); (case side2 => exact HB.out); rintro e w11 ⟨rfl, hi, hb, hk⟩; refine ⟨_, rfl, ?_⟩; replace HK := Aside0.mk (KeepBut.trans HK.out hk (.inl rfl)); replace HB := Aside0.mk (hb); replace HI0 := Aside0.mk (hi)))
    go_ret
    exact ⟨Sw.e, HI0.out, HB.out, HK.out⟩

def spec_l1Cur_among.f (s0_0 : List Int) (s0_1 : Int) (s0_2 : Int) (l1 : List Int) : Option (Int × Int × Int) := (spec_l1Cur_pick.f s0_0 s0_1 s0_2 (l1.length : Int)).bind fun bt234 => (if 0 ≤ bt234.1 then (if bt234.1 < (l1.length : Int) then (some (rd l1 bt234.1, bt234.2.1, bt234.2.2)) else (none)) else (none))
theorem spec_l1Cur_among.calls (g : Nat) (s0_0 : List Int) (s0_1 : Int) (s0_2 : Int) (A1 : Option Addr) (c1 : Nat) (l1 : List Int) (r1 : Int) (r2 : Int) (r3 : Int) (w0 w : World) (hI : IsS64 w0 w g s0_0 s0_1 s0_2) (hB : Below w0.heap.size w0 w) (hr1 : Kd.C (Kd.int .i64) w A1 l1.length l1) (hc1 : l1.length ≤ c1) (hf1 : ∀ ad, A1 = some ad → 0 < l1.length → ad.block ≠ g) (h : spec_l1Cur_among.f s0_0 s0_1 s0_2 l1 = some (r1, r2, r3)) :
    Calls Tryd.prog 87 #[.pointer (some ⟨g, 0, none⟩), .slice A1 l1.length c1] w fun e w' => e = .returned (.int .i64 r1) ∧ IsS64 w0 w' g s0_0 r2 r3 ∧ Below w0.heap.size w0 w' ∧ KeepBut w w' g none := by
  have HR1 := Aside0.mk hr1
  have HC1 := Aside0.mk hc1
  clear hr1 hc1
  have HI0 := Aside0.mk hI
  have HK := Aside0.mk (KeepBut.refl w g none)
  have HL := Aside0.mk hB.size
  clear hI
  have HW0 := Aside0.mk hB.size
  have HB := Aside0.mk hB
  clear hB
  have H : ((spec_l1Cur_pick.f s0_0 s0_1 s0_2 (l1.length : Int)).bind fun bt234 => (if 0 ≤ bt234.1 then (if bt234.1 < (l1.length : Int) then (some (rd l1 bt234.1, bt234.2.1, bt234.2.2)) else (none)) else (none))) = some (r1, r2, r3) := h
  clear h
  replace H := Option.bind_eq_some_iff.mp H
  obtain ⟨⟨t234, t235, t236⟩, A30, H⟩ := H
  replace H : (if 0 ≤ t234 then (if t234 < (l1.length : Int) then (some (rd l1 t234, t235, t236)) else (none)) else (none)) = some (r1, r2, r3) := H
  have A3 := Aside0.mk A30
  clear A30
  by_cases c4 : 0 ≤ t234
  · rw [if_pos c4] at H
    have c4b0 : decide (0 ≤ t234) = true := decide_eq_true c4
    clear c4
    by_cases c5 : t234 < (l1.length : Int)
    · rw [if_pos c5] at H
      have c5b0 : decide (t234 < (l1.length : Int)) = true := decide_eq_true c5
      clear c5
      simp only [Option.some.injEq, Prod.mk.injEq] at H
      obtain ⟨rfl, rfl, rfl⟩ := H
      go_enter Tryd.func87, Tryd.ntmps87
      go_wp2_with (first | ((with_reducible refine gate_callee (f := 82) rfl ?_); refine goesL_ (some 9) rfl rfl Tryd.func82 (by kernel_rfl) rfl #[.pointer (some ⟨g, 0, none⟩), .int .i64 (l1.length : Int)] rfl (by simp only [List.map_toArray, List.map_cons, List.map_nil] <;> rfl) ?_; (with_reducible refine (spec_l1Cur_pick.calls g s0_0 s0_1 s0_2 (l1.length : Int) t234 t235 t236 w0 _ ?side1 ?side2 A3.out).mono ?_); (case side1 => exact HI0.out); (case side2 => exact HB.out); rintro e w6 ⟨rfl, hi, hb, hk⟩; refine ⟨_, rfl, ?_⟩; have n0_ := Aside0.mk (KeepBut.trans HK.out hk (.inl rfl)); have n1_ := Aside0.mk (hb); have n2_ := Aside0.mk (hi); clear HK; clear HB; clear HI0; have HK := n0_; have HB := n1_; have HI0 := n2_; clear n0_ n1_ n2_; have p237 : 0 ≤ (t234 : Int) := of_decide_eq_true (by assumption); have q237 : t234 < (l1.length : Int) := of_decide_eq_true (by assumption); obtain ⟨ad237, e237, hx237_0⟩ := Kd.at_int HR1.out t234 p237 q237; cases e237; replace hx237_0 := keep_cell HK.out hx237_0 (by first | (rw [add_block]; exact hf1 _ rfl (by omega)) | exact hf1 _ rfl (by omega) | exact hf1 ad237 rfl (by omega)); replace p237 := eq_true p237; replace q237 := eq_true q237))
      go_ret
      exact ⟨Sw.e, HI0.out, HB.out, HK.out⟩
    · rw [if_neg c5] at H
      exact absurd H (by simp)
  · rw [if_neg c4] at H
    exact absurd H (by simp)

def spec_l1Cur_rune.f (s0_0 : List Int) (s0_1 : Int) (s0_2 : Int) : Option (Int × Int × Int) := (spec_l1Cur_among.f s0_0 s0_1 s0_2 (([97, 98, 99, 120, 32, 49, 10, 0, 127, 128, 228, 769, 770, 2047, 2048, 4352, 4449, 12354, 44032, 55295, 57344, 65533, 65536, 128512, 1114111] : List Int))).bind fun bt241 => (some (bt241.1, bt241.2.1, bt241.2.2))
theorem spec_l1Cur_rune.calls (g : Nat) (s0_0 : List Int) (s0_1 : Int) (s0_2 : Int) (r1 : Int) (r2 : Int) (r3 : Int) (w0 w : World) (hI : IsS64 w0 w g s0_0 s0_1 s0_2) (hB : Below w0.heap.size w0 w) (h : spec_l1Cur_rune.f s0_0 s0_1 s0_2 = some (r1, r2, r3)) :
  Calls Tryd.prog 81 #[.pointer (some ⟨g, 0, none⟩)] w fun e w' => e = .returned (.int .i64 r1) ∧ IsS64 w0 w' g s0_0 r2 r3 ∧ Below w0.heap.size w0 w' ∧ KeepBut w w' g none := by
 have HI0 := Aside0.mk hI
 have HK := Aside0.mk (KeepBut.refl w g none)
 have HL := Aside0.mk hB.size
 clear hI
 have HW0 := Aside0.mk hB.size
 have HB := Aside0.mk hB
 clear hB
 have H : ((spec_l1Cur_among.f s0_0 s0_1 s0_2 (([97, 98, 99, 120, 32, 49, 10, 0, 127, 128, 228, 769, 770, 2047, 2048, 4352, 4449, 12354, 44032, 55295, 57344, 65533, 65536, 128512, 1114111] : List Int))).bind fun bt241 => (some (bt241.1, bt241.2.1, bt241.2.2))) = some (r1, r2, r3) := h
 clear h
 obtain ⟨y238, hy238⟩ : ∃ y_ : List Int, y_ = (([97, 98, 99, 120, 32, 49, 10, 0, 127, 128, 228, 769, 770, 2047, 2048, 4352, 4449, 12354, 44032, 55295, 57344, 65533, 65536, 128512, 1114111] : List Int)) := ⟨_, rfl⟩
 replace H : ((spec_l1Cur_among.f s0_0 s0_1 s0_2 y238).bind fun bt241 => (some (bt241.1, bt241.2.1, bt241.2.2))) = some (r1, r2, r3) := by rw [hy238]; exact H
 have Ny238 := Aside0.mk hy238
 clear hy238
 replace H := Option.bind_eq_some_iff.mp H
 obtain ⟨⟨t241, t242, t243⟩, A20, H⟩ := H
 replace H : (some (t241, t242, t243)) = some (r1, r2, r3) := H
 have A2 := Aside0.mk A20
 clear A20
 simp only [Option.some.injEq, Prod.mk.injEq] at H
 obtain ⟨rfl, rfl, rfl⟩ := H
 go_enter Tryd.func81, Tryd.ntmps81
 go_wp2_with (first | ((with_reducible refine gate_dst (N := 4) rfl ?_); refine Kd.R_lit (Kd.int .i64) _ 3 ?hg (N := 4) ?hd (xs := ([97, 98, 99, 120, 32, 49, 10, 0, 127, 128, 228, 769, 770, 2047, 2048, 4352, 4449, 12354, 44032, 55295, 57344, 65533, 65536, 128512, 1114111] : List Int)) (inner := [.int .i64 97, .int .i64 98, .int .i64 99, .int .i64 120, .int .i64 32, .int .i64 49, .int .i64 10, .int .i64 0, .int .i64 127, .int .i64 128, .int .i64 228, .int .i64 769, .int .i64 770, .int .i64 2047, .int .i64 2048, .int .i64 4352, .int .i64 4449, .int .i64 12354, .int .i64 44032, .int .i64 55295, .int .i64 57344, .int .i64 65533, .int .i64 65536, .int .i64 128512, .int .i64 1114111]) (ok := fun _ => True) (okp := fun _ => True) ?hr ?hp (fun _ hk => hk) trivial (Below.refl _ _) (Nat.le_refl _) (by simp) ?_; (case hd => rfl); (case hg => rfl); (case hr => go_simp <;> rfl); (case hp => exact (Reps.one (show Kd.M (Kd.int .i64) _ _ _ 97 [.int .i64 97] from rfl) (Reps.one (show Kd.M (Kd.int .i64) _ _ _ 98 [.int .i64 98] from rfl) (Reps.one (show Kd.M (Kd.int .i64) _ _ _ 99 [.int .i64 99] from rfl) (Reps.one (show Kd.M (Kd.int .i64) _ _ _ 120 [.int .i64 120] from rfl) (Reps.one (show Kd.M (Kd.int .i64) _ _ _ 32 [.int .i64 32] from rfl) (Reps.one (show Kd.M (Kd.int .i64) _ _ _ 49 [.int .i64 49] from rfl) (Reps.one (show Kd.M (Kd.int .i64) _ _ _ 10 [.int .i64 10] from rfl) (Reps.one (show Kd.M (Kd.int .i64) _ _ _ 0 [.int .i64 0] from rfl) (Reps.one (show Kd.M (Kd.int .i64) _ _ _ 127 [.int .i64 127] from rfl) (Reps.one (show Kd.M (Kd.int .i64) _ _ _ 128 [.int .i64 128] from rfl) (Reps.one (show Kd.M (Kd.int .i64) _ _ _ 228 [.int .i64 228] from rfl) (Reps.one (show Kd.M (Kd.int .i64) _ _ _ 769 [.int .i64 769] from rfl) (Reps.one (show Kd.M (Kd.int .i64) _ _ _ 770 [.int .i64 770] from rfl) (Reps.one (show Kd.M (Kd.int .i64) _ _ _ 2047 [.int .i64 2047] from rfl) (Reps.one (show Kd.M (Kd.int .i64) _ _ _ 2048 [.int .i64 2048] from rfl) (Reps.one (show Kd.M (Kd.int .i64) _ _ _ 4352 [.int .i64 4352] from rfl) (Reps.one (show Kd.M (Kd.int .i64) _ _ _ 4449 [.int .i64 4449] from rfl) (Reps.one (show Kd.M (Kd.int .i64) _ _ _ 12354 [.int .i64 12354] from rfl) (Reps.one (show Kd.M (Kd.int .i64) _ _ _ 44032 [.int .i64 44032] from rfl) (Reps.one (show Kd.M (Kd.int .i64) _ _ _ 55295 [.int .i64 55295] from rfl) (Reps.one (show Kd.M (Kd.int .i64) _ _ _ 57344 [.int .i64 57344] from rfl) (Reps.one (show Kd.M (Kd.int .i64) _ _ _ 65533 [.int .i64 65533] from rfl) (Reps.one (show Kd.M (Kd.int .i64) _ _ _ 65536 [.int .i64 65536] from rfl) (Reps.one (show Kd.M (Kd.int .i64) _ _ _ 128512 [.int .i64 128512] from rfl) (Reps.one (show Kd.M (Kd.int .i64) _ _ _ 1114111 [.int .i64 1114111] from rfl) (Reps.none _ _))))))))))))))))))))))))))); intro v239 w3 ho4 hb hg_ hnew_; clear hg_ hnew_; (first | rw [← Ny238.out] at ho4 | (simp only [Int.reduceToNat] at ho4; rw [← Ny238.out] at ho4)); have HO240 := Aside0.mk (Kd.R_lower ho4 (keep_size (w := w) (g := g) (row := none) HK.out)); replace HK := Aside0.mk (KeepBut.trans HK.out (KeepBut.of_below hb g none) (.inl rfl)); replace HB := Aside0.mk (below_step HB.out hb); replace HI0 := Aside0.mk (IsS64.below HI0.out hb); clear hb ho4; obtain ⟨Ao5, co5, eo5⟩ := Kd.R_slice HO240.out; subst eo5) | ((with_reducible refine gate_callee (f := 87) rfl ?_); refine goesL_ (some 5) rfl rfl Tryd.func87 (by kernel_rfl) rfl #[.pointer (some ⟨g, 0, none⟩), .slice Ao5 y238.length co5] rfl (by simp only [List.map_toArray, List.map_cons, List.map_nil] <;> rfl) ?_; (with_reducible refine (spec_l1Cur_among.calls g s0_0 s0_1 s0_2 _ _ y238 t241 t242 t243 w0 _ ?side1 ?side2 ?side3 ?side4 ?side5 A2.out).mono ?_); (case side1 => exact HI0.out); (case side2 => exact HB.out); (case side3 => repeat (first | exact (Kd.R_reads' HO240.out).2.2 | (with_reducible refine Kd.C_alloc ?_ _) | (with_reducible refine Kd.C_drewN ?_ _) | (with_reducible refine Kd.C_drew ?_))); (case side4 => exact (Kd.R_reads' HO240.out).2.1); (case side5 => exact far_slice (IsS64.own_ne HI0.out HO240.out (by decide))); rintro e w6 ⟨rfl, hi, hb, hk⟩; refine ⟨_, rfl, ?_⟩; replace HO240 := Aside0.mk (Kd.R_mono (Kd.R_keep (IsS64.apart (show IsS64 w0 _ g s0_0 s0_1 s0_2 from by repeat (first | (with_reducible first | exact HI0.out | apply IsS64.alloc | apply IsS64.drewN | apply IsS64.drew | apply IsS64.set_1 | apply IsS64.set_2) | exact HI0.out)) (Sw.rt HO240.out) (by decide)) hk (fun _ h => h.2)) (fun _ h => h.1)); replace HK := Aside0.mk (KeepBut.trans HK.out hk (.inl rfl)); replace HB := Aside0.mk (hb); replace HI0 := Aside0.mk (hi)))
 go_ret
 exact ⟨Sw.e, HI0.out, HB.out, HK.out⟩

def spec_l1Cur_runes.l0 : Nat → List Int → Int → List Int → Int → Int → Option (List Int × Int × Int)
 | 0, _, _, _, _, _ => none
 | k + 1, x5, x6, x1000, x1001, x1002 => if x6 > 0 then ((spec_l1Cur_rune.f x1000 x1001 x1002).bind fun bt247 => (if x5.length < 17592186044416 then (spec_l1Cur_runes.l0 k (x5 ++ [bt247.1]) (wrap64 (x6 - 1)) x1000 bt247.2.1 bt247.2.2) else (none))) else (some (x5, x1001, x1002))
def spec_l1Cur_runes.f (k : Nat) (s0_0 : List Int) (s0_1 : Int) (s0_2 : Int) (a1 : Int) : Option (List Int × Int × Int) := (spec_l1Cur_pick.f s0_0 s0_1 s0_2 (wrap64 (a1 + 1))).bind fun bt244 => (spec_l1Cur_runes.l0 k ([] : List Int) bt244.1 s0_0 bt244.2.1 bt244.2.2)
theorem spec_l1Cur_runes.mono_l : ∀ k, (∀ y0 y1 y2 y3 y4, LeO (spec_l1Cur_runes.l0 k y0 y1 y2 y3 y4) (spec_l1Cur_runes.l0 (k + 1) y0 y1 y2 y3 y4))
 | 0 => fun _ _ _ _ _ r h => by simp [spec_l1Cur_runes.l0] at h
 | k + 1 => by
  have ih0 := spec_l1Cur_runes.mono_l k
  ·intro y0 y1 y2 y3 y4
   unfold spec_l1Cur_runes.l0
   with_reducible repeat' first | exact ih0 _ _ _ _ _ | exact LeO.refl _ | exact LeO.none _ | refine LeO.ite ?_ ?_ | refine LeO.bind ?_ (fun _ => ?_)
theorem spec_l1Cur_runes.mono : ∀ a0 a1 a2 a3 k, LeO (spec_l1Cur_runes.f k a0 a1 a2 a3) (spec_l1Cur_runes.f (k + 1) a0 a1 a2 a3) := by
 intro a0 a1 a2 a3 k
 have ih0 := spec_l1Cur_runes.mono_l k
 unfold spec_l1Cur_runes.f
 with_reducible repeat' first | exact ih0 _ _ _ _ _ | exact LeO.refl _ | exact LeO.none _ | refine LeO.ite ?_ ?_ | refine LeO.bind ?_ (fun _ => ?_)
theorem spec_l1Cur_runes.calls (k : Nat) (g : Nat) (s0_0 : List Int) (s0_1 : Int) (s0_2 : Int) (a1 : Int) (r1 : List Int) (r2 : Int) (r3 : Int) (w0 w : World) (hI : IsS64 w0 w g s0_0 s0_1 s0_2) (hB : Below w0.heap.size w0 w) (h : spec_l1Cur_runes.f k s0_0 s0_1 s0_2 a1 = some (r1, r2, r3)) :
  Calls Tryd.prog 86 #[.pointer (some ⟨g, 0, none⟩), .int .i64 a1] w fun e w' => ∃ v0_ : Value, e = .returned (v0_) ∧ Kd.R (Kd.int .i64) 3 w' w.heap.size (fun _ => True) v0_ r1 ∧ IsS64 w0 w' g s0_0 r2 r3 ∧ Below w0.heap.size w0 w' ∧ KeepBut w w' g none := by
 have HI0 := Aside0.mk hI
 have HK := Aside0.mk (KeepBut.refl w g none)
 have HL := Aside0.mk hB.size
 clear hI
 have HW0 := Aside0.mk hB.size
 have HB := Aside0.mk hB
 clear hB
 have H : ((spec_l1Cur_pick.f s0_0 s0_1 s0_2 (wrap64 (a1 + 1))).bind fun bt244 => (spec_l1Cur_runes.l0 k ([] : List Int) bt244.1 s0_0 bt244.2.1 bt244.2.2)) = some (r1, r2, r3) := h
 clear h
 replace H := Option.bind_eq_some_iff.mp H
 obtain ⟨⟨t244, t245, t246⟩, A30, H⟩ := H
 replace H : (spec_l1Cur_runes.l0 k ([] : List Int) t244 s0_0 t245 t246) = some (r1, r2, r3) := H
 have A3 := Aside0.mk A30
 clear A30
 have H' := Aside0.mk H
 clear H
 go_enter Tryd.func86, Tryd.ntmps86
 go_wp2_with (first | ((with_reducible refine gate_callee (f := 82) rfl ?_); refine goesL_ (some 10) rfl rfl Tryd.func82 (by kernel_rfl) rfl #[.pointer (some ⟨g, 0, none⟩), .int .i64 (wrap64 (a1 + 1))] rfl (by simp only [List.map_toArray, List.map_cons, List.map_nil] <;> rfl) ?_; (with_reducible refine (spec_l1Cur_pick.calls g s0_0 s0_1 s0_2 (wrap64 (a1 + 1)) t244 t245 t246 w0 _ ?side1 ?side2 A3.out).mono ?_); (case side1 => exact HI0.out); (case side2 => exact HB.out); rintro e w4 ⟨rfl, hi, hb, hk⟩; refine ⟨_, rfl, ?_⟩; replace HK := Aside0.mk (KeepBut.trans HK.out hk (.inl rfl)); replace HB := Aside0.mk (hb); replace HI0 := Aside0.mk (hi)))
 go_loopg [5, 6] k (fun kq v5 v6 w' => ∃ (x5_1 : List Int) (x6_1 : Int) (x1001_1 : Int) (x1002_1 : Int), v6 = .int .i64 x6_1 ∧ Aside0 (spec_l1Cur_runes.l0 kq x5_1 x6_1 s0_0 x1001_1 x1002_1 = some (r1, r2, r3)) ∧ Aside0 (kq ≤ k) ∧ Aside0 (Kd.R (Kd.int .i64) 3 w' w.heap.size (fun _ => True) v5 x5_1) ∧ Aside0 (IsS64 w0 w' g s0_0 x1001_1 x1002_1) ∧ Aside0 (KeepBut w w' g none) ∧ Aside0 (Below w0.heap.size w0 w'))
 case atStart => exact ⟨(([] : List Int)), (t244), (t245), (t246), Sw.r, H', ⟨Nat.le_refl _⟩, ⟨by first | exact Kd.R_nil _ _ _ _ _ | exact Kd.N_nil _ _ _ _ _ | exact Kd.V_nil _ _ _ _ _ | exact Kd.Q_nil _ _ _ _ _ | exact Kd.S_nil _ _ _ _ _⟩, ⟨HI0.out⟩, ⟨HK.out⟩, ⟨HB.out⟩⟩
 case round =>
  clear H'
  try clear p2
  obtain ⟨x5_1, x6_1, x1001_1, x1002_1, rfl, HA, HK1, HO_5, HI0, HK, HB⟩ := hrel
  cases gk with
  | zero => exact absurd HA.out (by simp [spec_l1Cur_runes.l0])
  | succ k1 =>
   have H := HA.out
   clear HA
   simp only [spec_l1Cur_runes.l0] at H
   by_cases c5 : x6_1 > 0
   ·rw [if_pos c5] at H
    have c5b0 : decide (0 < x6_1) = true := decide_eq_true c5
    clear c5
    replace H := Option.bind_eq_some_iff.mp H
    obtain ⟨⟨t247, t248, t249⟩, A60, H⟩ := H
    replace H : (if x5_1.length < 17592186044416 then (spec_l1Cur_runes.l0 k1 (x5_1 ++ [t247]) (wrap64 (x6_1 - 1)) s0_0 t248 t249) else (none)) = some (r1, r2, r3) := H
    have A6 := Aside0.mk A60
    clear A60
    by_cases c7 : x5_1.length < 17592186044416
    ·rw [if_pos c7] at H
     have LMc7 := Aside0.mk c7
     clear c7
     obtain ⟨y250, hy250⟩ : ∃ y_ : List Int, y_ = (x5_1 ++ [t247]) := ⟨_, rfl⟩
     replace H : (spec_l1Cur_runes.l0 k1 y250 (wrap64 (x6_1 - 1)) s0_0 t248 t249) = some (r1, r2, r3) := by rw [hy250]; exact H
     have Ny250 := Aside0.mk hy250
     clear hy250
     have H' := Aside0.mk H
     clear H
     go_wp2_with (first | ((with_reducible refine gate_callee (f := 81) rfl ?_); refine goesL_ (some 17) rfl rfl Tryd.func81 (by kernel_rfl) rfl #[.pointer (some ⟨g, 0, none⟩)] rfl (by simp only [List.map_toArray, List.map_cons, List.map_nil] <;> rfl) ?_; (with_reducible refine (spec_l1Cur_rune.calls g s0_0 x1001_1 x1002_1 t247 t248 t249 w0 _ ?side1 ?side2 A6.out).mono ?_); (case side1 => exact HI0.out); (case side2 => exact HB.out); rintro e w8 ⟨rfl, hi, hb, hk⟩; refine ⟨_, rfl, ?_⟩; replace HO_5 := Aside0.mk (Kd.R_mono (Kd.R_keep (IsS64.apart (show IsS64 w0 _ g s0_0 x1001_1 x1002_1 from by repeat (first | (with_reducible first | exact HI0.out | apply IsS64.alloc | apply IsS64.drewN | apply IsS64.drew | apply IsS64.set_1 | apply IsS64.set_2) | exact HI0.out)) (Sw.rt HO_5.out) (by decide)) hk (fun _ h => h.2)) (fun _ h => h.1)); replace HK := Aside0.mk (KeepBut.trans HK.out hk (.inl rfl)); replace HB := Aside0.mk (hb); replace HI0 := Aside0.mk (hi)) | ((with_reducible refine gate_builtin (b := .append) (xs := #[.tmp 15, .tmp 18]) rfl ?_); at_builtin; refine Kd.R_append (Kd.int .i64) w.heap.size rfl (.tmp 15) (.tmp 18) 28 3 (.int .i64 0) 8 rfl Tryd.underlying28 info3 rfl (by decide) (by omega) u5 x5_1 t247 [.int .i64 t247] (fun _ => True) (fun _ => False) rfl rfl ?aP (fun _ hk => hk.elim) ?aF ?aO (Below.refl _ _) ?aS ?aL ?_; (case aP => exact rfl); (case aF => exact (fun _ _ => trivial)); (case aO => exact (Sw.rt HO_5.out)); (case aS => exact (keep_size (w := w) (g := g) (row := none) HK.out)); (case aL => have := LMc7.out; omega); intro v251 w9 ho hb hg hat; rw [← Ny250.out] at ho; replace HB := Aside0.mk (below_weaken HB.out HL.out hb); replace HI0 := Aside0.mk (IsS64.grown HI0.out hg (IsS64.own_ne HI0.out HO_5.out (by decide))); replace HK := Aside0.mk (KeepBut.trans HK.out (KeepBut.of_grown hg g) (Kd.R_base2 HO_5.out)); have HO252 := Aside0.mk (ho); clear HO_5; clear ho hb hg hat))
     go_roundg k1
     case measure => have := HK1.out; omega
     case rel => exact ⟨(y250), (wrap64 (x6_1 - 1)), (t248), (t249), Sw.r, H', ⟨by have := HK1.out; omega⟩, ⟨Sw.rt HO252.out⟩, ⟨HI0.out⟩, ⟨HK.out⟩, ⟨HB.out⟩⟩
    ·rw [if_neg c7] at H
     exact absurd H (by simp)
   ·rw [if_neg c5] at H
    have c5b0 : decide (0 < x6_1) = false := decide_eq_false c5
    clear c5
    simp only [Option.some.injEq, Prod.mk.injEq] at H
    obtain ⟨rfl, rfl, rfl⟩ := H
    go_wp2
    go_ret
    exact ⟨_, Sw.e, by (with_reducible repeat (first | apply Kd.R_alloc | apply Kd.R_drewN | apply Kd.R_drew)); exact HO_5.out, HI0.out, HB.out, HK.out⟩

theorem Zb75_0 {p : Prop} (h : p := by simp only [List.map_toArray, List.map_cons, List.map_nil] <;> rfl) : p := h
mutual
def spec_l1Cur_bytes.l0 : Nat → ByteArray → Int → List Int → Int → Int → Option (ByteArray × Int × Int)
 | 0, _, _, _, _, _ => none
 | k + 1, x3, x4, x1000, x1001, x1002 => if x4 > 0 then (spec_l1Cur_bytes.j1 k x3 x4 (decide ((x3.size : Int) > 0)) x1000 x1001 x1002) else (spec_l1Cur_bytes.j1 k x3 x4 false x1000 x1001 x1002)
def spec_l1Cur_bytes.j1 : Nat → ByteArray → Int → Bool → List Int → Int → Int → Option (ByteArray × Int × Int)
 | 0, _, _, _, _, _, _ => none
 | k + 1, x3, x4, x17, x1000, x1001, x1002 => if x17 = true then ((spec_l1Cur_pick.f x1000 x1001 x1002 (x3.size : Int)).bind fun bt262 => ((spec_l1Cur_pick.f x1000 bt262.2.1 bt262.2.2 4).bind fun bt265 => (if bt265.1 = 0 then (if 0 ≤ bt262.1 then (if bt262.1 ≤ (x3.size : Int) then (if 0 ≤ (wrap64 (bt262.1 + 1)) then (if (wrap64 (bt262.1 + 1)) ≤ (x3.size : Int) then (if (x3.extract 0 (bt262.1 : Int).toNat).size + (x3.extract ((wrap64 (bt262.1 + 1)) : Int).toNat x3.size).size ≤ 9223372036854775807 then (spec_l1Cur_bytes.l0 k ((x3.extract 0 (bt262.1 : Int).toNat) ++ (x3.extract ((wrap64 (bt262.1 + 1)) : Int).toNat x3.size)) (wrap64 (x4 - 1)) x1000 bt265.2.1 bt265.2.2) else (none)) else (none)) else (none)) else (none)) else (none)) else (if bt265.1 = 1 then (if 0 ≤ bt262.1 then (if bt262.1 ≤ (x3.size : Int) then ((spec_l1Cur_next.f x1000 bt265.2.1 bt265.2.2).bind fun bt268 => ((some (([(bt268.1) % 256] : List Int) : List Int)).bind fun y271 => (if (x3.extract 0 (bt262.1 : Int).toNat).size + (strOfNums y271).size ≤ 9223372036854775807 then (if ((x3.extract 0 (bt262.1 : Int).toNat) ++ (strOfNums y271)).size + (x3.extract (bt262.1 : Int).toNat x3.size).size ≤ 9223372036854775807 then (spec_l1Cur_bytes.l0 k (((x3.extract 0 (bt262.1 : Int).toNat) ++ (strOfNums y271)) ++ (x3.extract (bt262.1 : Int).toNat x3.size)) (wrap64 (x4 - 1)) x1000 bt268.2.1 bt268.2.2) else (none)) else (none)))) else (none)) else (none)) else (spec_l1Cur_bytes.l0 k x3 (wrap64 (x4 - 1)) x1000 bt265.2.1 bt265.2.2))))) else (some (x3, x1001, x1002))
end
def spec_l1Cur_bytes.f (k : Nat) (s0_0 : List Int) (s0_1 : Int) (s0_2 : Int) : Option (ByteArray × Int × Int) := (spec_l1Cur_runes.f k s0_0 s0_1 s0_2 6).bind fun bt253 => ((spec_l1TextOf.f k bt253.1).bind fun t258 => ((spec_l1Cur_pick.f s0_0 bt253.2.1 bt253.2.2 3).bind fun bt259 => (spec_l1Cur_bytes.l0 k t258 bt259.1 s0_0 bt259.2.1 bt259.2.2)))
theorem spec_l1Cur_bytes.mono_l : ∀ k, (∀ y0 y1 y2 y3 y4, LeO (spec_l1Cur_bytes.l0 k y0 y1 y2 y3 y4) (spec_l1Cur_bytes.l0 (k + 1) y0 y1 y2 y3 y4)) ∧ (∀ y0 y1 y2 y3 y4 y5, LeO (spec_l1Cur_bytes.j1 k y0 y1 y2 y3 y4 y5) (spec_l1Cur_bytes.j1 (k + 1) y0 y1 y2 y3 y4 y5))
 | 0 => ⟨fun _ _ _ _ _ r h => by simp [spec_l1Cur_bytes.l0] at h, fun _ _ _ _ _ _ r h => by simp [spec_l1Cur_bytes.j1] at h⟩
 | k + 1 => by
  obtain ⟨ih0, ih1⟩ := spec_l1Cur_bytes.mono_l k
  refine ⟨?_, ?_⟩
  ·intro y0 y1 y2 y3 y4
   unfold spec_l1Cur_bytes.l0
   with_reducible repeat' first | exact ih0 _ _ _ _ _ | exact ih1 _ _ _ _ _ _ | exact spec_l1Cur_runes.mono _ _ _ _ _ | exact spec_l1TextOf.mono _ _ | exact LeO.refl _ | exact LeO.none _ | refine LeO.ite ?_ ?_ | refine LeO.bind ?_ (fun _ => ?_)
  ·intro y0 y1 y2 y3 y4 y5
   unfold spec_l1Cur_bytes.j1
   with_reducible repeat' first | exact ih0 _ _ _ _ _ | exact ih1 _ _ _ _ _ _ | exact spec_l1Cur_runes.mono _ _ _ _ _ | exact spec_l1TextOf.mono _ _ | exact LeO.refl _ | exact LeO.none _ | refine LeO.ite ?_ ?_ | refine LeO.bind ?_ (fun _ => ?_)
theorem spec_l1Cur_bytes.mono : ∀ a0 a1 a2 k, LeO (spec_l1Cur_bytes.f k a0 a1 a2) (spec_l1Cur_bytes.f (k + 1) a0 a1 a2) := by
 intro a0 a1 a2 k
 obtain ⟨ih0, ih1⟩ := spec_l1Cur_bytes.mono_l k
 unfold spec_l1Cur_bytes.f
 with_reducible repeat' first | exact ih0 _ _ _ _ _ | exact ih1 _ _ _ _ _ _ | exact spec_l1Cur_runes.mono _ _ _ _ _ | exact spec_l1TextOf.mono _ _ | exact LeO.refl _ | exact LeO.none _ | refine LeO.ite ?_ ?_ | refine LeO.bind ?_ (fun _ => ?_)
def spec_l1Cur_bytes.T8 : Bool × List (List Nat × List Nat) := (true, [([], []), ([], []), ([0, 1], [0, 1]), ([], []), ([], []), ([4], [4]), ([3, 5], [3, 5]), ([2, 6], [2, 6]), ([7, 0, 1, 2, 3, 4, 5, 6, 7], [0, 3, 7])])
def spec_l1Cur_bytes.B8 : List Nat := [0, 0, 3, 0, 0, 16, 56, 127, 255]
theorem spec_l1Cur_bytes.tab8 : rtab .any (opsOf Tryd.f75 8) = spec_l1Cur_bytes.T8 := by kernel_rfl
theorem spec_l1Cur_bytes.bits8 : waitsOk spec_l1Cur_bytes.T8.2 spec_l1Cur_bytes.B8 = true := by kernel_rfl
def spec_l1Cur_bytes.T10 : Bool × List (List Nat × List Nat) := (true, [([], []), ([], []), ([0, 1], [0, 1]), ([], []), ([3], [3]), ([4], [4]), ([5], [5]), ([6], [6]), ([2, 7], [2, 7]), ([], []), ([], []), ([9, 10], [9, 10]), ([8, 11], [8, 11]), ([12, 4, 0, 1, 2, 3, 4, 5, 6, 7, 8, 9, 10, 11, 12], [0, 9, 12])])
def spec_l1Cur_bytes.B10 : List Nat := [0, 0, 3, 0, 8, 24, 56, 120, 255, 0, 0, 1536, 4095, 8191]
theorem spec_l1Cur_bytes.tab10 : rtab .any (opsOf Tryd.f75 10) = spec_l1Cur_bytes.T10 := by kernel_rfl
theorem spec_l1Cur_bytes.bits10 : waitsOk spec_l1Cur_bytes.T10.2 spec_l1Cur_bytes.B10 = true := by kernel_rfl
theorem spec_l1Cur_bytes.calls (k : Nat) (g : Nat) (s0_0 : List Int) (s0_1 : Int) (s0_2 : Int) (r1 : ByteArray) (r2 : Int) (r3 : Int) (w0 w : World) (hI : IsS64 w0 w g s0_0 s0_1 s0_2) (hB : Below w0.heap.size w0 w) (h : spec_l1Cur_bytes.f k s0_0 s0_1 s0_2 = some (r1, r2, r3)) :
  Calls Tryd.prog 75 #[.pointer (some ⟨g, 0, none⟩)] w fun e w' => e = .returned (.string r1) ∧ IsS64 w0 w' g s0_0 r2 r3 ∧ Below w0.heap.size w0 w' ∧ KeepBut w w' g none := by
 have HI0 := Aside0.mk hI
 have HK := Aside0.mk (KeepBut.refl w g none)
 have HL := Aside0.mk hB.size
 clear hI
 have HW0 := Aside0.mk hB.size
 have HB := Aside0.mk hB
 clear hB
 have H : ((spec_l1Cur_runes.f k s0_0 s0_1 s0_2 6).bind fun bt253 => ((spec_l1TextOf.f k bt253.1).bind fun t258 => ((spec_l1Cur_pick.f s0_0 bt253.2.1 bt253.2.2 3).bind fun bt259 => (spec_l1Cur_bytes.l0 k t258 bt259.1 s0_0 bt259.2.1 bt259.2.2)))) = some (r1, r2, r3) := h
 clear h
 replace H := Option.bind_eq_some_iff.mp H
 obtain ⟨⟨t253, t256, t257⟩, A20, H⟩ := H
 replace H : ((spec_l1TextOf.f k t253).bind fun t258 => ((spec_l1Cur_pick.f s0_0 t256 t257 3).bind fun bt259 => (spec_l1Cur_bytes.l0 k t258 bt259.1 s0_0 bt259.2.1 bt259.2.2))) = some (r1, r2, r3) := H
 have A2 := Aside0.mk A20
 clear A20
 replace H := Option.bind_eq_some_iff.mp H
 obtain ⟨t258, A30, H⟩ := H
 replace H : ((spec_l1Cur_pick.f s0_0 t256 t257 3).bind fun bt259 => (spec_l1Cur_bytes.l0 k t258 bt259.1 s0_0 bt259.2.1 bt259.2.2)) = some (r1, r2, r3) := H
 have A3 := Aside0.mk A30
 clear A30
 replace H := Option.bind_eq_some_iff.mp H
 obtain ⟨⟨t259, t260, t261⟩, A40, H⟩ := H
 replace H : (spec_l1Cur_bytes.l0 k t258 t259 s0_0 t260 t261) = some (r1, r2, r3) := H
 have A4 := Aside0.mk A40
 clear A40
 have H' := Aside0.mk H
 clear H
 go_enter Tryd.func75, Tryd.ntmps75
 go_wp2_with (first | ((with_reducible refine gate_callee (f := 86) rfl ?_); refine goesL_ (some 7) rfl rfl Tryd.func86 (by kernel_rfl) rfl #[.pointer (some ⟨g, 0, none⟩), .int .i64 6] rfl Zb75_0 ?_; (with_reducible refine (spec_l1Cur_runes.calls k g s0_0 s0_1 s0_2 6 t253 t256 t257 w0 _ ?side1 ?side2 A2.out).mono ?_); (case side1 => exact HI0.out); (case side2 => exact HB.out); rintro e w5 ⟨v254, rfl, ho0, hi, hb, hk⟩; refine ⟨_, rfl, ?_⟩; have HO255 := Aside0.mk (Kd.R_lower ho0 (keep_size (w := w) (g := g) (row := none) HK.out)); replace HK := Aside0.mk (KeepBut.trans HK.out hk (.inl rfl)); replace HB := Aside0.mk (hb); replace HI0 := Aside0.mk (hi); obtain ⟨Ao6, co6, eo6⟩ := Kd.R_slice HO255.out; subst eo6) | ((with_reducible refine gate_callee (f := 78) rfl ?_); refine goesL_ (some 8) rfl rfl Tryd.func78 (by kernel_rfl) rfl #[.slice Ao6 t253.length co6] rfl Zb75_0 ?_; (with_reducible refine (spec_l1TextOf.calls k _ _ t253 t258 _ ?side1 ?side2 A3.out).mono ?_); (case side1 => repeat (first | exact (Kd.R_reads' HO255.out).2.2 | (with_reducible refine Kd.C_alloc ?_ _) | (with_reducible refine Kd.C_drewN ?_ _) | (with_reducible refine Kd.C_drew ?_))); (case side2 => exact (Kd.R_reads' HO255.out).2.1); rintro e w7 ⟨rfl, hb⟩; refine ⟨_, rfl, ?_⟩; replace HO255 := Aside0.mk (Kd.R_below (Sw.rt HO255.out) hb); replace HK := Aside0.mk (KeepBut.trans HK.out (KeepBut.of_below hb g none) (.inl rfl)); replace HB := Aside0.mk (below_step HB.out hb); replace HI0 := Aside0.mk (IsS64.below HI0.out hb)) | ((with_reducible refine gate_callee (f := 82) rfl ?_); refine goesL_ (some 10) rfl rfl Tryd.func82 (by kernel_rfl) rfl #[.pointer (some ⟨g, 0, none⟩), .int .i64 3] rfl Zb75_0 ?_; (with_reducible refine (spec_l1Cur_pick.calls g s0_0 t256 t257 3 t259 t260 t261 w0 _ ?side1 ?side2 A4.out).mono ?_); (case side1 => exact HI0.out); (case side2 => exact HB.out); rintro e w8 ⟨rfl, hi, hb, hk⟩; refine ⟨_, rfl, ?_⟩; replace HO255 := Aside0.mk (Kd.R_mono (Kd.R_keep (IsS64.apart (show IsS64 w0 _ g s0_0 t256 t257 from by repeat (first | (with_reducible first | exact HI0.out | apply IsS64.alloc | apply IsS64.drewN | apply IsS64.drew | apply IsS64.set_1 | apply IsS64.set_2) | exact HI0.out)) (Sw.rt HO255.out) (by decide)) hk (fun _ h => h.2)) (fun _ h => h.1)); replace HK := Aside0.mk (KeepBut.trans HK.out hk (.inl rfl)); replace HB := Aside0.mk (hb); replace HI0 := Aside0.mk (hi)))
 go_loopg [3, 4] k (fun kq v3 v4 w' => ∃ (x3_1 : ByteArray) (x4_1 : Int) (x1001_1 : Int) (x1002_1 : Int), v3 = .string x3_1 ∧ v4 = .int .i64 x4_1 ∧ Aside0 (spec_l1Cur_bytes.l0 kq x3_1 x4_1 s0_0 x1001_1 x1002_1 = some (r1, r2, r3)) ∧ Aside0 (kq ≤ k) ∧ Aside0 (IsS64 w0 w' g s0_0 x1001_1 x1002_1) ∧ Aside0 (KeepBut w w' g none) ∧ Aside0 (Below w0.heap.size w0 w'))
 case atStart => exact ⟨(t258), (t259), (t260), (t261), Sw.r, Sw.r, H', ⟨Nat.le_refl _⟩, ⟨HI0.out⟩, ⟨HK.out⟩, ⟨HB.out⟩⟩
 case round =>
  clear H'
  try clear p2
  try clear c7
  try clear c8
  obtain ⟨x3_1, x4_1, x1001_1, x1002_1, rfl, rfl, HA, HK1, HI0, HK, HB⟩ := hrel
  cases gk with
  | zero => exact absurd HA.out (by simp [spec_l1Cur_bytes.l0])
  | succ k1 =>
   have H := HA.out
   clear HA
   simp only [spec_l1Cur_bytes.l0] at H
   have HC9 := Aside0.mk H
   clear H
   go_upto_region 3 with (fail)
   go_cut [17] (fun v17 wc => ∃ (kq : Nat) (x17_8 : Bool), v17 = .bool x17_8 ∧ Aside0 (spec_l1Cur_bytes.j1 kq x3_1 x4_1 x17_8 s0_0 x1001_1 x1002_1 = some (r1, r2, r3)) ∧ Aside0 (kq ≤ k1) ∧ Aside0 (IsS64 w0 wc g s0_0 x1001_1 x1002_1) ∧ Aside0 (KeepBut w wc g none) ∧ Aside0 (Below w0.heap.size w0 wc))
   case first =>
    have H := HC9.out
    clear HC9
    by_cases c10 : x4_1 > 0
    ·rw [if_pos c10] at H
     have c10b0 : decide (0 < x4_1) = true := decide_eq_true c10
     clear c10
     (first | rw [c10b0] | (simp only [i64_w, i32_w]; rw [c10b0]) | skip)
     have H' := Aside0.mk H
     clear H
     go_wp2
     go_meet
     case rel => exact ⟨_, (decide ((x3_1.size : Int) > 0)), Sw.r, H', ⟨by have := HK1.out; first | omega | exact Nat.le_refl _⟩, ⟨HI0.out⟩, ⟨HK.out⟩, ⟨HB.out⟩⟩
    ·rw [if_neg c10] at H
     have c10b0 : decide (0 < x4_1) = false := decide_eq_false c10
     clear c10
     (first | rw [c10b0] | (simp only [i64_w, i32_w]; rw [c10b0]) | skip)
     have H' := Aside0.mk H
     clear H
     go_wp2
     go_meet
     case rel => exact ⟨_, (false), Sw.r, H', ⟨by have := HK1.out; first | omega | exact Nat.le_refl _⟩, ⟨HI0.out⟩, ⟨HK.out⟩, ⟨HB.out⟩⟩
   case rest =>
    clear HC9
    try clear c1
    try clear p2
    try clear c7
    try clear c8
    try clear c10
    try clear c10b0
    try clear p2
    obtain ⟨kq, x17_8, rfl, HA, HJ8, HI0, HK, HB⟩ := hcut
    cases kq with
    | zero => exact absurd HA.out (by simp [spec_l1Cur_bytes.j1])
    | succ kj8 =>
     have H := HA.out
     clear HA
     simp only [spec_l1Cur_bytes.j1] at H
     by_cases c11 : x17_8 = true
     ·subst c11
      have H1 : ((spec_l1Cur_pick.f s0_0 x1001_1 x1002_1 (x3_1.size : Int)).bind fun bt262 => ((spec_l1Cur_pick.f s0_0 bt262.2.1 bt262.2.2 4).bind fun bt265 => (if bt265.1 = 0 then (if 0 ≤ bt262.1 then (if bt262.1 ≤ (x3_1.size : Int) then (if 0 ≤ (wrap64 (bt262.1 + 1)) then (if (wrap64 (bt262.1 + 1)) ≤ (x3_1.size : Int) then (if (x3_1.extract 0 (bt262.1 : Int).toNat).size + (x3_1.extract ((wrap64 (bt262.1 + 1)) : Int).toNat x3_1.size).size ≤ 9223372036854775807 then (spec_l1Cur_bytes.l0 kj8 ((x3_1.extract 0 (bt262.1 : Int).toNat) ++ (x3_1.extract ((wrap64 (bt262.1 + 1)) : Int).toNat x3_1.size)) (wrap64 (x4_1 - 1)) s0_0 bt265.2.1 bt265.2.2) else (none)) else (none)) else (none)) else (none)) else (none)) else (if bt265.1 = 1 then (if 0 ≤ bt262.1 then (if bt262.1 ≤ (x3_1.size : Int) then ((spec_l1Cur_next.f s0_0 bt265.2.1 bt265.2.2).bind fun bt268 => ((some (([(bt268.1) % 256] : List Int) : List Int)).bind fun y271 => (if (x3_1.extract 0 (bt262.1 : Int).toNat).size + (strOfNums y271).size ≤ 9223372036854775807 then (if ((x3_1.extract 0 (bt262.1 : Int).toNat) ++ (strOfNums y271)).size + (x3_1.extract (bt262.1 : Int).toNat x3_1.size).size ≤ 9223372036854775807 then (spec_l1Cur_bytes.l0 kj8 (((x3_1.extract 0 (bt262.1 : Int).toNat) ++ (strOfNums y271)) ++ (x3_1.extract (bt262.1 : Int).toNat x3_1.size)) (wrap64 (x4_1 - 1)) s0_0 bt268.2.1 bt268.2.2) else (none)) else (none)))) else (none)) else (none)) else (spec_l1Cur_bytes.l0 kj8 x3_1 (wrap64 (x4_1 - 1)) s0_0 bt265.2.1 bt265.2.2))))) = some (r1, r2, r3) := by rw [if_pos rfl] at H; exact H
      clear H
      have H := H1
      clear H1
      replace H := Option.bind_eq_some_iff.mp H
      obtain ⟨⟨t262, t263, t264⟩, A120, H⟩ := H
      replace H : ((spec_l1Cur_pick.f s0_0 t263 t264 4).bind fun bt265 => (if bt265.1 = 0 then (if 0 ≤ t262 then (if t262 ≤ (x3_1.size : Int) then (if 0 ≤ (wrap64 (t262 + 1)) then (if (wrap64 (t262 + 1)) ≤ (x3_1.size : Int) then (if (x3_1.extract 0 (t262 : Int).toNat).size + (x3_1.extract ((wrap64 (t262 + 1)) : Int).toNat x3_1.size).size ≤ 9223372036854775807 then (spec_l1Cur_bytes.l0 kj8 ((x3_1.extract 0 (t262 : Int).toNat) ++ (x3_1.extract ((wrap64 (t262 + 1)) : Int).toNat x3_1.size)) (wrap64 (x4_1 - 1)) s0_0 bt265.2.1 bt265.2.2) else (none)) else (none)) else (none)) else (none)) else (none)) else (if bt265.1 = 1 then (if 0 ≤ t262 then (if t262 ≤ (x3_1.size : Int) then ((spec_l1Cur_next.f s0_0 bt265.2.1 bt265.2.2).bind fun bt268 => ((some (([(bt268.1) % 256] : List Int) : List Int)).bind fun y271 => (if (x3_1.extract 0 (t262 : Int).toNat).size + (strOfNums y271).size ≤ 9223372036854775807 then (if ((x3_1.extract 0 (t262 : Int).toNat) ++ (strOfNums y271)).size + (x3_1.extract (t262 : Int).toNat x3_1.size).size ≤ 9223372036854775807 then (spec_l1Cur_bytes.l0 kj8 (((x3_1.extract 0 (t262 : Int).toNat) ++ (strOfNums y271)) ++ (x3_1.extract (t262 : Int).toNat x3_1.size)) (wrap64 (x4_1 - 1)) s0_0 bt268.2.1 bt268.2.2) else (none)) else (none)))) else (none)) else (none)) else (spec_l1Cur_bytes.l0 kj8 x3_1 (wrap64 (x4_1 - 1)) s0_0 bt265.2.1 bt265.2.2)))) = some (r1, r2, r3) := H
      have A12 := Aside0.mk A120
      clear A120
      replace H := Option.bind_eq_some_iff.mp H
      obtain ⟨⟨t265, t266, t267⟩, A130, H⟩ := H
      replace H : (if t265 = 0 then (if 0 ≤ t262 then (if t262 ≤ (x3_1.size : Int) then (if 0 ≤ (wrap64 (t262 + 1)) then (if (wrap64 (t262 + 1)) ≤ (x3_1.size : Int) then (if (x3_1.extract 0 (t262 : Int).toNat).size + (x3_1.extract ((wrap64 (t262 + 1)) : Int).toNat x3_1.size).size ≤ 9223372036854775807 then (spec_l1Cur_bytes.l0 kj8 ((x3_1.extract 0 (t262 : Int).toNat) ++ (x3_1.extract ((wrap64 (t262 + 1)) : Int).toNat x3_1.size)) (wrap64 (x4_1 - 1)) s0_0 t266 t267) else (none)) else (none)) else (none)) else (none)) else (none)) else (if t265 = 1 then (if 0 ≤ t262 then (if t262 ≤ (x3_1.size : Int) then ((spec_l1Cur_next.f s0_0 t266 t267).bind fun bt268 => ((some (([(bt268.1) % 256] : List Int) : List Int)).bind fun y271 => (if (x3_1.extract 0 (t262 : Int).toNat).size + (strOfNums y271).size ≤ 9223372036854775807 then (if ((x3_1.extract 0 (t262 : Int).toNat) ++ (strOfNums y271)).size + (x3_1.extract (t262 : Int).toNat x3_1.size).size ≤ 9223372036854775807 then (spec_l1Cur_bytes.l0 kj8 (((x3_1.extract 0 (t262 : Int).toNat) ++ (strOfNums y271)) ++ (x3_1.extract (t262 : Int).toNat x3_1.size)) (wrap64 (x4_1 - 1)) s0_0 bt268.2.1 bt268.2.2) else (none)) else (none)))) else (none)) else (none)) else (spec_l1Cur_bytes.l0 kj8 x3_1 (wrap64 (x4_1 - 1)) s0_0 t266 t267))) = some (r1, r2, r3) := H
      have A13 := Aside0.mk A130
      clear A130
      by_cases c14 : t265 = 0
      ·rw [if_pos c14] at H
       have c14b0 : (t265 == 0) = true := beq_iff_eq.mpr c14
       have c14b1 : (t265 != 0) = false := bne_eq_false_iff_eq.mpr c14
       clear c14
       by_cases c15 : 0 ≤ t262
       ·rw [if_pos c15] at H
        have c15b0 := eq_true c15
        have c15b1 : decide (0 ≤ t262) = true := decide_eq_true c15
        clear c15
        by_cases c16 : t262 ≤ (x3_1.size : Int)
        ·rw [if_pos c16] at H
         have c16b0 := eq_true c16
         have c16b1 : decide (t262 ≤ (x3_1.size : Int)) = true := decide_eq_true c16
         clear c16
         obtain ⟨ji17, hji17⟩ : ∃ j_ : Int, (wrap64 (t262 + 1)) = j_ := ⟨_, rfl⟩
         replace H : (if 0 ≤ (ji17) then (if (ji17) ≤ (x3_1.size : Int) then (if (x3_1.extract 0 (t262 : Int).toNat).size + (x3_1.extract ((ji17) : Int).toNat x3_1.size).size ≤ 9223372036854775807 then (spec_l1Cur_bytes.l0 kj8 ((x3_1.extract 0 (t262 : Int).toNat) ++ (x3_1.extract ((ji17) : Int).toNat x3_1.size)) (wrap64 (x4_1 - 1)) s0_0 t266 t267) else (none)) else (none)) else (none)) = some (r1, r2, r3) := by first | (rw [hji17] at H; exact H) | (simp only [hji17] at H ⊢; exact H)
         (try rw [hji17] at A12)
         (try rw [hji17] at A13)
         have hji17w : (IntKind.i64.wrap (t262 + 1)) = ji17 := (i64_w _).trans hji17
         by_cases c18 : 0 ≤ (ji17)
         ·rw [if_pos c18] at H
          have c18b0 := eq_true c18
          have c18b1 : decide (0 ≤ (ji17)) = true := decide_eq_true c18
          clear c18
          by_cases c19 : (ji17) ≤ (x3_1.size : Int)
          ·rw [if_pos c19] at H
           have c19b0 := eq_true c19
           have c19b1 : decide ((ji17) ≤ (x3_1.size : Int)) = true := decide_eq_true c19
           clear c19
           by_cases c20 : (x3_1.extract 0 (t262 : Int).toNat).size + (x3_1.extract ((ji17) : Int).toNat x3_1.size).size ≤ 9223372036854775807
           ·rw [if_pos c20] at H
            have c20b0 := eq_true c20
            have c20b1 : decide ((x3_1.extract 0 (t262 : Int).toNat).size + (x3_1.extract ((ji17) : Int).toNat x3_1.size).size ≤ 9223372036854775807) = true := decide_eq_true c20
            try have c20b2 : (9223372036854775807 < (x3_1.extract 0 (t262 : Int).toNat).size + (x3_1.extract ((ji17) : Int).toNat x3_1.size).size) = False := eq_false (Nat.not_lt.2 c20)
            try have c20b3 : (9223372036854775807 < t262.toNat + (x3_1.size - ji17.toNat)) = False := eq_false (by have h_ := c20; (try simp only [ByteArray.size_extract, ByteArray.size_append] at h_); have q_c16 := of_eq_true c16b0; omega)
            have H' := Aside0.mk H
            clear H
            try go_wp2_with (first | ((with_reducible refine gate_callee (f := 82) rfl ?_); refine goesL_ (some 23) rfl rfl Tryd.func82 (by kernel_rfl) rfl #[.pointer (some ⟨g, 0, none⟩), .int .i64 (x3_1.size : Int)] rfl Zb75_0 ?_; (with_reducible refine (spec_l1Cur_pick.calls g s0_0 x1001_1 x1002_1 (x3_1.size : Int) t262 t263 t264 w0 _ ?side1 ?side2 A12.out).mono ?_); (case side1 => exact HI0.out); (case side2 => exact HB.out); rintro e w21 ⟨rfl, hi, hb, hk⟩; refine ⟨_, rfl, ?_⟩; replace HK := Aside0.mk (KeepBut.trans HK.out hk (.inl rfl)); replace HB := Aside0.mk (hb); replace HI0 := Aside0.mk (hi)) | ((with_reducible refine gate_callee (f := 82) rfl ?_); refine goesL_ (some 25) rfl rfl Tryd.func82 (by kernel_rfl) rfl #[.pointer (some ⟨g, 0, none⟩), .int .i64 4] rfl Zb75_0 ?_; (with_reducible refine (spec_l1Cur_pick.calls g s0_0 t263 t264 4 t265 t266 t267 w0 _ ?side1 ?side2 A13.out).mono ?_); (case side1 => exact HI0.out); (case side2 => exact HB.out); rintro e w22 ⟨rfl, hi, hb, hk⟩; refine ⟨_, rfl, ?_⟩; replace HK := Aside0.mk (KeepBut.trans HK.out hk (.inl rfl)); replace HB := Aside0.mk (hb); replace HI0 := Aside0.mk (hi)))
            replace HI0 := Aside0.mk (IsS64.drew HI0.out)
            replace HK := Aside0.mk (keep_drew HK.out)
            replace HB := Aside0.mk (below_drew1 HB.out)
            refine start_ (n := 9) (S := fun w' => True) (ds := []) (Sw.b 9 0) (by kernel_rfl) rfl rfl trivial (fun hHeld => ?_); refine with_tabW spec_l1Cur_bytes.tab8 spec_l1Cur_bytes.bits8 (fun HT_ HW_ => ?_)
            generalize w22.drew = w23 at HI0 HK HB hHeld ⊢
            refine Sw.pw 0 28 (Sw.b 9 1) ?_
            refine Sw.pw 1 29 (Sw.b 9 3) ?_
            refine Sw.pw 2 30 (Sw.b 9 7) ?_
            refine Sw.pw 3 31 (Sw.b 9 15) ?_
            refine Sw.pw 4 32 (Sw.b 9 31) ?_
            refine Sw.pw 5 33 (Sw.b 9 63) ?_
            refine Sw.pw 6 34 (Sw.b 9 127) ?_
            refine Sw.pw 7 35 (Sw.b 9 255) ?_
            refine Sw.pw 8 3 (Sw.b 9 511) ?_
            refine done_ (done_of HT_.out (by kernel_rfl)) ?_
            try go_wp2
            go_roundg kj8
            case measure => have := HK1.out; have := HJ8.out; omega
            case rel => exact ⟨((x3_1.extract 0 (t262 : Int).toNat) ++ (x3_1.extract ((ji17) : Int).toNat x3_1.size)), (wrap64 (x4_1 - 1)), (t266), (t267), (by first | rfl | (simp; done) | (simp only [← hji17] <;> (first | rfl | simp)) | (simp [*]; done)), Sw.r, H', ⟨by have := HK1.out; have := HJ8.out; omega⟩, ⟨HI0.out⟩, ⟨HK.out⟩, ⟨HB.out⟩⟩
           ·rw [if_neg c20] at H
            exact absurd H (by simp)
          ·rw [if_neg c19] at H
           exact absurd H (by simp)
         ·rw [if_neg c18] at H
          exact absurd H (by simp)
        ·rw [if_neg c16] at H
         exact absurd H (by simp)
       ·rw [if_neg c15] at H
        exact absurd H (by simp)
      ·rw [if_neg c14] at H
       have c14b0 : (t265 == 0) = false := beq_eq_false_iff_ne.mpr c14
       have c14b1 : (t265 != 0) = true := bne_iff_ne.mpr c14
       by_cases c24 : t265 = 1
       ·rw [if_pos c24] at H
        have c24b0 : (t265 == 1) = true := beq_iff_eq.mpr c24
        have c24b1 : (t265 != 1) = false := bne_eq_false_iff_eq.mpr c24
        clear c24
        by_cases c25 : 0 ≤ t262
        ·rw [if_pos c25] at H
         have c25b0 := eq_true c25
         have c25b1 : decide (0 ≤ t262) = true := decide_eq_true c25
         clear c25
         by_cases c26 : t262 ≤ (x3_1.size : Int)
         ·rw [if_pos c26] at H
          have c26b0 := eq_true c26
          have c26b1 : decide (t262 ≤ (x3_1.size : Int)) = true := decide_eq_true c26
          clear c26
          replace H := Option.bind_eq_some_iff.mp H
          obtain ⟨⟨t268, t269, t270⟩, A270, H⟩ := H
          replace H : ((some (([(t268) % 256] : List Int) : List Int)).bind fun y271 => (if (x3_1.extract 0 (t262 : Int).toNat).size + (strOfNums y271).size ≤ 9223372036854775807 then (if ((x3_1.extract 0 (t262 : Int).toNat) ++ (strOfNums y271)).size + (x3_1.extract (t262 : Int).toNat x3_1.size).size ≤ 9223372036854775807 then (spec_l1Cur_bytes.l0 kj8 (((x3_1.extract 0 (t262 : Int).toNat) ++ (strOfNums y271)) ++ (x3_1.extract (t262 : Int).toNat x3_1.size)) (wrap64 (x4_1 - 1)) s0_0 t269 t270) else (none)) else (none))) = some (r1, r2, r3) := H
          have A27 := Aside0.mk A270
          clear A270
          obtain ⟨y271, hy271⟩ : ∃ y_ : List Int, y_ = (([(t268) % 256] : List Int)) := ⟨_, rfl⟩
          replace H : (if (x3_1.extract 0 (t262 : Int).toNat).size + (strOfNums y271).size ≤ 9223372036854775807 then (if ((x3_1.extract 0 (t262 : Int).toNat) ++ (strOfNums y271)).size + (x3_1.extract (t262 : Int).toNat x3_1.size).size ≤ 9223372036854775807 then (spec_l1Cur_bytes.l0 kj8 (((x3_1.extract 0 (t262 : Int).toNat) ++ (strOfNums y271)) ++ (x3_1.extract (t262 : Int).toNat x3_1.size)) (wrap64 (x4_1 - 1)) s0_0 t269 t270) else (none)) else (none)) = some (r1, r2, r3) := by rw [hy271]; exact H
          have Ny271 := Aside0.mk hy271
          clear hy271
          by_cases c28 : (x3_1.extract 0 (t262 : Int).toNat).size + (strOfNums y271).size ≤ 9223372036854775807
          ·rw [if_pos c28] at H
           have c28b0 := eq_true c28
           have c28b1 : decide ((x3_1.extract 0 (t262 : Int).toNat).size + (strOfNums y271).size ≤ 9223372036854775807) = true := decide_eq_true c28
           try have c28b2 : (9223372036854775807 < (x3_1.extract 0 (t262 : Int).toNat).size + (strOfNums y271).size) = False := eq_false (Nat.not_lt.2 c28)
           try have c28b3 : (9223372036854775807 < t262.toNat + (strOfNums y271).size) = False := eq_false (by have h_ := c28; (try simp only [ByteArray.size_extract, ByteArray.size_append] at h_); have q_c26 := of_eq_true c26b0; omega)
           have c29b0 := eq_true (of_decide_eq_true (by assumption) : 0 ≤ t262)
           have c30b0 := eq_true (of_decide_eq_true (by assumption) : t262 ≤ (x3_1.size : Int))
           by_cases c31 : ((x3_1.extract 0 (t262 : Int).toNat) ++ (strOfNums y271)).size + (x3_1.extract (t262 : Int).toNat x3_1.size).size ≤ 9223372036854775807
           ·rw [if_pos c31] at H
            have c31b0 := eq_true c31
            have c31b1 : decide (((x3_1.extract 0 (t262 : Int).toNat) ++ (strOfNums y271)).size + (x3_1.extract (t262 : Int).toNat x3_1.size).size ≤ 9223372036854775807) = true := decide_eq_true c31
            try have c31b2 : (9223372036854775807 < ((x3_1.extract 0 (t262 : Int).toNat) ++ (strOfNums y271)).size + (x3_1.extract (t262 : Int).toNat x3_1.size).size) = False := eq_false (Nat.not_lt.2 c31)
            try have c31b3 : (9223372036854775807 < (t262.toNat + (strOfNums y271).size) + (x3_1.size - t262.toNat)) = False := eq_false (by have h_ := c31; (try simp only [ByteArray.size_extract, ByteArray.size_append] at h_); have q_c26 := of_eq_true c26b0; omega)
            have H' := Aside0.mk H
            clear H
            try go_wp2_with (first | ((with_reducible refine gate_callee (f := 82) rfl ?_); refine goesL_ (some 23) rfl rfl Tryd.func82 (by kernel_rfl) rfl #[.pointer (some ⟨g, 0, none⟩), .int .i64 (x3_1.size : Int)] rfl Zb75_0 ?_; (with_reducible refine (spec_l1Cur_pick.calls g s0_0 x1001_1 x1002_1 (x3_1.size : Int) t262 t263 t264 w0 _ ?side1 ?side2 A12.out).mono ?_); (case side1 => exact HI0.out); (case side2 => exact HB.out); rintro e w32 ⟨rfl, hi, hb, hk⟩; refine ⟨_, rfl, ?_⟩; replace HK := Aside0.mk (KeepBut.trans HK.out hk (.inl rfl)); replace HB := Aside0.mk (hb); replace HI0 := Aside0.mk (hi)) | ((with_reducible refine gate_callee (f := 82) rfl ?_); refine goesL_ (some 25) rfl rfl Tryd.func82 (by kernel_rfl) rfl #[.pointer (some ⟨g, 0, none⟩), .int .i64 4] rfl Zb75_0 ?_; (with_reducible refine (spec_l1Cur_pick.calls g s0_0 t263 t264 4 t265 t266 t267 w0 _ ?side1 ?side2 A13.out).mono ?_); (case side1 => exact HI0.out); (case side2 => exact HB.out); rintro e w33 ⟨rfl, hi, hb, hk⟩; refine ⟨_, rfl, ?_⟩; replace HK := Aside0.mk (KeepBut.trans HK.out hk (.inl rfl)); replace HB := Aside0.mk (hb); replace HI0 := Aside0.mk (hi)))
            replace HI0 := Aside0.mk (IsS64.drew HI0.out)
            replace HK := Aside0.mk (keep_drew HK.out)
            replace HB := Aside0.mk (below_drew1 HB.out)
            refine start_ (n := 14) (S := fun w' => True) (ds := []) (Sw.b 14 0) (by kernel_rfl) rfl rfl trivial (fun hHeld => ?_); refine with_tabW spec_l1Cur_bytes.tab10 spec_l1Cur_bytes.bits10 (fun HT_ HW_ => ?_)
            generalize w33.drew = w34 at HI0 HK HB hHeld ⊢
            refine Sw.pw 0 38 (Sw.b 14 1) ?_
            refine Sw.pw 1 39 (Sw.b 14 3) ?_
            refine Sw.pw 2 40 (Sw.b 14 7) ?_
            refine Sw.pw 3 41 (Sw.b 14 15) ?_
            refine Sw.pw 9 47 (Sw.b 14 527) ?_
            refine Sw.pw 10 48 (Sw.b 14 1551) ?_
            refine Sw.pw 11 49 (Sw.b 14 3599) ?_
            refine one_ (i := 4) (N := some 42) (Sw.b 14 3615) rfl rfl (one_of HT_.out (by kernel_rfl)) (by decide) (fun K hK => ?_)
            refine goes_ Tryd.func101 (by kernel_rfl) rfl #[.pointer (some ⟨g, 0, none⟩)] (by rfl) rfl rfl Zb75_0 ?_
            with_reducible refine (spec_l1Cur_next.calls g s0_0 t266 t267 t268 t269 t270 w0 _ ?side1 ?side2 A27.out).mono ?_
            (case side1 => exact HI0.out)
            (case side2 => exact HB.out)
            rintro e w35 ⟨rfl, hi, hb, hk⟩
            refine ⟨_, rfl, ?_⟩
            replace HK := Aside0.mk (KeepBut.trans HK.out hk (.inl rfl))
            replace HB := Aside0.mk (hb)
            replace HI0 := Aside0.mk (hi)
            (try clear hb)
            (try clear hb2)
            (try clear hk)
            (try clear hi)
            refine hK.out _ _ trivial (fun hHeld => ?_)
            clear hK K
            refine norm_ (a' := ?_) ?_ ?_
            rotate_left
            ·show Act.put _ (some 42) _ = _
             simp only [Act.put, List.setIfInBounds_toArray, List.set_cons_zero, List.set_cons_succ, i64_w, i32_w]
             rfl
            refine Sw.pw 5 43 (Sw.b 14 3647) ?_
            refine one_ (i := 6) (N := some 44) (Sw.b 14 3711) rfl rfl (one_of HT_.out (by kernel_rfl)) (by decide) (fun K hK => ?_)
            refine Kd.R_lit_step (Kd.int .u8) _ 5 ?hg (N := 44) ?hd (xs := ([(t268) % 256] : List Int)) (inner := [.int .u8 ((t268) % 256)]) (ok := fun _ => True) (okp := fun _ => True) ?hr ?hp (fun _ hk => hk) trivial (Below.refl _ _) (Nat.le_refl _) (by simp) ?_; (case hd => rfl); (case hg => rfl); (case hr => go_simp <;> rfl); (case hp => exact (Reps.one (show Kd.M (Kd.int .u8) _ _ _ ((t268) % 256) [.int .u8 ((t268) % 256)] from rfl) (Reps.none _ _)))
            intro v272 w36 ho37 hb hg_ hnew_
            clear hg_ hnew_
            (first | rw [← Ny271.out] at ho37 | (simp only [Int.reduceToNat] at ho37; rw [← Ny271.out] at ho37))
            have HO273 := Aside0.mk (Kd.R_lower ho37 (keep_size (w := w) (g := g) (row := none) HK.out))
            replace HK := Aside0.mk (KeepBut.trans HK.out (KeepBut.of_below hb g none) (.inl rfl))
            replace HB := Aside0.mk (below_step HB.out hb)
            replace HI0 := Aside0.mk (IsS64.below HI0.out hb)
            clear hb ho37
            refine hK.out _ _ trivial (fun hHeld => ?_)
            clear hK K
            refine norm_ (a' := ?_) ?_ ?_
            rotate_left
            ·show Act.put _ (some 44) _ = _
             simp only [Act.put, List.setIfInBounds_toArray, List.set_cons_zero, List.set_cons_succ, i64_w, i32_w]
             rfl
            refine one_ (i := 7) (N := some 45) (Sw.b 14 3839) rfl rfl (one_of HT_.out (by kernel_rfl)) (by decide) (fun K hK => ?_)
            have hcv38 := own_string (P := Tryd.prog) Tryd.underlying22 Tryd.underlying5 Tryd.underlying9 (Kd.own_of_R HO273.out)
            refine value_ (w1 := ?_) (v := ?_) (by rfl) rfl ?_ ?_
            rotate_left 2
            ·go_simp
             constructor
             ·rfl
             ·rfl
            clear hcv38
            refine hK.out _ _ trivial (fun hHeld => ?_)
            clear hK K
            refine norm_ (a' := ?_) ?_ ?_
            rotate_left
            ·show Act.put _ (some 45) _ = _
             simp only [Act.put, List.setIfInBounds_toArray, List.set_cons_zero, List.set_cons_succ, i64_w, i32_w]
             rfl
            refine Sw.pw 8 46 (Sw.b 14 4095) ?_
            refine Sw.pw 12 50 (Sw.b 14 8191) ?_
            refine Sw.pw 13 3 (Sw.b 14 16383) ?_
            refine done_ (done_of HT_.out (by kernel_rfl)) ?_
            try go_wp2
            go_roundg kj8
            case measure => have := HK1.out; have := HJ8.out; omega
            case rel => exact ⟨(((x3_1.extract 0 (t262 : Int).toNat) ++ (strOfNums y271)) ++ (x3_1.extract (t262 : Int).toNat x3_1.size)), (wrap64 (x4_1 - 1)), (t269), (t270), Sw.r, Sw.r, H', ⟨by have := HK1.out; have := HJ8.out; omega⟩, ⟨HI0.out⟩, ⟨HK.out⟩, ⟨HB.out⟩⟩
           ·rw [if_neg c31] at H
            exact absurd H (by simp)
          ·rw [if_neg c28] at H
           exact absurd H (by simp)
         ·rw [if_neg c26] at H
          exact absurd H (by simp)
        ·rw [if_neg c25] at H
         exact absurd H (by simp)
       ·rw [if_neg c24] at H
        have c24b0 : (t265 == 1) = false := beq_eq_false_iff_ne.mpr c24
        have c24b1 : (t265 != 1) = true := bne_iff_ne.mpr c24
        have H' := Aside0.mk H
        clear H
        go_wp2_with (first | ((with_reducible refine gate_callee (f := 82) rfl ?_); refine goesL_ (some 23) rfl rfl Tryd.func82 (by kernel_rfl) rfl #[.pointer (some ⟨g, 0, none⟩), .int .i64 (x3_1.size : Int)] rfl Zb75_0 ?_; (with_reducible refine (spec_l1Cur_pick.calls g s0_0 x1001_1 x1002_1 (x3_1.size : Int) t262 t263 t264 w0 _ ?side1 ?side2 A12.out).mono ?_); (case side1 => exact HI0.out); (case side2 => exact HB.out); rintro e w39 ⟨rfl, hi, hb, hk⟩; refine ⟨_, rfl, ?_⟩; replace HK := Aside0.mk (KeepBut.trans HK.out hk (.inl rfl)); replace HB := Aside0.mk (hb); replace HI0 := Aside0.mk (hi)) | ((with_reducible refine gate_callee (f := 82) rfl ?_); refine goesL_ (some 25) rfl rfl Tryd.func82 (by kernel_rfl) rfl #[.pointer (some ⟨g, 0, none⟩), .int .i64 4] rfl Zb75_0 ?_; (with_reducible refine (spec_l1Cur_pick.calls g s0_0 t263 t264 4 t265 t266 t267 w0 _ ?side1 ?side2 A13.out).mono ?_); (case side1 => exact HI0.out); (case side2 => exact HB.out); rintro e w40 ⟨rfl, hi, hb, hk⟩; refine ⟨_, rfl, ?_⟩; replace HK := Aside0.mk (KeepBut.trans HK.out hk (.inl rfl)); replace HB := Aside0.mk (hb); replace HI0 := Aside0.mk (hi)))
        go_roundg kj8
        case measure => have := HK1.out; have := HJ8.out; omega
        case rel => exact ⟨(x3_1), (wrap64 (x4_1 - 1)), (t266), (t267), Sw.r, Sw.r, H', ⟨by have := HK1.out; have := HJ8.out; omega⟩, ⟨HI0.out⟩, ⟨HK.out⟩, ⟨HB.out⟩⟩
     ·replace c11 := Bool.eq_false_iff.mpr c11
      subst c11
      have H1 : (some (x3_1, x1001_1, x1002_1)) = some (r1, r2, r3) := by rw [if_neg (show ¬ (false = true) by decide)] at H; exact H
      clear H
      have H := H1
      clear H1
      simp only [Option.some.injEq, Prod.mk.injEq] at H
      obtain ⟨rfl, rfl, rfl⟩ := H
      go_wp2
      go_ret
      exact ⟨Sw.e, HI0.out, HB.out, HK.out⟩

def spec_l1Cur_one.f (s0_0 : List Int) (s0_1 : Int) (s0_2 : Int) (a1 : Int) : Option (Bool × Int × Int) := (spec_l1Cur_pick.f s0_0 s0_1 s0_2 a1).bind fun bt274 => (some ((bt274.1 == 0), bt274.2.1, bt274.2.2))
theorem spec_l1Cur_one.calls (g : Nat) (s0_0 : List Int) (s0_1 : Int) (s0_2 : Int) (a1 : Int) (r1 : Bool) (r2 : Int) (r3 : Int) (w0 w : World) (hI : IsS64 w0 w g s0_0 s0_1 s0_2) (hB : Below w0.heap.size w0 w) (h : spec_l1Cur_one.f s0_0 s0_1 s0_2 a1 = some (r1, r2, r3)) :
    Calls Tryd.prog 83 #[.pointer (some ⟨g, 0, none⟩), .int .i64 a1] w fun e w' => e = .returned (.bool r1) ∧ IsS64 w0 w' g s0_0 r2 r3 ∧ Below w0.heap.size w0 w' ∧ KeepBut w w' g none := by
  have HI0 := Aside0.mk hI
  have HK := Aside0.mk (KeepBut.refl w g none)
  have HL := Aside0.mk hB.size
  clear hI
  have HW0 := Aside0.mk hB.size
  have HB := Aside0.mk hB
  clear hB
  have H : ((spec_l1Cur_pick.f s0_0 s0_1 s0_2 a1).bind fun bt274 => (some ((bt274.1 == 0), bt274.2.1, bt274.2.2))) = some (r1, r2, r3) := h
  clear h
  replace H := Option.bind_eq_some_iff.mp H
  obtain ⟨⟨t274, t275, t276⟩, A30, H⟩ := H
  replace H : (some ((t274 == 0), t275, t276)) = some (r1, r2, r3) := H
  have A3 := Aside0.mk A30
  clear A30
  simp only [Option.some.injEq, Prod.mk.injEq] at H
  obtain ⟨rfl, rfl, rfl⟩ := H
  go_enter Tryd.func83, Tryd.ntmps83
  go_wp2_with (first | ((with_reducible refine gate_callee (f := 82) rfl ?_); refine goesL_ (some 7) rfl rfl Tryd.func82 (by kernel_rfl) rfl #[.pointer (some ⟨g, 0, none⟩), .int .i64 a1] rfl (by simp only [List.map_toArray, List.map_cons, List.map_nil] <;> rfl) ?_; (with_reducible refine (spec_l1Cur_pick.calls g s0_0 s0_1 s0_2 a1 t274 t275 t276 w0 _ ?side1 ?side2 A3.out).mono ?_); (case side1 => exact HI0.out); (case side2 => exact HB.out); rintro e w4 ⟨rfl, hi, hb, hk⟩; refine ⟨_, rfl, ?_⟩; have n0_ := Aside0.mk (KeepBut.trans HK.out hk (.inl rfl)); have n1_ := Aside0.mk (hb); have n2_ := Aside0.mk (hi); clear HK; clear HB; clear HI0; have HK := n0_; have HB := n1_; have HI0 := n2_; clear n0_ n1_ n2_))
  go_ret
  exact ⟨Sw.e, HI0.out, HB.out, HK.out⟩

theorem Zb84_0 {p : Prop} (h : p := by repeat (first | (with_reducible first | exact HK.out | apply KeepBut.set_ | apply keep_drewN | apply keep_drew | apply keep_alloc) | exact HK.out)) : p := h
def spec_l1Cur_of.f (s0_0 : List Int) (s0_1 : Int) (s0_2 : Int) (l1 : List ByteArray) : Option (ByteArray × Int × Int) := (spec_l1Cur_pick.f s0_0 s0_1 s0_2 (l1.length : Int)).bind fun bt277 => (if 0 ≤ bt277.1 then (if bt277.1 < (l1.length : Int) then (some (rdOf ByteArray.empty l1 bt277.1, bt277.2.1, bt277.2.2)) else (none)) else (none))
theorem spec_l1Cur_of.calls (g : Nat) (s0_0 : List Int) (s0_1 : Int) (s0_2 : Int) (A1 : Option Addr) (c1 : Nat) (l1 : List ByteArray) (r1 : ByteArray) (r2 : Int) (r3 : Int) (w0 w : World) (hI : IsS64 w0 w g s0_0 s0_1 s0_2) (hB : Below w0.heap.size w0 w) (hr1 : Kd.C Kd.string w A1 l1.length l1) (hc1 : l1.length ≤ c1) (hf1 : ∀ ad, A1 = some ad → 0 < l1.length → ad.block ≠ g) (h : spec_l1Cur_of.f s0_0 s0_1 s0_2 l1 = some (r1, r2, r3)) :
    Calls Tryd.prog 84 #[.pointer (some ⟨g, 0, none⟩), .slice A1 l1.length c1] w fun e w' => e = .returned (.string r1) ∧ IsS64 w0 w' g s0_0 r2 r3 ∧ Below w0.heap.size w0 w' ∧ KeepBut w w' g none := by
  have HR1 := Aside0.mk hr1
  have HC1 := Aside0.mk hc1
  clear hr1 hc1
  have HI0 := Aside0.mk hI
  have HK := Aside0.mk (KeepBut.refl w g none)
  have HL := Aside0.mk hB.size
  clear hI
  have HW0 := Aside0.mk hB.size
  have HB := Aside0.mk hB
  clear hB
  have H : ((spec_l1Cur_pick.f s0_0 s0_1 s0_2 (l1.length : Int)).bind fun bt277 => (if 0 ≤ bt277.1 then (if bt277.1 < (l1.length : Int) then (some (rdOf ByteArray.empty l1 bt277.1, bt277.2.1, bt277.2.2)) else (none)) else (none))) = some (r1, r2, r3) := h
  clear h
  replace H := Option.bind_eq_some_iff.mp H
  obtain ⟨⟨t277, t278, t279⟩, A30, H⟩ := H
  replace H : (if 0 ≤ t277 then (if t277 < (l1.length : Int) then (some (rdOf ByteArray.empty l1 t277, t278, t279)) else (none)) else (none)) = some (r1, r2, r3) := H
  have A3 := Aside0.mk A30
  clear A30
  by_cases c4 : 0 ≤ t277
  · rw [if_pos c4] at H
    have c4b0 : decide (0 ≤ t277) = true := decide_eq_true c4
    clear c4
    by_cases c5 : t277 < (l1.length : Int)
    · rw [if_pos c5] at H
      have c5b0 : decide (t277 < (l1.length : Int)) = true := decide_eq_true c5
      clear c5
      simp only [Option.some.injEq, Prod.mk.injEq] at H
      obtain ⟨rfl, rfl, rfl⟩ := H
      go_enter Tryd.func84, Tryd.ntmps84
      go_wp2_with (first | ((with_reducible refine gate_callee (f := 82) rfl ?_); refine goesL_ (some 9) rfl rfl Tryd.func82 (by kernel_rfl) rfl #[.pointer (some ⟨g, 0, none⟩), .int .i64 (l1.length : Int)] rfl (by (try simp only [List.map_toArray, List.map_cons, List.map_nil]); first | done | rfl | (simp only [List.length_drop, List.length_take]; rfl)) ?_; (with_reducible refine (spec_l1Cur_pick.calls g s0_0 s0_1 s0_2 (l1.length : Int) t277 t278 t279 w0 _ ?side1 ?side2 A3.out).mono ?_); (case side1 => repeat (first | (with_reducible first | exact HI0.out | apply IsS64.alloc | apply IsS64.drewN | apply IsS64.drew | apply IsS64.set_1 | apply IsS64.set_2) | exact HI0.out)); (case side2 => repeat (first | (with_reducible first | exact HB.out | apply below_alloc | apply pw_below_drewN | apply below_drew1 | refine below_set ?_ (IsS64.ge HI0.out)) | exact HB.out)); rintro e w6 ⟨rfl, hi, hb, hk⟩; refine ⟨_, rfl, ?_⟩; have n0_ := Aside0.mk (KeepBut.trans Zb84_0 hk (.inl rfl)); have n1_ := Aside0.mk (hb); have n2_ := Aside0.mk (hi); clear HK; clear HB; clear HI0; have HK := n0_; have HB := n1_; have HI0 := n2_; clear n0_ n1_ n2_; (try clear hb); (try clear hb2); (try clear hk); (try clear hi); have p280 : 0 ≤ (t277 : Int) := of_decide_eq_true (by first | (with_reducible assumption) | assumption); have q280 : t277 < (l1.length : Int) := of_decide_eq_true (by first | (with_reducible assumption) | assumption); obtain ⟨ad280, e280, hx280_0⟩ := Kd.at_string HR1.out t277 p280 q280; cases e280; replace hx280_0 := keep_cell HK.out hx280_0 (by first | (rw [add_block]; exact hf1 _ rfl (by omega)) | exact hf1 _ rfl (by omega) | exact hf1 ad280 rfl (by omega)); replace p280 := eq_true p280; replace q280 := eq_true q280))
      go_ret
      exact ⟨Sw.e, by repeat (first | (with_reducible first | exact HI0.out | apply IsS64.alloc | apply IsS64.drewN | apply IsS64.drew | apply IsS64.set_1 | apply IsS64.set_2) | exact HI0.out), by repeat (first | (with_reducible first | exact HB.out | apply below_alloc | apply pw_below_drewN | apply below_drew1 | refine below_set ?_ (IsS64.ge HI0.out)) | exact HB.out), Zb84_0⟩
    · rw [if_neg c5] at H
      exact absurd H (by simp)
  · rw [if_neg c4] at H
    exact absurd H (by simp)

theorem Zb50_0 {p : Prop} (h : p := by repeat (first | (with_reducible first | exact HI0.out | apply IsS64.alloc | apply IsS64.drewN | apply IsS64.drew | apply IsS64.set_1 | apply IsS64.set_2) | exact HI0.out)) : p := h
theorem Zb50_1 {p : Prop} (h : p := by have := HK1.out; have := HJ26.out; have := HJ32.out; have := HJ37.out; first | omega | exact Nat.le_refl _) : p := h
theorem Zb50_2 {p : Prop} (h : p := by have := HK1.out; have := HJ26.out; have := HJ32.out; first | omega | exact Nat.le_refl _) : p := h
mutual
def spec_l1Cur_coded.l0 : Nat → Int → List Int → Int → List Int → Int → Int → Option (ByteArray × Int × Int)
 | 0, _, _, _, _, _, _ => none
 | k + 1, x1, x5, x6, x1000, x1001, x1002 => if x6 > 0 then ((spec_l1Cur_rune.f x1000 x1001 x1002).bind fun bt284 => (if x1 ≥ 4 then ((spec_l1Cur_one.f x1000 bt284.2.1 bt284.2.2 2).bind fun bt287 => (if bt287.1 = true then ((spec_l1Cur_among.f x1000 bt287.2.1 bt287.2.2 (([97, 122, 7, 200, 12352, 12400, 12446] : List Int))).bind fun bt293 => (if x5.length < 17592186044416 then (spec_l1Cur_coded.l0 k x1 (x5 ++ [bt293.1]) (wrap64 (x6 - 1)) x1000 bt293.2.1 bt293.2.2) else (none))) else (if x5.length < 17592186044416 then (spec_l1Cur_coded.l0 k x1 (x5 ++ [bt284.1]) (wrap64 (x6 - 1)) x1000 bt287.2.1 bt287.2.2) else (none)))) else (if x5.length < 17592186044416 then (spec_l1Cur_coded.l0 k x1 (x5 ++ [bt284.1]) (wrap64 (x6 - 1)) x1000 bt284.2.1 bt284.2.2) else (none)))) else ((spec_EncodeAll.f k x1 x5).bind fun bt305 => (if bt305.1.toList = ([] : List UInt8) then (spec_l1Cur_coded.j1 k bt305.1 true x1000 x1001 x1002) else ((spec_l1Cur_one.f x1000 x1001 x1002 4).bind fun bt308 => (spec_l1Cur_coded.j1 k bt305.1 bt308.1 x1000 bt308.2.1 bt308.2.2))))
def spec_l1Cur_coded.j1 : Nat → ByteArray → Bool → List Int → Int → Int → Option (ByteArray × Int × Int)
 | 0, _, _, _, _, _ => none
 | k + 1, x8, x45, x1000, x1001, x1002 => if x45 = true then ((spec_l1Cur_bytes.f k x1000 x1001 x1002).bind fun bt311 => (if x8.size + bt311.1.size ≤ 9223372036854775807 then (spec_l1Cur_coded.j2 k (x8 ++ bt311.1) x1000 bt311.2.1 bt311.2.2) else (none))) else (spec_l1Cur_coded.j2 k x8 x1000 x1001 x1002)
def spec_l1Cur_coded.j2 : Nat → ByteArray → List Int → Int → Int → Option (ByteArray × Int × Int)
 | 0, _, _, _, _ => none
 | k + 1, x8, x1000, x1001, x1002 => if (x8.size : Int) > 0 then ((spec_l1Cur_one.f x1000 x1001 x1002 4).bind fun bt314 => (spec_l1Cur_coded.j3 k x8 bt314.1 x1000 bt314.2.1 bt314.2.2)) else (spec_l1Cur_coded.j3 k x8 false x1000 x1001 x1002)
def spec_l1Cur_coded.j3 : Nat → ByteArray → Bool → List Int → Int → Int → Option (ByteArray × Int × Int)
 | 0, _, _, _, _, _ => none
 | k + 1, x8, x56, x1000, x1001, x1002 => if x56 = true then ((spec_l1Cur_pick.f x1000 x1001 x1002 (x8.size : Int)).bind fun bt317 => (if 0 ≤ bt317.1 then (if bt317.1 ≤ (x8.size : Int) then (if 0 ≤ (wrap64 (bt317.1 + 1)) then (if (wrap64 (bt317.1 + 1)) ≤ (x8.size : Int) then (if (x8.extract 0 (bt317.1 : Int).toNat).size + (x8.extract ((wrap64 (bt317.1 + 1)) : Int).toNat x8.size).size ≤ 9223372036854775807 then (spec_l1Cur_coded.j4 k ((x8.extract 0 (bt317.1 : Int).toNat) ++ (x8.extract ((wrap64 (bt317.1 + 1)) : Int).toNat x8.size)) x1000 bt317.2.1 bt317.2.2) else (none)) else (none)) else (none)) else (none)) else (none))) else (spec_l1Cur_coded.j4 k x8 x1000 x1001 x1002)
def spec_l1Cur_coded.j4 : Nat → ByteArray → List Int → Int → Int → Option (ByteArray × Int × Int)
 | 0, _, _, _, _ => none
 | k + 1, x8, x1000, x1001, x1002 => (spec_l1Cur_one.f x1000 x1001 x1002 6).bind fun bt320 => (if bt320.1 = true then ((spec_l1Cur_of.f x1000 bt320.2.1 bt320.2.2 (([(⟨#[216, 61]⟩ : ByteArray), (⟨#[61, 216]⟩ : ByteArray), (⟨#[222, 0]⟩ : ByteArray), (⟨#[14]⟩ : ByteArray), (⟨#[15, 97]⟩ : ByteArray), (⟨#[255]⟩ : ByteArray)] : List ByteArray))).bind fun bt326 => (if x8.size + bt326.1.size ≤ 9223372036854775807 then (some (x8 ++ bt326.1, bt326.2.1, bt326.2.2)) else (none))) else (some (x8, bt320.2.1, bt320.2.2)))
end
def spec_l1Cur_coded.f (k : Nat) (s0_0 : List Int) (s0_1 : Int) (s0_2 : Int) (a1 : Int) : Option (ByteArray × Int × Int) := (spec_l1Cur_pick.f s0_0 s0_1 s0_2 7).bind fun bt281 => (spec_l1Cur_coded.l0 k a1 ([] : List Int) bt281.1 s0_0 bt281.2.1 bt281.2.2)
theorem spec_l1Cur_coded.mono_l : ∀ k, (∀ y0 y1 y2 y3 y4 y5, LeO (spec_l1Cur_coded.l0 k y0 y1 y2 y3 y4 y5) (spec_l1Cur_coded.l0 (k + 1) y0 y1 y2 y3 y4 y5)) ∧ (∀ y0 y1 y2 y3 y4, LeO (spec_l1Cur_coded.j1 k y0 y1 y2 y3 y4) (spec_l1Cur_coded.j1 (k + 1) y0 y1 y2 y3 y4)) ∧ (∀ y0 y1 y2 y3, LeO (spec_l1Cur_coded.j2 k y0 y1 y2 y3) (spec_l1Cur_coded.j2 (k + 1) y0 y1 y2 y3)) ∧ (∀ y0 y1 y2 y3 y4, LeO (spec_l1Cur_coded.j3 k y0 y1 y2 y3 y4) (spec_l1Cur_coded.j3 (k + 1) y0 y1 y2 y3 y4)) ∧ (∀ y0 y1 y2 y3, LeO (spec_l1Cur_coded.j4 k y0 y1 y2 y3) (spec_l1Cur_coded.j4 (k + 1) y0 y1 y2 y3))
 | 0 => ⟨fun _ _ _ _ _ _ r h => by simp [spec_l1Cur_coded.l0] at h, fun _ _ _ _ _ r h => by simp [spec_l1Cur_coded.j1] at h, fun _ _ _ _ r h => by simp [spec_l1Cur_coded.j2] at h, fun _ _ _ _ _ r h => by simp [spec_l1Cur_coded.j3] at h, fun _ _ _ _ r h => by simp [spec_l1Cur_coded.j4] at h⟩
 | k + 1 => by
  obtain ⟨ih0, ih1, ih2, ih3, ih4⟩ := spec_l1Cur_coded.mono_l k
  refine ⟨?_, ?_, ?_, ?_, ?_⟩
  ·intro y0 y1 y2 y3 y4 y5
   unfold spec_l1Cur_coded.l0
   with_reducible repeat' first | exact ih0 _ _ _ _ _ _ | exact ih1 _ _ _ _ _ | exact ih2 _ _ _ _ | exact ih3 _ _ _ _ _ | exact ih4 _ _ _ _ | exact spec_EncodeAll.mono _ _ _ | exact spec_l1Cur_bytes.mono _ _ _ _ | exact LeO.refl _ | exact LeO.none _ | refine LeO.ite ?_ ?_ | refine LeO.bind ?_ (fun _ => ?_)
  ·intro y0 y1 y2 y3 y4
   unfold spec_l1Cur_coded.j1
   with_reducible repeat' first | exact ih0 _ _ _ _ _ _ | exact ih1 _ _ _ _ _ | exact ih2 _ _ _ _ | exact ih3 _ _ _ _ _ | exact ih4 _ _ _ _ | exact spec_EncodeAll.mono _ _ _ | exact spec_l1Cur_bytes.mono _ _ _ _ | exact LeO.refl _ | exact LeO.none _ | refine LeO.ite ?_ ?_ | refine LeO.bind ?_ (fun _ => ?_)
  ·intro y0 y1 y2 y3
   unfold spec_l1Cur_coded.j2
   with_reducible repeat' first | exact ih0 _ _ _ _ _ _ | exact ih1 _ _ _ _ _ | exact ih2 _ _ _ _ | exact ih3 _ _ _ _ _ | exact ih4 _ _ _ _ | exact spec_EncodeAll.mono _ _ _ | exact spec_l1Cur_bytes.mono _ _ _ _ | exact LeO.refl _ | exact LeO.none _ | refine LeO.ite ?_ ?_ | refine LeO.bind ?_ (fun _ => ?_)
  ·intro y0 y1 y2 y3 y4
   unfold spec_l1Cur_coded.j3
   with_reducible repeat' first | exact ih0 _ _ _ _ _ _ | exact ih1 _ _ _ _ _ | exact ih2 _ _ _ _ | exact ih3 _ _ _ _ _ | exact ih4 _ _ _ _ | exact spec_EncodeAll.mono _ _ _ | exact spec_l1Cur_bytes.mono _ _ _ _ | exact LeO.refl _ | exact LeO.none _ | refine LeO.ite ?_ ?_ | refine LeO.bind ?_ (fun _ => ?_)
  ·intro y0 y1 y2 y3
   unfold spec_l1Cur_coded.j4
   with_reducible repeat' first | exact ih0 _ _ _ _ _ _ | exact ih1 _ _ _ _ _ | exact ih2 _ _ _ _ | exact ih3 _ _ _ _ _ | exact ih4 _ _ _ _ | exact spec_EncodeAll.mono _ _ _ | exact spec_l1Cur_bytes.mono _ _ _ _ | exact LeO.refl _ | exact LeO.none _ | refine LeO.ite ?_ ?_ | refine LeO.bind ?_ (fun _ => ?_)
theorem spec_l1Cur_coded.mono : ∀ a0 a1 a2 a3 k, LeO (spec_l1Cur_coded.f k a0 a1 a2 a3) (spec_l1Cur_coded.f (k + 1) a0 a1 a2 a3) := by
 intro a0 a1 a2 a3 k
 obtain ⟨ih0, ih1, ih2, ih3, ih4⟩ := spec_l1Cur_coded.mono_l k
 unfold spec_l1Cur_coded.f
 with_reducible repeat' first | exact ih0 _ _ _ _ _ _ | exact ih1 _ _ _ _ _ | exact ih2 _ _ _ _ | exact ih3 _ _ _ _ _ | exact ih4 _ _ _ _ | exact spec_EncodeAll.mono _ _ _ | exact spec_l1Cur_bytes.mono _ _ _ _ | exact LeO.refl _ | exact LeO.none _ | refine LeO.ite ?_ ?_ | refine LeO.bind ?_ (fun _ => ?_)
theorem spec_l1Cur_coded.calls (k : Nat) (g : Nat) (s0_0 : List Int) (s0_1 : Int) (s0_2 : Int) (a1 : Int) (r1 : ByteArray) (r2 : Int) (r3 : Int) (w0 w : World) (hI : IsS64 w0 w g s0_0 s0_1 s0_2) (hB : Below w0.heap.size w0 w) (h : spec_l1Cur_coded.f k s0_0 s0_1 s0_2 a1 = some (r1, r2, r3)) :
  Calls Tryd.prog 50 #[.pointer (some ⟨g, 0, none⟩), .int .i64 a1] w fun e w' => e = .returned (.string r1) ∧ IsS64 w0 w' g s0_0 r2 r3 ∧ Below w0.heap.size w0 w' ∧ KeepBut w w' g none := by
 have HI0 := Aside0.mk hI
 have HK := Aside0.mk (KeepBut.refl w g none)
 have HL := Aside0.mk hB.size
 clear hI
 have HW0 := Aside0.mk hB.size
 have HB := Aside0.mk hB
 clear hB
 have H : ((spec_l1Cur_pick.f s0_0 s0_1 s0_2 7).bind fun bt281 => (spec_l1Cur_coded.l0 k a1 ([] : List Int) bt281.1 s0_0 bt281.2.1 bt281.2.2)) = some (r1, r2, r3) := h
 clear h
 replace H := Option.bind_eq_some_iff.mp H
 obtain ⟨⟨t281, t282, t283⟩, A30, H⟩ := H
 replace H : (spec_l1Cur_coded.l0 k a1 ([] : List Int) t281 s0_0 t282 t283) = some (r1, r2, r3) := H
 have A3 := Aside0.mk A30
 clear A30
 have H' := Aside0.mk H
 clear H
 go_enter Tryd.func50, Tryd.ntmps50
 go_wp2_with (first | (go_at_call 82; (with_reducible refine (spec_l1Cur_pick.calls g s0_0 s0_1 s0_2 7 t281 t282 t283 w0 _ ?side1 ?side2 A3.out).mono ?_); (case side1 => exact HI0.out); (case side2 => exact HB.out); rintro e w4 ⟨rfl, hi, hb, hk⟩; replace HK := Aside0.mk (KeepBut.trans HK.out hk (.inl rfl)); replace HB := Aside0.mk (hb); replace HI0 := Aside0.mk (hi)))
 repeat (go_quiet (first | (go_at_call 82; (with_reducible refine (spec_l1Cur_pick.calls g s0_0 s0_1 s0_2 7 t281 t282 t283 w0 _ ?side1 ?side2 A3.out).mono ?_); (case side1 => exact HI0.out); (case side2 => exact HB.out); rintro e w4 ⟨rfl, hi, hb, hk⟩; replace HK := Aside0.mk (KeepBut.trans HK.out hk (.inl rfl)); replace HB := Aside0.mk (hb); replace HI0 := Aside0.mk (hi))); try go_wp2_with (first | (go_at_call 82; (with_reducible refine (spec_l1Cur_pick.calls g s0_0 s0_1 s0_2 7 t281 t282 t283 w0 _ ?side1 ?side2 A3.out).mono ?_); (case side1 => exact HI0.out); (case side2 => exact HB.out); rintro e w4 ⟨rfl, hi, hb, hk⟩; replace HK := Aside0.mk (KeepBut.trans HK.out hk (.inl rfl)); replace HB := Aside0.mk (hb); replace HI0 := Aside0.mk (hi))))
 go_loopg [5, 6] k (fun kq v5 v6 w' => ∃ (x5_1 : List Int) (x6_1 : Int) (x1001_1 : Int) (x1002_1 : Int), v6 = .int .i64 x6_1 ∧ Aside0 (spec_l1Cur_coded.l0 kq a1 x5_1 x6_1 s0_0 x1001_1 x1002_1 = some (r1, r2, r3)) ∧ Aside0 (kq ≤ k) ∧ Aside0 (Kd.R (Kd.int .i64) 3 w' w.heap.size (fun _ => True) v5 x5_1) ∧ Aside0 (IsS64 w0 w' g s0_0 x1001_1 x1002_1) ∧ Aside0 (KeepBut w w' g none) ∧ Aside0 (Below w0.heap.size w0 w'))
 case atStart => exact ⟨(([] : List Int)), (t281), (t282), (t283), Sw.r, H', ⟨Nat.le_refl _⟩, ⟨by first | exact Kd.R_nil _ _ _ _ _ | exact Kd.N_nil _ _ _ _ _ | exact Kd.V_nil _ _ _ _ _ | exact Kd.Q_nil _ _ _ _ _ | exact Kd.S_nil _ _ _ _ _⟩, ⟨HI0.out⟩, ⟨HK.out⟩, ⟨HB.out⟩⟩
 case round =>
  clear H'
  try clear p2
  obtain ⟨x5_1, x6_1, x1001_1, x1002_1, rfl, HA, HK1, HO_5, HI0, HK, HB⟩ := hrel
  cases gk with
  | zero => exact absurd HA.out (by simp [spec_l1Cur_coded.l0])
  | succ k1 =>
   have H := HA.out
   clear HA
   simp only [spec_l1Cur_coded.l0] at H
   by_cases c5 : x6_1 > 0
   ·rw [if_pos c5] at H
    have c5b0 : decide (0 < x6_1) = true := decide_eq_true c5
    clear c5
    replace H := Option.bind_eq_some_iff.mp H
    obtain ⟨⟨t284, t285, t286⟩, A60, H⟩ := H
    replace H : (if a1 ≥ 4 then ((spec_l1Cur_one.f s0_0 t285 t286 2).bind fun bt287 => (if bt287.1 = true then ((spec_l1Cur_among.f s0_0 bt287.2.1 bt287.2.2 (([97, 122, 7, 200, 12352, 12400, 12446] : List Int))).bind fun bt293 => (if x5_1.length < 17592186044416 then (spec_l1Cur_coded.l0 k1 a1 (x5_1 ++ [bt293.1]) (wrap64 (x6_1 - 1)) s0_0 bt293.2.1 bt293.2.2) else (none))) else (if x5_1.length < 17592186044416 then (spec_l1Cur_coded.l0 k1 a1 (x5_1 ++ [t284]) (wrap64 (x6_1 - 1)) s0_0 bt287.2.1 bt287.2.2) else (none)))) else (if x5_1.length < 17592186044416 then (spec_l1Cur_coded.l0 k1 a1 (x5_1 ++ [t284]) (wrap64 (x6_1 - 1)) s0_0 t285 t286) else (none))) = some (r1, r2, r3) := H
    have A6 := Aside0.mk A60
    clear A60
    by_cases c7 : a1 ≥ 4
    ·rw [if_pos c7] at H
     have c7b0 : decide (4 ≤ a1) = true := decide_eq_true c7
     clear c7
     replace H := Option.bind_eq_some_iff.mp H
     obtain ⟨⟨t287, t288, t289⟩, A80, H⟩ := H
     replace H : (if t287 = true then ((spec_l1Cur_among.f s0_0 t288 t289 (([97, 122, 7, 200, 12352, 12400, 12446] : List Int))).bind fun bt293 => (if x5_1.length < 17592186044416 then (spec_l1Cur_coded.l0 k1 a1 (x5_1 ++ [bt293.1]) (wrap64 (x6_1 - 1)) s0_0 bt293.2.1 bt293.2.2) else (none))) else (if x5_1.length < 17592186044416 then (spec_l1Cur_coded.l0 k1 a1 (x5_1 ++ [t284]) (wrap64 (x6_1 - 1)) s0_0 t288 t289) else (none))) = some (r1, r2, r3) := H
     have A8 := Aside0.mk A80
     clear A80
     by_cases c9 : t287 = true
     ·subst c9
      have H1 : ((spec_l1Cur_among.f s0_0 t288 t289 (([97, 122, 7, 200, 12352, 12400, 12446] : List Int))).bind fun bt293 => (if x5_1.length < 17592186044416 then (spec_l1Cur_coded.l0 k1 a1 (x5_1 ++ [bt293.1]) (wrap64 (x6_1 - 1)) s0_0 bt293.2.1 bt293.2.2) else (none))) = some (r1, r2, r3) := by rw [if_pos rfl] at H; exact H
      clear H
      have H := H1
      clear H1
      obtain ⟨y290, hy290⟩ : ∃ y_ : List Int, y_ = (([97, 122, 7, 200, 12352, 12400, 12446] : List Int)) := ⟨_, rfl⟩
      replace H : ((spec_l1Cur_among.f s0_0 t288 t289 y290).bind fun bt293 => (if x5_1.length < 17592186044416 then (spec_l1Cur_coded.l0 k1 a1 (x5_1 ++ [bt293.1]) (wrap64 (x6_1 - 1)) s0_0 bt293.2.1 bt293.2.2) else (none))) = some (r1, r2, r3) := by rw [hy290]; exact H
      have Ny290 := Aside0.mk hy290
      clear hy290
      replace H := Option.bind_eq_some_iff.mp H
      obtain ⟨⟨t293, t294, t295⟩, A100, H⟩ := H
      replace H : (if x5_1.length < 17592186044416 then (spec_l1Cur_coded.l0 k1 a1 (x5_1 ++ [t293]) (wrap64 (x6_1 - 1)) s0_0 t294 t295) else (none)) = some (r1, r2, r3) := H
      have A10 := Aside0.mk A100
      clear A100
      by_cases c11 : x5_1.length < 17592186044416
      ·rw [if_pos c11] at H
       have LMc11 := Aside0.mk c11
       clear c11
       obtain ⟨y296, hy296⟩ : ∃ y_ : List Int, y_ = (x5_1 ++ [t293]) := ⟨_, rfl⟩
       replace H : (spec_l1Cur_coded.l0 k1 a1 y296 (wrap64 (x6_1 - 1)) s0_0 t294 t295) = some (r1, r2, r3) := by rw [hy296]; exact H
       have Ny296 := Aside0.mk hy296
       clear hy296
       have H' := Aside0.mk H
       clear H
       go_wp2_with (first | (go_at_call 81; (with_reducible refine (spec_l1Cur_rune.calls g s0_0 x1001_1 x1002_1 t284 t285 t286 w0 _ ?side1 ?side2 A6.out).mono ?_); (case side1 => exact HI0.out); (case side2 => exact HB.out); rintro e w12 ⟨rfl, hi, hb, hk⟩; replace HO_5 := Aside0.mk (Kd.R_mono (Kd.R_keep (IsS64.apart (show IsS64 w0 _ g s0_0 x1001_1 x1002_1 from Zb50_0) (Sw.rt HO_5.out) (by decide)) hk (fun _ h => h.2)) (fun _ h => h.1)); replace HK := Aside0.mk (KeepBut.trans HK.out hk (.inl rfl)); replace HB := Aside0.mk (hb); replace HI0 := Aside0.mk (hi)) | (go_at_call 83; (with_reducible refine (spec_l1Cur_one.calls g s0_0 t285 t286 2 true t288 t289 w0 _ ?side1 ?side2 A8.out).mono ?_); (case side1 => exact HI0.out); (case side2 => exact HB.out); rintro e w13 ⟨rfl, hi, hb, hk⟩; replace HO_5 := Aside0.mk (Kd.R_mono (Kd.R_keep (IsS64.apart (show IsS64 w0 _ g s0_0 t285 t286 from Zb50_0) (Sw.rt HO_5.out) (by decide)) hk (fun _ h => h.2)) (fun _ h => h.1)); replace HK := Aside0.mk (KeepBut.trans HK.out hk (.inl rfl)); replace HB := Aside0.mk (hb); replace HI0 := Aside0.mk (hi)) | ((with_reducible refine gate_dst (N := 27) rfl ?_); refine Kd.R_lit (Kd.int .i64) _ 3 ?hg (N := 27) ?hd (xs := ([97, 122, 7, 200, 12352, 12400, 12446] : List Int)) (inner := [.int .i64 97, .int .i64 122, .int .i64 7, .int .i64 200, .int .i64 12352, .int .i64 12400, .int .i64 12446]) (ok := fun _ => True) (okp := fun _ => True) ?hr ?hp (fun _ hk => hk) trivial (Below.refl _ _) (Nat.le_refl _) (by simp) ?_; (case hd => rfl); (case hg => rfl); (case hr => go_simp <;> rfl); (case hp => exact (Reps.one (show Kd.M (Kd.int .i64) _ _ _ 97 [.int .i64 97] from rfl) (Reps.one (show Kd.M (Kd.int .i64) _ _ _ 122 [.int .i64 122] from rfl) (Reps.one (show Kd.M (Kd.int .i64) _ _ _ 7 [.int .i64 7] from rfl) (Reps.one (show Kd.M (Kd.int .i64) _ _ _ 200 [.int .i64 200] from rfl) (Reps.one (show Kd.M (Kd.int .i64) _ _ _ 12352 [.int .i64 12352] from rfl) (Reps.one (show Kd.M (Kd.int .i64) _ _ _ 12400 [.int .i64 12400] from rfl) (Reps.one (show Kd.M (Kd.int .i64) _ _ _ 12446 [.int .i64 12446] from rfl) (Reps.none _ _))))))))); intro v291 w14 ho15 hb hg_ hnew_; clear hg_ hnew_; (first | rw [← Ny290.out] at ho15 | (simp only [Int.reduceToNat] at ho15; rw [← Ny290.out] at ho15)); have HO292 := Aside0.mk (Kd.R_lower (Kd.R_new' ho15 (Kd.R_lt (Sw.rt HO_5.out))) (keep_size (w := w) (g := g) (row := none) HK.out)); replace HO_5 := Aside0.mk (Kd.R_elder' (Sw.rt HO_5.out) (Kd.R_base ho15) hb); replace HK := Aside0.mk (KeepBut.trans HK.out (KeepBut.of_below hb g none) (.inl rfl)); replace HB := Aside0.mk (below_step HB.out hb); replace HI0 := Aside0.mk (IsS64.below HI0.out hb); clear hb ho15; obtain ⟨Ao16, co16, eo16⟩ := Kd.R_slice HO292.out; subst eo16) | (go_at_call 87; (with_reducible refine (spec_l1Cur_among.calls g s0_0 t288 t289 _ _ y290 t293 t294 t295 w0 _ ?side1 ?side2 ?side3 ?side4 ?side5 A10.out).mono ?_); (case side1 => exact HI0.out); (case side2 => exact HB.out); (case side3 => repeat (first | exact (Kd.R_reads' HO292.out).2.2 | (with_reducible refine Kd.C_alloc ?_ _) | (with_reducible refine Kd.C_drewN ?_ _) | (with_reducible refine Kd.C_drew ?_))); (case side4 => exact (Kd.R_reads' HO292.out).2.1); (case side5 => exact far_slice (IsS64.own_ne HI0.out HO292.out (by decide))); rintro e w17 ⟨rfl, hi, hb, hk⟩; replace HO_5 := Aside0.mk (Kd.R_mono (Kd.R_keep (IsS64.apart (show IsS64 w0 _ g s0_0 t288 t289 from Zb50_0) (Sw.rt HO_5.out) (by decide)) hk (fun _ h => h.2)) (fun _ h => h.1)); replace HO292 := Aside0.mk (Kd.R_mono (Kd.R_keep (IsS64.apart (show IsS64 w0 _ g s0_0 t288 t289 from Zb50_0) (Sw.rt HO292.out) (by decide)) hk (fun _ h => h.2)) (fun _ h => h.1)); replace HK := Aside0.mk (KeepBut.trans HK.out hk (.inl rfl)); replace HB := Aside0.mk (hb); replace HI0 := Aside0.mk (hi)) | ((with_reducible refine gate_builtin (b := .append) (xs := #[.tmp 29, .tmp 31]) rfl ?_); at_builtin; refine Kd.R_append (Kd.int .i64) w.heap.size rfl (.tmp 29) (.tmp 31) 28 3 (.int .i64 0) 8 rfl Tryd.underlying28 info3 rfl (by decide) (by omega) u5 x5_1 t293 [.int .i64 t293] (fun k_ => some k_ ≠ (.slice Ao16 y290.length co16 : Value).ownBlock) (fun _ => False) rfl rfl ?aP (fun _ hk => hk.elim) ?aF ?aO (Below.refl _ _) ?aS ?aL ?_; (case aP => exact rfl); (case aF => exact (fun k_ hk => Kd.fresh' (Kd.R_lt (Sw.rt HO292.out)) k_ hk)); (case aO => exact (Sw.rt (Kd.R_mono HO_5.out (fun _ hk => hk.2)))); (case aS => exact (keep_size (w := w) (g := g) (row := none) HK.out)); (case aL => have := LMc11.out; omega); intro v297 w18 ho hb hg hat; rw [← Ny296.out] at ho; replace HO292 := Aside0.mk (Kd.R_after (ok := (fun _ => True)) (Sw.rt HO292.out) hg hat); replace HB := Aside0.mk (below_weaken HB.out HL.out hb); replace HI0 := Aside0.mk (IsS64.grown HI0.out hg (IsS64.own_ne HI0.out HO_5.out (by decide))); replace HK := Aside0.mk (KeepBut.trans HK.out (KeepBut.of_grown hg g) (Kd.R_base2 HO_5.out)); have HO298 := Aside0.mk (ho); clear HO_5; clear ho hb hg hat))
       repeat (go_quiet (first | (go_at_call 81; (with_reducible refine (spec_l1Cur_rune.calls g s0_0 x1001_1 x1002_1 t284 t285 t286 w0 _ ?side1 ?side2 A6.out).mono ?_); (case side1 => exact HI0.out); (case side2 => exact HB.out); rintro e w12 ⟨rfl, hi, hb, hk⟩; replace HO_5 := Aside0.mk (Kd.R_mono (Kd.R_keep (IsS64.apart (show IsS64 w0 _ g s0_0 x1001_1 x1002_1 from Zb50_0) (Sw.rt HO_5.out) (by decide)) hk (fun _ h => h.2)) (fun _ h => h.1)); replace HK := Aside0.mk (KeepBut.trans HK.out hk (.inl rfl)); replace HB := Aside0.mk (hb); replace HI0 := Aside0.mk (hi)) | (go_at_call 83; (with_reducible refine (spec_l1Cur_one.calls g s0_0 t285 t286 2 true t288 t289 w0 _ ?side1 ?side2 A8.out).mono ?_); (case side1 => exact HI0.out); (case side2 => exact HB.out); rintro e w13 ⟨rfl, hi, hb, hk⟩; replace HO_5 := Aside0.mk (Kd.R_mono (Kd.R_keep (IsS64.apart (show IsS64 w0 _ g s0_0 t285 t286 from Zb50_0) (Sw.rt HO_5.out) (by decide)) hk (fun _ h => h.2)) (fun _ h => h.1)); replace HK := Aside0.mk (KeepBut.trans HK.out hk (.inl rfl)); replace HB := Aside0.mk (hb); replace HI0 := Aside0.mk (hi)) | ((with_reducible refine gate_dst (N := 27) rfl ?_); refine Kd.R_lit (Kd.int .i64) _ 3 ?hg (N := 27) ?hd (xs := ([97, 122, 7, 200, 12352, 12400, 12446] : List Int)) (inner := [.int .i64 97, .int .i64 122, .int .i64 7, .int .i64 200, .int .i64 12352, .int .i64 12400, .int .i64 12446]) (ok := fun _ => True) (okp := fun _ => True) ?hr ?hp (fun _ hk => hk) trivial (Below.refl _ _) (Nat.le_refl _) (by simp) ?_; (case hd => rfl); (case hg => rfl); (case hr => go_simp <;> rfl); (case hp => exact (Reps.one (show Kd.M (Kd.int .i64) _ _ _ 97 [.int .i64 97] from rfl) (Reps.one (show Kd.M (Kd.int .i64) _ _ _ 122 [.int .i64 122] from rfl) (Reps.one (show Kd.M (Kd.int .i64) _ _ _ 7 [.int .i64 7] from rfl) (Reps.one (show Kd.M (Kd.int .i64) _ _ _ 200 [.int .i64 200] from rfl) (Reps.one (show Kd.M (Kd.int .i64) _ _ _ 12352 [.int .i64 12352] from rfl) (Reps.one (show Kd.M (Kd.int .i64) _ _ _ 12400 [.int .i64 12400] from rfl) (Reps.one (show Kd.M (Kd.int .i64) _ _ _ 12446 [.int .i64 12446] from rfl) (Reps.none _ _))))))))); intro v291 w14 ho15 hb hg_ hnew_; clear hg_ hnew_; (first | rw [← Ny290.out] at ho15 | (simp only [Int.reduceToNat] at ho15; rw [← Ny290.out] at ho15)); have HO292 := Aside0.mk (Kd.R_lower (Kd.R_new' ho15 (Kd.R_lt (Sw.rt HO_5.out))) (keep_size (w := w) (g := g) (row := none) HK.out)); replace HO_5 := Aside0.mk (Kd.R_elder' (Sw.rt HO_5.out) (Kd.R_base ho15) hb); replace HK := Aside0.mk (KeepBut.trans HK.out (KeepBut.of_below hb g none) (.inl rfl)); replace HB := Aside0.mk (below_step HB.out hb); replace HI0 := Aside0.mk (IsS64.below HI0.out hb); clear hb ho15; obtain ⟨Ao16, co16, eo16⟩ := Kd.R_slice HO292.out; subst eo16) | (go_at_call 87; (with_reducible refine (spec_l1Cur_among.calls g s0_0 t288 t289 _ _ y290 t293 t294 t295 w0 _ ?side1 ?side2 ?side3 ?side4 ?side5 A10.out).mono ?_); (case side1 => exact HI0.out); (case side2 => exact HB.out); (case side3 => repeat (first | exact (Kd.R_reads' HO292.out).2.2 | (with_reducible refine Kd.C_alloc ?_ _) | (with_reducible refine Kd.C_drewN ?_ _) | (with_reducible refine Kd.C_drew ?_))); (case side4 => exact (Kd.R_reads' HO292.out).2.1); (case side5 => exact far_slice (IsS64.own_ne HI0.out HO292.out (by decide))); rintro e w17 ⟨rfl, hi, hb, hk⟩; replace HO_5 := Aside0.mk (Kd.R_mono (Kd.R_keep (IsS64.apart (show IsS64 w0 _ g s0_0 t288 t289 from Zb50_0) (Sw.rt HO_5.out) (by decide)) hk (fun _ h => h.2)) (fun _ h => h.1)); replace HO292 := Aside0.mk (Kd.R_mono (Kd.R_keep (IsS64.apart (show IsS64 w0 _ g s0_0 t288 t289 from Zb50_0) (Sw.rt HO292.out) (by decide)) hk (fun _ h => h.2)) (fun _ h => h.1)); replace HK := Aside0.mk (KeepBut.trans HK.out hk (.inl rfl)); replace HB := Aside0.mk (hb); replace HI0 := Aside0.mk (hi)) | ((with_reducible refine gate_builtin (b := .append) (xs := #[.tmp 29, .tmp 31]) rfl ?_); at_builtin; refine Kd.R_append (Kd.int .i64) w.heap.size rfl (.tmp 29) (.tmp 31) 28 3 (.int .i64 0) 8 rfl Tryd.underlying28 info3 rfl (by decide) (by omega) u5 x5_1 t293 [.int .i64 t293] (fun k_ => some k_ ≠ (.slice Ao16 y290.length co16 : Value).ownBlock) (fun _ => False) rfl rfl ?aP (fun _ hk => hk.elim) ?aF ?aO (Below.refl _ _) ?aS ?aL ?_; (case aP => exact rfl); (case aF => exact (fun k_ hk => Kd.fresh' (Kd.R_lt (Sw.rt HO292.out)) k_ hk)); (case aO => exact (Sw.rt (Kd.R_mono HO_5.out (fun _ hk => hk.2)))); (case aS => exact (keep_size (w := w) (g := g) (row := none) HK.out)); (case aL => have := LMc11.out; omega); intro v297 w18 ho hb hg hat; rw [← Ny296.out] at ho; replace HO292 := Aside0.mk (Kd.R_after (ok := (fun _ => True)) (Sw.rt HO292.out) hg hat); replace HB := Aside0.mk (below_weaken HB.out HL.out hb); replace HI0 := Aside0.mk (IsS64.grown HI0.out hg (IsS64.own_ne HI0.out HO_5.out (by decide))); replace HK := Aside0.mk (KeepBut.trans HK.out (KeepBut.of_grown hg g) (Kd.R_base2 HO_5.out)); have HO298 := Aside0.mk (ho); clear HO_5; clear ho hb hg hat)); try go_wp2_with (first | (go_at_call 81; (with_reducible refine (spec_l1Cur_rune.calls g s0_0 x1001_1 x1002_1 t284 t285 t286 w0 _ ?side1 ?side2 A6.out).mono ?_); (case side1 => exact HI0.out); (case side2 => exact HB.out); rintro e w12 ⟨rfl, hi, hb, hk⟩; replace HO_5 := Aside0.mk (Kd.R_mono (Kd.R_keep (IsS64.apart (show IsS64 w0 _ g s0_0 x1001_1 x1002_1 from Zb50_0) (Sw.rt HO_5.out) (by decide)) hk (fun _ h => h.2)) (fun _ h => h.1)); replace HK := Aside0.mk (KeepBut.trans HK.out hk (.inl rfl)); replace HB := Aside0.mk (hb); replace HI0 := Aside0.mk (hi)) | (go_at_call 83; (with_reducible refine (spec_l1Cur_one.calls g s0_0 t285 t286 2 true t288 t289 w0 _ ?side1 ?side2 A8.out).mono ?_); (case side1 => exact HI0.out); (case side2 => exact HB.out); rintro e w13 ⟨rfl, hi, hb, hk⟩; replace HO_5 := Aside0.mk (Kd.R_mono (Kd.R_keep (IsS64.apart (show IsS64 w0 _ g s0_0 t285 t286 from Zb50_0) (Sw.rt HO_5.out) (by decide)) hk (fun _ h => h.2)) (fun _ h => h.1)); replace HK := Aside0.mk (KeepBut.trans HK.out hk (.inl rfl)); replace HB := Aside0.mk (hb); replace HI0 := Aside0.mk (hi)) | ((with_reducible refine gate_dst (N := 27) rfl ?_); refine Kd.R_lit (Kd.int .i64) _ 3 ?hg (N := 27) ?hd (xs := ([97, 122, 7, 200, 12352, 12400, 12446] : List Int)) (inner := [.int .i64 97, .int .i64 122, .int .i64 7, .int .i64 200, .int .i64 12352, .int .i64 12400, .int .i64 12446]) (ok := fun _ => True) (okp := fun _ => True) ?hr ?hp (fun _ hk => hk) trivial (Below.refl _ _) (Nat.le_refl _) (by simp) ?_; (case hd => rfl); (case hg => rfl); (case hr => go_simp <;> rfl); (case hp => exact (Reps.one (show Kd.M (Kd.int .i64) _ _ _ 97 [.int .i64 97] from rfl) (Reps.one (show Kd.M (Kd.int .i64) _ _ _ 122 [.int .i64 122] from rfl) (Reps.one (show Kd.M (Kd.int .i64) _ _ _ 7 [.int .i64 7] from rfl) (Reps.one (show Kd.M (Kd.int .i64) _ _ _ 200 [.int .i64 200] from rfl) (Reps.one (show Kd.M (Kd.int .i64) _ _ _ 12352 [.int .i64 12352] from rfl) (Reps.one (show Kd.M (Kd.int .i64) _ _ _ 12400 [.int .i64 12400] from rfl) (Reps.one (show Kd.M (Kd.int .i64) _ _ _ 12446 [.int .i64 12446] from rfl) (Reps.none _ _))))))))); intro v291 w14 ho15 hb hg_ hnew_; clear hg_ hnew_; (first | rw [← Ny290.out] at ho15 | (simp only [Int.reduceToNat] at ho15; rw [← Ny290.out] at ho15)); have HO292 := Aside0.mk (Kd.R_lower (Kd.R_new' ho15 (Kd.R_lt (Sw.rt HO_5.out))) (keep_size (w := w) (g := g) (row := none) HK.out)); replace HO_5 := Aside0.mk (Kd.R_elder' (Sw.rt HO_5.out) (Kd.R_base ho15) hb); replace HK := Aside0.mk (KeepBut.trans HK.out (KeepBut.of_below hb g none) (.inl rfl)); replace HB := Aside0.mk (below_step HB.out hb); replace HI0 := Aside0.mk (IsS64.below HI0.out hb); clear hb ho15; obtain ⟨Ao16, co16, eo16⟩ := Kd.R_slice HO292.out; subst eo16) | (go_at_call 87; (with_reducible refine (spec_l1Cur_among.calls g s0_0 t288 t289 _ _ y290 t293 t294 t295 w0 _ ?side1 ?side2 ?side3 ?side4 ?side5 A10.out).mono ?_); (case side1 => exact HI0.out); (case side2 => exact HB.out); (case side3 => repeat (first | exact (Kd.R_reads' HO292.out).2.2 | (with_reducible refine Kd.C_alloc ?_ _) | (with_reducible refine Kd.C_drewN ?_ _) | (with_reducible refine Kd.C_drew ?_))); (case side4 => exact (Kd.R_reads' HO292.out).2.1); (case side5 => exact far_slice (IsS64.own_ne HI0.out HO292.out (by decide))); rintro e w17 ⟨rfl, hi, hb, hk⟩; replace HO_5 := Aside0.mk (Kd.R_mono (Kd.R_keep (IsS64.apart (show IsS64 w0 _ g s0_0 t288 t289 from Zb50_0) (Sw.rt HO_5.out) (by decide)) hk (fun _ h => h.2)) (fun _ h => h.1)); replace HO292 := Aside0.mk (Kd.R_mono (Kd.R_keep (IsS64.apart (show IsS64 w0 _ g s0_0 t288 t289 from Zb50_0) (Sw.rt HO292.out) (by decide)) hk (fun _ h => h.2)) (fun _ h => h.1)); replace HK := Aside0.mk (KeepBut.trans HK.out hk (.inl rfl)); replace HB := Aside0.mk (hb); replace HI0 := Aside0.mk (hi)) | ((with_reducible refine gate_builtin (b := .append) (xs := #[.tmp 29, .tmp 31]) rfl ?_); at_builtin; refine Kd.R_append (Kd.int .i64) w.heap.size rfl (.tmp 29) (.tmp 31) 28 3 (.int .i64 0) 8 rfl Tryd.underlying28 info3 rfl (by decide) (by omega) u5 x5_1 t293 [.int .i64 t293] (fun k_ => some k_ ≠ (.slice Ao16 y290.length co16 : Value).ownBlock) (fun _ => False) rfl rfl ?aP (fun _ hk => hk.elim) ?aF ?aO (Below.refl _ _) ?aS ?aL ?_; (case aP => exact rfl); (case aF => exact (fun k_ hk => Kd.fresh' (Kd.R_lt (Sw.rt HO292.out)) k_ hk)); (case aO => exact (Sw.rt (Kd.R_mono HO_5.out (fun _ hk => hk.2)))); (case aS => exact (keep_size (w := w) (g := g) (row := none) HK.out)); (case aL => have := LMc11.out; omega); intro v297 w18 ho hb hg hat; rw [← Ny296.out] at ho; replace HO292 := Aside0.mk (Kd.R_after (ok := (fun _ => True)) (Sw.rt HO292.out) hg hat); replace HB := Aside0.mk (below_weaken HB.out HL.out hb); replace HI0 := Aside0.mk (IsS64.grown HI0.out hg (IsS64.own_ne HI0.out HO_5.out (by decide))); replace HK := Aside0.mk (KeepBut.trans HK.out (KeepBut.of_grown hg g) (Kd.R_base2 HO_5.out)); have HO298 := Aside0.mk (ho); clear HO_5; clear ho hb hg hat)))
       go_roundg k1
       case measure => have := HK1.out; omega
       case rel => exact ⟨(y296), (wrap64 (x6_1 - 1)), (t294), (t295), Sw.r, H', ⟨by have := HK1.out; omega⟩, ⟨Sw.rt (Kd.R_mono HO298.out (fun _ hk => trivial))⟩, ⟨HI0.out⟩, ⟨HK.out⟩, ⟨HB.out⟩⟩
      ·rw [if_neg c11] at H
       exact absurd H (by simp)
     ·replace c9 := Bool.eq_false_iff.mpr c9
      subst c9
      have H1 : (if x5_1.length < 17592186044416 then (spec_l1Cur_coded.l0 k1 a1 (x5_1 ++ [t284]) (wrap64 (x6_1 - 1)) s0_0 t288 t289) else (none)) = some (r1, r2, r3) := by rw [if_neg (show ¬ (false = true) by decide)] at H; exact H
      clear H
      have H := H1
      clear H1
      by_cases c19 : x5_1.length < 17592186044416
      ·rw [if_pos c19] at H
       have LMc19 := Aside0.mk c19
       clear c19
       obtain ⟨y299, hy299⟩ : ∃ y_ : List Int, y_ = (x5_1 ++ [t284]) := ⟨_, rfl⟩
       replace H : (spec_l1Cur_coded.l0 k1 a1 y299 (wrap64 (x6_1 - 1)) s0_0 t288 t289) = some (r1, r2, r3) := by rw [hy299]; exact H
       have Ny299 := Aside0.mk hy299
       clear hy299
       have H' := Aside0.mk H
       clear H
       go_wp2_with (first | (go_at_call 81; (with_reducible refine (spec_l1Cur_rune.calls g s0_0 x1001_1 x1002_1 t284 t285 t286 w0 _ ?side1 ?side2 A6.out).mono ?_); (case side1 => exact HI0.out); (case side2 => exact HB.out); rintro e w20 ⟨rfl, hi, hb, hk⟩; replace HO_5 := Aside0.mk (Kd.R_mono (Kd.R_keep (IsS64.apart (show IsS64 w0 _ g s0_0 x1001_1 x1002_1 from Zb50_0) (Sw.rt HO_5.out) (by decide)) hk (fun _ h => h.2)) (fun _ h => h.1)); replace HK := Aside0.mk (KeepBut.trans HK.out hk (.inl rfl)); replace HB := Aside0.mk (hb); replace HI0 := Aside0.mk (hi)) | (go_at_call 83; (with_reducible refine (spec_l1Cur_one.calls g s0_0 t285 t286 2 false t288 t289 w0 _ ?side1 ?side2 A8.out).mono ?_); (case side1 => exact HI0.out); (case side2 => exact HB.out); rintro e w21 ⟨rfl, hi, hb, hk⟩; replace HO_5 := Aside0.mk (Kd.R_mono (Kd.R_keep (IsS64.apart (show IsS64 w0 _ g s0_0 t285 t286 from Zb50_0) (Sw.rt HO_5.out) (by decide)) hk (fun _ h => h.2)) (fun _ h => h.1)); replace HK := Aside0.mk (KeepBut.trans HK.out hk (.inl rfl)); replace HB := Aside0.mk (hb); replace HI0 := Aside0.mk (hi)) | ((with_reducible refine gate_builtin (b := .append) (xs := #[.tmp 29, .tmp 31]) rfl ?_); at_builtin; refine Kd.R_append (Kd.int .i64) w.heap.size rfl (.tmp 29) (.tmp 31) 28 3 (.int .i64 0) 8 rfl Tryd.underlying28 info3 rfl (by decide) (by omega) u5 x5_1 t284 [.int .i64 t284] (fun _ => True) (fun _ => False) rfl rfl ?aP (fun _ hk => hk.elim) ?aF ?aO (Below.refl _ _) ?aS ?aL ?_; (case aP => exact rfl); (case aF => exact (fun _ _ => trivial)); (case aO => exact (Sw.rt HO_5.out)); (case aS => exact (keep_size (w := w) (g := g) (row := none) HK.out)); (case aL => have := LMc19.out; omega); intro v300 w22 ho hb hg hat; rw [← Ny299.out] at ho; replace HB := Aside0.mk (below_weaken HB.out HL.out hb); replace HI0 := Aside0.mk (IsS64.grown HI0.out hg (IsS64.own_ne HI0.out HO_5.out (by decide))); replace HK := Aside0.mk (KeepBut.trans HK.out (KeepBut.of_grown hg g) (Kd.R_base2 HO_5.out)); have HO301 := Aside0.mk (ho); clear HO_5; clear ho hb hg hat))
       repeat (go_quiet (first | (go_at_call 81; (with_reducible refine (spec_l1Cur_rune.calls g s0_0 x1001_1 x1002_1 t284 t285 t286 w0 _ ?side1 ?side2 A6.out).mono ?_); (case side1 => exact HI0.out); (case side2 => exact HB.out); rintro e w20 ⟨rfl, hi, hb, hk⟩; replace HO_5 := Aside0.mk (Kd.R_mono (Kd.R_keep (IsS64.apart (show IsS64 w0 _ g s0_0 x1001_1 x1002_1 from Zb50_0) (Sw.rt HO_5.out) (by decide)) hk (fun _ h => h.2)) (fun _ h => h.1)); replace HK := Aside0.mk (KeepBut.trans HK.out hk (.inl rfl)); replace HB := Aside0.mk (hb); replace HI0 := Aside0.mk (hi)) | (go_at_call 83; (with_reducible refine (spec_l1Cur_one.calls g s0_0 t285 t286 2 false t288 t289 w0 _ ?side1 ?side2 A8.out).mono ?_); (case side1 => exact HI0.out); (case side2 => exact HB.out); rintro e w21 ⟨rfl, hi, hb, hk⟩; replace HO_5 := Aside0.mk (Kd.R_mono (Kd.R_keep (IsS64.apart (show IsS64 w0 _ g s0_0 t285 t286 from Zb50_0) (Sw.rt HO_5.out) (by decide)) hk (fun _ h => h.2)) (fun _ h => h.1)); replace HK := Aside0.mk (KeepBut.trans HK.out hk (.inl rfl)); replace HB := Aside0.mk (hb); replace HI0 := Aside0.mk (hi)) | ((with_reducible refine gate_builtin (b := .append) (xs := #[.tmp 29, .tmp 31]) rfl ?_); at_builtin; refine Kd.R_append (Kd.int .i64) w.heap.size rfl (.tmp 29) (.tmp 31) 28 3 (.int .i64 0) 8 rfl Tryd.underlying28 info3 rfl (by decide) (by omega) u5 x5_1 t284 [.int .i64 t284] (fun _ => True) (fun _ => False) rfl rfl ?aP (fun _ hk => hk.elim) ?aF ?aO (Below.refl _ _) ?aS ?aL ?_; (case aP => exact rfl); (case aF => exact (fun _ _ => trivial)); (case aO => exact (Sw.rt HO_5.out)); (case aS => exact (keep_size (w := w) (g := g) (row := none) HK.out)); (case aL => have := LMc19.out; omega); intro v300 w22 ho hb hg hat; rw [← Ny299.out] at ho; replace HB := Aside0.mk (below_weaken HB.out HL.out hb); replace HI0 := Aside0.mk (IsS64.grown HI0.out hg (IsS64.own_ne HI0.out HO_5.out (by decide))); replace HK := Aside0.mk (KeepBut.trans HK.out (KeepBut.of_grown hg g) (Kd.R_base2 HO_5.out)); have HO301 := Aside0.mk (ho); clear HO_5; clear ho hb hg hat)); try go_wp2_with (first | (go_at_call 81; (with_reducible refine (spec_l1Cur_rune.calls g s0_0 x1001_1 x1002_1 t284 t285 t286 w0 _ ?side1 ?side2 A6.out).mono ?_); (case side1 => exact HI0.out); (case side2 => exact HB.out); rintro e w20 ⟨rfl, hi, hb, hk⟩; replace HO_5 := Aside0.mk (Kd.R_mono (Kd.R_keep (IsS64.apart (show IsS64 w0 _ g s0_0 x1001_1 x1002_1 from Zb50_0) (Sw.rt HO_5.out) (by decide)) hk (fun _ h => h.2)) (fun _ h => h.1)); replace HK := Aside0.mk (KeepBut.trans HK.out hk (.inl rfl)); replace HB := Aside0.mk (hb); replace HI0 := Aside0.mk (hi)) | (go_at_call 83; (with_reducible refine (spec_l1Cur_one.calls g s0_0 t285 t286 2 false t288 t289 w0 _ ?side1 ?side2 A8.out).mono ?_); (case side1 => exact HI0.out); (case side2 => exact HB.out); rintro e w21 ⟨rfl, hi, hb, hk⟩; replace HO_5 := Aside0.mk (Kd.R_mono (Kd.R_keep (IsS64.apart (show IsS64 w0 _ g s0_0 t285 t286 from Zb50_0) (Sw.rt HO_5.out) (by decide)) hk (fun _ h => h.2)) (fun _ h => h.1)); replace HK := Aside0.mk (KeepBut.trans HK.out hk (.inl rfl)); replace HB := Aside0.mk (hb); replace HI0 := Aside0.mk (hi)) | ((with_reducible refine gate_builtin (b := .append) (xs := #[.tmp 29, .tmp 31]) rfl ?_); at_builtin; refine Kd.R_append (Kd.int .i64) w.heap.size rfl (.tmp 29) (.tmp 31) 28 3 (.int .i64 0) 8 rfl Tryd.underlying28 info3 rfl (by decide) (by omega) u5 x5_1 t284 [.int .i64 t284] (fun _ => True) (fun _ => False) rfl rfl ?aP (fun _ hk => hk.elim) ?aF ?aO (Below.refl _ _) ?aS ?aL ?_; (case aP => exact rfl); (case aF => exact (fun _ _ => trivial)); (case aO => exact (Sw.rt HO_5.out)); (case aS => exact (keep_size (w := w) (g := g) (row := none) HK.out)); (case aL => have := LMc19.out; omega); intro v300 w22 ho hb hg hat; rw [← Ny299.out] at ho; replace HB := Aside0.mk (below_weaken HB.out HL.out hb); replace HI0 := Aside0.mk (IsS64.grown HI0.out hg (IsS64.own_ne HI0.out HO_5.out (by decide))); replace HK := Aside0.mk (KeepBut.trans HK.out (KeepBut.of_grown hg g) (Kd.R_base2 HO_5.out)); have HO301 := Aside0.mk (ho); clear HO_5; clear ho hb hg hat)))
       go_roundg k1
       case measure => have := HK1.out; omega
       case rel => exact ⟨(y299), (wrap64 (x6_1 - 1)), (t288), (t289), Sw.r, H', ⟨by have := HK1.out; omega⟩, ⟨Sw.rt HO301.out⟩, ⟨HI0.out⟩, ⟨HK.out⟩, ⟨HB.out⟩⟩
      ·rw [if_neg c19] at H
       exact absurd H (by simp)
    ·rw [if_neg c7] at H
     have c7b0 : decide (4 ≤ a1) = false := decide_eq_false c7
     clear c7
     by_cases c23 : x5_1.length < 17592186044416
     ·rw [if_pos c23] at H
      have LMc23 := Aside0.mk c23
      clear c23
      obtain ⟨y302, hy302⟩ : ∃ y_ : List Int, y_ = (x5_1 ++ [t284]) := ⟨_, rfl⟩
      replace H : (spec_l1Cur_coded.l0 k1 a1 y302 (wrap64 (x6_1 - 1)) s0_0 t285 t286) = some (r1, r2, r3) := by rw [hy302]; exact H
      have Ny302 := Aside0.mk hy302
      clear hy302
      have H' := Aside0.mk H
      clear H
      go_wp2_with (first | (go_at_call 81; (with_reducible refine (spec_l1Cur_rune.calls g s0_0 x1001_1 x1002_1 t284 t285 t286 w0 _ ?side1 ?side2 A6.out).mono ?_); (case side1 => exact HI0.out); (case side2 => exact HB.out); rintro e w24 ⟨rfl, hi, hb, hk⟩; replace HO_5 := Aside0.mk (Kd.R_mono (Kd.R_keep (IsS64.apart (show IsS64 w0 _ g s0_0 x1001_1 x1002_1 from Zb50_0) (Sw.rt HO_5.out) (by decide)) hk (fun _ h => h.2)) (fun _ h => h.1)); replace HK := Aside0.mk (KeepBut.trans HK.out hk (.inl rfl)); replace HB := Aside0.mk (hb); replace HI0 := Aside0.mk (hi)) | ((with_reducible refine gate_builtin (b := .append) (xs := #[.tmp 29, .tmp 31]) rfl ?_); at_builtin; refine Kd.R_append (Kd.int .i64) w.heap.size rfl (.tmp 29) (.tmp 31) 28 3 (.int .i64 0) 8 rfl Tryd.underlying28 info3 rfl (by decide) (by omega) u5 x5_1 t284 [.int .i64 t284] (fun _ => True) (fun _ => False) rfl rfl ?aP (fun _ hk => hk.elim) ?aF ?aO (Below.refl _ _) ?aS ?aL ?_; (case aP => exact rfl); (case aF => exact (fun _ _ => trivial)); (case aO => exact (Sw.rt HO_5.out)); (case aS => exact (keep_size (w := w) (g := g) (row := none) HK.out)); (case aL => have := LMc23.out; omega); intro v303 w25 ho hb hg hat; rw [← Ny302.out] at ho; replace HB := Aside0.mk (below_weaken HB.out HL.out hb); replace HI0 := Aside0.mk (IsS64.grown HI0.out hg (IsS64.own_ne HI0.out HO_5.out (by decide))); replace HK := Aside0.mk (KeepBut.trans HK.out (KeepBut.of_grown hg g) (Kd.R_base2 HO_5.out)); have HO304 := Aside0.mk (ho); clear HO_5; clear ho hb hg hat))
      repeat (go_quiet (first | (go_at_call 81; (with_reducible refine (spec_l1Cur_rune.calls g s0_0 x1001_1 x1002_1 t284 t285 t286 w0 _ ?side1 ?side2 A6.out).mono ?_); (case side1 => exact HI0.out); (case side2 => exact HB.out); rintro e w24 ⟨rfl, hi, hb, hk⟩; replace HO_5 := Aside0.mk (Kd.R_mono (Kd.R_keep (IsS64.apart (show IsS64 w0 _ g s0_0 x1001_1 x1002_1 from Zb50_0) (Sw.rt HO_5.out) (by decide)) hk (fun _ h => h.2)) (fun _ h => h.1)); replace HK := Aside0.mk (KeepBut.trans HK.out hk (.inl rfl)); replace HB := Aside0.mk (hb); replace HI0 := Aside0.mk (hi)) | ((with_reducible refine gate_builtin (b := .append) (xs := #[.tmp 29, .tmp 31]) rfl ?_); at_builtin; refine Kd.R_append (Kd.int .i64) w.heap.size rfl (.tmp 29) (.tmp 31) 28 3 (.int .i64 0) 8 rfl Tryd.underlying28 info3 rfl (by decide) (by omega) u5 x5_1 t284 [.int .i64 t284] (fun _ => True) (fun _ => False) rfl rfl ?aP (fun _ hk => hk.elim) ?aF ?aO (Below.refl _ _) ?aS ?aL ?_; (case aP => exact rfl); (case aF => exact (fun _ _ => trivial)); (case aO => exact (Sw.rt HO_5.out)); (case aS => exact (keep_size (w := w) (g := g) (row := none) HK.out)); (case aL => have := LMc23.out; omega); intro v303 w25 ho hb hg hat; rw [← Ny302.out] at ho; replace HB := Aside0.mk (below_weaken HB.out HL.out hb); replace HI0 := Aside0.mk (IsS64.grown HI0.out hg (IsS64.own_ne HI0.out HO_5.out (by decide))); replace HK := Aside0.mk (KeepBut.trans HK.out (KeepBut.of_grown hg g) (Kd.R_base2 HO_5.out)); have HO304 := Aside0.mk (ho); clear HO_5; clear ho hb hg hat)); try go_wp2_with (first | (go_at_call 81; (with_reducible refine (spec_l1Cur_rune.calls g s0_0 x1001_1 x1002_1 t284 t285 t286 w0 _ ?side1 ?side2 A6.out).mono ?_); (case side1 => exact HI0.out); (case side2 => exact HB.out); rintro e w24 ⟨rfl, hi, hb, hk⟩; replace HO_5 := Aside0.mk (Kd.R_mono (Kd.R_keep (IsS64.apart (show IsS64 w0 _ g s0_0 x1001_1 x1002_1 from Zb50_0) (Sw.rt HO_5.out) (by decide)) hk (fun _ h => h.2)) (fun _ h => h.1)); replace HK := Aside0.mk (KeepBut.trans HK.out hk (.inl rfl)); replace HB := Aside0.mk (hb); replace HI0 := Aside0.mk (hi)) | ((with_reducible refine gate_builtin (b := .append) (xs := #[.tmp 29, .tmp 31]) rfl ?_); at_builtin; refine Kd.R_append (Kd.int .i64) w.heap.size rfl (.tmp 29) (.tmp 31) 28 3 (.int .i64 0) 8 rfl Tryd.underlying28 info3 rfl (by decide) (by omega) u5 x5_1 t284 [.int .i64 t284] (fun _ => True) (fun _ => False) rfl rfl ?aP (fun _ hk => hk.elim) ?aF ?aO (Below.refl _ _) ?aS ?aL ?_; (case aP => exact rfl); (case aF => exact (fun _ _ => trivial)); (case aO => exact (Sw.rt HO_5.out)); (case aS => exact (keep_size (w := w) (g := g) (row := none) HK.out)); (case aL => have := LMc23.out; omega); intro v303 w25 ho hb hg hat; rw [← Ny302.out] at ho; replace HB := Aside0.mk (below_weaken HB.out HL.out hb); replace HI0 := Aside0.mk (IsS64.grown HI0.out hg (IsS64.own_ne HI0.out HO_5.out (by decide))); replace HK := Aside0.mk (KeepBut.trans HK.out (KeepBut.of_grown hg g) (Kd.R_base2 HO_5.out)); have HO304 := Aside0.mk (ho); clear HO_5; clear ho hb hg hat)))
      go_roundg k1
      case measure => have := HK1.out; omega
      case rel => exact ⟨(y302), (wrap64 (x6_1 - 1)), (t285), (t286), Sw.r, H', ⟨by have := HK1.out; omega⟩, ⟨Sw.rt HO304.out⟩, ⟨HI0.out⟩, ⟨HK.out⟩, ⟨HB.out⟩⟩
     ·rw [if_neg c23] at H
      exact absurd H (by simp)
   ·rw [if_neg c5] at H
    have c5b0 : decide (0 < x6_1) = false := decide_eq_false c5
    clear c5
    replace H := Option.bind_eq_some_iff.mp H
    obtain ⟨⟨t305, t306, t307⟩, A260, H⟩ := H
    replace H : (if t305.toList = ([] : List UInt8) then (spec_l1Cur_coded.j1 k1 t305 true s0_0 x1001_1 x1002_1) else ((spec_l1Cur_one.f s0_0 x1001_1 x1002_1 4).bind fun bt308 => (spec_l1Cur_coded.j1 k1 t305 bt308.1 s0_0 bt308.2.1 bt308.2.2))) = some (r1, r2, r3) := H
    have A26 := Aside0.mk A260
    clear A260
    have HC27 := Aside0.mk H
    clear H
    obtain ⟨Ao28, co28, eo28⟩ := Kd.R_slice HO_5.out
    subst eo28
    go_upto_region 10 with (first | (go_at_call 39; (with_reducible refine (spec_EncodeAll.calls k1 a1 _ _ x5_1 t305 t306 t307 _ ?side1 ?side2 A26.out).mono ?_); (case side1 => repeat (first | exact (Kd.R_reads' HO_5.out).2.2 | (with_reducible refine Kd.C_alloc ?_ _) | (with_reducible refine Kd.C_drewN ?_ _) | (with_reducible refine Kd.C_drew ?_))); (case side2 => exact (Kd.R_reads' HO_5.out).2.1); rintro e w29 ⟨rfl, hb⟩; replace HO_5 := Aside0.mk (Kd.R_below (Sw.rt HO_5.out) hb); replace HK := Aside0.mk (KeepBut.trans HK.out (KeepBut.of_below hb g none) (.inl rfl)); replace HB := Aside0.mk (below_step HB.out hb); replace HI0 := Aside0.mk (IsS64.below HI0.out hb)))
    repeat (go_quiet (first | (go_at_call 39; (with_reducible refine (spec_EncodeAll.calls k1 a1 _ _ x5_1 t305 t306 t307 _ ?side1 ?side2 A26.out).mono ?_); (case side1 => repeat (first | exact (Kd.R_reads' HO_5.out).2.2 | (with_reducible refine Kd.C_alloc ?_ _) | (with_reducible refine Kd.C_drewN ?_ _) | (with_reducible refine Kd.C_drew ?_))); (case side2 => exact (Kd.R_reads' HO_5.out).2.1); rintro e w29 ⟨rfl, hb⟩; replace HO_5 := Aside0.mk (Kd.R_below (Sw.rt HO_5.out) hb); replace HK := Aside0.mk (KeepBut.trans HK.out (KeepBut.of_below hb g none) (.inl rfl)); replace HB := Aside0.mk (below_step HB.out hb); replace HI0 := Aside0.mk (IsS64.below HI0.out hb))); go_upto_region 10 with (first | (go_at_call 39; (with_reducible refine (spec_EncodeAll.calls k1 a1 _ _ x5_1 t305 t306 t307 _ ?side1 ?side2 A26.out).mono ?_); (case side1 => repeat (first | exact (Kd.R_reads' HO_5.out).2.2 | (with_reducible refine Kd.C_alloc ?_ _) | (with_reducible refine Kd.C_drewN ?_ _) | (with_reducible refine Kd.C_drew ?_))); (case side2 => exact (Kd.R_reads' HO_5.out).2.1); rintro e w29 ⟨rfl, hb⟩; replace HO_5 := Aside0.mk (Kd.R_below (Sw.rt HO_5.out) hb); replace HK := Aside0.mk (KeepBut.trans HK.out (KeepBut.of_below hb g none) (.inl rfl)); replace HB := Aside0.mk (below_step HB.out hb); replace HI0 := Aside0.mk (IsS64.below HI0.out hb))))
    (try simp only [Act.put, List.setIfInBounds_toArray, List.set_cons_zero, List.set_cons_succ])
    go_cut [45] (fun v45 wc => ∃ (kq : Nat) (x45_26 : Bool) (x1001_26 : Int) (x1002_26 : Int), v45 = .bool x45_26 ∧ Aside0 (spec_l1Cur_coded.j1 kq t305 x45_26 s0_0 x1001_26 x1002_26 = some (r1, r2, r3)) ∧ Aside0 (kq ≤ k1) ∧ Aside0 (IsS64 w0 wc g s0_0 x1001_26 x1002_26) ∧ Aside0 (KeepBut w wc g none) ∧ Aside0 (Below w0.heap.size w0 wc))
    case first =>
     have H := HC27.out
     clear HC27
     by_cases c30 : t305.toList = ([] : List UInt8)
     ·rw [if_pos c30] at H
      have c30b0 : (t305.toList == ([] : List UInt8)) = true := beq_iff_eq.mpr c30
      have c30b1 : (t305.toList != ([] : List UInt8)) = false := bne_eq_false_iff_eq.mpr c30
      clear c30
      (first | rw [c30b0] | (simp only [i64_w, i32_w]; rw [c30b0]) | skip)
      have H' := Aside0.mk H
      clear H
      go_wp2
      repeat (go_quiet (fail); try go_wp2)
      go_meet
      case rel => exact ⟨_, (true), (x1001_1), (x1002_1), Sw.r, H', ⟨by have := HK1.out; first | omega | exact Nat.le_refl _⟩, ⟨HI0.out⟩, ⟨HK.out⟩, ⟨HB.out⟩⟩
     ·rw [if_neg c30] at H
      have c30b0 : (t305.toList == ([] : List UInt8)) = false := beq_eq_false_iff_ne.mpr c30
      have c30b1 : (t305.toList != ([] : List UInt8)) = true := bne_iff_ne.mpr c30
      (first | rw [c30b0] | (simp only [i64_w, i32_w]; rw [c30b0]) | skip)
      replace H := Option.bind_eq_some_iff.mp H
      obtain ⟨⟨t308, t309, t310⟩, A310, H⟩ := H
      replace H : (spec_l1Cur_coded.j1 k1 t305 t308 s0_0 t309 t310) = some (r1, r2, r3) := H
      have A31 := Aside0.mk A310
      clear A310
      have H' := Aside0.mk H
      clear H
      go_wp2_with (first | (go_at_call 83; (with_reducible refine (spec_l1Cur_one.calls g s0_0 x1001_1 x1002_1 4 t308 t309 t310 w0 _ ?side1 ?side2 A31.out).mono ?_); (case side1 => exact HI0.out); (case side2 => exact HB.out); rintro e w32 ⟨rfl, hi, hb, hk⟩; replace HO_5 := Aside0.mk (Kd.R_mono (Kd.R_keep (IsS64.apart (show IsS64 w0 _ g s0_0 x1001_1 x1002_1 from Zb50_0) (Sw.rt HO_5.out) (by decide)) hk (fun _ h => h.2)) (fun _ h => h.1)); replace HK := Aside0.mk (KeepBut.trans HK.out hk (.inl rfl)); replace HB := Aside0.mk (hb); replace HI0 := Aside0.mk (hi)))
      repeat (go_quiet (first | (go_at_call 83; (with_reducible refine (spec_l1Cur_one.calls g s0_0 x1001_1 x1002_1 4 t308 t309 t310 w0 _ ?side1 ?side2 A31.out).mono ?_); (case side1 => exact HI0.out); (case side2 => exact HB.out); rintro e w32 ⟨rfl, hi, hb, hk⟩; replace HO_5 := Aside0.mk (Kd.R_mono (Kd.R_keep (IsS64.apart (show IsS64 w0 _ g s0_0 x1001_1 x1002_1 from Zb50_0) (Sw.rt HO_5.out) (by decide)) hk (fun _ h => h.2)) (fun _ h => h.1)); replace HK := Aside0.mk (KeepBut.trans HK.out hk (.inl rfl)); replace HB := Aside0.mk (hb); replace HI0 := Aside0.mk (hi))); try go_wp2_with (first | (go_at_call 83; (with_reducible refine (spec_l1Cur_one.calls g s0_0 x1001_1 x1002_1 4 t308 t309 t310 w0 _ ?side1 ?side2 A31.out).mono ?_); (case side1 => exact HI0.out); (case side2 => exact HB.out); rintro e w32 ⟨rfl, hi, hb, hk⟩; replace HO_5 := Aside0.mk (Kd.R_mono (Kd.R_keep (IsS64.apart (show IsS64 w0 _ g s0_0 x1001_1 x1002_1 from Zb50_0) (Sw.rt HO_5.out) (by decide)) hk (fun _ h => h.2)) (fun _ h => h.1)); replace HK := Aside0.mk (KeepBut.trans HK.out hk (.inl rfl)); replace HB := Aside0.mk (hb); replace HI0 := Aside0.mk (hi))))
      go_meet
      case rel => exact ⟨_, (t308), (t309), (t310), Sw.r, H', ⟨by have := HK1.out; first | omega | exact Nat.le_refl _⟩, ⟨HI0.out⟩, ⟨HK.out⟩, ⟨HB.out⟩⟩
    case rest =>
     clear HC27
     try clear c1
     try clear c2
     try clear p2
     try clear c3
     try clear c5
     try clear c5b0
     try clear p6
     try clear c7
     try clear c7b0
     try clear c9
     try clear c11
     try clear c19
     try clear c23
     try clear c30
     try clear c30b0
     try clear c30b1
     try clear p2
     obtain ⟨kq, x45_26, x1001_26, x1002_26, rfl, HA, HJ26, HI0, HK, HB⟩ := hcut
     cases kq with
     | zero => exact absurd HA.out (by simp [spec_l1Cur_coded.j1])
     | succ kj26 =>
      have H := HA.out
      clear HA
      simp only [spec_l1Cur_coded.j1] at H
      have HC33 := Aside0.mk H
      clear H
      go_upto_if 45 with (fail)
      repeat (go_quiet (fail); go_upto_if 45 with (fail))
      go_cut [8] (fun v8 wc => ∃ (kq : Nat) (x8_32 : ByteArray) (x1001_32 : Int) (x1002_32 : Int), v8 = .string x8_32 ∧ Aside0 (spec_l1Cur_coded.j2 kq x8_32 s0_0 x1001_32 x1002_32 = some (r1, r2, r3)) ∧ Aside0 (kq ≤ kj26) ∧ Aside0 (IsS64 w0 wc g s0_0 x1001_32 x1002_32) ∧ Aside0 (KeepBut w wc g none) ∧ Aside0 (Below w0.heap.size w0 wc))
      case first =>
       have H := HC33.out
       clear HC33
       by_cases c34 : x45_26 = true
       ·subst c34
        have H1 : ((spec_l1Cur_bytes.f kj26 s0_0 x1001_26 x1002_26).bind fun bt311 => (if t305.size + bt311.1.size ≤ 9223372036854775807 then (spec_l1Cur_coded.j2 kj26 (t305 ++ bt311.1) s0_0 bt311.2.1 bt311.2.2) else (none))) = some (r1, r2, r3) := by rw [if_pos rfl] at H; exact H
        clear H
        have H := H1
        clear H1
        replace H := Option.bind_eq_some_iff.mp H
        obtain ⟨⟨t311, t312, t313⟩, A350, H⟩ := H
        replace H : (if t305.size + t311.size ≤ 9223372036854775807 then (spec_l1Cur_coded.j2 kj26 (t305 ++ t311) s0_0 t312 t313) else (none)) = some (r1, r2, r3) := H
        have A35 := Aside0.mk A350
        clear A350
        by_cases c36 : t305.size + t311.size ≤ 9223372036854775807
        ·rw [if_pos c36] at H
         have c36b0 := eq_true c36
         have c36b1 : decide (t305.size + t311.size ≤ 9223372036854775807) = true := decide_eq_true c36
         try have c36b2 : (9223372036854775807 < t305.size + t311.size) = False := eq_false (Nat.not_lt.2 c36)
         have H' := Aside0.mk H
         clear H
         go_wp2_with (first | (go_at_call 75; (with_reducible refine (spec_l1Cur_bytes.calls kj26 g s0_0 x1001_26 x1002_26 t311 t312 t313 w0 _ ?side1 ?side2 A35.out).mono ?_); (case side1 => exact HI0.out); (case side2 => exact HB.out); rintro e w37 ⟨rfl, hi, hb, hk⟩; replace HK := Aside0.mk (KeepBut.trans HK.out hk (.inl rfl)); replace HB := Aside0.mk (hb); replace HI0 := Aside0.mk (hi)))
         repeat (go_quiet (first | (go_at_call 75; (with_reducible refine (spec_l1Cur_bytes.calls kj26 g s0_0 x1001_26 x1002_26 t311 t312 t313 w0 _ ?side1 ?side2 A35.out).mono ?_); (case side1 => exact HI0.out); (case side2 => exact HB.out); rintro e w37 ⟨rfl, hi, hb, hk⟩; replace HK := Aside0.mk (KeepBut.trans HK.out hk (.inl rfl)); replace HB := Aside0.mk (hb); replace HI0 := Aside0.mk (hi))); try go_wp2_with (first | (go_at_call 75; (with_reducible refine (spec_l1Cur_bytes.calls kj26 g s0_0 x1001_26 x1002_26 t311 t312 t313 w0 _ ?side1 ?side2 A35.out).mono ?_); (case side1 => exact HI0.out); (case side2 => exact HB.out); rintro e w37 ⟨rfl, hi, hb, hk⟩; replace HK := Aside0.mk (KeepBut.trans HK.out hk (.inl rfl)); replace HB := Aside0.mk (hb); replace HI0 := Aside0.mk (hi))))
         go_meet
         case rel => exact ⟨_, (t305 ++ t311), (t312), (t313), Sw.r, H', ⟨by have := HK1.out; have := HJ26.out; first | omega | exact Nat.le_refl _⟩, ⟨HI0.out⟩, ⟨HK.out⟩, ⟨HB.out⟩⟩
        ·rw [if_neg c36] at H
         exact absurd H (by simp)
       ·replace c34 := Bool.eq_false_iff.mpr c34
        subst c34
        have H1 : (spec_l1Cur_coded.j2 kj26 t305 s0_0 x1001_26 x1002_26) = some (r1, r2, r3) := by rw [if_neg (show ¬ (false = true) by decide)] at H; exact H
        clear H
        have H := H1
        clear H1
        have H' := Aside0.mk H
        clear H
        go_wp2
        repeat (go_quiet (fail); try go_wp2)
        go_meet
        case rel => exact ⟨_, (t305), (x1001_26), (x1002_26), Sw.r, H', ⟨by have := HK1.out; have := HJ26.out; first | omega | exact Nat.le_refl _⟩, ⟨HI0.out⟩, ⟨HK.out⟩, ⟨HB.out⟩⟩
      case rest =>
       clear HC33
       try clear c1
       try clear c2
       try clear p2
       try clear c3
       try clear c5
       try clear c5b0
       try clear p6
       try clear c7
       try clear c7b0
       try clear c9
       try clear c11
       try clear c19
       try clear c23
       try clear c30
       try clear c30b0
       try clear c30b1
       try clear c34
       try clear c36
       try clear c36b0
       try clear c36b1
       try clear c36b2
       try clear p2
       try clear p6
       obtain ⟨kq, x8_32, x1001_32, x1002_32, rfl, HA, HJ32, HI0, HK, HB⟩ := hcut
       cases kq with
       | zero => exact absurd HA.out (by simp [spec_l1Cur_coded.j2])
       | succ kj32 =>
        have H := HA.out
        clear HA
        simp only [spec_l1Cur_coded.j2] at H
        have HC38 := Aside0.mk H
        clear H
        go_upto_region 12 with (fail)
        repeat (go_quiet (fail); go_upto_region 12 with (fail))
        go_cut [56] (fun v56 wc => ∃ (kq : Nat) (x56_37 : Bool) (x1001_37 : Int) (x1002_37 : Int), v56 = .bool x56_37 ∧ Aside0 (spec_l1Cur_coded.j3 kq x8_32 x56_37 s0_0 x1001_37 x1002_37 = some (r1, r2, r3)) ∧ Aside0 (kq ≤ kj32) ∧ Aside0 (IsS64 w0 wc g s0_0 x1001_37 x1002_37) ∧ Aside0 (KeepBut w wc g none) ∧ Aside0 (Below w0.heap.size w0 wc))
        case first =>
         have H := HC38.out
         clear HC38
         by_cases c39 : (x8_32.size : Int) > 0
         ·rw [if_pos c39] at H
          have c39b0 : decide (0 < (x8_32.size : Int)) = true := decide_eq_true c39
          have c39b1 : decide (0 < x8_32.size) = true := decide_eq_true (by omega)
          clear c39
          (first | rw [c39b0] | (simp only [i64_w, i32_w]; rw [c39b0]) | skip)
          replace H := Option.bind_eq_some_iff.mp H
          obtain ⟨⟨t314, t315, t316⟩, A400, H⟩ := H
          replace H : (spec_l1Cur_coded.j3 kj32 x8_32 t314 s0_0 t315 t316) = some (r1, r2, r3) := H
          have A40 := Aside0.mk A400
          clear A400
          have H' := Aside0.mk H
          clear H
          go_wp2_with (first | (go_at_call 83; (with_reducible refine (spec_l1Cur_one.calls g s0_0 x1001_32 x1002_32 4 t314 t315 t316 w0 _ ?side1 ?side2 A40.out).mono ?_); (case side1 => exact HI0.out); (case side2 => exact HB.out); rintro e w41 ⟨rfl, hi, hb, hk⟩; replace HK := Aside0.mk (KeepBut.trans HK.out hk (.inl rfl)); replace HB := Aside0.mk (hb); replace HI0 := Aside0.mk (hi)))
          repeat (go_quiet (first | (go_at_call 83; (with_reducible refine (spec_l1Cur_one.calls g s0_0 x1001_32 x1002_32 4 t314 t315 t316 w0 _ ?side1 ?side2 A40.out).mono ?_); (case side1 => exact HI0.out); (case side2 => exact HB.out); rintro e w41 ⟨rfl, hi, hb, hk⟩; replace HK := Aside0.mk (KeepBut.trans HK.out hk (.inl rfl)); replace HB := Aside0.mk (hb); replace HI0 := Aside0.mk (hi))); try go_wp2_with (first | (go_at_call 83; (with_reducible refine (spec_l1Cur_one.calls g s0_0 x1001_32 x1002_32 4 t314 t315 t316 w0 _ ?side1 ?side2 A40.out).mono ?_); (case side1 => exact HI0.out); (case side2 => exact HB.out); rintro e w41 ⟨rfl, hi, hb, hk⟩; replace HK := Aside0.mk (KeepBut.trans HK.out hk (.inl rfl)); replace HB := Aside0.mk (hb); replace HI0 := Aside0.mk (hi))))
          go_meet
          case rel => exact ⟨_, (t314), (t315), (t316), Sw.r, H', ⟨Zb50_2⟩, ⟨HI0.out⟩, ⟨HK.out⟩, ⟨HB.out⟩⟩
         ·rw [if_neg c39] at H
          have c39b0 : decide (0 < (x8_32.size : Int)) = false := decide_eq_false c39
          have c39b1 : decide (0 < x8_32.size) = false := decide_eq_false (by omega)
          clear c39
          (first | rw [c39b0] | (simp only [i64_w, i32_w]; rw [c39b0]) | skip)
          have H' := Aside0.mk H
          clear H
          go_wp2
          repeat (go_quiet (fail); try go_wp2)
          go_meet
          case rel => exact ⟨_, (false), (x1001_32), (x1002_32), Sw.r, H', ⟨Zb50_2⟩, ⟨HI0.out⟩, ⟨HK.out⟩, ⟨HB.out⟩⟩
        case rest =>
         clear HC38
         try clear c1
         try clear c2
         try clear p2
         try clear c3
         try clear c5
         try clear c5b0
         try clear p6
         try clear c7
         try clear c7b0
         try clear c9
         try clear c11
         try clear c19
         try clear c23
         try clear c30
         try clear c30b0
         try clear c30b1
         try clear c34
         try clear c36
         try clear c36b0
         try clear c36b1
         try clear c36b2
         try clear c39
         try clear c39b0
         try clear c39b1
         try clear p2
         try clear p6
         obtain ⟨kq, x56_37, x1001_37, x1002_37, rfl, HA, HJ37, HI0, HK, HB⟩ := hcut
         cases kq with
         | zero => exact absurd HA.out (by simp [spec_l1Cur_coded.j3])
         | succ kj37 =>
          have H := HA.out
          clear HA
          simp only [spec_l1Cur_coded.j3] at H
          have HC42 := Aside0.mk H
          clear H
          go_upto_if 56 with (fail)
          repeat (go_quiet (fail); go_upto_if 56 with (fail))
          go_cut [8] (fun v8 wc => ∃ (kq : Nat) (x8_41 : ByteArray) (x1001_41 : Int) (x1002_41 : Int), v8 = .string x8_41 ∧ Aside0 (spec_l1Cur_coded.j4 kq x8_41 s0_0 x1001_41 x1002_41 = some (r1, r2, r3)) ∧ Aside0 (kq ≤ kj37) ∧ Aside0 (IsS64 w0 wc g s0_0 x1001_41 x1002_41) ∧ Aside0 (KeepBut w wc g none) ∧ Aside0 (Below w0.heap.size w0 wc))
          case first =>
           have H := HC42.out
           clear HC42
           by_cases c43 : x56_37 = true
           ·subst c43
            have H1 : ((spec_l1Cur_pick.f s0_0 x1001_37 x1002_37 (x8_32.size : Int)).bind fun bt317 => (if 0 ≤ bt317.1 then (if bt317.1 ≤ (x8_32.size : Int) then (if 0 ≤ (wrap64 (bt317.1 + 1)) then (if (wrap64 (bt317.1 + 1)) ≤ (x8_32.size : Int) then (if (x8_32.extract 0 (bt317.1 : Int).toNat).size + (x8_32.extract ((wrap64 (bt317.1 + 1)) : Int).toNat x8_32.size).size ≤ 9223372036854775807 then (spec_l1Cur_coded.j4 kj37 ((x8_32.extract 0 (bt317.1 : Int).toNat) ++ (x8_32.extract ((wrap64 (bt317.1 + 1)) : Int).toNat x8_32.size)) s0_0 bt317.2.1 bt317.2.2) else (none)) else (none)) else (none)) else (none)) else (none))) = some (r1, r2, r3) := by rw [if_pos rfl] at H; exact H
            clear H
            have H := H1
            clear H1
            replace H := Option.bind_eq_some_iff.mp H
            obtain ⟨⟨t317, t318, t319⟩, A440, H⟩ := H
            replace H : (if 0 ≤ t317 then (if t317 ≤ (x8_32.size : Int) then (if 0 ≤ (wrap64 (t317 + 1)) then (if (wrap64 (t317 + 1)) ≤ (x8_32.size : Int) then (if (x8_32.extract 0 (t317 : Int).toNat).size + (x8_32.extract ((wrap64 (t317 + 1)) : Int).toNat x8_32.size).size ≤ 9223372036854775807 then (spec_l1Cur_coded.j4 kj37 ((x8_32.extract 0 (t317 : Int).toNat) ++ (x8_32.extract ((wrap64 (t317 + 1)) : Int).toNat x8_32.size)) s0_0 t318 t319) else (none)) else (none)) else (none)) else (none)) else (none)) = some (r1, r2, r3) := H
            have A44 := Aside0.mk A440
            clear A440
            by_cases c45 : 0 ≤ t317
            ·rw [if_pos c45] at H
             have c45b0 := eq_true c45
             have c45b1 : decide (0 ≤ t317) = true := decide_eq_true c45
             clear c45
             by_cases c46 : t317 ≤ (x8_32.size : Int)
             ·rw [if_pos c46] at H
              have c46b0 := eq_true c46
              have c46b1 : decide (t317 ≤ (x8_32.size : Int)) = true := decide_eq_true c46
              clear c46
              obtain ⟨ji47, hji47⟩ : ∃ j_ : Int, (wrap64 (t317 + 1)) = j_ := ⟨_, rfl⟩
              replace H : (if 0 ≤ (ji47) then (if (ji47) ≤ (x8_32.size : Int) then (if (x8_32.extract 0 (t317 : Int).toNat).size + (x8_32.extract ((ji47) : Int).toNat x8_32.size).size ≤ 9223372036854775807 then (spec_l1Cur_coded.j4 kj37 ((x8_32.extract 0 (t317 : Int).toNat) ++ (x8_32.extract ((ji47) : Int).toNat x8_32.size)) s0_0 t318 t319) else (none)) else (none)) else (none)) = some (r1, r2, r3) := by first | (rw [hji47] at H; exact H) | (simp only [hji47] at H ⊢; exact H)
              (try rw [hji47] at A44)
              have hji47w : (IntKind.i64.wrap (t317 + 1)) = ji47 := (i64_w _).trans hji47
              by_cases c48 : 0 ≤ (ji47)
              ·rw [if_pos c48] at H
               have c48b0 := eq_true c48
               have c48b1 : decide (0 ≤ (ji47)) = true := decide_eq_true c48
               clear c48
               by_cases c49 : (ji47) ≤ (x8_32.size : Int)
               ·rw [if_pos c49] at H
                have c49b0 := eq_true c49
                have c49b1 : decide ((ji47) ≤ (x8_32.size : Int)) = true := decide_eq_true c49
                clear c49
                by_cases c50 : (x8_32.extract 0 (t317 : Int).toNat).size + (x8_32.extract ((ji47) : Int).toNat x8_32.size).size ≤ 9223372036854775807
                ·rw [if_pos c50] at H
                 have c50b0 := eq_true c50
                 have c50b1 : decide ((x8_32.extract 0 (t317 : Int).toNat).size + (x8_32.extract ((ji47) : Int).toNat x8_32.size).size ≤ 9223372036854775807) = true := decide_eq_true c50
                 try have c50b2 : (9223372036854775807 < (x8_32.extract 0 (t317 : Int).toNat).size + (x8_32.extract ((ji47) : Int).toNat x8_32.size).size) = False := eq_false (Nat.not_lt.2 c50)
                 try have c50b3 : (9223372036854775807 < t317.toNat + (x8_32.size - ji47.toNat)) = False := eq_false (by have h_ := c50; (try simp only [ByteArray.size_extract, ByteArray.size_append] at h_); have q_c46 := of_eq_true c46b0; omega)
                 have H' := Aside0.mk H
                 clear H
                 go_wp2_with (first | (go_at_call 82; (with_reducible refine (spec_l1Cur_pick.calls g s0_0 x1001_37 x1002_37 (x8_32.size : Int) t317 t318 t319 w0 _ ?side1 ?side2 A44.out).mono ?_); (case side1 => exact HI0.out); (case side2 => exact HB.out); rintro e w51 ⟨rfl, hi, hb, hk⟩; replace HK := Aside0.mk (KeepBut.trans HK.out hk (.inl rfl)); replace HB := Aside0.mk (hb); replace HI0 := Aside0.mk (hi)))
                 repeat (go_quiet (first | (go_at_call 82; (with_reducible refine (spec_l1Cur_pick.calls g s0_0 x1001_37 x1002_37 (x8_32.size : Int) t317 t318 t319 w0 _ ?side1 ?side2 A44.out).mono ?_); (case side1 => exact HI0.out); (case side2 => exact HB.out); rintro e w51 ⟨rfl, hi, hb, hk⟩; replace HK := Aside0.mk (KeepBut.trans HK.out hk (.inl rfl)); replace HB := Aside0.mk (hb); replace HI0 := Aside0.mk (hi))); try go_wp2_with (first | (go_at_call 82; (with_reducible refine (spec_l1Cur_pick.calls g s0_0 x1001_37 x1002_37 (x8_32.size : Int) t317 t318 t319 w0 _ ?side1 ?side2 A44.out).mono ?_); (case side1 => exact HI0.out); (case side2 => exact HB.out); rintro e w51 ⟨rfl, hi, hb, hk⟩; replace HK := Aside0.mk (KeepBut.trans HK.out hk (.inl rfl)); replace HB := Aside0.mk (hb); replace HI0 := Aside0.mk (hi))))
                 go_meet
                 case rel => exact ⟨_, ((x8_32.extract 0 (t317 : Int).toNat) ++ (x8_32.extract ((ji47) : Int).toNat x8_32.size)), (t318), (t319), (by first | rfl | (simp; done) | (simp only [← hji47] <;> (first | rfl | simp)) | (simp [*]; done)), H', ⟨Zb50_1⟩, ⟨Zb50_0⟩, ⟨by repeat (first | (with_reducible first | exact HK.out | apply KeepBut.set_ | apply keep_drewN | apply keep_drew | apply keep_alloc) | exact HK.out)⟩, ⟨by repeat (first | (with_reducible first | exact HB.out | apply below_alloc | apply pw_below_drewN | apply below_drew1 | refine below_set ?_ (IsS64.ge HI0.out)) | exact HB.out)⟩⟩
                ·rw [if_neg c50] at H
                 exact absurd H (by simp)
               ·rw [if_neg c49] at H
                exact absurd H (by simp)
              ·rw [if_neg c48] at H
               exact absurd H (by simp)
             ·rw [if_neg c46] at H
              exact absurd H (by simp)
            ·rw [if_neg c45] at H
             exact absurd H (by simp)
           ·replace c43 := Bool.eq_false_iff.mpr c43
            subst c43
            have H1 : (spec_l1Cur_coded.j4 kj37 x8_32 s0_0 x1001_37 x1002_37) = some (r1, r2, r3) := by rw [if_neg (show ¬ (false = true) by decide)] at H; exact H
            clear H
            have H := H1
            clear H1
            have H' := Aside0.mk H
            clear H
            go_wp2
            repeat (go_quiet (fail); try go_wp2)
            go_meet
            case rel => exact ⟨_, (x8_32), (x1001_37), (x1002_37), Sw.r, H', ⟨Zb50_1⟩, ⟨HI0.out⟩, ⟨HK.out⟩, ⟨HB.out⟩⟩
          case rest =>
           clear HC42
           try clear c1
           try clear c2
           try clear p2
           try clear c3
           try clear c4
           try clear c5
           try clear c5b0
           try clear p6
           try clear c7
           try clear c7b0
           try clear c9
           try clear c11
           try clear c19
           try clear c23
           try clear c30
           try clear c30b0
           try clear c30b1
           try clear c34
           try clear c36
           try clear c36b0
           try clear c36b1
           try clear c36b2
           try clear c39
           try clear c39b0
           try clear c39b1
           try clear c43
           try clear c45
           try clear c45b0
           try clear c45b1
           try clear c46
           try clear c46b0
           try clear c46b1
           try clear c48
           try clear c48b0
           try clear c48b1
           try clear c49
           try clear c49b0
           try clear c49b1
           try clear c50
           try clear c50b0
           try clear c50b1
           try clear c50b2
           try clear p2
           try clear p6
           obtain ⟨kq, x8_41, x1001_41, x1002_41, rfl, HA, HJ41, HI0, HK, HB⟩ := hcut
           cases kq with
           | zero => exact absurd HA.out (by simp [spec_l1Cur_coded.j4])
           | succ kj41 =>
            have H := HA.out
            clear HA
            simp only [spec_l1Cur_coded.j4] at H
            replace H := Option.bind_eq_some_iff.mp H
            obtain ⟨⟨t320, t321, t322⟩, A520, H⟩ := H
            replace H : (if t320 = true then ((spec_l1Cur_of.f s0_0 t321 t322 (([(⟨#[216, 61]⟩ : ByteArray), (⟨#[61, 216]⟩ : ByteArray), (⟨#[222, 0]⟩ : ByteArray), (⟨#[14]⟩ : ByteArray), (⟨#[15, 97]⟩ : ByteArray), (⟨#[255]⟩ : ByteArray)] : List ByteArray))).bind fun bt326 => (if x8_41.size + bt326.1.size ≤ 9223372036854775807 then (some (x8_41 ++ bt326.1, bt326.2.1, bt326.2.2)) else (none))) else (some (x8_41, t321, t322))) = some (r1, r2, r3) := H
            have A52 := Aside0.mk A520
            clear A520
            by_cases c53 : t320 = true
            ·subst c53
             have H1 : ((spec_l1Cur_of.f s0_0 t321 t322 (([(⟨#[216, 61]⟩ : ByteArray), (⟨#[61, 216]⟩ : ByteArray), (⟨#[222, 0]⟩ : ByteArray), (⟨#[14]⟩ : ByteArray), (⟨#[15, 97]⟩ : ByteArray), (⟨#[255]⟩ : ByteArray)] : List ByteArray))).bind fun bt326 => (if x8_41.size + bt326.1.size ≤ 9223372036854775807 then (some (x8_41 ++ bt326.1, bt326.2.1, bt326.2.2)) else (none))) = some (r1, r2, r3) := by rw [if_pos rfl] at H; exact H
             clear H
             have H := H1
             clear H1
             obtain ⟨y323, hy323⟩ : ∃ y_ : List ByteArray, y_ = (([(⟨#[216, 61]⟩ : ByteArray), (⟨#[61, 216]⟩ : ByteArray), (⟨#[222, 0]⟩ : ByteArray), (⟨#[14]⟩ : ByteArray), (⟨#[15, 97]⟩ : ByteArray), (⟨#[255]⟩ : ByteArray)] : List ByteArray)) := ⟨_, rfl⟩
             replace H : ((spec_l1Cur_of.f s0_0 t321 t322 y323).bind fun bt326 => (if x8_41.size + bt326.1.size ≤ 9223372036854775807 then (some (x8_41 ++ bt326.1, bt326.2.1, bt326.2.2)) else (none))) = some (r1, r2, r3) := by rw [hy323]; exact H
             have Ny323 := Aside0.mk hy323
             clear hy323
             replace H := Option.bind_eq_some_iff.mp H
             obtain ⟨⟨t326, t327, t328⟩, A540, H⟩ := H
             replace H : (if x8_41.size + t326.size ≤ 9223372036854775807 then (some (x8_41 ++ t326, t327, t328)) else (none)) = some (r1, r2, r3) := H
             have A54 := Aside0.mk A540
             clear A540
             by_cases c55 : x8_41.size + t326.size ≤ 9223372036854775807
             ·rw [if_pos c55] at H
              have c55b0 := eq_true c55
              have c55b1 : decide (x8_41.size + t326.size ≤ 9223372036854775807) = true := decide_eq_true c55
              try have c55b2 : (9223372036854775807 < x8_41.size + t326.size) = False := eq_false (Nat.not_lt.2 c55)
              simp only [Option.some.injEq, Prod.mk.injEq] at H
              obtain ⟨rfl, rfl, rfl⟩ := H
              go_wp2_with (first | (go_at_call 83; (with_reducible refine (spec_l1Cur_one.calls g s0_0 x1001_41 x1002_41 6 true t321 t322 w0 _ ?side1 ?side2 A52.out).mono ?_); (case side1 => exact HI0.out); (case side2 => exact HB.out); rintro e w56 ⟨rfl, hi, hb, hk⟩; replace HK := Aside0.mk (KeepBut.trans HK.out hk (.inl rfl)); replace HB := Aside0.mk (hb); replace HI0 := Aside0.mk (hi)) | ((with_reducible refine gate_dst (N := 73) rfl ?_); refine Kd.R_lit Kd.string _ 9 ?hg (N := 73) ?hd (xs := ([(⟨#[216, 61]⟩ : ByteArray), (⟨#[61, 216]⟩ : ByteArray), (⟨#[222, 0]⟩ : ByteArray), (⟨#[14]⟩ : ByteArray), (⟨#[15, 97]⟩ : ByteArray), (⟨#[255]⟩ : ByteArray)] : List ByteArray)) (inner := [.string (⟨#[216, 61]⟩ : ByteArray), .string (⟨#[61, 216]⟩ : ByteArray), .string (⟨#[222, 0]⟩ : ByteArray), .string (⟨#[14]⟩ : ByteArray), .string (⟨#[15, 97]⟩ : ByteArray), .string (⟨#[255]⟩ : ByteArray)]) (ok := fun _ => True) (okp := fun _ => True) ?hr ?hp (fun _ hk => hk) trivial (Below.refl _ _) (Nat.le_refl _) (by simp) ?_; (case hd => rfl); (case hg => rfl); (case hr => go_simp <;> rfl); (case hp => exact (Reps.one (show Kd.M Kd.string _ _ _ (⟨#[216, 61]⟩ : ByteArray) [.string (⟨#[216, 61]⟩ : ByteArray)] from rfl) (Reps.one (show Kd.M Kd.string _ _ _ (⟨#[61, 216]⟩ : ByteArray) [.string (⟨#[61, 216]⟩ : ByteArray)] from rfl) (Reps.one (show Kd.M Kd.string _ _ _ (⟨#[222, 0]⟩ : ByteArray) [.string (⟨#[222, 0]⟩ : ByteArray)] from rfl) (Reps.one (show Kd.M Kd.string _ _ _ (⟨#[14]⟩ : ByteArray) [.string (⟨#[14]⟩ : ByteArray)] from rfl) (Reps.one (show Kd.M Kd.string _ _ _ (⟨#[15, 97]⟩ : ByteArray) [.string (⟨#[15, 97]⟩ : ByteArray)] from rfl) (Reps.one (show Kd.M Kd.string _ _ _ (⟨#[255]⟩ : ByteArray) [.string (⟨#[255]⟩ : ByteArray)] from rfl) (Reps.none _ _)))))))); intro v324 w57 ho58 hb hg_ hnew_; clear hg_ hnew_; (first | rw [← Ny323.out] at ho58 | (simp only [Int.reduceToNat] at ho58; rw [← Ny323.out] at ho58)); have HO325 := Aside0.mk (Kd.R_lower ho58 (keep_size (w := w) (g := g) (row := none) HK.out)); replace HK := Aside0.mk (KeepBut.trans HK.out (KeepBut.of_below hb g none) (.inl rfl)); replace HB := Aside0.mk (below_step HB.out hb); replace HI0 := Aside0.mk (IsS64.below HI0.out hb); clear hb ho58; obtain ⟨Ao59, co59, eo59⟩ := Kd.R_slice HO325.out; subst eo59) | (go_at_call 84; (with_reducible refine (spec_l1Cur_of.calls g s0_0 t321 t322 _ _ y323 t326 t327 t328 w0 _ ?side1 ?side2 ?side3 ?side4 ?side5 A54.out).mono ?_); (case side1 => exact HI0.out); (case side2 => exact HB.out); (case side3 => repeat (first | exact (Kd.R_reads' HO325.out).2.2 | (with_reducible refine Kd.C_alloc ?_ _) | (with_reducible refine Kd.C_drewN ?_ _) | (with_reducible refine Kd.C_drew ?_))); (case side4 => exact (Kd.R_reads' HO325.out).2.1); (case side5 => exact far_slice (IsS64.own_ne HI0.out HO325.out (by decide))); rintro e w60 ⟨rfl, hi, hb, hk⟩; replace HO325 := Aside0.mk (Kd.R_mono (Kd.R_keep (IsS64.apart (show IsS64 w0 _ g s0_0 t321 t322 from Zb50_0) (Sw.rt HO325.out) (by decide)) hk (fun _ h => h.2)) (fun _ h => h.1)); replace HK := Aside0.mk (KeepBut.trans HK.out hk (.inl rfl)); replace HB := Aside0.mk (hb); replace HI0 := Aside0.mk (hi)))
              repeat (go_quiet (first | (go_at_call 83; (with_reducible refine (spec_l1Cur_one.calls g s0_0 x1001_41 x1002_41 6 true t321 t322 w0 _ ?side1 ?side2 A52.out).mono ?_); (case side1 => exact HI0.out); (case side2 => exact HB.out); rintro e w56 ⟨rfl, hi, hb, hk⟩; replace HK := Aside0.mk (KeepBut.trans HK.out hk (.inl rfl)); replace HB := Aside0.mk (hb); replace HI0 := Aside0.mk (hi)) | ((with_reducible refine gate_dst (N := 73) rfl ?_); refine Kd.R_lit Kd.string _ 9 ?hg (N := 73) ?hd (xs := ([(⟨#[216, 61]⟩ : ByteArray), (⟨#[61, 216]⟩ : ByteArray), (⟨#[222, 0]⟩ : ByteArray), (⟨#[14]⟩ : ByteArray), (⟨#[15, 97]⟩ : ByteArray), (⟨#[255]⟩ : ByteArray)] : List ByteArray)) (inner := [.string (⟨#[216, 61]⟩ : ByteArray), .string (⟨#[61, 216]⟩ : ByteArray), .string (⟨#[222, 0]⟩ : ByteArray), .string (⟨#[14]⟩ : ByteArray), .string (⟨#[15, 97]⟩ : ByteArray), .string (⟨#[255]⟩ : ByteArray)]) (ok := fun _ => True) (okp := fun _ => True) ?hr ?hp (fun _ hk => hk) trivial (Below.refl _ _) (Nat.le_refl _) (by simp) ?_; (case hd => rfl); (case hg => rfl); (case hr => go_simp <;> rfl); (case hp => exact (Reps.one (show Kd.M Kd.string _ _ _ (⟨#[216, 61]⟩ : ByteArray) [.string (⟨#[216, 61]⟩ : ByteArray)] from rfl) (Reps.one (show Kd.M Kd.string _ _ _ (⟨#[61, 216]⟩ : ByteArray) [.string (⟨#[61, 216]⟩ : ByteArray)] from rfl) (Reps.one (show Kd.M Kd.string _ _ _ (⟨#[222, 0]⟩ : ByteArray) [.string (⟨#[222, 0]⟩ : ByteArray)] from rfl) (Reps.one (show Kd.M Kd.string _ _ _ (⟨#[14]⟩ : ByteArray) [.string (⟨#[14]⟩ : ByteArray)] from rfl) (Reps.one (show Kd.M Kd.string _ _ _ (⟨#[15, 97]⟩ : ByteArray) [.string (⟨#[15, 97]⟩ : ByteArray)] from rfl) (Reps.one (show Kd.M Kd.string _ _ _ (⟨#[255]⟩ : ByteArray) [.string (⟨#[255]⟩ : ByteArray)] from rfl) (Reps.none _ _)))))))); intro v324 w57 ho58 hb hg_ hnew_; clear hg_ hnew_; (first | rw [← Ny323.out] at ho58 | (simp only [Int.reduceToNat] at ho58; rw [← Ny323.out] at ho58)); have HO325 := Aside0.mk (Kd.R_lower ho58 (keep_size (w := w) (g := g) (row := none) HK.out)); replace HK := Aside0.mk (KeepBut.trans HK.out (KeepBut.of_below hb g none) (.inl rfl)); replace HB := Aside0.mk (below_step HB.out hb); replace HI0 := Aside0.mk (IsS64.below HI0.out hb); clear hb ho58; obtain ⟨Ao59, co59, eo59⟩ := Kd.R_slice HO325.out; subst eo59) | (go_at_call 84; (with_reducible refine (spec_l1Cur_of.calls g s0_0 t321 t322 _ _ y323 t326 t327 t328 w0 _ ?side1 ?side2 ?side3 ?side4 ?side5 A54.out).mono ?_); (case side1 => exact HI0.out); (case side2 => exact HB.out); (case side3 => repeat (first | exact (Kd.R_reads' HO325.out).2.2 | (with_reducible refine Kd.C_alloc ?_ _) | (with_reducible refine Kd.C_drewN ?_ _) | (with_reducible refine Kd.C_drew ?_))); (case side4 => exact (Kd.R_reads' HO325.out).2.1); (case side5 => exact far_slice (IsS64.own_ne HI0.out HO325.out (by decide))); rintro e w60 ⟨rfl, hi, hb, hk⟩; replace HO325 := Aside0.mk (Kd.R_mono (Kd.R_keep (IsS64.apart (show IsS64 w0 _ g s0_0 t321 t322 from Zb50_0) (Sw.rt HO325.out) (by decide)) hk (fun _ h => h.2)) (fun _ h => h.1)); replace HK := Aside0.mk (KeepBut.trans HK.out hk (.inl rfl)); replace HB := Aside0.mk (hb); replace HI0 := Aside0.mk (hi))); try go_wp2_with (first | (go_at_call 83; (with_reducible refine (spec_l1Cur_one.calls g s0_0 x1001_41 x1002_41 6 true t321 t322 w0 _ ?side1 ?side2 A52.out).mono ?_); (case side1 => exact HI0.out); (case side2 => exact HB.out); rintro e w56 ⟨rfl, hi, hb, hk⟩; replace HK := Aside0.mk (KeepBut.trans HK.out hk (.inl rfl)); replace HB := Aside0.mk (hb); replace HI0 := Aside0.mk (hi)) | ((with_reducible refine gate_dst (N := 73) rfl ?_); refine Kd.R_lit Kd.string _ 9 ?hg (N := 73) ?hd (xs := ([(⟨#[216, 61]⟩ : ByteArray), (⟨#[61, 216]⟩ : ByteArray), (⟨#[222, 0]⟩ : ByteArray), (⟨#[14]⟩ : ByteArray), (⟨#[15, 97]⟩ : ByteArray), (⟨#[255]⟩ : ByteArray)] : List ByteArray)) (inner := [.string (⟨#[216, 61]⟩ : ByteArray), .string (⟨#[61, 216]⟩ : ByteArray), .string (⟨#[222, 0]⟩ : ByteArray), .string (⟨#[14]⟩ : ByteArray), .string (⟨#[15, 97]⟩ : ByteArray), .string (⟨#[255]⟩ : ByteArray)]) (ok := fun _ => True) (okp := fun _ => True) ?hr ?hp (fun _ hk => hk) trivial (Below.refl _ _) (Nat.le_refl _) (by simp) ?_; (case hd => rfl); (case hg => rfl); (case hr => go_simp <;> rfl); (case hp => exact (Reps.one (show Kd.M Kd.string _ _ _ (⟨#[216, 61]⟩ : ByteArray) [.string (⟨#[216, 61]⟩ : ByteArray)] from rfl) (Reps.one (show Kd.M Kd.string _ _ _ (⟨#[61, 216]⟩ : ByteArray) [.string (⟨#[61, 216]⟩ : ByteArray)] from rfl) (Reps.one (show Kd.M Kd.string _ _ _ (⟨#[222, 0]⟩ : ByteArray) [.string (⟨#[222, 0]⟩ : ByteArray)] from rfl) (Reps.one (show Kd.M Kd.string _ _ _ (⟨#[14]⟩ : ByteArray) [.string (⟨#[14]⟩ : ByteArray)] from rfl) (Reps.one (show Kd.M Kd.string _ _ _ (⟨#[15, 97]⟩ : ByteArray) [.string (⟨#[15, 97]⟩ : ByteArray)] from rfl) (Reps.one (show Kd.M Kd.string _ _ _ (⟨#[255]⟩ : ByteArray) [.string (⟨#[255]⟩ : ByteArray)] from rfl) (Reps.none _ _)))))))); intro v324 w57 ho58 hb hg_ hnew_; clear hg_ hnew_; (first | rw [← Ny323.out] at ho58 | (simp only [Int.reduceToNat] at ho58; rw [← Ny323.out] at ho58)); have HO325 := Aside0.mk (Kd.R_lower ho58 (keep_size (w := w) (g := g) (row := none) HK.out)); replace HK := Aside0.mk (KeepBut.trans HK.out (KeepBut.of_below hb g none) (.inl rfl)); replace HB := Aside0.mk (below_step HB.out hb); replace HI0 := Aside0.mk (IsS64.below HI0.out hb); clear hb ho58; obtain ⟨Ao59, co59, eo59⟩ := Kd.R_slice HO325.out; subst eo59) | (go_at_call 84; (with_reducible refine (spec_l1Cur_of.calls g s0_0 t321 t322 _ _ y323 t326 t327 t328 w0 _ ?side1 ?side2 ?side3 ?side4 ?side5 A54.out).mono ?_); (case side1 => exact HI0.out); (case side2 => exact HB.out); (case side3 => repeat (first | exact (Kd.R_reads' HO325.out).2.2 | (with_reducible refine Kd.C_alloc ?_ _) | (with_reducible refine Kd.C_drewN ?_ _) | (with_reducible refine Kd.C_drew ?_))); (case side4 => exact (Kd.R_reads' HO325.out).2.1); (case side5 => exact far_slice (IsS64.own_ne HI0.out HO325.out (by decide))); rintro e w60 ⟨rfl, hi, hb, hk⟩; replace HO325 := Aside0.mk (Kd.R_mono (Kd.R_keep (IsS64.apart (show IsS64 w0 _ g s0_0 t321 t322 from Zb50_0) (Sw.rt HO325.out) (by decide)) hk (fun _ h => h.2)) (fun _ h => h.1)); replace HK := Aside0.mk (KeepBut.trans HK.out hk (.inl rfl)); replace HB := Aside0.mk (hb); replace HI0 := Aside0.mk (hi))))
              go_ret
              exact ⟨Sw.e, HI0.out, HB.out, HK.out⟩
             ·rw [if_neg c55] at H
              exact absurd H (by simp)
            ·replace c53 := Bool.eq_false_iff.mpr c53
             subst c53
             have H1 : (some (x8_41, t321, t322)) = some (r1, r2, r3) := by rw [if_neg (show ¬ (false = true) by decide)] at H; exact H
             clear H
             have H := H1
             clear H1
             simp only [Option.some.injEq, Prod.mk.injEq] at H
             obtain ⟨rfl, rfl, rfl⟩ := H
             go_wp2_with (first | (go_at_call 83; (with_reducible refine (spec_l1Cur_one.calls g s0_0 x1001_41 x1002_41 6 false t321 t322 w0 _ ?side1 ?side2 A52.out).mono ?_); (case side1 => exact HI0.out); (case side2 => exact HB.out); rintro e w61 ⟨rfl, hi, hb, hk⟩; replace HK := Aside0.mk (KeepBut.trans HK.out hk (.inl rfl)); replace HB := Aside0.mk (hb); replace HI0 := Aside0.mk (hi)))
             repeat (go_quiet (first | (go_at_call 83; (with_reducible refine (spec_l1Cur_one.calls g s0_0 x1001_41 x1002_41 6 false t321 t322 w0 _ ?side1 ?side2 A52.out).mono ?_); (case side1 => exact HI0.out); (case side2 => exact HB.out); rintro e w61 ⟨rfl, hi, hb, hk⟩; replace HK := Aside0.mk (KeepBut.trans HK.out hk (.inl rfl)); replace HB := Aside0.mk (hb); replace HI0 := Aside0.mk (hi))); try go_wp2_with (first | (go_at_call 83; (with_reducible refine (spec_l1Cur_one.calls g s0_0 x1001_41 x1002_41 6 false t321 t322 w0 _ ?side1 ?side2 A52.out).mono ?_); (case side1 => exact HI0.out); (case side2 => exact HB.out); rintro e w61 ⟨rfl, hi, hb, hk⟩; replace HK := Aside0.mk (KeepBut.trans HK.out hk (.inl rfl)); replace HB := Aside0.mk (hb); replace HI0 := Aside0.mk (hi))))
             go_ret
             exact ⟨Sw.e, HI0.out, HB.out, HK.out⟩


end Go.Proofs.YtliafedmhgkciaaDoor.P
