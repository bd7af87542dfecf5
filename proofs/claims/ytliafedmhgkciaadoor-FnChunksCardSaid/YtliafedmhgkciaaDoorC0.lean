import Derived.Test.YtliafedmhgkciaaDoorCP0
namespace Go.Proofs.YtliafedmhgkciaaDoor.P
open Go.RowKit Go.Proofs.YtliafedmhgkciaaDoorW.PrintWords Go.Proofs.YtliafedmhgkciaaDoorW.PrintLast Go.Proofs.YtliafedmhgkciaaDoorW.PrintMore
attribute [local go_sem] max2_int min2_int max_two min_two max_three min_three max_four min_four   -- for this text's walks alone
set_option linter.unusedVariables false
set_option linter.unusedSimpArgs false

set_option maxHeartbeats 16000000
set_option maxRecDepth 1000000

theorem eqA25 (d : Nat) (w : World) (x0 y0 : Int) (x1 y1 : Int) (x2 y2 : Int) (x3 y3 : ByteArray) :
    (Op.equalIn (d + 2) 25 (.agg #[.int .i64 x0, .int .i64 x1, .int .i64 x2, .string x3]) (.agg #[.int .i64 y0, .int .i64 y1, .int .i64 y2, .string y3])).run Tryd.prog w = .ok (x0 == y0 && (x1 == y1 && (x2 == y2 && (x3.toList == y3.toList)))) w := by
  refine eqA_of Tryd.underlying25 (by kernel_rfl) ?_
  refine eqf_cons (by rfl) (by go_simp; rfl) (by go_simp; rfl) (by go_simp) ?_
  refine eqf_cons (by rfl) (by go_simp; rfl) (by go_simp; rfl) (by go_simp) ?_
  refine eqf_cons (by rfl) (by go_simp; rfl) (by go_simp; rfl) (by go_simp) ?_
  exact eqf_last (by rfl) (by go_simp; rfl) (by go_simp; rfl) (by go_simp)

def laws_big.f (l0 : List Int) (l1 : List Int) : Option (Bool) := if (l0.length : Int) > 1048576 then (some true) else (some (decide ((l1.length : Int) > (wrap64 (1048576 - (l0.length : Int))))))
theorem laws_big.calls (A0 : Option Addr) (c0 : Nat) (l0 : List Int) (A1 : Option Addr) (c1 : Nat) (l1 : List Int) (r : Bool) (w : World) (hr0 : Kd.C (Kd.int .u8) w A0 l0.length l0) (hc0 : l0.length ≤ c0) (hr1 : Kd.C (Kd.int .u8) w A1 l1.length l1) (hc1 : l1.length ≤ c1) (h : laws_big.f l0 l1 = some r) :
    Calls Tryd.prog 6 #[.slice A0 l0.length c0, .slice A1 l1.length c1] w fun e w' => e = .returned (.bool r) ∧ Drawn0 w w' := by
  have HR0 := Aside0.mk hr0
  have HC0 := Aside0.mk hc0
  clear hr0 hc0
  have HR1 := Aside0.mk hr1
  have HC1 := Aside0.mk hc1
  clear hr1 hc1
  have H : (if (l0.length : Int) > 1048576 then (some true) else (some (decide ((l1.length : Int) > (wrap64 (1048576 - (l0.length : Int))))))) = some r := h
  clear h
  by_cases c3 : (l0.length : Int) > 1048576
  · rw [if_pos c3] at H
    have c3b0 : decide (1048576 < (l0.length : Int)) = true := decide_eq_true c3
    have c3b1 : decide (1048576 < l0.length) = true := decide_eq_true (by omega)
    clear c3
    obtain rfl := Option.some.inj H
    go_enter Tryd.func6, Tryd.ntmps6
    go_wp2
    go_ret
    exact ⟨Sw.r, Sw.dr⟩
  · rw [if_neg c3] at H
    have c3b0 : decide (1048576 < (l0.length : Int)) = false := decide_eq_false c3
    have c3b1 : decide (1048576 < l0.length) = false := decide_eq_false (by omega)
    clear c3
    obtain rfl := Option.some.inj H
    go_enter Tryd.func6, Tryd.ntmps6
    go_wp2
    go_ret
    exact ⟨Sw.r, Sw.dr⟩

def spec_l1In.f (a0 : Int) (a1 : Int) (a2 : Int) : Option (Bool) := if a0 ≥ a1 then (some (decide (a0 ≤ a2))) else (some false)
theorem spec_l1In.calls (a0 : Int) (a1 : Int) (a2 : Int) (r : Bool) (w : World) (h : spec_l1In.f a0 a1 a2 = some r) :
    Calls Tryd.prog 60 #[.int .i64 a0, .int .i64 a1, .int .i64 a2] w fun e w' => e = .returned (.bool r) ∧ Drawn0 w w' := by
  have H : (if a0 ≥ a1 then (some (decide (a0 ≤ a2))) else (some false)) = some r := h
  clear h
  by_cases c4 : a0 ≥ a1
  · rw [if_pos c4] at H
    have c4b0 : decide (a1 ≤ a0) = true := decide_eq_true c4
    clear c4
    obtain rfl := Option.some.inj H
    go_enter Tryd.func60, Tryd.ntmps60
    go_wp2
    go_ret
    exact ⟨Sw.r, Sw.dr⟩
  · rw [if_neg c4] at H
    have c4b0 : decide (a1 ≤ a0) = false := decide_eq_false c4
    clear c4
    obtain rfl := Option.some.inj H
    go_enter Tryd.func60, Tryd.ntmps60
    go_wp2
    go_ret
    exact ⟨Sw.r, Sw.dr⟩

def spec_l2Code.f (a0 : Int) : Option (Bool) := (spec_l1In.f a0 1 5).bind fun t101 => (some t101)
theorem spec_l2Code.calls (a0 : Int) (r : Bool) (w : World) (h : spec_l2Code.f a0 = some r) :
    Calls Tryd.prog 59 #[.int .i64 a0] w fun e w' => e = .returned (.bool r) ∧ Drawn0 w w' := by
  have H : ((spec_l1In.f a0 1 5).bind fun t101 => (some t101)) = some r := h
  clear h
  replace H := Option.bind_eq_some_iff.mp H
  obtain ⟨t101, A20, H⟩ := H
  replace H : (some t101) = some r := H
  have A2 := Aside0.mk A20
  clear A20
  obtain rfl := Option.some.inj H
  go_enter Tryd.func59, Tryd.ntmps59
  go_wp2_with (first | ((with_reducible refine gate_callee (f := 60) rfl ?_); refine goesL_ (some 4) rfl rfl Tryd.func60 (by kernel_rfl) rfl #[.int .i64 a0, .int .i64 1, .int .i64 5] rfl (by (try simp only [List.map_toArray, List.map_cons, List.map_nil]); first | done | rfl | (simp only [List.length_drop, List.length_take]; rfl)) ?_; (with_reducible refine (spec_l1In.calls a0 1 5 t101 _ A2.out).mono ?_); rintro e w' ⟨rfl, ⟨nd, rfl⟩⟩; refine ⟨_, rfl, ?_⟩))
  go_ret
  exact ⟨Sw.r, Sw.dr⟩

theorem Zb22_0 {p : Prop} (h : p := by (try simp only [List.map_toArray, List.map_cons, List.map_nil]); first | done | rfl | (simp only [List.length_drop, List.length_take]; rfl)) : p := h
def spec_GoodRune.f (a0 : Int) : Option (Bool) := (spec_l1In.f a0 0 1114111).bind fun t102 => (if t102 = true then ((spec_l1In.f a0 55296 57343).bind fun t103 => (some (!t103))) else (some false))
theorem spec_GoodRune.calls (a0 : Int) (r : Bool) (w : World) (h : spec_GoodRune.f a0 = some r) :
    Calls Tryd.prog 22 #[.int .i64 a0] w fun e w' => e = .returned (.bool r) ∧ Drawn0 w w' := by
  have H : ((spec_l1In.f a0 0 1114111).bind fun t102 => (if t102 = true then ((spec_l1In.f a0 55296 57343).bind fun t103 => (some (!t103))) else (some false))) = some r := h
  clear h
  replace H := Option.bind_eq_some_iff.mp H
  obtain ⟨t102, A20, H⟩ := H
  replace H : (if t102 = true then ((spec_l1In.f a0 55296 57343).bind fun t103 => (some (!t103))) else (some false)) = some r := H
  have A2 := Aside0.mk A20
  clear A20
  by_cases c3 : t102 = true
  · subst c3
    have H1 : ((spec_l1In.f a0 55296 57343).bind fun t103 => (some (!t103))) = some r := by rw [if_pos rfl] at H; exact H
    clear H
    have H := H1
    clear H1
    replace H := Option.bind_eq_some_iff.mp H
    obtain ⟨t103, A40, H⟩ := H
    replace H : (some (!t103)) = some r := H
    have A4 := Aside0.mk A40
    clear A40
    obtain rfl := Option.some.inj H
    go_enter Tryd.func22, Tryd.ntmps22
    go_wp2_with (first | ((with_reducible refine gate_callee (f := 60) rfl ?_); refine goesL_ (some 4) rfl rfl Tryd.func60 (by kernel_rfl) rfl #[.int .i64 a0, .int .i64 0, .int .i64 1114111] rfl Zb22_0 ?_; (with_reducible refine (spec_l1In.calls a0 0 1114111 true _ A2.out).mono ?_); rintro e w' ⟨rfl, ⟨nd, rfl⟩⟩; refine ⟨_, rfl, ?_⟩) | (go_at_call 60; (with_reducible refine (spec_l1In.calls a0 55296 57343 t103 _ A4.out).mono ?_); rintro e w' ⟨rfl, ⟨nd, rfl⟩⟩))
    go_ret
    exact ⟨Sw.r, Sw.dr⟩
  · replace c3 := Bool.eq_false_iff.mpr c3
    subst c3
    have H1 : (some false) = some r := by rw [if_neg (show ¬ (false = true) by decide)] at H; exact H
    clear H
    have H := H1
    clear H1
    obtain rfl := Option.some.inj H
    go_enter Tryd.func22, Tryd.ntmps22
    go_wp2_with (first | ((with_reducible refine gate_callee (f := 60) rfl ?_); refine goesL_ (some 4) rfl rfl Tryd.func60 (by kernel_rfl) rfl #[.int .i64 a0, .int .i64 0, .int .i64 1114111] rfl Zb22_0 ?_; (with_reducible refine (spec_l1In.calls a0 0 1114111 false _ A2.out).mono ?_); rintro e w' ⟨rfl, ⟨nd, rfl⟩⟩; refine ⟨_, rfl, ?_⟩))
    go_ret
    exact ⟨Sw.r, Sw.dr⟩

def spec_l1Utf8.f (a0 : Int) : Option (ByteArray) := if a0 < 128 then (some (strOfNums (([(a0) % 256] : List Int)))) else (if a0 < 2048 then (some (strOfNums (([(wrap64 (192 + (wrap64 (Int.tdiv a0 64)))) % 256, (wrap64 (128 + (Int.tmod a0 64))) % 256] : List Int)))) else (if a0 < 65536 then (some (strOfNums (([(wrap64 (224 + (wrap64 (Int.tdiv a0 4096)))) % 256, (wrap64 (128 + (Int.tmod (wrap64 (Int.tdiv a0 64)) 64))) % 256, (wrap64 (128 + (Int.tmod a0 64))) % 256] : List Int)))) else (some (strOfNums (([(wrap64 (240 + (wrap64 (Int.tdiv a0 262144)))) % 256, (wrap64 (128 + (Int.tmod (wrap64 (Int.tdiv a0 4096)) 64))) % 256, (wrap64 (128 + (Int.tmod (wrap64 (Int.tdiv a0 64)) 64))) % 256, (wrap64 (128 + (Int.tmod a0 64))) % 256] : List Int))))))
theorem spec_l1Utf8.calls (a0 : Int) (r : ByteArray) (w : World) (h : spec_l1Utf8.f a0 = some r) :
  Calls Tryd.prog 70 #[.int .i64 a0] w fun e w' => e = .returned (.string r) ∧ Below w.heap.size w w' := by
 have HB := Aside0.mk (Below.refl w.heap.size w)
 have H : (if a0 < 128 then (some (strOfNums (([(a0) % 256] : List Int)))) else (if a0 < 2048 then (some (strOfNums (([(wrap64 (192 + (wrap64 (Int.tdiv a0 64)))) % 256, (wrap64 (128 + (Int.tmod a0 64))) % 256] : List Int)))) else (if a0 < 65536 then (some (strOfNums (([(wrap64 (224 + (wrap64 (Int.tdiv a0 4096)))) % 256, (wrap64 (128 + (Int.tmod (wrap64 (Int.tdiv a0 64)) 64))) % 256, (wrap64 (128 + (Int.tmod a0 64))) % 256] : List Int)))) else (some (strOfNums (([(wrap64 (240 + (wrap64 (Int.tdiv a0 262144)))) % 256, (wrap64 (128 + (Int.tmod (wrap64 (Int.tdiv a0 4096)) 64))) % 256, (wrap64 (128 + (Int.tmod (wrap64 (Int.tdiv a0 64)) 64))) % 256, (wrap64 (128 + (Int.tmod a0 64))) % 256] : List Int))))))) = some r := h
 clear h
 by_cases c2 : a0 < 128
 ·rw [if_pos c2] at H
  have c2b0 : decide (a0 < 128) = true := decide_eq_true c2
  clear c2
  obtain ⟨y104, hy104⟩ : ∃ y_ : List Int, y_ = (([(a0) % 256] : List Int)) := ⟨_, rfl⟩
  replace H : (some (strOfNums y104)) = some r := by rw [hy104]; exact H
  have Ny104 := Aside0.mk hy104
  clear hy104
  obtain rfl := Option.some.inj H
  go_enter Tryd.func70, Tryd.ntmps70
  go_wp2_with (first | ((with_reducible refine gate_dst (N := 8) rfl ?_); refine Kd.R_lit (Kd.int .u8) _ 5 ?hg (N := 8) ?hd (xs := ([(a0) % 256] : List Int)) (inner := [.int .u8 ((a0) % 256)]) (ok := fun _ => True) (okp := fun _ => True) ?hr ?hp (fun _ hk => hk) trivial (Below.refl _ _) (Nat.le_refl _) (by simp) ?_; (case hd => rfl); (case hg => rfl); (case hr => go_simp <;> rfl); (case hp => exact (Reps.one (show Kd.M (Kd.int .u8) _ _ _ ((a0) % 256) [.int .u8 ((a0) % 256)] from rfl) (Reps.none _ _))); intro v105 w3 ho4 hb hg_ hnew_; clear hg_ hnew_; (first | rw [← Ny104.out] at ho4 | (simp only [Int.reduceToNat] at ho4; rw [← Ny104.out] at ho4)); have HO106 := Aside0.mk (Kd.R_lower ho4 (below_size Sw.hb)); replace HB := Aside0.mk (below_step Sw.hb hb); clear hb ho4; have hcv5 := own_string (P := Tryd.prog) Tryd.underlying22 Tryd.underlying5 Tryd.underlying9 (Kd.own_of_R HO106.out)))
  go_ret
  exact ⟨Sw.e, HB.out⟩
 ·rw [if_neg c2] at H
  have c2b0 : decide (a0 < 128) = false := decide_eq_false c2
  clear c2
  by_cases c6 : a0 < 2048
  ·rw [if_pos c6] at H
   have c6b0 : decide (a0 < 2048) = true := decide_eq_true c6
   clear c6
   obtain ⟨y107, hy107⟩ : ∃ y_ : List Int, y_ = (([(wrap64 (192 + (wrap64 (Int.tdiv a0 64)))) % 256, (wrap64 (128 + (Int.tmod a0 64))) % 256] : List Int)) := ⟨_, rfl⟩
   replace H : (some (strOfNums y107)) = some r := by rw [hy107]; exact H
   have Ny107 := Aside0.mk hy107
   clear hy107
   obtain rfl := Option.some.inj H
   go_enter Tryd.func70, Tryd.ntmps70
   go_wp2_with (first | ((with_reducible refine gate_dst (N := 21) rfl ?_); refine Kd.R_lit (Kd.int .u8) _ 5 ?hg (N := 21) ?hd (xs := ([(wrap64 (192 + (wrap64 (Int.tdiv a0 64)))) % 256, (wrap64 (128 + (Int.tmod a0 64))) % 256] : List Int)) (inner := [.int .u8 ((wrap64 (192 + (wrap64 (Int.tdiv a0 64)))) % 256), .int .u8 ((wrap64 (128 + (Int.tmod a0 64))) % 256)]) (ok := fun _ => True) (okp := fun _ => True) ?hr ?hp (fun _ hk => hk) trivial (Below.refl _ _) (Nat.le_refl _) (by simp) ?_; (case hd => rfl); (case hg => rfl); (case hr => go_simp <;> rfl); (case hp => exact (Reps.one (show Kd.M (Kd.int .u8) _ _ _ ((wrap64 (192 + (wrap64 (Int.tdiv a0 64)))) % 256) [.int .u8 ((wrap64 (192 + (wrap64 (Int.tdiv a0 64)))) % 256)] from rfl) (Reps.one (show Kd.M (Kd.int .u8) _ _ _ ((wrap64 (128 + (Int.tmod a0 64))) % 256) [.int .u8 ((wrap64 (128 + (Int.tmod a0 64))) % 256)] from rfl) (Reps.none _ _)))); intro v108 w7 ho8 hb hg_ hnew_; clear hg_ hnew_; (first | rw [← Ny107.out] at ho8 | (simp only [Int.reduceToNat] at ho8; rw [← Ny107.out] at ho8)); have HO109 := Aside0.mk (Kd.R_lower ho8 (below_size Sw.hb)); replace HB := Aside0.mk (below_step Sw.hb hb); clear hb ho8; have hcv9 := own_string (P := Tryd.prog) Tryd.underlying22 Tryd.underlying5 Tryd.underlying9 (Kd.own_of_R HO109.out)))
   go_ret
   exact ⟨Sw.e, HB.out⟩
  ·rw [if_neg c6] at H
   have c6b0 : decide (a0 < 2048) = false := decide_eq_false c6
   clear c6
   by_cases c10 : a0 < 65536
   ·rw [if_pos c10] at H
    have c10b0 : decide (a0 < 65536) = true := decide_eq_true c10
    clear c10
    obtain ⟨y110, hy110⟩ : ∃ y_ : List Int, y_ = (([(wrap64 (224 + (wrap64 (Int.tdiv a0 4096)))) % 256, (wrap64 (128 + (Int.tmod (wrap64 (Int.tdiv a0 64)) 64))) % 256, (wrap64 (128 + (Int.tmod a0 64))) % 256] : List Int)) := ⟨_, rfl⟩
    replace H : (some (strOfNums y110)) = some r := by rw [hy110]; exact H
    have Ny110 := Aside0.mk hy110
    clear hy110
    obtain rfl := Option.some.inj H
    go_enter Tryd.func70, Tryd.ntmps70
    go_wp2_with (first | ((with_reducible refine gate_dst (N := 39) rfl ?_); refine Kd.R_lit (Kd.int .u8) _ 5 ?hg (N := 39) ?hd (xs := ([(wrap64 (224 + (wrap64 (Int.tdiv a0 4096)))) % 256, (wrap64 (128 + (Int.tmod (wrap64 (Int.tdiv a0 64)) 64))) % 256, (wrap64 (128 + (Int.tmod a0 64))) % 256] : List Int)) (inner := [.int .u8 ((wrap64 (224 + (wrap64 (Int.tdiv a0 4096)))) % 256), .int .u8 ((wrap64 (128 + (Int.tmod (wrap64 (Int.tdiv a0 64)) 64))) % 256), .int .u8 ((wrap64 (128 + (Int.tmod a0 64))) % 256)]) (ok := fun _ => True) (okp := fun _ => True) ?hr ?hp (fun _ hk => hk) trivial (Below.refl _ _) (Nat.le_refl _) (by simp) ?_; (case hd => rfl); (case hg => rfl); (case hr => go_simp <;> rfl); (case hp => exact (Reps.one (show Kd.M (Kd.int .u8) _ _ _ ((wrap64 (224 + (wrap64 (Int.tdiv a0 4096)))) % 256) [.int .u8 ((wrap64 (224 + (wrap64 (Int.tdiv a0 4096)))) % 256)] from rfl) (Reps.one (show Kd.M (Kd.int .u8) _ _ _ ((wrap64 (128 + (Int.tmod (wrap64 (Int.tdiv a0 64)) 64))) % 256) [.int .u8 ((wrap64 (128 + (Int.tmod (wrap64 (Int.tdiv a0 64)) 64))) % 256)] from rfl) (Reps.one (show Kd.M (Kd.int .u8) _ _ _ ((wrap64 (128 + (Int.tmod a0 64))) % 256) [.int .u8 ((wrap64 (128 + (Int.tmod a0 64))) % 256)] from rfl) (Reps.none _ _))))); intro v111 w11 ho12 hb hg_ hnew_; clear hg_ hnew_; (first | rw [← Ny110.out] at ho12 | (simp only [Int.reduceToNat] at ho12; rw [← Ny110.out] at ho12)); have HO112 := Aside0.mk (Kd.R_lower ho12 (below_size Sw.hb)); replace HB := Aside0.mk (below_step Sw.hb hb); clear hb ho12; have hcv13 := own_string (P := Tryd.prog) Tryd.underlying22 Tryd.underlying5 Tryd.underlying9 (Kd.own_of_R HO112.out)))
    go_ret
    exact ⟨Sw.e, HB.out⟩
   ·rw [if_neg c10] at H
    have c10b0 : decide (a0 < 65536) = false := decide_eq_false c10
    clear c10
    obtain ⟨y113, hy113⟩ : ∃ y_ : List Int, y_ = (([(wrap64 (240 + (wrap64 (Int.tdiv a0 262144)))) % 256, (wrap64 (128 + (Int.tmod (wrap64 (Int.tdiv a0 4096)) 64))) % 256, (wrap64 (128 + (Int.tmod (wrap64 (Int.tdiv a0 64)) 64))) % 256, (wrap64 (128 + (Int.tmod a0 64))) % 256] : List Int)) := ⟨_, rfl⟩
    replace H : (some (strOfNums y113)) = some r := by rw [hy113]; exact H
    have Ny113 := Aside0.mk hy113
    clear hy113
    obtain rfl := Option.some.inj H
    go_enter Tryd.func70, Tryd.ntmps70
    go_wp2_with (first | ((with_reducible refine gate_dst (N := 59) rfl ?_); refine Kd.R_lit (Kd.int .u8) _ 5 ?hg (N := 59) ?hd (xs := ([(wrap64 (240 + (wrap64 (Int.tdiv a0 262144)))) % 256, (wrap64 (128 + (Int.tmod (wrap64 (Int.tdiv a0 4096)) 64))) % 256, (wrap64 (128 + (Int.tmod (wrap64 (Int.tdiv a0 64)) 64))) % 256, (wrap64 (128 + (Int.tmod a0 64))) % 256] : List Int)) (inner := [.int .u8 ((wrap64 (240 + (wrap64 (Int.tdiv a0 262144)))) % 256), .int .u8 ((wrap64 (128 + (Int.tmod (wrap64 (Int.tdiv a0 4096)) 64))) % 256), .int .u8 ((wrap64 (128 + (Int.tmod (wrap64 (Int.tdiv a0 64)) 64))) % 256), .int .u8 ((wrap64 (128 + (Int.tmod a0 64))) % 256)]) (ok := fun _ => True) (okp := fun _ => True) ?hr ?hp (fun _ hk => hk) trivial (Below.refl _ _) (Nat.le_refl _) (by simp) ?_; (case hd => rfl); (case hg => rfl); (case hr => go_simp <;> rfl); (case hp => exact (Reps.one (show Kd.M (Kd.int .u8) _ _ _ ((wrap64 (240 + (wrap64 (Int.tdiv a0 262144)))) % 256) [.int .u8 ((wrap64 (240 + (wrap64 (Int.tdiv a0 262144)))) % 256)] from rfl) (Reps.one (show Kd.M (Kd.int .u8) _ _ _ ((wrap64 (128 + (Int.tmod (wrap64 (Int.tdiv a0 4096)) 64))) % 256) [.int .u8 ((wrap64 (128 + (Int.tmod (wrap64 (Int.tdiv a0 4096)) 64))) % 256)] from rfl) (Reps.one (show Kd.M (Kd.int .u8) _ _ _ ((wrap64 (128 + (Int.tmod (wrap64 (Int.tdiv a0 64)) 64))) % 256) [.int .u8 ((wrap64 (128 + (Int.tmod (wrap64 (Int.tdiv a0 64)) 64))) % 256)] from rfl) (Reps.one (show Kd.M (Kd.int .u8) _ _ _ ((wrap64 (128 + (Int.tmod a0 64))) % 256) [.int .u8 ((wrap64 (128 + (Int.tmod a0 64))) % 256)] from rfl) (Reps.none _ _)))))); intro v114 w14 ho15 hb hg_ hnew_; clear hg_ hnew_; (first | rw [← Ny113.out] at ho15 | (simp only [Int.reduceToNat] at ho15; rw [← Ny113.out] at ho15)); have HO115 := Aside0.mk (Kd.R_lower ho15 (below_size Sw.hb)); replace HB := Aside0.mk (below_step Sw.hb hb); clear hb ho15; have hcv16 := own_string (P := Tryd.prog) Tryd.underlying22 Tryd.underlying5 Tryd.underlying9 (Kd.own_of_R HO115.out)))
    go_ret
    exact ⟨Sw.e, HB.out⟩

def spec_l1Long.f (a0 : Int) : Option (Int) := if a0 < 128 then (some 1) else (if a0 < 192 then (some 0) else (if a0 < 224 then (some 2) else (if a0 < 240 then (some 3) else (if a0 < 248 then (some 4) else (some 0)))))
theorem spec_l1Long.calls (a0 : Int) (r : Int) (w : World) (h : spec_l1Long.f a0 = some r) :
    Calls Tryd.prog 98 #[.int .u8 a0] w fun e w' => e = .returned (.int .i64 r) ∧ Drawn0 w w' := by
  have H : (if a0 < 128 then (some 1) else (if a0 < 192 then (some 0) else (if a0 < 224 then (some 2) else (if a0 < 240 then (some 3) else (if a0 < 248 then (some 4) else (some 0)))))) = some r := h
  clear h
  by_cases c2 : a0 < 128
  · rw [if_pos c2] at H
    have c2b0 : decide (a0 < 128) = true := decide_eq_true c2
    clear c2
    obtain rfl := Option.some.inj H
    go_enter Tryd.func98, Tryd.ntmps98
    go_wp2
    go_ret
    exact ⟨Sw.r, Sw.dr⟩
  · rw [if_neg c2] at H
    have c2b0 : decide (a0 < 128) = false := decide_eq_false c2
    clear c2
    by_cases c3 : a0 < 192
    · rw [if_pos c3] at H
      have c3b0 : decide (a0 < 192) = true := decide_eq_true c3
      clear c3
      obtain rfl := Option.some.inj H
      go_enter Tryd.func98, Tryd.ntmps98
      go_wp2
      go_ret
      exact ⟨Sw.r, Sw.dr⟩
    · rw [if_neg c3] at H
      have c3b0 : decide (a0 < 192) = false := decide_eq_false c3
      clear c3
      by_cases c4 : a0 < 224
      · rw [if_pos c4] at H
        have c4b0 : decide (a0 < 224) = true := decide_eq_true c4
        clear c4
        obtain rfl := Option.some.inj H
        go_enter Tryd.func98, Tryd.ntmps98
        go_wp2
        go_ret
        exact ⟨Sw.r, Sw.dr⟩
      · rw [if_neg c4] at H
        have c4b0 : decide (a0 < 224) = false := decide_eq_false c4
        clear c4
        by_cases c5 : a0 < 240
        · rw [if_pos c5] at H
          have c5b0 : decide (a0 < 240) = true := decide_eq_true c5
          clear c5
          obtain rfl := Option.some.inj H
          go_enter Tryd.func98, Tryd.ntmps98
          go_wp2
          go_ret
          exact ⟨Sw.r, Sw.dr⟩
        · rw [if_neg c5] at H
          have c5b0 : decide (a0 < 240) = false := decide_eq_false c5
          clear c5
          by_cases c6 : a0 < 248
          · rw [if_pos c6] at H
            have c6b0 : decide (a0 < 248) = true := decide_eq_true c6
            clear c6
            obtain rfl := Option.some.inj H
            go_enter Tryd.func98, Tryd.ntmps98
            go_wp2
            go_ret
            exact ⟨Sw.r, Sw.dr⟩
          · rw [if_neg c6] at H
            have c6b0 : decide (a0 < 248) = false := decide_eq_false c6
            clear c6
            obtain rfl := Option.some.inj H
            go_enter Tryd.func98, Tryd.ntmps98
            go_wp2
            go_ret
            exact ⟨Sw.r, Sw.dr⟩

theorem Zb85_0 {p : Prop} (h : p := by simp only [List.map_toArray, List.map_cons, List.map_nil] <;> rfl) : p := h
mutual
def spec_l1At.j0 : Nat → ByteArray → Int → Int → Bool → Option (Int × Int)
 | 0, _, _, _, _ => none
 | k + 1, x0, x1, x6, x22 => if x22 = true then (some (65533, 1)) else (if 0 ≤ x1 then (if x1 < (x0.size : Int) then (if x6 > 1 then (if 0 ≤ (IntKind.u64.wrap (wrap64 (7 - x6))) then (if (shl .i64 1 (IntKind.u64.wrap (wrap64 (7 - x6)))) = 0 then (none) else (spec_l1At.j1 k x0 x1 x6 (Int.tmod (wrap64 (bt x0 x1)) (shl .i64 1 (IntKind.u64.wrap (wrap64 (7 - x6))))))) else (none)) else (spec_l1At.j1 k x0 x1 x6 (wrap64 (bt x0 x1)))) else (none)) else (none))
def spec_l1At.j1 : Nat → ByteArray → Int → Int → Int → Option (Int × Int)
 | 0, _, _, _, _ => none
 | k + 1, x0, x1, x6, x7 => spec_l1At.l0 k x0 x1 x6 x7 1
def spec_l1At.l0 : Nat → ByteArray → Int → Int → Int → Int → Option (Int × Int)
 | 0, _, _, _, _, _ => none
 | k + 1, x0, x1, x6, x7, x8 => if x8 < x6 then (if 0 ≤ (wrap64 (x1 + x8)) then (if (wrap64 (x1 + x8)) < (x0.size : Int) then (spec_l1At.l0 k x0 x1 x6 (wrap64 ((wrap64 (x7 * 64)) + (Int.tmod (wrap64 (bt x0 (wrap64 (x1 + x8)))) 64))) (wrap64 (x8 + 1))) else (none)) else (none)) else ((spec_GoodRune.f x7).bind fun t117 => (if t117 = true then ((spec_l1Utf8.f x7).bind fun t118 => (if 0 ≤ x1 then (if x1 ≤ (wrap64 (x1 + x6)) then (if (wrap64 (x1 + x6)) ≤ (x0.size : Int) then (if t118.toList = (x0.extract (x1 : Int).toNat ((wrap64 (x1 + x6)) : Int).toNat).toList then (some (x7, x6)) else (some (65533, 1))) else (none)) else (none)) else (none))) else (some (65533, 1))))
end
def spec_l1At.f (k : Nat) (a0 : ByteArray) (a1 : Int) : Option (Int × Int) := if 0 ≤ a1 then (if a1 < (a0.size : Int) then ((spec_l1Long.f (bt a0 a1)).bind fun t116 => (if t116 = 0 then (spec_l1At.j0 k a0 a1 t116 true) else (spec_l1At.j0 k a0 a1 t116 (decide ((wrap64 (a1 + t116)) > (a0.size : Int)))))) else (none)) else (none)
theorem spec_l1At.mono_l : ∀ k, (∀ y0 y1 y2 y3, LeO (spec_l1At.j0 k y0 y1 y2 y3) (spec_l1At.j0 (k + 1) y0 y1 y2 y3)) ∧ (∀ y0 y1 y2 y3, LeO (spec_l1At.j1 k y0 y1 y2 y3) (spec_l1At.j1 (k + 1) y0 y1 y2 y3)) ∧ (∀ y0 y1 y2 y3 y4, LeO (spec_l1At.l0 k y0 y1 y2 y3 y4) (spec_l1At.l0 (k + 1) y0 y1 y2 y3 y4))
 | 0 => ⟨fun _ _ _ _ r h => by simp [spec_l1At.j0] at h, fun _ _ _ _ r h => by simp [spec_l1At.j1] at h, fun _ _ _ _ _ r h => by simp [spec_l1At.l0] at h⟩
 | k + 1 => by
  obtain ⟨ih0, ih1, ih2⟩ := spec_l1At.mono_l k
  refine ⟨?_, ?_, ?_⟩
  ·intro y0 y1 y2 y3
   unfold spec_l1At.j0
   with_reducible repeat' first | exact ih0 _ _ _ _ | exact ih1 _ _ _ _ | exact ih2 _ _ _ _ _ | exact LeO.refl _ | exact LeO.none _ | refine LeO.ite ?_ ?_ | refine LeO.bind ?_ (fun _ => ?_)
  ·intro y0 y1 y2 y3
   unfold spec_l1At.j1
   with_reducible repeat' first | exact ih0 _ _ _ _ | exact ih1 _ _ _ _ | exact ih2 _ _ _ _ _ | exact LeO.refl _ | exact LeO.none _ | refine LeO.ite ?_ ?_ | refine LeO.bind ?_ (fun _ => ?_)
  ·intro y0 y1 y2 y3 y4
   unfold spec_l1At.l0
   with_reducible repeat' first | exact ih0 _ _ _ _ | exact ih1 _ _ _ _ | exact ih2 _ _ _ _ _ | exact LeO.refl _ | exact LeO.none _ | refine LeO.ite ?_ ?_ | refine LeO.bind ?_ (fun _ => ?_)
theorem spec_l1At.mono : ∀ a0 a1 k, LeO (spec_l1At.f k a0 a1) (spec_l1At.f (k + 1) a0 a1) := by
 intro a0 a1 k
 obtain ⟨ih0, ih1, ih2⟩ := spec_l1At.mono_l k
 unfold spec_l1At.f
 with_reducible repeat' first | exact ih0 _ _ _ _ | exact ih1 _ _ _ _ | exact ih2 _ _ _ _ _ | exact LeO.refl _ | exact LeO.none _ | refine LeO.ite ?_ ?_ | refine LeO.bind ?_ (fun _ => ?_)
def spec_l1At.T11 : Bool × List (List Nat × List Nat) := (true, [([], []), ([0], [0]), ([1], [1]), ([2, 1], [2]), ([3], [3]), ([4, 3, 3], [3, 4]), ([3], [3]), ([3], [3]), ([3], [3]), ([3], [3]), ([8, 9, 3], [3, 8, 9]), ([6, 7, 10, 3], [3, 6, 7, 10]), ([5, 11, 3], [3, 5, 11]), ([3, 12], [3, 12])])
def spec_l1At.B11 : List Nat := [0, 1, 3, 7, 15, 31, 15, 15, 15, 15, 783, 1999, 4095, 8191]
theorem spec_l1At.tab11 : rtab .any (opsOf Tryd.f85 11) = spec_l1At.T11 := by kernel_rfl
theorem spec_l1At.bits11 : waitsOk spec_l1At.T11.2 spec_l1At.B11 = true := by kernel_rfl
theorem spec_l1At.calls (k : Nat) (a0 : ByteArray) (a1 : Int) (r1 : Int) (r2 : Int) (w : World) (h : spec_l1At.f k a0 a1 = some (r1, r2)) :
  Calls Tryd.prog 85 #[.string a0, .int .i64 a1] w fun e w' => e = .returned (.tuple #[.int .i64 r1, .int .i64 r2]) ∧ Below w.heap.size w w' := by
 have HB := Aside0.mk (Below.refl w.heap.size w)
 have H : (if 0 ≤ a1 then (if a1 < (a0.size : Int) then ((spec_l1Long.f (bt a0 a1)).bind fun t116 => (if t116 = 0 then (spec_l1At.j0 k a0 a1 t116 true) else (spec_l1At.j0 k a0 a1 t116 (decide ((wrap64 (a1 + t116)) > (a0.size : Int)))))) else (none)) else (none)) = some (r1, r2) := h
 clear h
 by_cases c3 : 0 ≤ a1
 ·rw [if_pos c3] at H
  have c3b0 : decide (0 ≤ a1) = true := decide_eq_true c3
  clear c3
  by_cases c4 : a1 < (a0.size : Int)
  ·rw [if_pos c4] at H
   have c4b0 : decide (a1 < (a0.size : Int)) = true := decide_eq_true c4
   clear c4
   replace H := Option.bind_eq_some_iff.mp H
   obtain ⟨t116, A60, H⟩ := H
   replace H : (if t116 = 0 then (spec_l1At.j0 k a0 a1 t116 true) else (spec_l1At.j0 k a0 a1 t116 (decide ((wrap64 (a1 + t116)) > (a0.size : Int))))) = some (r1, r2) := H
   have A6 := Aside0.mk A60
   clear A60
   have HC7 := Aside0.mk H
   clear H
   have p5 : 0 ≤ (a1 : Int) := of_decide_eq_true (by assumption)
   have q5 : a1 < (a0.size : Int) := of_decide_eq_true (by assumption)
   have hx5 := bt_at a0 a1
   replace p5 := eq_true p5
   replace q5 := eq_true q5
   go_enter Tryd.func85, Tryd.ntmps85
   go_upto_region 2 with (first | ((with_reducible refine gate_callee (f := 98) rfl ?_); refine goesL_ (some 12) rfl rfl Tryd.func98 (by kernel_rfl) rfl #[.int .u8 (bt a0 a1)] rfl Zb85_0 ?_; (with_reducible refine (spec_l1Long.calls (bt a0 a1) t116 _ A6.out).mono ?_); rintro e w' ⟨rfl, ⟨nd, rfl⟩⟩; refine ⟨_, rfl, ?_⟩))
   (try simp only [Act.put, List.setIfInBounds_toArray, List.set_cons_zero, List.set_cons_succ])
   go_cut [22] (fun v22 wc => ∃ (kq : Nat) (x22_6 : Bool), v22 = .bool x22_6 ∧ Aside0 (spec_l1At.j0 kq a0 a1 t116 x22_6 = some (r1, r2)) ∧ Aside0 (kq ≤ k) ∧ Aside0 (Below w.heap.size w wc))
   case first =>
    have H := HC7.out
    clear HC7
    by_cases c8 : t116 = 0
    ·rw [if_pos c8] at H
     have c8b0 : (t116 == 0) = true := beq_iff_eq.mpr c8
     have c8b1 : (t116 != 0) = false := bne_eq_false_iff_eq.mpr c8
     clear c8
     (first | rw [c8b0] | (simp only [i64_w, i32_w]; rw [c8b0]) | skip)
     have H' := Aside0.mk H
     clear H
     go_wp2
     go_meet
     case rel => exact ⟨_, (true), Sw.r, H', ⟨by first | omega | exact Nat.le_refl _⟩, ⟨Sw.hb⟩⟩
    ·rw [if_neg c8] at H
     have c8b0 : (t116 == 0) = false := beq_eq_false_iff_ne.mpr c8
     have c8b1 : (t116 != 0) = true := bne_iff_ne.mpr c8
     (first | rw [c8b0] | (simp only [i64_w, i32_w]; rw [c8b0]) | skip)
     have H' := Aside0.mk H
     clear H
     go_wp2
     go_meet
     case rel => exact ⟨_, (decide ((wrap64 (a1 + t116)) > (a0.size : Int))), Sw.r, H', ⟨by first | omega | exact Nat.le_refl _⟩, ⟨Sw.hb⟩⟩
   case rest =>
    clear HC7
    try clear p2
    try clear c3
    try clear c3b0
    try clear c4
    try clear c4b0
    try clear p5
    try clear q5
    try clear hx5
    try clear p6
    try clear c8
    try clear c8b0
    try clear c8b1
    try clear p5
    try clear q5
    obtain ⟨kq, x22_6, rfl, HA, HJ6, HB⟩ := hcut
    cases kq with
    | zero => exact absurd HA.out (by simp [spec_l1At.j0])
    | succ kj6 =>
     have H := HA.out
     clear HA
     simp only [spec_l1At.j0] at H
     by_cases c9 : x22_6 = true
     ·subst c9
      have H1 : (some (65533, 1)) = some (r1, r2) := by rw [if_pos rfl] at H; exact H
      clear H
      have H := H1
      clear H1
      simp only [Option.some.injEq, Prod.mk.injEq] at H
      obtain ⟨rfl, rfl⟩ := H
      go_wp2
      go_ret2
      exact ⟨Sw.e, HB.out⟩
     ·replace c9 := Bool.eq_false_iff.mpr c9
      subst c9
      have H1 : (if 0 ≤ a1 then (if a1 < (a0.size : Int) then (if t116 > 1 then (if 0 ≤ (IntKind.u64.wrap (wrap64 (7 - t116))) then (if (shl .i64 1 (IntKind.u64.wrap (wrap64 (7 - t116)))) = 0 then (none) else (spec_l1At.j1 kj6 a0 a1 t116 (Int.tmod (wrap64 (bt a0 a1)) (shl .i64 1 (IntKind.u64.wrap (wrap64 (7 - t116))))))) else (none)) else (spec_l1At.j1 kj6 a0 a1 t116 (wrap64 (bt a0 a1)))) else (none)) else (none)) = some (r1, r2) := by rw [if_neg (show ¬ (false = true) by decide)] at H; exact H
      clear H
      have H := H1
      clear H1
      by_cases c10 : 0 ≤ a1
      ·rw [if_pos c10] at H
       have c10b0 : decide (0 ≤ a1) = true := decide_eq_true c10
       clear c10
       by_cases c11 : a1 < (a0.size : Int)
       ·rw [if_pos c11] at H
        have c11b0 : decide (a1 < (a0.size : Int)) = true := decide_eq_true c11
        clear c11
        have HC13 := Aside0.mk H
        clear H
        have p12 : 0 ≤ (a1 : Int) := of_decide_eq_true (by assumption)
        have q12 : a1 < (a0.size : Int) := of_decide_eq_true (by assumption)
        have hx12 := bt_at a0 a1
        replace p12 := eq_true p12
        replace q12 := eq_true q12
        go_upto_if 28 with (fail)
        go_cut [7] (fun v7 wc => ∃ (kq : Nat) (x7_12 : Int), v7 = .int .i64 x7_12 ∧ Aside0 (spec_l1At.j1 kq a0 a1 t116 x7_12 = some (r1, r2)) ∧ Aside0 (kq ≤ kj6) ∧ Aside0 (Below w.heap.size w wc))
        case first =>
         have H := HC13.out
         clear HC13
         by_cases c14 : t116 > 1
         ·rw [if_pos c14] at H
          have c14b0 : decide (1 < t116) = true := decide_eq_true c14
          clear c14
          (first | rw [c14b0] | (simp only [i64_w, i32_w]; rw [c14b0]) | skip)
          obtain ⟨ji16, hji16⟩ : ∃ j_ : Int, (IntKind.u64.wrap (wrap64 (7 - t116))) = j_ := ⟨_, rfl⟩
          replace H : (if 0 ≤ (ji16) then (if (shl .i64 1 (ji16)) = 0 then (none) else (spec_l1At.j1 kj6 a0 a1 t116 (Int.tmod (wrap64 (bt a0 a1)) (shl .i64 1 (ji16))))) else (none)) = some (r1, r2) := by first | (rw [hji16] at H; exact H) | (simp only [hji16] at H ⊢; exact H)
          by_cases c17 : 0 ≤ (ji16)
          ·rw [if_pos c17] at H
           have c17b0 := eq_true c17
           have c17b1 : decide (0 ≤ (ji16)) = true := decide_eq_true c17
           clear c17
           obtain ⟨ji18, hji18⟩ : ∃ j_ : Int, (shl .i64 1 (ji16)) = j_ := ⟨_, rfl⟩
           replace H : (if (ji18) = 0 then (none) else (spec_l1At.j1 kj6 a0 a1 t116 (Int.tmod (wrap64 (bt a0 a1)) (ji18)))) = some (r1, r2) := by first | (rw [hji18] at H; exact H) | (simp only [hji18] at H ⊢; exact H)
           have hji18_ : (IntKind.i64.wrap (1 * 2 ^ min (ji16).toNat 64)) = ji18 := hji18
           have hji18z : (ji16) ≤ 64 → (IntKind.i64.wrap (1 * 2 ^ (ji16).toNat)) = ji18 := shl_small hji18
           have hji18u : (IntKind.i64.wrap (2 ^ min (ji16).toNat 64)) = ji18 := by have h_ := hji18_; rw [Int.one_mul] at h_; exact h_
           have hji18v : (ji16) ≤ 64 → (IntKind.i64.wrap (2 ^ (ji16).toNat)) = ji18 := fun hle_ => by have h_ := hji18z hle_; rw [Int.one_mul] at h_; exact h_
           have hji18y : (wrap64 (1 * 2 ^ min (ji16).toNat 64)) = ji18 := (i64_w _).symm.trans hji18_
           have hji18x : (ji16) ≤ 64 → (wrap64 (1 * 2 ^ (ji16).toNat)) = ji18 := fun h_ => (i64_w _).symm.trans (hji18z h_)
           by_cases c19 : (ji18) = 0
           ·rw [if_pos c19] at H
            exact absurd H (by simp)
           ·rw [if_neg c19] at H
            have c19b0 : ((ji18) == 0) = false := beq_eq_false_iff_ne.mpr c19
            have c19b1 : ((ji18) != 0) = true := bne_iff_ne.mpr c19
            have H' := Aside0.mk H
            clear H
            have p15 : 0 ≤ (a1 : Int) := of_decide_eq_true (by assumption)
            have q15 : a1 < (a0.size : Int) := of_decide_eq_true (by assumption)
            have hx15 := bt_at a0 a1
            replace p15 := eq_true p15
            replace q15 := eq_true q15
            go_wp2
            go_meet
            case rel => exact ⟨_, (Int.tmod (wrap64 (bt a0 a1)) (ji18)), (by first | rfl | (simp; done) | (simp only [← hji18] <;> (first | rfl | simp)) | (simp [*]; done)), H', ⟨by have := HJ6.out; first | omega | exact Nat.le_refl _⟩, ⟨Sw.hb⟩⟩
          ·rw [if_neg c17] at H
           exact absurd H (by simp)
         ·rw [if_neg c14] at H
          have c14b0 : decide (1 < t116) = false := decide_eq_false c14
          clear c14
          (first | rw [c14b0] | (simp only [i64_w, i32_w]; rw [c14b0]) | skip)
          have H' := Aside0.mk H
          clear H
          go_wp2
          go_meet
          case rel => exact ⟨_, (wrap64 (bt a0 a1)), Sw.r, H', ⟨by have := HJ6.out; first | omega | exact Nat.le_refl _⟩, ⟨Sw.hb⟩⟩
        case rest =>
         clear HC13
         try clear c1
         try clear p1
         try clear q1
         try clear hx1
         try clear p2
         try clear c3
         try clear c3b0
         try clear c4
         try clear c4b0
         try clear p5
         try clear q5
         try clear hx5
         try clear p6
         try clear c8
         try clear c8b0
         try clear c8b1
         try clear c9
         try clear c10
         try clear c10b0
         try clear c11
         try clear c11b0
         try clear p12
         try clear q12
         try clear hx12
         try clear c14
         try clear c14b0
         try clear p15
         try clear q15
         try clear hx15
         try clear c17
         try clear c17b0
         try clear c17b1
         try clear c19
         try clear c19b0
         try clear c19b1
         try clear p12
         try clear p15
         try clear p2
         try clear p5
         try clear p6
         try clear q12
         try clear q15
         try clear q5
         obtain ⟨kq, x7_12, rfl, HA, HJ12, HB⟩ := hcut
         cases kq with
         | zero => exact absurd HA.out (by simp [spec_l1At.j1])
         | succ kj12 =>
          have H := HA.out
          clear HA
          simp only [spec_l1At.j1] at H
          have H' := Aside0.mk H
          clear H
          go_wp2
          go_loopg [7, 8] kj12 (fun kq v7 v8 w' => ∃ (x7_3 : Int) (x8_3 : Int), v7 = .int .i64 x7_3 ∧ v8 = .int .i64 x8_3 ∧ Aside0 (spec_l1At.l0 kq a0 a1 t116 x7_3 x8_3 = some (r1, r2)) ∧ Aside0 (kq ≤ kj12) ∧ Aside0 (Below w.heap.size w w'))
          case atStart => exact ⟨(x7_12), (1), Sw.r, Sw.r, H', ⟨Nat.le_refl _⟩, ⟨Sw.hb⟩⟩
          case round =>
           clear H'
           try clear c1
           try clear p1
           try clear q1
           try clear hx1
           try clear p2
           try clear c3
           try clear c3b0
           try clear c4
           try clear c4b0
           try clear p5
           try clear q5
           try clear hx5
           try clear p6
           try clear c8
           try clear c8b0
           try clear c8b1
           try clear c9
           try clear c10
           try clear c10b0
           try clear c11
           try clear c11b0
           try clear p12
           try clear q12
           try clear hx12
           try clear c14
           try clear c14b0
           try clear p15
           try clear q15
           try clear hx15
           try clear c17
           try clear c17b0
           try clear c17b1
           try clear c19
           try clear c19b0
           try clear c19b1
           try clear p1
           try clear p12
           try clear p15
           try clear p2
           try clear p5
           try clear p6
           try clear q1
           try clear q12
           try clear q15
           try clear q5
           obtain ⟨x7_3, x8_3, rfl, rfl, HA, HK3, HB⟩ := hrel
           cases gk with
           | zero => exact absurd HA.out (by simp [spec_l1At.l0])
           | succ k3 =>
            have H := HA.out
            clear HA
            simp only [spec_l1At.l0] at H
            by_cases c20 : x8_3 < t116
            ·rw [if_pos c20] at H
             have c20b0 : decide (x8_3 < t116) = true := decide_eq_true c20
             clear c20
             obtain ⟨ji21, hji21⟩ : ∃ j_ : Int, (wrap64 (a1 + x8_3)) = j_ := ⟨_, rfl⟩
             replace H : (if 0 ≤ (ji21) then (if (ji21) < (a0.size : Int) then (spec_l1At.l0 k3 a0 a1 t116 (wrap64 ((wrap64 (x7_3 * 64)) + (Int.tmod (wrap64 (bt a0 (ji21))) 64))) (wrap64 (x8_3 + 1))) else (none)) else (none)) = some (r1, r2) := by first | (rw [hji21] at H; exact H) | (simp only [hji21] at H ⊢; exact H)
             have hji21w : (IntKind.i64.wrap (a1 + x8_3)) = ji21 := (i64_w _).trans hji21
             by_cases c22 : 0 ≤ (ji21)
             ·rw [if_pos c22] at H
              have c22b0 : decide (0 ≤ (ji21)) = true := decide_eq_true c22
              clear c22
              by_cases c23 : (ji21) < (a0.size : Int)
              ·rw [if_pos c23] at H
               have c23b0 : decide ((ji21) < (a0.size : Int)) = true := decide_eq_true c23
               clear c23
               have H' := Aside0.mk H
               clear H
               have p24 : 0 ≤ ((ji21) : Int) := of_decide_eq_true (by assumption)
               have q24 : (ji21) < (a0.size : Int) := of_decide_eq_true (by assumption)
               have hx24 := bt_at a0 (ji21)
               replace p24 := eq_true p24
               replace q24 := eq_true q24
               go_wp2
               go_roundg k3
               case measure => have := HJ6.out; have := HJ12.out; have := HK3.out; omega
               case rel => exact ⟨(wrap64 ((wrap64 (x7_3 * 64)) + (Int.tmod (wrap64 (bt a0 (ji21))) 64))), (wrap64 (x8_3 + 1)), (by first | rfl | (simp; done) | (simp only [← hji21] <;> (first | rfl | simp)) | (simp [*]; done)), Sw.r, H', ⟨by have := HJ6.out; have := HJ12.out; have := HK3.out; omega⟩, ⟨Sw.hb⟩⟩
              ·rw [if_neg c23] at H
               exact absurd H (by simp)
             ·rw [if_neg c22] at H
              exact absurd H (by simp)
            ·rw [if_neg c20] at H
             have c20b0 : decide (x8_3 < t116) = false := decide_eq_false c20
             clear c20
             replace H := Option.bind_eq_some_iff.mp H
             obtain ⟨t117, A250, H⟩ := H
             replace H : (if t117 = true then ((spec_l1Utf8.f x7_3).bind fun t118 => (if 0 ≤ a1 then (if a1 ≤ (wrap64 (a1 + t116)) then (if (wrap64 (a1 + t116)) ≤ (a0.size : Int) then (if t118.toList = (a0.extract (a1 : Int).toNat ((wrap64 (a1 + t116)) : Int).toNat).toList then (some (x7_3, t116)) else (some (65533, 1))) else (none)) else (none)) else (none))) else (some (65533, 1))) = some (r1, r2) := H
             have A25 := Aside0.mk A250
             clear A250
             by_cases c26 : t117 = true
             ·subst c26
              have H1 : ((spec_l1Utf8.f x7_3).bind fun t118 => (if 0 ≤ a1 then (if a1 ≤ (wrap64 (a1 + t116)) then (if (wrap64 (a1 + t116)) ≤ (a0.size : Int) then (if t118.toList = (a0.extract (a1 : Int).toNat ((wrap64 (a1 + t116)) : Int).toNat).toList then (some (x7_3, t116)) else (some (65533, 1))) else (none)) else (none)) else (none))) = some (r1, r2) := by rw [if_pos rfl] at H; exact H
              clear H
              have H := H1
              clear H1
              replace H := Option.bind_eq_some_iff.mp H
              obtain ⟨t118, A270, H⟩ := H
              replace H : (if 0 ≤ a1 then (if a1 ≤ (wrap64 (a1 + t116)) then (if (wrap64 (a1 + t116)) ≤ (a0.size : Int) then (if t118.toList = (a0.extract (a1 : Int).toNat ((wrap64 (a1 + t116)) : Int).toNat).toList then (some (x7_3, t116)) else (some (65533, 1))) else (none)) else (none)) else (none)) = some (r1, r2) := H
              have A27 := Aside0.mk A270
              clear A270
              by_cases c28 : 0 ≤ a1
              ·rw [if_pos c28] at H
               have c28b0 := eq_true c28
               have c28b1 : decide (0 ≤ a1) = true := decide_eq_true c28
               clear c28
               by_cases c29 : a1 ≤ (wrap64 (a1 + t116))
               ·rw [if_pos c29] at H
                have c29b0 := eq_true c29
                have c29b1 : decide (a1 ≤ (wrap64 (a1 + t116))) = true := decide_eq_true c29
                by_cases c30 : (wrap64 (a1 + t116)) ≤ (a0.size : Int)
                ·rw [if_pos c30] at H
                 have c30b0 := eq_true c30
                 have c30b1 : decide ((wrap64 (a1 + t116)) ≤ (a0.size : Int)) = true := decide_eq_true c30
                 by_cases c31 : t118.toList = (a0.extract (a1 : Int).toNat ((wrap64 (a1 + t116)) : Int).toNat).toList
                 ·rw [if_pos c31] at H
                  have c31b0 : (t118.toList == (a0.extract (a1 : Int).toNat ((wrap64 (a1 + t116)) : Int).toNat).toList) = true := beq_iff_eq.mpr c31
                  have c31b1 : (t118.toList != (a0.extract (a1 : Int).toNat ((wrap64 (a1 + t116)) : Int).toNat).toList) = false := bne_eq_false_iff_eq.mpr c31
                  clear c31
                  simp only [Option.some.injEq, Prod.mk.injEq] at H
                  obtain ⟨rfl, rfl⟩ := H
                  try go_wp2
                  replace HB := Aside0.mk (below_drew1 HB.out)
                  refine start_ (n := 14) (S := fun w' => True) (ds := []) (Sw.b 14 0) (by kernel_rfl) rfl rfl trivial (fun hHeld => ?_); refine with_tabW spec_l1At.tab11 spec_l1At.bits11 (fun HT_ HW_ => ?_)
                  generalize wr.drew = w32 at HB hHeld ⊢
                  refine Sw.pw 0 53 (Sw.b 14 1) ?_
                  refine one_ (i := 1) (N := some 54) (Sw.b 14 3) rfl rfl (one_of HT_.out (by kernel_rfl)) (by decide) (fun K hK => ?_)
                  refine goes_ Tryd.func22 (by kernel_rfl) rfl #[.int .i64 x7_3] (by rfl) rfl rfl Zb85_0 ?_
                  with_reducible refine (spec_GoodRune.calls x7_3 true _ A25.out).mono ?_
                  rintro e w' ⟨rfl, ⟨nd, rfl⟩⟩
                  refine ⟨_, rfl, ?_⟩
                  refine hK.out _ _ trivial (fun hHeld => ?_)
                  clear hK K
                  refine norm_ (a' := ?_) ?_ ?_
                  rotate_left
                  ·show Act.put _ (some 54) _ = _
                   simp only [Act.put, List.setIfInBounds_toArray, List.set_cons_zero, List.set_cons_succ, i64_w, i32_w]
                   rfl
                  refine Sw.pw 2 55 (Sw.b 14 7) ?_
                  refine Sw.pw 3 56 (Sw.b 14 15) ?_
                  refine Sw.pw 4 57 (Sw.b 14 31) ?_
                  refine Sw.pw 6 59 (Sw.b 14 95) ?_
                  refine Sw.pw 7 60 (Sw.b 14 223) ?_
                  refine Sw.pw 8 61 (Sw.b 14 479) ?_
                  refine Sw.pw 9 62 (Sw.b 14 991) ?_
                  refine Sw.pw 10 63 (Sw.b 14 2015) ?_
                  refine Sw.pw 11 64 (Sw.b 14 4063) ?_
                  refine one_ (i := 5) (N := some 58) (Sw.b 14 4095) rfl rfl (one_of HT_.out (by kernel_rfl)) (by decide) (fun K hK => ?_)
                  refine goes_ Tryd.func70 (by kernel_rfl) rfl #[.int .i64 x7_3] (by rfl) rfl rfl Zb85_0 ?_
                  with_reducible refine (spec_l1Utf8.calls x7_3 t118 _ A27.out).mono ?_
                  rintro e w33 ⟨rfl, hb⟩
                  refine ⟨_, rfl, ?_⟩
                  replace HB := Aside0.mk (below_step Sw.hb hb)
                  (try clear hb)
                  (try clear hb2)
                  (try clear hk)
                  (try clear hi)
                  refine hK.out _ _ trivial (fun hHeld => ?_)
                  clear hK K
                  refine norm_ (a' := ?_) ?_ ?_
                  rotate_left
                  ·show Act.put _ (some 58) _ = _
                   simp only [Act.put, List.setIfInBounds_toArray, List.set_cons_zero, List.set_cons_succ, i64_w, i32_w]
                   rfl
                  refine Sw.pw 12 65 (Sw.b 14 8191) ?_
                  refine Sw.pw 13 66 (Sw.b 14 16383) ?_
                  refine done_ (done_of HT_.out (by kernel_rfl)) ?_
                  try go_wp2
                  go_ret2
                  exact ⟨Sw.e, HB.out⟩
                 ·rw [if_neg c31] at H
                  have c31b0 : (t118.toList == (a0.extract (a1 : Int).toNat ((wrap64 (a1 + t116)) : Int).toNat).toList) = false := beq_eq_false_iff_ne.mpr c31
                  have c31b1 : (t118.toList != (a0.extract (a1 : Int).toNat ((wrap64 (a1 + t116)) : Int).toNat).toList) = true := bne_iff_ne.mpr c31
                  simp only [Option.some.injEq, Prod.mk.injEq] at H
                  obtain ⟨rfl, rfl⟩ := H
                  try go_wp2
                  replace HB := Aside0.mk (below_drew1 HB.out)
                  refine start_ (n := 14) (S := fun w' => True) (ds := []) (Sw.b 14 0) (by kernel_rfl) rfl rfl trivial (fun hHeld => ?_); refine with_tabW spec_l1At.tab11 spec_l1At.bits11 (fun HT_ HW_ => ?_)
                  generalize wr.drew = w34 at HB hHeld ⊢
                  refine Sw.pw 0 53 (Sw.b 14 1) ?_
                  refine one_ (i := 1) (N := some 54) (Sw.b 14 3) rfl rfl (one_of HT_.out (by kernel_rfl)) (by decide) (fun K hK => ?_)
                  refine goes_ Tryd.func22 (by kernel_rfl) rfl #[.int .i64 x7_3] (by rfl) rfl rfl Zb85_0 ?_
                  with_reducible refine (spec_GoodRune.calls x7_3 true _ A25.out).mono ?_
                  rintro e w' ⟨rfl, ⟨nd, rfl⟩⟩
                  refine ⟨_, rfl, ?_⟩
                  refine hK.out _ _ trivial (fun hHeld => ?_)
                  clear hK K
                  refine norm_ (a' := ?_) ?_ ?_
                  rotate_left
                  ·show Act.put _ (some 54) _ = _
                   simp only [Act.put, List.setIfInBounds_toArray, List.set_cons_zero, List.set_cons_succ, i64_w, i32_w]
                   rfl
                  refine Sw.pw 2 55 (Sw.b 14 7) ?_
                  refine Sw.pw 3 56 (Sw.b 14 15) ?_
                  refine Sw.pw 4 57 (Sw.b 14 31) ?_
                  refine Sw.pw 6 59 (Sw.b 14 95) ?_
                  refine Sw.pw 7 60 (Sw.b 14 223) ?_
                  refine Sw.pw 8 61 (Sw.b 14 479) ?_
                  refine Sw.pw 9 62 (Sw.b 14 991) ?_
                  refine Sw.pw 10 63 (Sw.b 14 2015) ?_
                  refine Sw.pw 11 64 (Sw.b 14 4063) ?_
                  refine one_ (i := 5) (N := some 58) (Sw.b 14 4095) rfl rfl (one_of HT_.out (by kernel_rfl)) (by decide) (fun K hK => ?_)
                  refine goes_ Tryd.func70 (by kernel_rfl) rfl #[.int .i64 x7_3] (by rfl) rfl rfl Zb85_0 ?_
                  with_reducible refine (spec_l1Utf8.calls x7_3 t118 _ A27.out).mono ?_
                  rintro e w35 ⟨rfl, hb⟩
                  refine ⟨_, rfl, ?_⟩
                  replace HB := Aside0.mk (below_step Sw.hb hb)
                  (try clear hb)
                  (try clear hb2)
                  (try clear hk)
                  (try clear hi)
                  refine hK.out _ _ trivial (fun hHeld => ?_)
                  clear hK K
                  refine norm_ (a' := ?_) ?_ ?_
                  rotate_left
                  ·show Act.put _ (some 58) _ = _
                   simp only [Act.put, List.setIfInBounds_toArray, List.set_cons_zero, List.set_cons_succ, i64_w, i32_w]
                   rfl
                  refine Sw.pw 12 65 (Sw.b 14 8191) ?_
                  refine Sw.pw 13 66 (Sw.b 14 16383) ?_
                  refine done_ (done_of HT_.out (by kernel_rfl)) ?_
                  try go_wp2
                  go_ret2
                  exact ⟨Sw.e, HB.out⟩
                ·rw [if_neg c30] at H
                 exact absurd H (by simp)
               ·rw [if_neg c29] at H
                exact absurd H (by simp)
              ·rw [if_neg c28] at H
               exact absurd H (by simp)
             ·replace c26 := Bool.eq_false_iff.mpr c26
              subst c26
              have H1 : (some (65533, 1)) = some (r1, r2) := by rw [if_neg (show ¬ (false = true) by decide)] at H; exact H
              clear H
              have H := H1
              clear H1
              simp only [Option.some.injEq, Prod.mk.injEq] at H
              obtain ⟨rfl, rfl⟩ := H
              try go_wp2
              replace HB := Aside0.mk (below_drew1 HB.out)
              refine start_ (n := 14) (S := fun w' => True) (ds := []) (Sw.b 14 0) (by kernel_rfl) rfl rfl trivial (fun hHeld => ?_); refine with_tabW spec_l1At.tab11 spec_l1At.bits11 (fun HT_ HW_ => ?_)
              generalize wr.drew = w36 at HB hHeld ⊢
              refine Sw.pw 0 53 (Sw.b 14 1) ?_
              refine one_ (i := 1) (N := some 54) (Sw.b 14 3) rfl rfl (one_of HT_.out (by kernel_rfl)) (by decide) (fun K hK => ?_)
              refine goes_ Tryd.func22 (by kernel_rfl) rfl #[.int .i64 x7_3] (by rfl) rfl rfl Zb85_0 ?_
              with_reducible refine (spec_GoodRune.calls x7_3 false _ A25.out).mono ?_
              rintro e w' ⟨rfl, ⟨nd, rfl⟩⟩
              refine ⟨_, rfl, ?_⟩
              refine hK.out _ _ trivial (fun hHeld => ?_)
              clear hK K
              refine norm_ (a' := ?_) ?_ ?_
              rotate_left
              ·show Act.put _ (some 54) _ = _
               simp only [Act.put, List.setIfInBounds_toArray, List.set_cons_zero, List.set_cons_succ, i64_w, i32_w]
               rfl
              refine Sw.pw 2 55 (Sw.b 14 7) ?_
              refine Sw.pw 3 56 (Sw.b 14 15) ?_
              refine Sw.pz 4 57 (Sw.b 14 31) ?_
              refine Sw.pz 5 58 (Sw.b 14 63) ?_
              refine Sw.pz 6 59 (Sw.b 14 127) ?_
              refine Sw.pz 7 60 (Sw.b 14 255) ?_
              refine Sw.pz 8 61 (Sw.b 14 511) ?_
              refine Sw.pz 9 62 (Sw.b 14 1023) ?_
              refine Sw.pz 10 63 (Sw.b 14 2047) ?_
              refine Sw.pz 11 64 (Sw.b 14 4095) ?_
              refine Sw.pz 12 65 (Sw.b 14 8191) ?_
              refine Sw.pw 13 66 (Sw.b 14 16383) ?_
              refine done_ (done_of HT_.out (by kernel_rfl)) ?_
              try go_wp2
              go_ret2
              exact ⟨Sw.e, by repeat (first | (with_reducible first | exact HB.out | apply below_alloc | apply pw_below_drewN | apply below_drew1) | exact HB.out)⟩
       ·rw [if_neg c11] at H
        exact absurd H (by simp)
      ·rw [if_neg c10] at H
       exact absurd H (by simp)
  ·rw [if_neg c4] at H
   exact absurd H (by simp)
 ·rw [if_neg c3] at H
  exact absurd H (by simp)

theorem Zb61_0 {p : Prop} (h : p := by (try simp only [List.map_toArray, List.map_cons, List.map_nil]); first | done | rfl | (simp only [List.length_drop, List.length_take]; rfl)) : p := h
theorem Zb61_1 {p : Prop} (h : p := by first | (with_reducible assumption) | assumption) : p := h
theorem Zb61_2 {p : Prop} (h : p := by repeat (first | (with_reducible first | exact HB.out | apply below_alloc | apply pw_below_drewN | apply below_drew1) | exact HB.out)) : p := h
mutual
def spec_l1Begun.j0 : Nat → ByteArray → Bool → Option (Bool)
 | 0, _, _ => none
 | k + 1, x0, x22 => if x22 = true then (some false) else (spec_l1Begun.l0 k x0 128)
def spec_l1Begun.l0 : Nat → ByteArray → Int → Option (Bool)
 | 0, _, _ => none
 | k + 1, x0, x3 => if x3 < 192 then (spec_l1Begun.l1 k x0 x3 x0) else (some false)
def spec_l1Begun.l1 : Nat → ByteArray → Int → ByteArray → Option (Bool)
 | 0, _, _, _ => none
 | k + 1, x0, x3, x4 => if 0 < (x0.size : Int) then ((spec_l1Long.f (bt x0 0)).bind fun t120 => (if (x4.size : Int) < t120 then ((some (([(x3) % 256] : List Int) : List Int)).bind fun y121 => (if x4.size + (strOfNums y121).size ≤ 9223372036854775807 then (spec_l1Begun.l1 k x0 x3 (x4 ++ (strOfNums y121))) else (none))) else ((spec_l1At.f k x4 0).bind fun bt124 => (if bt124.2 > 1 then (some true) else (spec_l1Begun.l0 k x0 (wrap64 (x3 + 1))))))) else (none)
end
def spec_l1Begun.f (k : Nat) (a0 : ByteArray) : Option (Bool) := if (a0.size : Int) = 0 then (spec_l1Begun.j0 k a0 true) else (if (a0.size : Int) > 3 then (spec_l1Begun.j0 k a0 true) else (if 0 < (a0.size : Int) then ((spec_l1Long.f (bt a0 0)).bind fun t119 => (spec_l1Begun.j0 k a0 (decide (t119 ≤ (a0.size : Int))))) else (none)))
theorem spec_l1Begun.mono_l : ∀ k, (∀ y0 y1, LeO (spec_l1Begun.j0 k y0 y1) (spec_l1Begun.j0 (k + 1) y0 y1)) ∧ (∀ y0 y1, LeO (spec_l1Begun.l0 k y0 y1) (spec_l1Begun.l0 (k + 1) y0 y1)) ∧ (∀ y0 y1 y2, LeO (spec_l1Begun.l1 k y0 y1 y2) (spec_l1Begun.l1 (k + 1) y0 y1 y2))
 | 0 => ⟨fun _ _ r h => by simp [spec_l1Begun.j0] at h, fun _ _ r h => by simp [spec_l1Begun.l0] at h, fun _ _ _ r h => by simp [spec_l1Begun.l1] at h⟩
 | k + 1 => by
  obtain ⟨ih0, ih1, ih2⟩ := spec_l1Begun.mono_l k
  refine ⟨?_, ?_, ?_⟩
  ·intro y0 y1
   unfold spec_l1Begun.j0
   with_reducible repeat' first | exact ih0 _ _ | exact ih1 _ _ | exact ih2 _ _ _ | exact spec_l1At.mono _ _ _ | exact LeO.refl _ | exact LeO.none _ | refine LeO.ite ?_ ?_ | refine LeO.bind ?_ (fun _ => ?_)
  ·intro y0 y1
   unfold spec_l1Begun.l0
   with_reducible repeat' first | exact ih0 _ _ | exact ih1 _ _ | exact ih2 _ _ _ | exact spec_l1At.mono _ _ _ | exact LeO.refl _ | exact LeO.none _ | refine LeO.ite ?_ ?_ | refine LeO.bind ?_ (fun _ => ?_)
  ·intro y0 y1 y2
   unfold spec_l1Begun.l1
   with_reducible repeat' first | exact ih0 _ _ | exact ih1 _ _ | exact ih2 _ _ _ | exact spec_l1At.mono _ _ _ | exact LeO.refl _ | exact LeO.none _ | refine LeO.ite ?_ ?_ | refine LeO.bind ?_ (fun _ => ?_)
theorem spec_l1Begun.mono : ∀ a0 k, LeO (spec_l1Begun.f k a0) (spec_l1Begun.f (k + 1) a0) := by
 intro a0 k
 obtain ⟨ih0, ih1, ih2⟩ := spec_l1Begun.mono_l k
 unfold spec_l1Begun.f
 with_reducible repeat' first | exact ih0 _ _ | exact ih1 _ _ | exact ih2 _ _ _ | exact spec_l1At.mono _ _ _ | exact LeO.refl _ | exact LeO.none _ | refine LeO.ite ?_ ?_ | refine LeO.bind ?_ (fun _ => ?_)
theorem spec_l1Begun.calls (k : Nat) (a0 : ByteArray) (r : Bool) (w : World) (h : spec_l1Begun.f k a0 = some r) :
  Calls Tryd.prog 61 #[.string a0] w fun e w' => e = .returned (.bool r) ∧ Below w.heap.size w w' := by
 have HB := Aside0.mk (Below.refl w.heap.size w)
 have H : (if (a0.size : Int) = 0 then (spec_l1Begun.j0 k a0 true) else (if (a0.size : Int) > 3 then (spec_l1Begun.j0 k a0 true) else (if 0 < (a0.size : Int) then ((spec_l1Long.f (bt a0 0)).bind fun t119 => (spec_l1Begun.j0 k a0 (decide (t119 ≤ (a0.size : Int))))) else (none)))) = some r := h
 clear h
 have HC2 := Aside0.mk H
 clear H
 go_enter Tryd.func61, Tryd.ntmps61
 go_upto_region 1 with (fail)
 go_cut [22] (fun v22 wc => ∃ (kq : Nat) (x22_1 : Bool), v22 = .bool x22_1 ∧ Aside0 (spec_l1Begun.j0 kq a0 x22_1 = some r) ∧ Aside0 (kq ≤ k) ∧ Aside0 (Below w.heap.size w wc))
 case first =>
  have H := HC2.out
  clear HC2
  by_cases c3 : (a0.size : Int) = 0
  ·rw [if_pos c3] at H
   have c3b0 : ((a0.size : Int) == 0) = true := beq_iff_eq.mpr c3
   have c3b1 : ((a0.size : Int) != 0) = false := bne_eq_false_iff_eq.mpr c3
   clear c3
   (first | rw [c3b0] | (simp only [i64_w, i32_w]; rw [c3b0]) | skip)
   have H' := Aside0.mk H
   clear H
   go_wp2
   go_meet
   case rel => exact ⟨_, (true), Sw.r, H', ⟨by first | omega | exact Nat.le_refl _⟩, ⟨Sw.hb⟩⟩
  ·rw [if_neg c3] at H
   have c3b0 : ((a0.size : Int) == 0) = false := beq_eq_false_iff_ne.mpr c3
   have c3b1 : ((a0.size : Int) != 0) = true := bne_iff_ne.mpr c3
   (first | rw [c3b0] | (simp only [i64_w, i32_w]; rw [c3b0]) | skip)
   by_cases c4 : (a0.size : Int) > 3
   ·rw [if_pos c4] at H
    have c4b0 : decide (3 < (a0.size : Int)) = true := decide_eq_true c4
    have c4b1 : decide (3 < a0.size) = true := decide_eq_true (by omega)
    clear c4
    have H' := Aside0.mk H
    clear H
    go_wp2
    go_meet
    case rel => exact ⟨_, (true), Sw.r, H', ⟨by first | omega | exact Nat.le_refl _⟩, ⟨Sw.hb⟩⟩
   ·rw [if_neg c4] at H
    have c4b0 : decide (3 < (a0.size : Int)) = false := decide_eq_false c4
    have c4b1 : decide (3 < a0.size) = false := decide_eq_false (by omega)
    clear c4
    by_cases c5 : 0 < (a0.size : Int)
    ·rw [if_pos c5] at H
     have c5b0 : decide (0 < (a0.size : Int)) = true := decide_eq_true c5
     have c5b1 : decide (0 < a0.size) = true := decide_eq_true (by omega)
     clear c5
     replace H := Option.bind_eq_some_iff.mp H
     obtain ⟨t119, A70, H⟩ := H
     replace H : (spec_l1Begun.j0 k a0 (decide (t119 ≤ (a0.size : Int)))) = some r := H
     have A7 := Aside0.mk A70
     clear A70
     have H' := Aside0.mk H
     clear H
     have p6 : 0 ≤ (0 : Int) := (by omega)
     have q6 : 0 < a0.size := (by have : (0 : Int) < (a0.size : Int) := of_decide_eq_true Zb61_1; omega)
     have hx6 : ∀ h : 0 < a0.size, ((a0[0]'h).toNat : Int) = bt a0 0 := bt_at a0 0
     clear p6
     have qi6 : (0 < (a0.size : Int)) = True := eq_true (of_decide_eq_true Zb61_1)
     replace q6 := eq_true q6
     go_wp2_with (first | (go_at_call 98; (with_reducible refine (spec_l1Long.calls (bt a0 0) t119 _ A7.out).mono ?_); rintro e w' ⟨rfl, ⟨nd, rfl⟩⟩))
     go_meet
     case rel => exact ⟨_, (decide (t119 ≤ (a0.size : Int))), Sw.r, H', ⟨by first | omega | exact Nat.le_refl _⟩, ⟨Sw.hb⟩⟩
    ·rw [if_neg c5] at H
     exact absurd H (by simp)
 case rest =>
  clear HC2
  try clear p2
  try clear c3
  try clear c3b0
  try clear c3b1
  try clear c4
  try clear c4b0
  try clear c4b1
  try clear c5
  try clear c5b0
  try clear c5b1
  try clear c6
  try clear p6
  try clear q6
  try clear hx6
  try clear qi6
  try clear p6
  try clear q6
  obtain ⟨kq, x22_1, rfl, HA, HJ1, HB⟩ := hcut
  cases kq with
  | zero => exact absurd HA.out (by simp [spec_l1Begun.j0])
  | succ kj1 =>
   have H := HA.out
   clear HA
   simp only [spec_l1Begun.j0] at H
   by_cases c8 : x22_1 = true
   ·subst c8
    have H1 : (some false) = some r := by rw [if_pos rfl] at H; exact H
    clear H
    have H := H1
    clear H1
    obtain rfl := Option.some.inj H
    go_wp2
    go_ret
    exact ⟨Sw.e, Zb61_2⟩
   ·replace c8 := Bool.eq_false_iff.mpr c8
    subst c8
    have H1 : (spec_l1Begun.l0 kj1 a0 128) = some r := by rw [if_neg (show ¬ (false = true) by decide)] at H; exact H
    clear H
    have H := H1
    clear H1
    have H' := Aside0.mk H
    clear H
    go_wp2
    go_loopg [3] kj1 (fun kq v3 w' => ∃ (x3_2 : Int), v3 = .int .i64 x3_2 ∧ Aside0 (spec_l1Begun.l0 kq a0 x3_2 = some r) ∧ Aside0 (kq ≤ kj1) ∧ Aside0 (Below w.heap.size w w'))
    case atStart => exact ⟨(128), Sw.r, H', ⟨Nat.le_refl _⟩, ⟨Sw.hb⟩⟩
    case round =>
     clear H'
     try clear p2
     try clear c3
     try clear c3b0
     try clear c3b1
     try clear c4
     try clear c4b0
     try clear c4b1
     try clear c5
     try clear c5b0
     try clear c5b1
     try clear c6
     try clear p6
     try clear q6
     try clear hx6
     try clear qi6
     try clear c8
     try clear p2
     try clear p6
     try clear q6
     obtain ⟨x3_2, rfl, HA, HK2, HB⟩ := hrel
     cases gk with
     | zero => exact absurd HA.out (by simp [spec_l1Begun.l0])
     | succ k2 =>
      have H := HA.out
      clear HA
      simp only [spec_l1Begun.l0] at H
      by_cases c9 : x3_2 < 192
      ·rw [if_pos c9] at H
       have c9b0 : decide (x3_2 < 192) = true := decide_eq_true c9
       clear c9
       have H' := Aside0.mk H
       clear H
       go_wp2
       go_loopg [4] k2 (fun kq v4 w' => ∃ (x4_3 : ByteArray), v4 = .string x4_3 ∧ Aside0 (spec_l1Begun.l1 kq a0 x3_2 x4_3 = some r) ∧ Aside0 (kq ≤ k2) ∧ Aside0 (Below w.heap.size w w'))
       case atStart => exact ⟨(a0), Sw.r, H', ⟨Nat.le_refl _⟩, ⟨Sw.hb⟩⟩
       case round =>
        clear H'
        try clear p2
        try clear c3
        try clear c3b0
        try clear c3b1
        try clear c4
        try clear c4b0
        try clear c4b1
        try clear c5
        try clear c5b0
        try clear c5b1
        try clear c6
        try clear p6
        try clear q6
        try clear hx6
        try clear qi6
        try clear c8
        try clear c9
        try clear c9b0
        try clear p2
        try clear p6
        try clear q6
        obtain ⟨x4_3, rfl, HA, HK3, HB⟩ := hrel
        cases gk with
        | zero => exact absurd HA.out (by simp [spec_l1Begun.l1])
        | succ k3 =>
         have H := HA.out
         clear HA
         simp only [spec_l1Begun.l1] at H
         by_cases c10 : 0 < (a0.size : Int)
         ·rw [if_pos c10] at H
          have c10b0 : decide (0 < (a0.size : Int)) = true := decide_eq_true c10
          have c10b1 : decide (0 < a0.size) = true := decide_eq_true (by omega)
          clear c10
          replace H := Option.bind_eq_some_iff.mp H
          obtain ⟨t120, A120, H⟩ := H
          replace H : (if (x4_3.size : Int) < t120 then ((some (([(x3_2) % 256] : List Int) : List Int)).bind fun y121 => (if x4_3.size + (strOfNums y121).size ≤ 9223372036854775807 then (spec_l1Begun.l1 k3 a0 x3_2 (x4_3 ++ (strOfNums y121))) else (none))) else ((spec_l1At.f k3 x4_3 0).bind fun bt124 => (if bt124.2 > 1 then (some true) else (spec_l1Begun.l0 k3 a0 (wrap64 (x3_2 + 1)))))) = some r := H
          have A12 := Aside0.mk A120
          clear A120
          by_cases c13 : (x4_3.size : Int) < t120
          ·rw [if_pos c13] at H
           have c13b0 : decide ((x4_3.size : Int) < t120) = true := decide_eq_true c13
           clear c13
           obtain ⟨y121, hy121⟩ : ∃ y_ : List Int, y_ = (([(x3_2) % 256] : List Int)) := ⟨_, rfl⟩
           replace H : (if x4_3.size + (strOfNums y121).size ≤ 9223372036854775807 then (spec_l1Begun.l1 k3 a0 x3_2 (x4_3 ++ (strOfNums y121))) else (none)) = some r := by first | (rw [hy121]; with_reducible exact H) | (have H2_ := (Option.bind_some _ _).symm.trans H; rw [hy121]; with_reducible exact H2_) | (have H2_ := (Option.bind_some _ _).symm.trans H; with_reducible exact H2_) | with_reducible exact H | (rw [hy121]; exact H) | exact H
           have Ny121 := Aside0.mk hy121
           clear hy121
           by_cases c14 : x4_3.size + (strOfNums y121).size ≤ 9223372036854775807
           ·rw [if_pos c14] at H
            have c14b0 := eq_true c14
            have c14b1 : decide (x4_3.size + (strOfNums y121).size ≤ 9223372036854775807) = true := decide_eq_true c14
            try have c14b2 : (9223372036854775807 < x4_3.size + (strOfNums y121).size) = False := eq_false (Nat.not_lt.2 c14)
            have H' := Aside0.mk H
            clear H
            have p11 : 0 ≤ (0 : Int) := (by omega)
            have q11 : 0 < a0.size := (by have : (0 : Int) < (a0.size : Int) := of_decide_eq_true Zb61_1; omega)
            have hx11 : ∀ h : 0 < a0.size, ((a0[0]'h).toNat : Int) = bt a0 0 := bt_at a0 0
            clear p11
            have qi11 : (0 < (a0.size : Int)) = True := eq_true (of_decide_eq_true Zb61_1)
            replace q11 := eq_true q11
            go_wp2_with (first | ((with_reducible refine gate_callee (f := 98) rfl ?_); refine goesL_ (some 32) rfl rfl Tryd.func98 (by kernel_rfl) rfl #[.int .u8 (bt a0 0)] rfl Zb61_0 ?_; (with_reducible refine (spec_l1Long.calls (bt a0 0) t120 _ A12.out).mono ?_); rintro e w' ⟨rfl, ⟨nd, rfl⟩⟩; refine ⟨_, rfl, ?_⟩) | ((with_reducible refine gate_dst (N := 37) rfl ?_); (try (refine gate_guard (by rfl) ?_; dsimp only)); refine Kd.R_lit (Kd.int .u8) _ 5 ?hg (N := 37) ?hd (xs := ([(x3_2) % 256] : List Int)) (inner := [.int .u8 ((x3_2) % 256)]) (ok := fun _ => True) (okp := fun _ => True) ?hr ?hp (fun _ hk => hk) trivial (Below.refl _ _) (Nat.le_refl _) (by simp) ?_; (case hd => rfl); (case hg => rfl); (case hr => first | (go_simp; done) | (go_simp; rfl)); (case hp => exact (Reps.one (show Kd.M (Kd.int .u8) _ _ _ ((x3_2) % 256) [.int .u8 ((x3_2) % 256)] from rfl) (Reps.none _ _))); intro v122 w15 ho16 hb hg_ hnew_; clear hg_ hnew_; (first | rw [← Ny121.out] at ho16 | (simp only [Int.reduceToNat] at ho16; rw [← Ny121.out] at ho16)); have HO123 := Aside0.mk (Kd.R_lower ho16 (below_size Sw.hb)); replace HB := Aside0.mk (below_step Sw.hb hb); clear hb ho16; have hcv17 := own_string (P := Tryd.prog) Tryd.underlying22 Tryd.underlying5 Tryd.underlying9 (Kd.own_of_R HO123.out)))
            go_roundg k3
            case measure => have := HJ1.out; have := HK2.out; have := HK3.out; omega
            case rel => exact ⟨(x4_3 ++ (strOfNums y121)), Sw.r, H', ⟨by have := HJ1.out; have := HK2.out; have := HK3.out; omega⟩, ⟨Sw.hb⟩⟩
           ·rw [if_neg c14] at H
            exact absurd H (by simp)
          ·rw [if_neg c13] at H
           have c13b0 : decide ((x4_3.size : Int) < t120) = false := decide_eq_false c13
           clear c13
           replace H := Option.bind_eq_some_iff.mp H
           obtain ⟨⟨t124, t125⟩, A180, H⟩ := H
           replace H : (if t125 > 1 then (some true) else (spec_l1Begun.l0 k3 a0 (wrap64 (x3_2 + 1)))) = some r := H
           have A18 := Aside0.mk A180
           clear A180
           by_cases c19 : t125 > 1
           ·rw [if_pos c19] at H
            have c19b0 : decide (1 < t125) = true := decide_eq_true c19
            clear c19
            obtain rfl := Option.some.inj H
            have p11 : 0 ≤ (0 : Int) := (by omega)
            have q11 : 0 < a0.size := (by have : (0 : Int) < (a0.size : Int) := of_decide_eq_true Zb61_1; omega)
            have hx11 : ∀ h : 0 < a0.size, ((a0[0]'h).toNat : Int) = bt a0 0 := bt_at a0 0
            clear p11
            have qi11 : (0 < (a0.size : Int)) = True := eq_true (of_decide_eq_true Zb61_1)
            replace q11 := eq_true q11
            go_wp2_with (first | ((with_reducible refine gate_callee (f := 98) rfl ?_); refine goesL_ (some 32) rfl rfl Tryd.func98 (by kernel_rfl) rfl #[.int .u8 (bt a0 0)] rfl Zb61_0 ?_; (with_reducible refine (spec_l1Long.calls (bt a0 0) t120 _ A12.out).mono ?_); rintro e w' ⟨rfl, ⟨nd, rfl⟩⟩; refine ⟨_, rfl, ?_⟩) | ((with_reducible refine gate_callee (f := 85) rfl ?_); refine goesL_ (some 42) rfl rfl Tryd.func85 (by kernel_rfl) rfl #[.string x4_3, .int .i64 0] rfl Zb61_0 ?_; (with_reducible refine (spec_l1At.calls k3 x4_3 0 t124 t125 _ A18.out).mono ?_); rintro e w20 ⟨rfl, hb⟩; refine ⟨_, rfl, ?_⟩; replace HB := Aside0.mk (below_step Sw.hb hb); (try clear hb); (try clear hb2); (try clear hk); (try clear hi)))
            go_ret
            exact ⟨Sw.e, Zb61_2⟩
           ·rw [if_neg c19] at H
            have c19b0 : decide (1 < t125) = false := decide_eq_false c19
            clear c19
            have H' := Aside0.mk H
            clear H
            have p11 : 0 ≤ (0 : Int) := (by omega)
            have q11 : 0 < a0.size := (by have : (0 : Int) < (a0.size : Int) := of_decide_eq_true Zb61_1; omega)
            have hx11 : ∀ h : 0 < a0.size, ((a0[0]'h).toNat : Int) = bt a0 0 := bt_at a0 0
            clear p11
            have qi11 : (0 < (a0.size : Int)) = True := eq_true (of_decide_eq_true Zb61_1)
            replace q11 := eq_true q11
            go_wp2_with (first | ((with_reducible refine gate_callee (f := 98) rfl ?_); refine goesL_ (some 32) rfl rfl Tryd.func98 (by kernel_rfl) rfl #[.int .u8 (bt a0 0)] rfl Zb61_0 ?_; (with_reducible refine (spec_l1Long.calls (bt a0 0) t120 _ A12.out).mono ?_); rintro e w' ⟨rfl, ⟨nd, rfl⟩⟩; refine ⟨_, rfl, ?_⟩) | ((with_reducible refine gate_callee (f := 85) rfl ?_); refine goesL_ (some 42) rfl rfl Tryd.func85 (by kernel_rfl) rfl #[.string x4_3, .int .i64 0] rfl Zb61_0 ?_; (with_reducible refine (spec_l1At.calls k3 x4_3 0 t124 t125 _ A18.out).mono ?_); rintro e w21 ⟨rfl, hb⟩; refine ⟨_, rfl, ?_⟩; replace HB := Aside0.mk (below_step Sw.hb hb); (try clear hb); (try clear hb2); (try clear hk); (try clear hi)))
            go_roundg k3
            case measure => have := HJ1.out; have := HK2.out; have := HK3.out; omega
            case rel => exact ⟨(wrap64 (x3_2 + 1)), Sw.r, H', ⟨by have := HJ1.out; have := HK2.out; have := HK3.out; omega⟩, ⟨Sw.hb⟩⟩
         ·rw [if_neg c10] at H
          exact absurd H (by simp)
      ·rw [if_neg c9] at H
       have c9b0 : decide (x3_2 < 192) = false := decide_eq_false c9
       clear c9
       obtain rfl := Option.some.inj H
       go_wp2
       go_ret
       exact ⟨Sw.e, Zb61_2⟩

def spec_l2Units.f (a0 : Int) : Option (Bool) := if a0 = 2 then (some true) else (some (a0 == 3))
theorem spec_l2Units.calls (a0 : Int) (r : Bool) (w : World) (h : spec_l2Units.f a0 = some r) :
    Calls Tryd.prog 62 #[.int .i64 a0] w fun e w' => e = .returned (.bool r) ∧ Drawn0 w w' := by
  have H : (if a0 = 2 then (some true) else (some (a0 == 3))) = some r := h
  clear h
  by_cases c2 : a0 = 2
  · rw [if_pos c2] at H
    have c2b0 : (a0 == 2) = true := beq_iff_eq.mpr c2
    have c2b1 : (a0 != 2) = false := bne_eq_false_iff_eq.mpr c2
    clear c2
    obtain rfl := Option.some.inj H
    go_enter Tryd.func62, Tryd.ntmps62
    go_wp2
    go_ret
    exact ⟨Sw.r, Sw.dr⟩
  · rw [if_neg c2] at H
    have c2b0 : (a0 == 2) = false := beq_eq_false_iff_ne.mpr c2
    have c2b1 : (a0 != 2) = true := bne_iff_ne.mpr c2
    obtain rfl := Option.some.inj H
    go_enter Tryd.func62, Tryd.ntmps62
    go_wp2
    go_ret
    exact ⟨Sw.r, Sw.dr⟩

def spec_l2High.f (a0 : Int) : Option (Bool) := (spec_l1In.f a0 55296 56319).bind fun t126 => (some t126)
theorem spec_l2High.calls (a0 : Int) (r : Bool) (w : World) (h : spec_l2High.f a0 = some r) :
    Calls Tryd.prog 63 #[.int .i64 a0] w fun e w' => e = .returned (.bool r) ∧ Drawn0 w w' := by
  have H : ((spec_l1In.f a0 55296 56319).bind fun t126 => (some t126)) = some r := h
  clear h
  replace H := Option.bind_eq_some_iff.mp H
  obtain ⟨t126, A20, H⟩ := H
  replace H : (some t126) = some r := H
  have A2 := Aside0.mk A20
  clear A20
  obtain rfl := Option.some.inj H
  go_enter Tryd.func63, Tryd.ntmps63
  go_wp2_with (first | ((with_reducible refine gate_callee (f := 60) rfl ?_); refine goesL_ (some 4) rfl rfl Tryd.func60 (by kernel_rfl) rfl #[.int .i64 a0, .int .i64 55296, .int .i64 56319] rfl (by (try simp only [List.map_toArray, List.map_cons, List.map_nil]); first | done | rfl | (simp only [List.length_drop, List.length_take]; rfl)) ?_; (with_reducible refine (spec_l1In.calls a0 55296 56319 t126 _ A2.out).mono ?_); rintro e w' ⟨rfl, ⟨nd, rfl⟩⟩; refine ⟨_, rfl, ?_⟩))
  go_ret
  exact ⟨Sw.r, Sw.dr⟩

theorem Zb64_0 {p : Prop} (h : p := by first | (with_reducible assumption) | assumption) : p := h
def spec_l2Unit.f (a0 : Int) (a1 : ByteArray) : Option (Int) := if a0 = 2 then (if 0 < (a1.size : Int) then (if 1 < (a1.size : Int) then (some (wrap64 ((wrap64 ((wrap64 (bt a1 0)) * 256)) + (wrap64 (bt a1 1))))) else (none)) else (none)) else (if 1 < (a1.size : Int) then (if 0 < (a1.size : Int) then (some (wrap64 ((wrap64 ((wrap64 (bt a1 1)) * 256)) + (wrap64 (bt a1 0))))) else (none)) else (none))
theorem spec_l2Unit.calls (a0 : Int) (a1 : ByteArray) (r : Int) (w : World) (h : spec_l2Unit.f a0 a1 = some r) :
    Calls Tryd.prog 64 #[.int .i64 a0, .string a1] w fun e w' => e = .returned (.int .i64 r) ∧ Drawn0 w w' := by
  have H : (if a0 = 2 then (if 0 < (a1.size : Int) then (if 1 < (a1.size : Int) then (some (wrap64 ((wrap64 ((wrap64 (bt a1 0)) * 256)) + (wrap64 (bt a1 1))))) else (none)) else (none)) else (if 1 < (a1.size : Int) then (if 0 < (a1.size : Int) then (some (wrap64 ((wrap64 ((wrap64 (bt a1 1)) * 256)) + (wrap64 (bt a1 0))))) else (none)) else (none))) = some r := h
  clear h
  by_cases c3 : a0 = 2
  · rw [if_pos c3] at H
    have c3b0 : (a0 == 2) = true := beq_iff_eq.mpr c3
    have c3b1 : (a0 != 2) = false := bne_eq_false_iff_eq.mpr c3
    clear c3
    by_cases c4 : 0 < (a1.size : Int)
    · rw [if_pos c4] at H
      have c4b0 : decide (0 < (a1.size : Int)) = true := decide_eq_true c4
      have c4b1 : decide (0 < a1.size) = true := decide_eq_true (by omega)
      clear c4
      by_cases c6 : 1 < (a1.size : Int)
      · rw [if_pos c6] at H
        have c6b0 : decide (1 < (a1.size : Int)) = true := decide_eq_true c6
        have c6b1 : decide (1 < a1.size) = true := decide_eq_true (by omega)
        clear c6
        obtain rfl := Option.some.inj H
        have p5 : 0 ≤ (0 : Int) := (by omega)
        have q5 : 0 < a1.size := (by have : (0 : Int) < (a1.size : Int) := of_decide_eq_true Zb64_0; omega)
        have hx5 : ∀ h : 0 < a1.size, ((a1[0]'h).toNat : Int) = bt a1 0 := bt_at a1 0
        clear p5
        have qi5 : (0 < (a1.size : Int)) = True := eq_true (of_decide_eq_true Zb64_0)
        replace q5 := eq_true q5
        have p7 : 0 ≤ (1 : Int) := (by omega)
        have q7 : 1 < a1.size := (by have : (1 : Int) < (a1.size : Int) := of_decide_eq_true Zb64_0; omega)
        have hx7 : ∀ h : 1 < a1.size, ((a1[1]'h).toNat : Int) = bt a1 1 := bt_at a1 1
        clear p7
        have qi7 : (1 < (a1.size : Int)) = True := eq_true (of_decide_eq_true Zb64_0)
        replace q7 := eq_true q7
        go_enter Tryd.func64, Tryd.ntmps64
        go_wp2
        repeat (go_quiet (fail); try go_wp2)
        go_ret
        exact ⟨Sw.r, Sw.dr⟩
      · rw [if_neg c6] at H
        exact absurd H (by simp)
    · rw [if_neg c4] at H
      exact absurd H (by simp)
  · rw [if_neg c3] at H
    have c3b0 : (a0 == 2) = false := beq_eq_false_iff_ne.mpr c3
    have c3b1 : (a0 != 2) = true := bne_iff_ne.mpr c3
    by_cases c8 : 1 < (a1.size : Int)
    · rw [if_pos c8] at H
      have c8b0 : decide (1 < (a1.size : Int)) = true := decide_eq_true c8
      have c8b1 : decide (1 < a1.size) = true := decide_eq_true (by omega)
      clear c8
      by_cases c10 : 0 < (a1.size : Int)
      · rw [if_pos c10] at H
        have c10b0 : decide (0 < (a1.size : Int)) = true := decide_eq_true c10
        have c10b1 : decide (0 < a1.size) = true := decide_eq_true (by omega)
        clear c10
        obtain rfl := Option.some.inj H
        have p9 : 0 ≤ (1 : Int) := (by omega)
        have q9 : 1 < a1.size := (by have : (1 : Int) < (a1.size : Int) := of_decide_eq_true Zb64_0; omega)
        have hx9 : ∀ h : 1 < a1.size, ((a1[1]'h).toNat : Int) = bt a1 1 := bt_at a1 1
        clear p9
        have qi9 : (1 < (a1.size : Int)) = True := eq_true (of_decide_eq_true Zb64_0)
        replace q9 := eq_true q9
        have p11 : 0 ≤ (0 : Int) := (by omega)
        have q11 : 0 < a1.size := (by have : (0 : Int) < (a1.size : Int) := of_decide_eq_true Zb64_0; omega)
        have hx11 : ∀ h : 0 < a1.size, ((a1[0]'h).toNat : Int) = bt a1 0 := bt_at a1 0
        clear p11
        have qi11 : (0 < (a1.size : Int)) = True := eq_true (of_decide_eq_true Zb64_0)
        replace q11 := eq_true q11
        go_enter Tryd.func64, Tryd.ntmps64
        go_wp2
        repeat (go_quiet (fail); try go_wp2)
        go_ret
        exact ⟨Sw.r, Sw.dr⟩
      · rw [if_neg c10] at H
        exact absurd H (by simp)
    · rw [if_neg c8] at H
      exact absurd H (by simp)

theorem Zb12_0 {p : Prop} (h : p := by repeat (first | (with_reducible first | exact HB.out | apply below_alloc | apply pw_below_drewN | apply below_drew1 | refine below_set ?_ GE127.out) | exact HB.out)) : p := h
theorem Zb12_1 {p : Prop} (h : p := by simp only [List.map_toArray, List.map_cons, List.map_nil] <;> rfl) : p := h
def spec_GoodDecoder.j0 : Nat → Bool → Int → Int → Int → ByteArray → Option (Bool)
 | 0, _, _, _, _, _ => none
 | k + 1, x31, x128000, x128001, x128002, x128003 => if x31 = true then (some false) else (if x128000 = 1 then (if x128003.toList = ([] : List UInt8) then (some true) else ((spec_l1Begun.f k x128003).bind fun t131 => (some t131))) else ((spec_l2Units.f x128000).bind fun t132 => (if t132 = true then (if (x128003.size : Int) < 2 then (some true) else (if (x128003.size : Int) < 4 then ((spec_l2Unit.f x128000 x128003).bind fun t133 => ((spec_l2High.f t133).bind fun t134 => (some t134))) else (some false))) else (some (x128003.toList == ([] : List UInt8))))))
def spec_GoodDecoder.f (k : Nat) (a0_0 : Int) (a0_1 : Int) (a0_2 : Int) (a0_3 : ByteArray) : Option (Bool) := (spec_l2Code.f a0_0).bind fun t128 => (if t128 = true then ((spec_l1In.f a0_1 0 1).bind fun t129 => (if t129 = true then ((spec_l1In.f a0_2 0 1000).bind fun t130 => (if t130 = true then (if a0_0 = 5 then (spec_GoodDecoder.j0 k false a0_0 a0_1 a0_2 a0_3) else (spec_GoodDecoder.j0 k (decide ((wrap64 (a0_1 + a0_2)) > 0)) a0_0 a0_1 a0_2 a0_3)) else (spec_GoodDecoder.j0 k true a0_0 a0_1 a0_2 a0_3))) else (spec_GoodDecoder.j0 k true a0_0 a0_1 a0_2 a0_3))) else (spec_GoodDecoder.j0 k true a0_0 a0_1 a0_2 a0_3))
theorem spec_GoodDecoder.mono_l : ∀ k, (∀ y0 y1 y2 y3 y4, LeO (spec_GoodDecoder.j0 k y0 y1 y2 y3 y4) (spec_GoodDecoder.j0 (k + 1) y0 y1 y2 y3 y4))
 | 0 => fun _ _ _ _ _ r h => by simp [spec_GoodDecoder.j0] at h
 | k + 1 => by
  have ih0 := spec_GoodDecoder.mono_l k
  ·intro y0 y1 y2 y3 y4
   unfold spec_GoodDecoder.j0
   with_reducible repeat' first | exact ih0 _ _ _ _ _ | exact spec_l1Begun.mono _ _ | exact LeO.refl _ | exact LeO.none _ | refine LeO.ite ?_ ?_ | refine LeO.bind ?_ (fun _ => ?_)
theorem spec_GoodDecoder.mono : ∀ a0 a1 a2 a3 k, LeO (spec_GoodDecoder.f k a0 a1 a2 a3) (spec_GoodDecoder.f (k + 1) a0 a1 a2 a3) := by
 intro a0 a1 a2 a3 k
 have ih0 := spec_GoodDecoder.mono_l k
 unfold spec_GoodDecoder.f
 with_reducible repeat' first | exact ih0 _ _ _ _ _ | exact spec_l1Begun.mono _ _ | exact LeO.refl _ | exact LeO.none _ | refine LeO.ite ?_ ?_ | refine LeO.bind ?_ (fun _ => ?_)
theorem spec_GoodDecoder.calls (k : Nat) (a0_0 : Int) (a0_1 : Int) (a0_2 : Int) (a0_3 : ByteArray) (r : Bool) (w : World) (h : spec_GoodDecoder.f k a0_0 a0_1 a0_2 a0_3 = some r) :
  Calls Tryd.prog 12 #[.agg #[.int .i64 a0_0, .int .i64 a0_1, .int .i64 a0_2, .string a0_3]] w fun e w' => e = .returned (.bool r) ∧ Below w.heap.size w w' := by
 have hu25 := Tryd.underlying25
 have HB := Aside0.mk (Below.refl w.heap.size w)
 have H : ((spec_l2Code.f a0_0).bind fun t128 => (if t128 = true then ((spec_l1In.f a0_1 0 1).bind fun t129 => (if t129 = true then ((spec_l1In.f a0_2 0 1000).bind fun t130 => (if t130 = true then (if a0_0 = 5 then (spec_GoodDecoder.j0 k false a0_0 a0_1 a0_2 a0_3) else (spec_GoodDecoder.j0 k (decide ((wrap64 (a0_1 + a0_2)) > 0)) a0_0 a0_1 a0_2 a0_3)) else (spec_GoodDecoder.j0 k true a0_0 a0_1 a0_2 a0_3))) else (spec_GoodDecoder.j0 k true a0_0 a0_1 a0_2 a0_3))) else (spec_GoodDecoder.j0 k true a0_0 a0_1 a0_2 a0_3))) = some r := h
 clear h
 have HC2 := Aside0.mk H
 clear H
 go_enter Tryd.func12, Tryd.ntmps12
 go_upto_region 1 with (first | ((with_reducible refine gate_dst (N := 1) rfl ?_); (try (refine gate_guard (by rfl) ?_; dsimp only)); refine box_event ?hg (N := 1) ?hd (cs := #[.int .i64 a0_0, .int .i64 a0_1, .int .i64 a0_2, .string a0_3]) (t := 25) ?hr ?_; (case hd => rfl); (case hg => rfl); (case hr => go_simp <;> rfl); intro gb127 hg w3 hbox hb; have BK127 := Aside0.mk (hbox); have GW127 := Aside0.mk ((Sw.gs hg)); have GE127 := Aside0.mk ((Sw.gs hg)); replace HB := Aside0.mk (below_step Sw.hb hb); clear hb hbox hg))
 (try simp only [Act.put, List.setIfInBounds_toArray, List.set_cons_zero, List.set_cons_succ])
 go_cut [31] (fun v31 wc => ∃ (kq : Nat) (x31_1 : Bool), v31 = .bool x31_1 ∧ Aside0 (spec_GoodDecoder.j0 kq x31_1 a0_0 a0_1 a0_2 a0_3 = some r) ∧ Aside0 (kq ≤ k) ∧ Aside0 (wc.heap[gb127]? = some (.cells #[.int .i64 a0_0, .int .i64 a0_1, .int .i64 a0_2, .string a0_3] 25 (0, 0))) ∧ Aside0 (Below w.heap.size w wc))
 case first =>
  have H := HC2.out
  clear HC2
  replace H := Option.bind_eq_some_iff.mp H
  obtain ⟨t128, A40, H⟩ := H
  replace H : (if t128 = true then ((spec_l1In.f a0_1 0 1).bind fun t129 => (if t129 = true then ((spec_l1In.f a0_2 0 1000).bind fun t130 => (if t130 = true then (if a0_0 = 5 then (spec_GoodDecoder.j0 k false a0_0 a0_1 a0_2 a0_3) else (spec_GoodDecoder.j0 k (decide ((wrap64 (a0_1 + a0_2)) > 0)) a0_0 a0_1 a0_2 a0_3)) else (spec_GoodDecoder.j0 k true a0_0 a0_1 a0_2 a0_3))) else (spec_GoodDecoder.j0 k true a0_0 a0_1 a0_2 a0_3))) else (spec_GoodDecoder.j0 k true a0_0 a0_1 a0_2 a0_3)) = some r := H
  have A4 := Aside0.mk A40
  clear A40
  by_cases c5 : t128 = true
  ·subst c5
   have H1 : ((spec_l1In.f a0_1 0 1).bind fun t129 => (if t129 = true then ((spec_l1In.f a0_2 0 1000).bind fun t130 => (if t130 = true then (if a0_0 = 5 then (spec_GoodDecoder.j0 k false a0_0 a0_1 a0_2 a0_3) else (spec_GoodDecoder.j0 k (decide ((wrap64 (a0_1 + a0_2)) > 0)) a0_0 a0_1 a0_2 a0_3)) else (spec_GoodDecoder.j0 k true a0_0 a0_1 a0_2 a0_3))) else (spec_GoodDecoder.j0 k true a0_0 a0_1 a0_2 a0_3))) = some r := by rw [if_pos rfl] at H; exact H
   clear H
   have H := H1
   clear H1
   replace H := Option.bind_eq_some_iff.mp H
   obtain ⟨t129, A60, H⟩ := H
   replace H : (if t129 = true then ((spec_l1In.f a0_2 0 1000).bind fun t130 => (if t130 = true then (if a0_0 = 5 then (spec_GoodDecoder.j0 k false a0_0 a0_1 a0_2 a0_3) else (spec_GoodDecoder.j0 k (decide ((wrap64 (a0_1 + a0_2)) > 0)) a0_0 a0_1 a0_2 a0_3)) else (spec_GoodDecoder.j0 k true a0_0 a0_1 a0_2 a0_3))) else (spec_GoodDecoder.j0 k true a0_0 a0_1 a0_2 a0_3)) = some r := H
   have A6 := Aside0.mk A60
   clear A60
   by_cases c7 : t129 = true
   ·subst c7
    have H1 : ((spec_l1In.f a0_2 0 1000).bind fun t130 => (if t130 = true then (if a0_0 = 5 then (spec_GoodDecoder.j0 k false a0_0 a0_1 a0_2 a0_3) else (spec_GoodDecoder.j0 k (decide ((wrap64 (a0_1 + a0_2)) > 0)) a0_0 a0_1 a0_2 a0_3)) else (spec_GoodDecoder.j0 k true a0_0 a0_1 a0_2 a0_3))) = some r := by rw [if_pos rfl] at H; exact H
    clear H
    have H := H1
    clear H1
    replace H := Option.bind_eq_some_iff.mp H
    obtain ⟨t130, A80, H⟩ := H
    replace H : (if t130 = true then (if a0_0 = 5 then (spec_GoodDecoder.j0 k false a0_0 a0_1 a0_2 a0_3) else (spec_GoodDecoder.j0 k (decide ((wrap64 (a0_1 + a0_2)) > 0)) a0_0 a0_1 a0_2 a0_3)) else (spec_GoodDecoder.j0 k true a0_0 a0_1 a0_2 a0_3)) = some r := H
    have A8 := Aside0.mk A80
    clear A80
    by_cases c9 : t130 = true
    ·subst c9
     have H1 : (if a0_0 = 5 then (spec_GoodDecoder.j0 k false a0_0 a0_1 a0_2 a0_3) else (spec_GoodDecoder.j0 k (decide ((wrap64 (a0_1 + a0_2)) > 0)) a0_0 a0_1 a0_2 a0_3)) = some r := by rw [if_pos rfl] at H; exact H
     clear H
     have H := H1
     clear H1
     by_cases c10 : a0_0 = 5
     ·rw [if_pos c10] at H
      have c10b0 : (a0_0 == 5) = true := beq_iff_eq.mpr c10
      have c10b1 : (a0_0 != 5) = false := bne_eq_false_iff_eq.mpr c10
      clear c10
      (first | rw [c10b0] | (simp only [i64_w, i32_w]; rw [c10b0]) | skip)
      have H' := Aside0.mk H
      clear H
      obtain ⟨hcz11_0, hcz11_1, hcz11_2, hcz11_3⟩ := Sw.cz4 BK127.out
      obtain ⟨hfz11_0, hfz11_1, hfz11_2, hfz11_3⟩ := Sw.fz4 BK127.out
      go_wp2_with (first | ((with_reducible refine gate_callee (f := 59) rfl ?_); refine goesL_ (some 5) rfl rfl Tryd.func59 (by kernel_rfl) rfl #[.int .i64 a0_0] rfl Zb12_1 ?_; (with_reducible refine (spec_l2Code.calls a0_0 true _ A4.out).mono ?_); rintro e w' ⟨rfl, ⟨nd, rfl⟩⟩; refine ⟨_, rfl, ?_⟩) | (go_at_call 60; (with_reducible refine (spec_l1In.calls a0_1 0 1 true _ A6.out).mono ?_); rintro e w' ⟨rfl, ⟨nd, rfl⟩⟩) | (go_at_call 60; (with_reducible refine (spec_l1In.calls a0_2 0 1000 true _ A8.out).mono ?_); rintro e w' ⟨rfl, ⟨nd, rfl⟩⟩))
      go_meet
      case rel => exact ⟨_, (false), Sw.r, H', ⟨by first | omega | exact Nat.le_refl _⟩, ⟨Sw.bk BK127.out⟩, ⟨Sw.hb⟩⟩
     ·rw [if_neg c10] at H
      have c10b0 : (a0_0 == 5) = false := beq_eq_false_iff_ne.mpr c10
      have c10b1 : (a0_0 != 5) = true := bne_iff_ne.mpr c10
      (first | rw [c10b0] | (simp only [i64_w, i32_w]; rw [c10b0]) | skip)
      have H' := Aside0.mk H
      clear H
      obtain ⟨hcz12_0, hcz12_1, hcz12_2, hcz12_3⟩ := Sw.cz4 BK127.out
      obtain ⟨hfz12_0, hfz12_1, hfz12_2, hfz12_3⟩ := Sw.fz4 BK127.out
      go_wp2_with (first | ((with_reducible refine gate_callee (f := 59) rfl ?_); refine goesL_ (some 5) rfl rfl Tryd.func59 (by kernel_rfl) rfl #[.int .i64 a0_0] rfl Zb12_1 ?_; (with_reducible refine (spec_l2Code.calls a0_0 true _ A4.out).mono ?_); rintro e w' ⟨rfl, ⟨nd, rfl⟩⟩; refine ⟨_, rfl, ?_⟩) | (go_at_call 60; (with_reducible refine (spec_l1In.calls a0_1 0 1 true _ A6.out).mono ?_); rintro e w' ⟨rfl, ⟨nd, rfl⟩⟩) | (go_at_call 60; (with_reducible refine (spec_l1In.calls a0_2 0 1000 true _ A8.out).mono ?_); rintro e w' ⟨rfl, ⟨nd, rfl⟩⟩))
      go_meet
      case rel => exact ⟨_, (decide ((wrap64 (a0_1 + a0_2)) > 0)), Sw.r, H', ⟨by first | omega | exact Nat.le_refl _⟩, ⟨Sw.bk BK127.out⟩, ⟨Sw.hb⟩⟩
    ·replace c9 := Bool.eq_false_iff.mpr c9
     subst c9
     have H1 : (spec_GoodDecoder.j0 k true a0_0 a0_1 a0_2 a0_3) = some r := by rw [if_neg (show ¬ (false = true) by decide)] at H; exact H
     clear H
     have H := H1
     clear H1
     have H' := Aside0.mk H
     clear H
     obtain ⟨hcz13_0, hcz13_1, hcz13_2, hcz13_3⟩ := Sw.cz4 BK127.out
     obtain ⟨hfz13_0, hfz13_1, hfz13_2, hfz13_3⟩ := Sw.fz4 BK127.out
     go_wp2_with (first | ((with_reducible refine gate_callee (f := 59) rfl ?_); refine goesL_ (some 5) rfl rfl Tryd.func59 (by kernel_rfl) rfl #[.int .i64 a0_0] rfl Zb12_1 ?_; (with_reducible refine (spec_l2Code.calls a0_0 true _ A4.out).mono ?_); rintro e w' ⟨rfl, ⟨nd, rfl⟩⟩; refine ⟨_, rfl, ?_⟩) | (go_at_call 60; (with_reducible refine (spec_l1In.calls a0_1 0 1 true _ A6.out).mono ?_); rintro e w' ⟨rfl, ⟨nd, rfl⟩⟩) | (go_at_call 60; (with_reducible refine (spec_l1In.calls a0_2 0 1000 false _ A8.out).mono ?_); rintro e w' ⟨rfl, ⟨nd, rfl⟩⟩))
     go_meet
     case rel => exact ⟨_, (true), Sw.r, H', ⟨by first | omega | exact Nat.le_refl _⟩, ⟨Sw.bk BK127.out⟩, ⟨Sw.hb⟩⟩
   ·replace c7 := Bool.eq_false_iff.mpr c7
    subst c7
    have H1 : (spec_GoodDecoder.j0 k true a0_0 a0_1 a0_2 a0_3) = some r := by rw [if_neg (show ¬ (false = true) by decide)] at H; exact H
    clear H
    have H := H1
    clear H1
    have H' := Aside0.mk H
    clear H
    obtain ⟨hcz14_0, hcz14_1, hcz14_2, hcz14_3⟩ := Sw.cz4 BK127.out
    obtain ⟨hfz14_0, hfz14_1, hfz14_2, hfz14_3⟩ := Sw.fz4 BK127.out
    go_wp2_with (first | ((with_reducible refine gate_callee (f := 59) rfl ?_); refine goesL_ (some 5) rfl rfl Tryd.func59 (by kernel_rfl) rfl #[.int .i64 a0_0] rfl Zb12_1 ?_; (with_reducible refine (spec_l2Code.calls a0_0 true _ A4.out).mono ?_); rintro e w' ⟨rfl, ⟨nd, rfl⟩⟩; refine ⟨_, rfl, ?_⟩) | (go_at_call 60; (with_reducible refine (spec_l1In.calls a0_1 0 1 false _ A6.out).mono ?_); rintro e w' ⟨rfl, ⟨nd, rfl⟩⟩))
    go_meet
    case rel => exact ⟨_, (true), Sw.r, H', ⟨by first | omega | exact Nat.le_refl _⟩, ⟨Sw.bk BK127.out⟩, ⟨Sw.hb⟩⟩
  ·replace c5 := Bool.eq_false_iff.mpr c5
   subst c5
   have H1 : (spec_GoodDecoder.j0 k true a0_0 a0_1 a0_2 a0_3) = some r := by rw [if_neg (show ¬ (false = true) by decide)] at H; exact H
   clear H
   have H := H1
   clear H1
   have H' := Aside0.mk H
   clear H
   obtain ⟨hcz15_0, hcz15_1, hcz15_2, hcz15_3⟩ := Sw.cz4 BK127.out
   obtain ⟨hfz15_0, hfz15_1, hfz15_2, hfz15_3⟩ := Sw.fz4 BK127.out
   go_wp2_with (first | ((with_reducible refine gate_callee (f := 59) rfl ?_); refine goesL_ (some 5) rfl rfl Tryd.func59 (by kernel_rfl) rfl #[.int .i64 a0_0] rfl Zb12_1 ?_; (with_reducible refine (spec_l2Code.calls a0_0 false _ A4.out).mono ?_); rintro e w' ⟨rfl, ⟨nd, rfl⟩⟩; refine ⟨_, rfl, ?_⟩))
   go_meet
   case rel => exact ⟨_, (true), Sw.r, H', ⟨by first | omega | exact Nat.le_refl _⟩, ⟨Sw.bk BK127.out⟩, ⟨Sw.hb⟩⟩
 case rest =>
  clear HC2
  try clear c1
  try clear p2
  try clear c5
  try clear p6
  try clear c7
  try clear c9
  try clear c10
  try clear c10b0
  try clear c10b1
  try clear c12
  try clear hcz11_0 hcz11_1 hcz11_2 hcz11_3
  try clear hcz12_0 hcz12_1 hcz12_2 hcz12_3
  try clear hcz13_0 hcz13_1 hcz13_2 hcz13_3
  try clear hcz14_0 hcz14_1 hcz14_2 hcz14_3
  try clear hcz15_0 hcz15_1 hcz15_2 hcz15_3
  try clear hfz11_0 hfz11_1 hfz11_2 hfz11_3
  try clear hfz12_0 hfz12_1 hfz12_2 hfz12_3
  try clear hfz13_0 hfz13_1 hfz13_2 hfz13_3
  try clear hfz14_0 hfz14_1 hfz14_2 hfz14_3
  try clear hfz15_0 hfz15_1 hfz15_2 hfz15_3
  obtain ⟨kq, x31_1, rfl, HA, HJ1, BK127, HB⟩ := hcut
  cases kq with
  | zero => exact absurd HA.out (by simp [spec_GoodDecoder.j0])
  | succ kj1 =>
   have H := HA.out
   clear HA
   simp only [spec_GoodDecoder.j0] at H
   by_cases c16 : x31_1 = true
   ·subst c16
    have H1 : (some false) = some r := by rw [if_pos rfl] at H; exact H
    clear H
    have H := H1
    clear H1
    obtain rfl := Option.some.inj H
    go_wp2
    go_ret
    exact ⟨Sw.e, HB.out⟩
   ·replace c16 := Bool.eq_false_iff.mpr c16
    subst c16
    have H1 : (if a0_0 = 1 then (if a0_3.toList = ([] : List UInt8) then (some true) else ((spec_l1Begun.f kj1 a0_3).bind fun t131 => (some t131))) else ((spec_l2Units.f a0_0).bind fun t132 => (if t132 = true then (if (a0_3.size : Int) < 2 then (some true) else (if (a0_3.size : Int) < 4 then ((spec_l2Unit.f a0_0 a0_3).bind fun t133 => ((spec_l2High.f t133).bind fun t134 => (some t134))) else (some false))) else (some (a0_3.toList == ([] : List UInt8)))))) = some r := by rw [if_neg (show ¬ (false = true) by decide)] at H; exact H
    clear H
    have H := H1
    clear H1
    by_cases c17 : a0_0 = 1
    ·rw [if_pos c17] at H
     have c17b0 : (a0_0 == 1) = true := beq_iff_eq.mpr c17
     have c17b1 : (a0_0 != 1) = false := bne_eq_false_iff_eq.mpr c17
     clear c17
     by_cases c18 : a0_3.toList = ([] : List UInt8)
     ·rw [if_pos c18] at H
      have c18b0 : (a0_3.toList == ([] : List UInt8)) = true := beq_iff_eq.mpr c18
      have c18b1 : (a0_3.toList != ([] : List UInt8)) = false := bne_eq_false_iff_eq.mpr c18
      clear c18
      obtain rfl := Option.some.inj H
      obtain ⟨hcz19_0, hcz19_1, hcz19_2, hcz19_3⟩ := Sw.cz4 BK127.out
      obtain ⟨hfz19_0, hfz19_1, hfz19_2, hfz19_3⟩ := Sw.fz4 BK127.out
      go_wp2
      go_ret
      exact ⟨Sw.e, Zb12_0⟩
     ·rw [if_neg c18] at H
      have c18b0 : (a0_3.toList == ([] : List UInt8)) = false := beq_eq_false_iff_ne.mpr c18
      have c18b1 : (a0_3.toList != ([] : List UInt8)) = true := bne_iff_ne.mpr c18
      replace H := Option.bind_eq_some_iff.mp H
      obtain ⟨t131, A200, H⟩ := H
      replace H : (some t131) = some r := H
      have A20 := Aside0.mk A200
      clear A200
      obtain rfl := Option.some.inj H
      obtain ⟨hcz21_0, hcz21_1, hcz21_2, hcz21_3⟩ := Sw.cz4 BK127.out
      obtain ⟨hfz21_0, hfz21_1, hfz21_2, hfz21_3⟩ := Sw.fz4 BK127.out
      go_wp2_with (first | (go_at_call 61; (with_reducible refine (spec_l1Begun.calls kj1 a0_3 t131 _ A20.out).mono ?_); rintro e w22 ⟨rfl, hb⟩; replace BK127 := Aside0.mk (Sw.bl BK127.out hb); replace HB := Aside0.mk (below_step Sw.hb hb)))
      go_ret
      exact ⟨Sw.e, Zb12_0⟩
    ·rw [if_neg c17] at H
     have c17b0 : (a0_0 == 1) = false := beq_eq_false_iff_ne.mpr c17
     have c17b1 : (a0_0 != 1) = true := bne_iff_ne.mpr c17
     replace H := Option.bind_eq_some_iff.mp H
     obtain ⟨t132, A230, H⟩ := H
     replace H : (if t132 = true then (if (a0_3.size : Int) < 2 then (some true) else (if (a0_3.size : Int) < 4 then ((spec_l2Unit.f a0_0 a0_3).bind fun t133 => ((spec_l2High.f t133).bind fun t134 => (some t134))) else (some false))) else (some (a0_3.toList == ([] : List UInt8)))) = some r := H
     have A23 := Aside0.mk A230
     clear A230
     by_cases c24 : t132 = true
     ·subst c24
      have H1 : (if (a0_3.size : Int) < 2 then (some true) else (if (a0_3.size : Int) < 4 then ((spec_l2Unit.f a0_0 a0_3).bind fun t133 => ((spec_l2High.f t133).bind fun t134 => (some t134))) else (some false))) = some r := by rw [if_pos rfl] at H; exact H
      clear H
      have H := H1
      clear H1
      by_cases c25 : (a0_3.size : Int) < 2
      ·rw [if_pos c25] at H
       have c25b0 : decide ((a0_3.size : Int) < 2) = true := decide_eq_true c25
       have c25b1 : decide (a0_3.size < 2) = true := decide_eq_true (by omega)
       clear c25
       obtain rfl := Option.some.inj H
       obtain ⟨hcz26_0, hcz26_1, hcz26_2, hcz26_3⟩ := Sw.cz4 BK127.out
       obtain ⟨hfz26_0, hfz26_1, hfz26_2, hfz26_3⟩ := Sw.fz4 BK127.out
       go_wp2_with (first | ((with_reducible refine gate_callee (f := 62) rfl ?_); refine goesL_ (some 47) rfl rfl Tryd.func62 (by kernel_rfl) rfl #[.int .i64 a0_0] rfl Zb12_1 ?_; (with_reducible refine (spec_l2Units.calls a0_0 true _ A23.out).mono ?_); rintro e w' ⟨rfl, ⟨nd, rfl⟩⟩; refine ⟨_, rfl, ?_⟩))
       go_ret
       exact ⟨Sw.e, Zb12_0⟩
      ·rw [if_neg c25] at H
       have c25b0 : decide ((a0_3.size : Int) < 2) = false := decide_eq_false c25
       have c25b1 : decide (a0_3.size < 2) = false := decide_eq_false (by omega)
       clear c25
       by_cases c27 : (a0_3.size : Int) < 4
       ·rw [if_pos c27] at H
        have c27b0 : decide ((a0_3.size : Int) < 4) = true := decide_eq_true c27
        have c27b1 : decide (a0_3.size < 4) = true := decide_eq_true (by omega)
        clear c27
        replace H := Option.bind_eq_some_iff.mp H
        obtain ⟨t133, A280, H⟩ := H
        replace H : ((spec_l2High.f t133).bind fun t134 => (some t134)) = some r := H
        have A28 := Aside0.mk A280
        clear A280
        replace H := Option.bind_eq_some_iff.mp H
        obtain ⟨t134, A290, H⟩ := H
        replace H : (some t134) = some r := H
        have A29 := Aside0.mk A290
        clear A290
        obtain rfl := Option.some.inj H
        obtain ⟨hcz30_0, hcz30_1, hcz30_2, hcz30_3⟩ := Sw.cz4 BK127.out
        obtain ⟨hfz30_0, hfz30_1, hfz30_2, hfz30_3⟩ := Sw.fz4 BK127.out
        go_wp2_with (first | ((with_reducible refine gate_callee (f := 62) rfl ?_); refine goesL_ (some 47) rfl rfl Tryd.func62 (by kernel_rfl) rfl #[.int .i64 a0_0] rfl Zb12_1 ?_; (with_reducible refine (spec_l2Units.calls a0_0 true _ A23.out).mono ?_); rintro e w' ⟨rfl, ⟨nd, rfl⟩⟩; refine ⟨_, rfl, ?_⟩) | (go_at_call 64; (with_reducible refine (spec_l2Unit.calls a0_0 a0_3 t133 _ A28.out).mono ?_); rintro e w' ⟨rfl, ⟨nd, rfl⟩⟩) | (go_at_call 63; (with_reducible refine (spec_l2High.calls t133 t134 _ A29.out).mono ?_); rintro e w' ⟨rfl, ⟨nd, rfl⟩⟩))
        go_ret
        exact ⟨Sw.e, Zb12_0⟩
       ·rw [if_neg c27] at H
        have c27b0 : decide ((a0_3.size : Int) < 4) = false := decide_eq_false c27
        have c27b1 : decide (a0_3.size < 4) = false := decide_eq_false (by omega)
        clear c27
        obtain rfl := Option.some.inj H
        obtain ⟨hcz31_0, hcz31_1, hcz31_2, hcz31_3⟩ := Sw.cz4 BK127.out
        obtain ⟨hfz31_0, hfz31_1, hfz31_2, hfz31_3⟩ := Sw.fz4 BK127.out
        go_wp2_with (first | ((with_reducible refine gate_callee (f := 62) rfl ?_); refine goesL_ (some 47) rfl rfl Tryd.func62 (by kernel_rfl) rfl #[.int .i64 a0_0] rfl Zb12_1 ?_; (with_reducible refine (spec_l2Units.calls a0_0 true _ A23.out).mono ?_); rintro e w' ⟨rfl, ⟨nd, rfl⟩⟩; refine ⟨_, rfl, ?_⟩))
        go_ret
        exact ⟨Sw.e, Zb12_0⟩
     ·replace c24 := Bool.eq_false_iff.mpr c24
      subst c24
      have H1 : (some (a0_3.toList == ([] : List UInt8))) = some r := by rw [if_neg (show ¬ (false = true) by decide)] at H; exact H
      clear H
      have H := H1
      clear H1
      obtain rfl := Option.some.inj H
      obtain ⟨hcz32_0, hcz32_1, hcz32_2, hcz32_3⟩ := Sw.cz4 BK127.out
      obtain ⟨hfz32_0, hfz32_1, hfz32_2, hfz32_3⟩ := Sw.fz4 BK127.out
      go_wp2_with (first | ((with_reducible refine gate_callee (f := 62) rfl ?_); refine goesL_ (some 47) rfl rfl Tryd.func62 (by kernel_rfl) rfl #[.int .i64 a0_0] rfl Zb12_1 ?_; (with_reducible refine (spec_l2Units.calls a0_0 false _ A23.out).mono ?_); rintro e w' ⟨rfl, ⟨nd, rfl⟩⟩; refine ⟨_, rfl, ?_⟩))
      go_ret
      exact ⟨Sw.e, Zb12_0⟩

def spec_l1Text.f (a0 : ByteArray) : Option (Bool) := some (decide ((a0.size : Int) ≤ 1000))
theorem spec_l1Text.calls (a0 : ByteArray) (r : Bool) (w : World) (h : spec_l1Text.f a0 = some r) :
    Calls Tryd.prog 52 #[.string a0] w fun e w' => e = .returned (.bool r) ∧ Drawn0 w w' := by
  have H : (some (decide ((a0.size : Int) ≤ 1000))) = some r := h
  clear h
  obtain rfl := Option.some.inj H
  go_enter Tryd.func52, Tryd.ntmps52
  go_wp2
  go_ret
  exact ⟨Sw.r, Sw.dr⟩

def spec_l2Shifted.j0 : Nat → Int → Int → Bool → Option (Int)
 | 0, _, _, _ => none
 | k + 1, x0, x1, x5 => if x5 = true then (some x1) else (if x0 = 1 then (if x1 ≤ 126 then (some (wrap64 ((wrap64 (12352 + x1)) - 32))) else (some 65533)) else (some 65533))
def spec_l2Shifted.f (k : Nat) (a0 : Int) (a1 : Int) : Option (Int) := if a1 < 32 then (spec_l2Shifted.j0 k a0 a1 true) else (if a1 < 128 then (spec_l2Shifted.j0 k a0 a1 (a0 == 0)) else (spec_l2Shifted.j0 k a0 a1 false))
theorem spec_l2Shifted.mono_l : ∀ k, (∀ y0 y1 y2, LeO (spec_l2Shifted.j0 k y0 y1 y2) (spec_l2Shifted.j0 (k + 1) y0 y1 y2))
 | 0 => fun _ _ _ r h => by simp [spec_l2Shifted.j0] at h
 | k + 1 => by
  have ih0 := spec_l2Shifted.mono_l k
  ·intro y0 y1 y2
   unfold spec_l2Shifted.j0
   with_reducible repeat' first | exact ih0 _ _ _ | exact LeO.refl _ | exact LeO.none _ | refine LeO.ite ?_ ?_ | refine LeO.bind ?_ (fun _ => ?_)
theorem spec_l2Shifted.mono : ∀ a0 a1 k, LeO (spec_l2Shifted.f k a0 a1) (spec_l2Shifted.f (k + 1) a0 a1) := by
 intro a0 a1 k
 have ih0 := spec_l2Shifted.mono_l k
 unfold spec_l2Shifted.f
 with_reducible repeat' first | exact ih0 _ _ _ | exact LeO.refl _ | exact LeO.none _ | refine LeO.ite ?_ ?_ | refine LeO.bind ?_ (fun _ => ?_)
theorem spec_l2Shifted.calls (k : Nat) (a0 : Int) (a1 : Int) (r : Int) (w : World) (h : spec_l2Shifted.f k a0 a1 = some r) :
  Calls Tryd.prog 96 #[.int .i64 a0, .int .i64 a1] w fun e w' => e = .returned (.int .i64 r) ∧ Drawn0 w w' := by
 have H : (if a1 < 32 then (spec_l2Shifted.j0 k a0 a1 true) else (if a1 < 128 then (spec_l2Shifted.j0 k a0 a1 (a0 == 0)) else (spec_l2Shifted.j0 k a0 a1 false))) = some r := h
 clear h
 have HC3 := Aside0.mk H
 clear H
 go_enter Tryd.func96, Tryd.ntmps96
 go_upto_region 1 with (fail)
 go_cut [5] (fun v5 wc => ∃ (kq : Nat) (x5_2 : Bool), v5 = .bool x5_2 ∧ Aside0 (spec_l2Shifted.j0 kq a0 a1 x5_2 = some r) ∧ Aside0 (kq ≤ k) ∧ Drawn0 w wc)
 case first =>
  have H := HC3.out
  clear HC3
  by_cases c4 : a1 < 32
  ·rw [if_pos c4] at H
   have c4b0 : decide (a1 < 32) = true := decide_eq_true c4
   clear c4
   (first | rw [c4b0] | (simp only [i64_w, i32_w]; rw [c4b0]) | skip)
   have H' := Aside0.mk H
   clear H
   go_wp2
   go_meet
   case rel => exact ⟨_, (true), Sw.r, H', ⟨by first | omega | exact Nat.le_refl _⟩, Sw.dr⟩
  ·rw [if_neg c4] at H
   have c4b0 : decide (a1 < 32) = false := decide_eq_false c4
   clear c4
   (first | rw [c4b0] | (simp only [i64_w, i32_w]; rw [c4b0]) | skip)
   by_cases c5 : a1 < 128
   ·rw [if_pos c5] at H
    have c5b0 : decide (a1 < 128) = true := decide_eq_true c5
    clear c5
    have H' := Aside0.mk H
    clear H
    go_wp2
    go_meet
    case rel => exact ⟨_, ((a0 == 0)), Sw.r, H', ⟨by first | omega | exact Nat.le_refl _⟩, Sw.dr⟩
   ·rw [if_neg c5] at H
    have c5b0 : decide (a1 < 128) = false := decide_eq_false c5
    clear c5
    have H' := Aside0.mk H
    clear H
    go_wp2
    go_meet
    case rel => exact ⟨_, (false), Sw.r, H', ⟨by first | omega | exact Nat.le_refl _⟩, Sw.dr⟩
 case rest =>
  clear HC3
  try clear p2
  try clear c4
  try clear c4b0
  try clear c5
  try clear c5b0
  obtain ⟨kq, x5_2, rfl, HA, HJ2, ⟨mc2, rfl⟩⟩ := hcut
  cases kq with
  | zero => exact absurd HA.out (by simp [spec_l2Shifted.j0])
  | succ kj2 =>
   have H := HA.out
   clear HA
   simp only [spec_l2Shifted.j0] at H
   by_cases c6 : x5_2 = true
   ·subst c6
    have H1 : (some a1) = some r := by rw [if_pos rfl] at H; exact H
    clear H
    have H := H1
    clear H1
    obtain rfl := Option.some.inj H
    go_wp2
    go_ret
    exact ⟨Sw.r, Sw.dr⟩
   ·replace c6 := Bool.eq_false_iff.mpr c6
    subst c6
    have H1 : (if a0 = 1 then (if a1 ≤ 126 then (some (wrap64 ((wrap64 (12352 + a1)) - 32))) else (some 65533)) else (some 65533)) = some r := by rw [if_neg (show ¬ (false = true) by decide)] at H; exact H
    clear H
    have H := H1
    clear H1
    by_cases c7 : a0 = 1
    ·rw [if_pos c7] at H
     have c7b0 : (a0 == 1) = true := beq_iff_eq.mpr c7
     have c7b1 : (a0 != 1) = false := bne_eq_false_iff_eq.mpr c7
     clear c7
     by_cases c8 : a1 ≤ 126
     ·rw [if_pos c8] at H
      have c8b0 : decide (a1 ≤ 126) = true := decide_eq_true c8
      clear c8
      obtain rfl := Option.some.inj H
      go_wp2
      go_ret
      exact ⟨Sw.r, Sw.dr⟩
     ·rw [if_neg c8] at H
      have c8b0 : decide (a1 ≤ 126) = false := decide_eq_false c8
      clear c8
      obtain rfl := Option.some.inj H
      go_wp2
      go_ret
      exact ⟨Sw.r, Sw.dr⟩
    ·rw [if_neg c7] at H
     have c7b0 : (a0 == 1) = false := beq_eq_false_iff_ne.mpr c7
     have c7b1 : (a0 != 1) = true := bne_iff_ne.mpr c7
     obtain rfl := Option.some.inj H
     go_wp2
     go_ret
     exact ⟨Sw.r, Sw.dr⟩

def spec_l2Low.f (a0 : Int) : Option (Bool) := (spec_l1In.f a0 56320 57343).bind fun t135 => (some t135)
theorem spec_l2Low.calls (a0 : Int) (r : Bool) (w : World) (h : spec_l2Low.f a0 = some r) :
    Calls Tryd.prog 114 #[.int .i64 a0] w fun e w' => e = .returned (.bool r) ∧ Drawn0 w w' := by
  have H : ((spec_l1In.f a0 56320 57343).bind fun t135 => (some t135)) = some r := h
  clear h
  replace H := Option.bind_eq_some_iff.mp H
  obtain ⟨t135, A20, H⟩ := H
  replace H : (some t135) = some r := H
  have A2 := Aside0.mk A20
  clear A20
  obtain rfl := Option.some.inj H
  go_enter Tryd.func114, Tryd.ntmps114
  go_wp2_with (first | ((with_reducible refine gate_callee (f := 60) rfl ?_); refine goesL_ (some 4) rfl rfl Tryd.func60 (by kernel_rfl) rfl #[.int .i64 a0, .int .i64 56320, .int .i64 57343] rfl (by (try simp only [List.map_toArray, List.map_cons, List.map_nil]); first | done | rfl | (simp only [List.length_drop, List.length_take]; rfl)) ?_; (with_reducible refine (spec_l1In.calls a0 56320 57343 t135 _ A2.out).mono ?_); rintro e w' ⟨rfl, ⟨nd, rfl⟩⟩; refine ⟨_, rfl, ?_⟩))
  go_ret
  exact ⟨Sw.r, Sw.dr⟩

theorem Zb97_0 {p : Prop} (h : p := by (try simp only [List.map_toArray, List.map_cons, List.map_nil]); first | done | rfl | (simp only [List.length_drop, List.length_take]; rfl)) : p := h
theorem Zb97_1 {p : Prop} (h : p := by repeat (first | (with_reducible first | exact HB.out | apply below_alloc | apply pw_below_drewN | apply below_drew1) | exact HB.out)) : p := h
def spec_l2One.f (k : Nat) (a0 : Int) (a1 : ByteArray) : Option (Int × Int) := if a0 = 1 then ((spec_l1Begun.f k a1).bind fun t136 => (if t136 = true then (some (0, 0)) else ((spec_l1At.f k a1 0).bind fun bt137 => (some (bt137.1, bt137.2))))) else (if (a1.size : Int) < 2 then (some (0, 0)) else ((spec_l2Unit.f a0 a1).bind fun t139 => ((spec_l2Low.f t139).bind fun t140 => (if t140 = true then (some (65533, 2)) else ((spec_l2High.f t139).bind fun t141 => (if t141 = true then (if (a1.size : Int) < 4 then (some (0, 0)) else (if 2 ≤ (a1.size : Int) then ((spec_l2Unit.f a0 (a1.extract 2 a1.size)).bind fun t142 => ((spec_l2Low.f t142).bind fun t143 => (if t143 = true then (some (wrap64 ((wrap64 ((wrap64 (65536 + (wrap64 ((wrap64 (t139 - 55296)) * 1024)))) + t142)) - 56320), 4)) else (some (65533, 2))))) else (none))) else (some (t139, 2))))))))
theorem spec_l2One.mono : ∀ a0 a1 k, LeO (spec_l2One.f k a0 a1) (spec_l2One.f (k + 1) a0 a1) := by
 intro a0 a1 k
 unfold spec_l2One.f
 with_reducible repeat' first | exact spec_l1At.mono _ _ _ | exact spec_l1Begun.mono _ _ | exact LeO.refl _ | exact LeO.none _ | refine LeO.ite ?_ ?_ | refine LeO.bind ?_ (fun _ => ?_)
theorem spec_l2One.calls (k : Nat) (a0 : Int) (a1 : ByteArray) (r1 : Int) (r2 : Int) (w : World) (h : spec_l2One.f k a0 a1 = some (r1, r2)) :
  Calls Tryd.prog 97 #[.int .i64 a0, .string a1] w fun e w' => e = .returned (.tuple #[.int .i64 r1, .int .i64 r2]) ∧ Below w.heap.size w w' := by
 have HB := Aside0.mk (Below.refl w.heap.size w)
 have H : (if a0 = 1 then ((spec_l1Begun.f k a1).bind fun t136 => (if t136 = true then (some (0, 0)) else ((spec_l1At.f k a1 0).bind fun bt137 => (some (bt137.1, bt137.2))))) else (if (a1.size : Int) < 2 then (some (0, 0)) else ((spec_l2Unit.f a0 a1).bind fun t139 => ((spec_l2Low.f t139).bind fun t140 => (if t140 = true then (some (65533, 2)) else ((spec_l2High.f t139).bind fun t141 => (if t141 = true then (if (a1.size : Int) < 4 then (some (0, 0)) else (if 2 ≤ (a1.size : Int) then ((spec_l2Unit.f a0 (a1.extract 2 a1.size)).bind fun t142 => ((spec_l2Low.f t142).bind fun t143 => (if t143 = true then (some (wrap64 ((wrap64 ((wrap64 (65536 + (wrap64 ((wrap64 (t139 - 55296)) * 1024)))) + t142)) - 56320), 4)) else (some (65533, 2))))) else (none))) else (some (t139, 2))))))))) = some (r1, r2) := h
 clear h
 by_cases c3 : a0 = 1
 ·rw [if_pos c3] at H
  have c3b0 : (a0 == 1) = true := beq_iff_eq.mpr c3
  have c3b1 : (a0 != 1) = false := bne_eq_false_iff_eq.mpr c3
  clear c3
  replace H := Option.bind_eq_some_iff.mp H
  obtain ⟨t136, A40, H⟩ := H
  replace H : (if t136 = true then (some (0, 0)) else ((spec_l1At.f k a1 0).bind fun bt137 => (some (bt137.1, bt137.2)))) = some (r1, r2) := H
  have A4 := Aside0.mk A40
  clear A40
  by_cases c5 : t136 = true
  ·subst c5
   have H1 : (some (0, 0)) = some (r1, r2) := by rw [if_pos rfl] at H; exact H
   clear H
   have H := H1
   clear H1
   simp only [Option.some.injEq, Prod.mk.injEq] at H
   obtain ⟨rfl, rfl⟩ := H
   go_enter Tryd.func97, Tryd.ntmps97
   go_wp2_with (first | ((with_reducible refine gate_callee (f := 61) rfl ?_); refine goesL_ (some 11) rfl rfl Tryd.func61 (by kernel_rfl) rfl #[.string a1] rfl Zb97_0 ?_; (with_reducible refine (spec_l1Begun.calls k a1 true _ A4.out).mono ?_); rintro e w6 ⟨rfl, hb⟩; refine ⟨_, rfl, ?_⟩; replace HB := Aside0.mk (below_step Sw.hb hb); (try clear hb); (try clear hb2); (try clear hk); (try clear hi)))
   go_ret2
   exact ⟨Sw.e, Zb97_1⟩
  ·replace c5 := Bool.eq_false_iff.mpr c5
   subst c5
   have H1 : ((spec_l1At.f k a1 0).bind fun bt137 => (some (bt137.1, bt137.2))) = some (r1, r2) := by rw [if_neg (show ¬ (false = true) by decide)] at H; exact H
   clear H
   have H := H1
   clear H1
   replace H := Option.bind_eq_some_iff.mp H
   obtain ⟨⟨t137, t138⟩, A70, H⟩ := H
   replace H : (some (t137, t138)) = some (r1, r2) := H
   have A7 := Aside0.mk A70
   clear A70
   simp only [Option.some.injEq, Prod.mk.injEq] at H
   obtain ⟨rfl, rfl⟩ := H
   go_enter Tryd.func97, Tryd.ntmps97
   go_wp2_with (first | ((with_reducible refine gate_callee (f := 61) rfl ?_); refine goesL_ (some 11) rfl rfl Tryd.func61 (by kernel_rfl) rfl #[.string a1] rfl Zb97_0 ?_; (with_reducible refine (spec_l1Begun.calls k a1 false _ A4.out).mono ?_); rintro e w8 ⟨rfl, hb⟩; refine ⟨_, rfl, ?_⟩; replace HB := Aside0.mk (below_step Sw.hb hb); (try clear hb); (try clear hb2); (try clear hk); (try clear hi)) | ((with_reducible refine gate_callee (f := 85) rfl ?_); refine goesL_ (some 13) rfl rfl Tryd.func85 (by kernel_rfl) rfl #[.string a1, .int .i64 0] rfl Zb97_0 ?_; (with_reducible refine (spec_l1At.calls k a1 0 t137 t138 _ A7.out).mono ?_); rintro e w9 ⟨rfl, hb⟩; refine ⟨_, rfl, ?_⟩; replace HB := Aside0.mk (below_step Sw.hb hb); (try clear hb); (try clear hb2); (try clear hk); (try clear hi)))
   go_ret2
   exact ⟨Sw.e, Zb97_1⟩
 ·rw [if_neg c3] at H
  have c3b0 : (a0 == 1) = false := beq_eq_false_iff_ne.mpr c3
  have c3b1 : (a0 != 1) = true := bne_iff_ne.mpr c3
  by_cases c10 : (a1.size : Int) < 2
  ·rw [if_pos c10] at H
   have c10b0 : decide ((a1.size : Int) < 2) = true := decide_eq_true c10
   have c10b1 : decide (a1.size < 2) = true := decide_eq_true (by omega)
   clear c10
   simp only [Option.some.injEq, Prod.mk.injEq] at H
   obtain ⟨rfl, rfl⟩ := H
   go_enter Tryd.func97, Tryd.ntmps97
   go_wp2
   go_ret2
   exact ⟨Sw.e, Zb97_1⟩
  ·rw [if_neg c10] at H
   have c10b0 : decide ((a1.size : Int) < 2) = false := decide_eq_false c10
   have c10b1 : decide (a1.size < 2) = false := decide_eq_false (by omega)
   clear c10
   replace H := Option.bind_eq_some_iff.mp H
   obtain ⟨t139, A110, H⟩ := H
   replace H : ((spec_l2Low.f t139).bind fun t140 => (if t140 = true then (some (65533, 2)) else ((spec_l2High.f t139).bind fun t141 => (if t141 = true then (if (a1.size : Int) < 4 then (some (0, 0)) else (if 2 ≤ (a1.size : Int) then ((spec_l2Unit.f a0 (a1.extract 2 a1.size)).bind fun t142 => ((spec_l2Low.f t142).bind fun t143 => (if t143 = true then (some (wrap64 ((wrap64 ((wrap64 (65536 + (wrap64 ((wrap64 (t139 - 55296)) * 1024)))) + t142)) - 56320), 4)) else (some (65533, 2))))) else (none))) else (some (t139, 2)))))) = some (r1, r2) := H
   have A11 := Aside0.mk A110
   clear A110
   replace H := Option.bind_eq_some_iff.mp H
   obtain ⟨t140, A120, H⟩ := H
   replace H : (if t140 = true then (some (65533, 2)) else ((spec_l2High.f t139).bind fun t141 => (if t141 = true then (if (a1.size : Int) < 4 then (some (0, 0)) else (if 2 ≤ (a1.size : Int) then ((spec_l2Unit.f a0 (a1.extract 2 a1.size)).bind fun t142 => ((spec_l2Low.f t142).bind fun t143 => (if t143 = true then (some (wrap64 ((wrap64 ((wrap64 (65536 + (wrap64 ((wrap64 (t139 - 55296)) * 1024)))) + t142)) - 56320), 4)) else (some (65533, 2))))) else (none))) else (some (t139, 2))))) = some (r1, r2) := H
   have A12 := Aside0.mk A120
   clear A120
   by_cases c13 : t140 = true
   ·subst c13
    have H1 : (some (65533, 2)) = some (r1, r2) := by rw [if_pos rfl] at H; exact H
    clear H
    have H := H1
    clear H1
    simp only [Option.some.injEq, Prod.mk.injEq] at H
    obtain ⟨rfl, rfl⟩ := H
    go_enter Tryd.func97, Tryd.ntmps97
    go_wp2_with (first | ((with_reducible refine gate_callee (f := 64) rfl ?_); refine goesL_ (some 21) rfl rfl Tryd.func64 (by kernel_rfl) rfl #[.int .i64 a0, .string a1] rfl Zb97_0 ?_; (with_reducible refine (spec_l2Unit.calls a0 a1 t139 _ A11.out).mono ?_); rintro e w' ⟨rfl, ⟨nd, rfl⟩⟩; refine ⟨_, rfl, ?_⟩) | ((with_reducible refine gate_callee (f := 114) rfl ?_); refine goesL_ (some 24) rfl rfl Tryd.func114 (by kernel_rfl) rfl #[.int .i64 t139] rfl Zb97_0 ?_; (with_reducible refine (spec_l2Low.calls t139 true _ A12.out).mono ?_); rintro e w' ⟨rfl, ⟨nd, rfl⟩⟩; refine ⟨_, rfl, ?_⟩))
    go_ret2
    exact ⟨Sw.e, Zb97_1⟩
   ·replace c13 := Bool.eq_false_iff.mpr c13
    subst c13
    have H1 : ((spec_l2High.f t139).bind fun t141 => (if t141 = true then (if (a1.size : Int) < 4 then (some (0, 0)) else (if 2 ≤ (a1.size : Int) then ((spec_l2Unit.f a0 (a1.extract 2 a1.size)).bind fun t142 => ((spec_l2Low.f t142).bind fun t143 => (if t143 = true then (some (wrap64 ((wrap64 ((wrap64 (65536 + (wrap64 ((wrap64 (t139 - 55296)) * 1024)))) + t142)) - 56320), 4)) else (some (65533, 2))))) else (none))) else (some (t139, 2)))) = some (r1, r2) := by rw [if_neg (show ¬ (false = true) by decide)] at H; exact H
    clear H
    have H := H1
    clear H1
    replace H := Option.bind_eq_some_iff.mp H
    obtain ⟨t141, A140, H⟩ := H
    replace H : (if t141 = true then (if (a1.size : Int) < 4 then (some (0, 0)) else (if 2 ≤ (a1.size : Int) then ((spec_l2Unit.f a0 (a1.extract 2 a1.size)).bind fun t142 => ((spec_l2Low.f t142).bind fun t143 => (if t143 = true then (some (wrap64 ((wrap64 ((wrap64 (65536 + (wrap64 ((wrap64 (t139 - 55296)) * 1024)))) + t142)) - 56320), 4)) else (some (65533, 2))))) else (none))) else (some (t139, 2))) = some (r1, r2) := H
    have A14 := Aside0.mk A140
    clear A140
    by_cases c15 : t141 = true
    ·subst c15
     have H1 : (if (a1.size : Int) < 4 then (some (0, 0)) else (if 2 ≤ (a1.size : Int) then ((spec_l2Unit.f a0 (a1.extract 2 a1.size)).bind fun t142 => ((spec_l2Low.f t142).bind fun t143 => (if t143 = true then (some (wrap64 ((wrap64 ((wrap64 (65536 + (wrap64 ((wrap64 (t139 - 55296)) * 1024)))) + t142)) - 56320), 4)) else (some (65533, 2))))) else (none))) = some (r1, r2) := by rw [if_pos rfl] at H; exact H
     clear H
     have H := H1
     clear H1
     by_cases c16 : (a1.size : Int) < 4
     ·rw [if_pos c16] at H
      have c16b0 : decide ((a1.size : Int) < 4) = true := decide_eq_true c16
      have c16b1 : decide (a1.size < 4) = true := decide_eq_true (by omega)
      clear c16
      simp only [Option.some.injEq, Prod.mk.injEq] at H
      obtain ⟨rfl, rfl⟩ := H
      go_enter Tryd.func97, Tryd.ntmps97
      go_wp2_with (first | ((with_reducible refine gate_callee (f := 64) rfl ?_); refine goesL_ (some 21) rfl rfl Tryd.func64 (by kernel_rfl) rfl #[.int .i64 a0, .string a1] rfl Zb97_0 ?_; (with_reducible refine (spec_l2Unit.calls a0 a1 t139 _ A11.out).mono ?_); rintro e w' ⟨rfl, ⟨nd, rfl⟩⟩; refine ⟨_, rfl, ?_⟩) | ((with_reducible refine gate_callee (f := 114) rfl ?_); refine goesL_ (some 24) rfl rfl Tryd.func114 (by kernel_rfl) rfl #[.int .i64 t139] rfl Zb97_0 ?_; (with_reducible refine (spec_l2Low.calls t139 false _ A12.out).mono ?_); rintro e w' ⟨rfl, ⟨nd, rfl⟩⟩; refine ⟨_, rfl, ?_⟩) | ((with_reducible refine gate_callee (f := 63) rfl ?_); refine goesL_ (some 27) rfl rfl Tryd.func63 (by kernel_rfl) rfl #[.int .i64 t139] rfl Zb97_0 ?_; (with_reducible refine (spec_l2High.calls t139 true _ A14.out).mono ?_); rintro e w' ⟨rfl, ⟨nd, rfl⟩⟩; refine ⟨_, rfl, ?_⟩))
      go_ret2
      exact ⟨Sw.e, Zb97_1⟩
     ·rw [if_neg c16] at H
      have c16b0 : decide ((a1.size : Int) < 4) = false := decide_eq_false c16
      have c16b1 : decide (a1.size < 4) = false := decide_eq_false (by omega)
      clear c16
      by_cases c17 : 2 ≤ (a1.size : Int)
      ·rw [if_pos c17] at H
       have c17b0 := eq_true c17
       have c17b1 : decide (2 ≤ (a1.size : Int)) = true := decide_eq_true c17
       clear c17
       replace H := Option.bind_eq_some_iff.mp H
       obtain ⟨t142, A180, H⟩ := H
       replace H : ((spec_l2Low.f t142).bind fun t143 => (if t143 = true then (some (wrap64 ((wrap64 ((wrap64 (65536 + (wrap64 ((wrap64 (t139 - 55296)) * 1024)))) + t142)) - 56320), 4)) else (some (65533, 2)))) = some (r1, r2) := H
       have A18 := Aside0.mk A180
       clear A180
       replace H := Option.bind_eq_some_iff.mp H
       obtain ⟨t143, A190, H⟩ := H
       replace H : (if t143 = true then (some (wrap64 ((wrap64 ((wrap64 (65536 + (wrap64 ((wrap64 (t139 - 55296)) * 1024)))) + t142)) - 56320), 4)) else (some (65533, 2))) = some (r1, r2) := H
       have A19 := Aside0.mk A190
       clear A190
       by_cases c20 : t143 = true
       ·subst c20
        have H1 : (some (wrap64 ((wrap64 ((wrap64 (65536 + (wrap64 ((wrap64 (t139 - 55296)) * 1024)))) + t142)) - 56320), 4)) = some (r1, r2) := by rw [if_pos rfl] at H; exact H
        clear H
        have H := H1
        clear H1
        simp only [Option.some.injEq, Prod.mk.injEq] at H
        obtain ⟨rfl, rfl⟩ := H
        go_enter Tryd.func97, Tryd.ntmps97
        go_wp2_with (first | ((with_reducible refine gate_callee (f := 64) rfl ?_); refine goesL_ (some 21) rfl rfl Tryd.func64 (by kernel_rfl) rfl #[.int .i64 a0, .string a1] rfl Zb97_0 ?_; (with_reducible refine (spec_l2Unit.calls a0 a1 t139 _ A11.out).mono ?_); rintro e w' ⟨rfl, ⟨nd, rfl⟩⟩; refine ⟨_, rfl, ?_⟩) | ((with_reducible refine gate_callee (f := 114) rfl ?_); refine goesL_ (some 24) rfl rfl Tryd.func114 (by kernel_rfl) rfl #[.int .i64 t139] rfl Zb97_0 ?_; (with_reducible refine (spec_l2Low.calls t139 false _ A12.out).mono ?_); rintro e w' ⟨rfl, ⟨nd, rfl⟩⟩; refine ⟨_, rfl, ?_⟩) | ((with_reducible refine gate_callee (f := 63) rfl ?_); refine goesL_ (some 27) rfl rfl Tryd.func63 (by kernel_rfl) rfl #[.int .i64 t139] rfl Zb97_0 ?_; (with_reducible refine (spec_l2High.calls t139 true _ A14.out).mono ?_); rintro e w' ⟨rfl, ⟨nd, rfl⟩⟩; refine ⟨_, rfl, ?_⟩) | ((with_reducible refine gate_callee (f := 64) rfl ?_); refine goesL_ (some 37) rfl rfl Tryd.func64 (by kernel_rfl) rfl #[.int .i64 a0, .string (a1.extract 2 a1.size)] rfl Zb97_0 ?_; (with_reducible refine (spec_l2Unit.calls a0 (a1.extract 2 a1.size) t142 _ A18.out).mono ?_); rintro e w' ⟨rfl, ⟨nd, rfl⟩⟩; refine ⟨_, rfl, ?_⟩) | ((with_reducible refine gate_callee (f := 114) rfl ?_); refine goesL_ (some 39) rfl rfl Tryd.func114 (by kernel_rfl) rfl #[.int .i64 t142] rfl Zb97_0 ?_; (with_reducible refine (spec_l2Low.calls t142 true _ A19.out).mono ?_); rintro e w' ⟨rfl, ⟨nd, rfl⟩⟩; refine ⟨_, rfl, ?_⟩))
        go_ret2
        exact ⟨Sw.e, Zb97_1⟩
       ·replace c20 := Bool.eq_false_iff.mpr c20
        subst c20
        have H1 : (some (65533, 2)) = some (r1, r2) := by rw [if_neg (show ¬ (false = true) by decide)] at H; exact H
        clear H
        have H := H1
        clear H1
        simp only [Option.some.injEq, Prod.mk.injEq] at H
        obtain ⟨rfl, rfl⟩ := H
        go_enter Tryd.func97, Tryd.ntmps97
        go_wp2_with (first | ((with_reducible refine gate_callee (f := 64) rfl ?_); refine goesL_ (some 21) rfl rfl Tryd.func64 (by kernel_rfl) rfl #[.int .i64 a0, .string a1] rfl Zb97_0 ?_; (with_reducible refine (spec_l2Unit.calls a0 a1 t139 _ A11.out).mono ?_); rintro e w' ⟨rfl, ⟨nd, rfl⟩⟩; refine ⟨_, rfl, ?_⟩) | ((with_reducible refine gate_callee (f := 114) rfl ?_); refine goesL_ (some 24) rfl rfl Tryd.func114 (by kernel_rfl) rfl #[.int .i64 t139] rfl Zb97_0 ?_; (with_reducible refine (spec_l2Low.calls t139 false _ A12.out).mono ?_); rintro e w' ⟨rfl, ⟨nd, rfl⟩⟩; refine ⟨_, rfl, ?_⟩) | ((with_reducible refine gate_callee (f := 63) rfl ?_); refine goesL_ (some 27) rfl rfl Tryd.func63 (by kernel_rfl) rfl #[.int .i64 t139] rfl Zb97_0 ?_; (with_reducible refine (spec_l2High.calls t139 true _ A14.out).mono ?_); rintro e w' ⟨rfl, ⟨nd, rfl⟩⟩; refine ⟨_, rfl, ?_⟩) | ((with_reducible refine gate_callee (f := 64) rfl ?_); refine goesL_ (some 37) rfl rfl Tryd.func64 (by kernel_rfl) rfl #[.int .i64 a0, .string (a1.extract 2 a1.size)] rfl Zb97_0 ?_; (with_reducible refine (spec_l2Unit.calls a0 (a1.extract 2 a1.size) t142 _ A18.out).mono ?_); rintro e w' ⟨rfl, ⟨nd, rfl⟩⟩; refine ⟨_, rfl, ?_⟩) | ((with_reducible refine gate_callee (f := 114) rfl ?_); refine goesL_ (some 39) rfl rfl Tryd.func114 (by kernel_rfl) rfl #[.int .i64 t142] rfl Zb97_0 ?_; (with_reducible refine (spec_l2Low.calls t142 false _ A19.out).mono ?_); rintro e w' ⟨rfl, ⟨nd, rfl⟩⟩; refine ⟨_, rfl, ?_⟩))
        go_ret2
        exact ⟨Sw.e, Zb97_1⟩
      ·rw [if_neg c17] at H
       exact absurd H (by simp)
    ·replace c15 := Bool.eq_false_iff.mpr c15
     subst c15
     have H1 : (some (t139, 2)) = some (r1, r2) := by rw [if_neg (show ¬ (false = true) by decide)] at H; exact H
     clear H
     have H := H1
     clear H1
     simp only [Option.some.injEq, Prod.mk.injEq] at H
     obtain ⟨rfl, rfl⟩ := H
     go_enter Tryd.func97, Tryd.ntmps97
     go_wp2_with (first | ((with_reducible refine gate_callee (f := 64) rfl ?_); refine goesL_ (some 21) rfl rfl Tryd.func64 (by kernel_rfl) rfl #[.int .i64 a0, .string a1] rfl Zb97_0 ?_; (with_reducible refine (spec_l2Unit.calls a0 a1 t139 _ A11.out).mono ?_); rintro e w' ⟨rfl, ⟨nd, rfl⟩⟩; refine ⟨_, rfl, ?_⟩) | ((with_reducible refine gate_callee (f := 114) rfl ?_); refine goesL_ (some 24) rfl rfl Tryd.func114 (by kernel_rfl) rfl #[.int .i64 t139] rfl Zb97_0 ?_; (with_reducible refine (spec_l2Low.calls t139 false _ A12.out).mono ?_); rintro e w' ⟨rfl, ⟨nd, rfl⟩⟩; refine ⟨_, rfl, ?_⟩) | ((with_reducible refine gate_callee (f := 63) rfl ?_); refine goesL_ (some 27) rfl rfl Tryd.func63 (by kernel_rfl) rfl #[.int .i64 t139] rfl Zb97_0 ?_; (with_reducible refine (spec_l2High.calls t139 false _ A14.out).mono ?_); rintro e w' ⟨rfl, ⟨nd, rfl⟩⟩; refine ⟨_, rfl, ?_⟩))
     go_ret2
     exact ⟨Sw.e, Zb97_1⟩


end Go.Proofs.YtliafedmhgkciaaDoor.P
