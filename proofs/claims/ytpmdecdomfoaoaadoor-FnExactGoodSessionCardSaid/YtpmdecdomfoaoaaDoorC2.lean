import Derived.Test.YtpmdecdomfoaoaaDoorCP0
import Derived.Test.YtpmdecdomfoaoaaDoorC1
namespace Go.Proofs.YtpmdecdomfoaoaaDoor.P
open Go.RowKit Go.Proofs.YtpmdecdomfoaoaaDoorW.PrintWords Go.Proofs.YtpmdecdomfoaoaaDoorW.PrintLast Go.Proofs.YtpmdecdomfoaoaaDoorW.PrintMore
attribute [local go_sem] max2_int min2_int max_two min_two max_three min_three max_four min_four   -- for this text's walks alone
set_option linter.unusedVariables false
set_option linter.unusedSimpArgs false


def laws_toIntS.l0 : Nat → List Int → List Int → Int → Option (List Int)
 | 0, _, _, _ => none
 | k + 1, x0, x3, x4 => if x4 < (x0.length : Int) then (if 0 ≤ x4 then (if x4 < (x3.length : Int) then (laws_toIntS.l0 k x0 (x3.set (x4 : Int).toNat (rd x0 x4)) (wrap64 (x4 + 1))) else (none)) else (none)) else (some x3)
def laws_toIntS.f (k : Nat) (l0 : List Int) : Option (List Int) := if 0 ≤ (l0.length : Int) then (if ((l0.length : Int) : Int).toNat ≤ 35184372088832 then (laws_toIntS.l0 k l0 (List.replicate ((l0.length : Int) : Int).toNat 0) 0) else (none)) else (none)
theorem laws_toIntS.mono_l : ∀ k, (∀ y0 y1 y2, LeO (laws_toIntS.l0 k y0 y1 y2) (laws_toIntS.l0 (k + 1) y0 y1 y2))
 | 0 => fun _ _ _ r h => by simp [laws_toIntS.l0] at h
 | k + 1 => by
  have ih0 := laws_toIntS.mono_l k
  ·intro y0 y1 y2
   unfold laws_toIntS.l0
   repeat' first
   | (with_reducible exact ih0 _ _ _)
   | (with_reducible exact LeO.refl _)
   | (with_reducible exact LeO.none _)
   | (with_reducible refine LeO.ite ?_ ?_)
   | (with_reducible refine LeO.bind ?_ (fun _ => ?_))
   | exact ih0 _ _ _
   | exact LeO.none _
   | refine LeO.ite ?_ ?_
   | refine LeO.bind ?_ (fun _ => ?_)
theorem laws_toIntS.mono : ∀ a0 k, LeO (laws_toIntS.f k a0) (laws_toIntS.f (k + 1) a0) := by
 intro a0 k
 have ih0 := laws_toIntS.mono_l k
 unfold laws_toIntS.f
 repeat' first
   | (with_reducible exact ih0 _ _ _)
   | (with_reducible exact LeO.refl _)
   | (with_reducible exact LeO.none _)
   | (with_reducible refine LeO.ite ?_ ?_)
   | (with_reducible refine LeO.bind ?_ (fun _ => ?_))
   | exact ih0 _ _ _
   | exact LeO.none _
   | refine LeO.ite ?_ ?_
   | refine LeO.bind ?_ (fun _ => ?_)
set_option maxHeartbeats 8000000 in
set_option maxRecDepth 100000 in
theorem laws_toIntS.calls (k : Nat) (A0 : Option Addr) (c0 : Nat) (l0 : List Int) (r : List Int) (w : World) (hr0 : Kd.C (Kd.int .i64) w A0 l0.length l0) (hc0 : l0.length ≤ c0) (h : laws_toIntS.f k l0 = some r) :
  Calls Tryd.prog 43 #[.slice A0 l0.length c0] w fun e w' => ∃ v0_ : Value, e = .returned (v0_) ∧ Kd.R (Kd.int .i64) 3 w' w.heap.size (fun _ => True) v0_ r ∧ Below w.heap.size w w' := by
 have HR0 := Aside0.mk hr0
 have HC0 := Aside0.mk hc0
 clear hr0 hc0
 have HB := Aside0.mk (Below.refl w.heap.size w)
 have H : (if 0 ≤ (l0.length : Int) then (if ((l0.length : Int) : Int).toNat ≤ 35184372088832 then (laws_toIntS.l0 k l0 (List.replicate ((l0.length : Int) : Int).toNat 0) 0) else (none)) else (none)) = some r := h
 clear h
 by_cases c2 : 0 ≤ (l0.length : Int)
 ·rw [if_pos c2] at H
  have c2b0 := eq_true c2
  have c2b1 : decide (0 ≤ (l0.length : Int)) = true := decide_eq_true c2
  clear c2
  by_cases c3 : ((l0.length : Int) : Int).toNat ≤ 35184372088832
  ·rw [if_pos c3] at H
   have c3b0 := eq_true c3
   have c3b1 : decide (((l0.length : Int) : Int).toNat ≤ 35184372088832) = true := decide_eq_true c3
   clear c3
   obtain ⟨y157, hy157⟩ : ∃ y_ : List Int, y_ = (List.replicate ((l0.length : Int) : Int).toNat 0) := ⟨_, rfl⟩
   replace H : (laws_toIntS.l0 k l0 y157 0) = some r := by rw [hy157]; exact H
   have Ny157 := Aside0.mk hy157
   clear hy157
   have H' := Aside0.mk H
   clear H
   go_enter Tryd.func43, Tryd.ntmps43
   go_wp2_with (first | ((with_reducible refine gate_dst (N := 7) rfl ?_); refine Kd.R_make (Kd.int .i64) _ 3 rfl (N := 7) rfl 24 _ _ rfl (l0.length : Int) rfl rfl Tryd.underlying24 (.int .i64 0) 8 info3 rfl (by decide) (by omega) 0 (ok := fun _ => True) (okp := fun _ => True) rfl (fun _ hk => hk) trivial (of_decide_eq_true (by assumption)) (Nat.le_trans (Nat.mul_le_mul_right _ (of_decide_eq_true (by assumption) : (l0.length : Int).toNat ≤ 35184372088832)) (by omega)) (Below.refl _ _) (Nat.le_refl _) ?_; intro v158 w4 ho5 hb hg_ hnew_; clear hg_ hnew_; (first | rw [← Ny157.out] at ho5 | (simp only [Int.reduceToNat] at ho5; rw [← Ny157.out] at ho5)); have n0_ := Aside0.mk (Kd.R_lower ho5 (below_size HB.out)); have n1_ := Aside0.mk (below_step HB.out hb); clear HB; have HO159 := n0_; have HB := n1_; clear n0_ n1_; clear hb ho5))
   go_loopg [4] k (fun kq v4 w' => ∃ (x3_1 : List Int) (x4_1 : Int), v4 = .int .i64 x4_1 ∧ Aside0 (laws_toIntS.l0 kq l0 x3_1 x4_1 = some r) ∧ Aside0 (kq ≤ k) ∧ Aside0 (Kd.R (Kd.int .i64) 3 w' w.heap.size (fun _ => True) v158 x3_1) ∧ Aside0 (Below w.heap.size w w'))
   case atStart => exact ⟨(y157), (0), (by first | rfl | (simp; done) | (simp [*]; done)), H', ⟨Nat.le_refl _⟩, ⟨HO159.out⟩, ⟨HB.out⟩⟩
   case round =>
    clear H'
    try clear c2
    try clear c2b0
    try clear c2b1
    try clear p2
    try clear c3
    try clear c3b0
    try clear c3b1
    try clear c4
    obtain ⟨x3_1, x4_1, rfl, HA, HK1, HO_3, HB⟩ := hrel
    cases gk with
    | zero => exact absurd HA.out (by simp [laws_toIntS.l0])
    | succ k1 =>
     have H := HA.out
     clear HA
     simp only [laws_toIntS.l0] at H
     by_cases c6 : x4_1 < (l0.length : Int)
     ·rw [if_pos c6] at H
      have c6b0 : decide (x4_1 < (l0.length : Int)) = true := decide_eq_true c6
      clear c6
      by_cases c7 : 0 ≤ x4_1
      ·rw [if_pos c7] at H
       have c7b0 : decide (0 ≤ x4_1) = true := decide_eq_true c7
       clear c7
       by_cases c8 : x4_1 < (x3_1.length : Int)
       ·rw [if_pos c8] at H
        have c8b0 : decide (x4_1 < (x3_1.length : Int)) = true := decide_eq_true c8
        clear c8
        obtain ⟨y161, hy161⟩ : ∃ y_ : List Int, y_ = (x3_1.set (x4_1 : Int).toNat (rd l0 x4_1)) := ⟨_, rfl⟩
        replace H : (laws_toIntS.l0 k1 l0 y161 (wrap64 (x4_1 + 1))) = some r := by rw [hy161]; exact H
        have Ny161 := Aside0.mk hy161
        clear hy161
        have H' := Aside0.mk H
        clear H
        have p160 : 0 ≤ (x4_1 : Int) := of_decide_eq_true (by assumption)
        have q160 : x4_1 < (l0.length : Int) := of_decide_eq_true (by assumption)
        obtain ⟨ad160, e160, hx160_0⟩ := Kd.at_int HR0.out x4_1 p160 q160
        cases e160
        replace hx160_0 := (HB.out.cell (World.block_lt_of_cell? w _ hx160_0)).trans hx160_0
        replace p160 := eq_true p160
        replace q160 := eq_true q160
        have p9 : 0 ≤ (x4_1 : Int) := of_decide_eq_true (by assumption)
        have q9 : (x4_1 : Int) < ((x3_1.length : Int) : Int) := of_decide_eq_true (by assumption)
        obtain ⟨go9, co9, eo9, gb9, gl9, cl9, HG9⟩ := Kd.R_form HO_3.out (by omega)
        (first | cases eo9 | (injection eo9 with ea_ en_ ec_; (first | subst ea_ | (injection ea_ with ea_; subst ea_)); subst ec_; clear en_))
        have GB9 := Aside0.mk gb9
        have GG9 := Aside0.mk HG9
        clear gb9 gl9 HG9
        obtain ⟨hx9_0, hf9_0⟩ := Kd.R_celln 0 HO_3.out (x4_1 : Int) p9 q9
        replace p9 := eq_true p9
        replace q9 := eq_true q9
        have HP10 := Kd.R_putg HO_3.out (x4_1 : Int) (rd l0 x4_1)
        go_wp2_with (first | ((with_reducible refine gate_store (t := 3) (p := 20) rfl ?_); refine store_event (t := 3) (p := 20) (v := ?vo_w11) (w1 := (wr.setCell ⟨go9, (x4_1 : Int).toNat, none⟩ (.int .i64 (rd l0 x4_1)))) ?hg ?ho ?hn ?hr ?_; (case ho => rfl); (case hg => rfl); (case hn => rfl); (case hr => go_simp <;> rfl); intro w11 hw; have hg : wr.grownBy w11 (some go9) := (by rw [hw]; exact HP10.2); have hp_ : Kd.R (Kd.int .i64) 3 w11 w.heap.size (fun _ => True) (.slice (some ⟨go9, 0, none⟩) x3_1.length co9) y161 := (by rw [hw, Ny161.out]; exact HP10.1); clear HP10; have n0_ := Aside0.mk (hp_); have n1_ := Aside0.mk ((by rw [hw]; exact below_set (HB.out) GB9.out : Below w.heap.size w w11)); clear HO_3; clear HB; have HO_3 := n0_; have HB := n1_; clear n0_ n1_; clear hg hw hp_))
        go_roundg k1
        case measure => have := HK1.out; omega
        case rel => exact ⟨(y161), (wrap64 (x4_1 + 1)), (by first | rfl | (simp; done) | (simp [*]; done)), H', ⟨by have := HK1.out; omega⟩, ⟨HO_3.out⟩, ⟨HB.out⟩⟩
       ·rw [if_neg c8] at H
        exact absurd H (by simp)
      ·rw [if_neg c7] at H
       exact absurd H (by simp)
     ·rw [if_neg c6] at H
      have c6b0 : decide (x4_1 < (l0.length : Int)) = false := decide_eq_false c6
      clear c6
      obtain rfl := Option.some.inj H
      go_wp2
      go_ret
      exact ⟨_, by first | rfl | (simp [errW_none, errW_some] <;> rfl) | (simp [*, errW_none, errW_some] <;> rfl), by (with_reducible repeat (first | apply Kd.R_alloc | apply Kd.R_drewN | apply Kd.R_drew)); exact HO_3.out, HB.out⟩
  ·rw [if_neg c3] at H
   exact absurd H (by simp)
 ·rw [if_neg c2] at H
  exact absurd H (by simp)

def laws_toBuf.f (k : Nat) (a0_0 : Int) (l0_1 : List Int) (l0_2 : List Int) (a0_3 : Int) : Option (Int × List Int × List Int × Int) := (laws_toIntS.f k l0_1).bind fun t165 => ((laws_toIntS.f k l0_2).bind fun t168 => (some (a0_0, t165, t168, a0_3)))
theorem laws_toBuf.mono : ∀ a0 a1 a2 a3 k, LeO (laws_toBuf.f k a0 a1 a2 a3) (laws_toBuf.f (k + 1) a0 a1 a2 a3) := by
 intro a0 a1 a2 a3 k
 unfold laws_toBuf.f
 repeat' first
   | (with_reducible exact laws_toIntS.mono _ _)
   | (with_reducible exact LeO.refl _)
   | (with_reducible exact LeO.none _)
   | (with_reducible refine LeO.ite ?_ ?_)
   | (with_reducible refine LeO.bind ?_ (fun _ => ?_))
   | exact laws_toIntS.mono _ _
   | exact LeO.none _
   | refine LeO.ite ?_ ?_
   | refine LeO.bind ?_ (fun _ => ?_)
set_option maxHeartbeats 8000000 in
set_option maxRecDepth 100000 in
theorem laws_toBuf.calls (k : Nat) (a0_0 : Int) (A0_1 : Option Addr) (c0_1 : Nat) (l0_1 : List Int) (A0_2 : Option Addr) (c0_2 : Nat) (l0_2 : List Int) (a0_3 : Int) (r1 : Int) (r2 : List Int) (r3 : List Int) (r4 : Int) (w : World) (hr0_1 : Kd.C (Kd.int .i64) w A0_1 l0_1.length l0_1) (hc0_1 : l0_1.length ≤ c0_1) (hr0_2 : Kd.C (Kd.int .i64) w A0_2 l0_2.length l0_2) (hc0_2 : l0_2.length ≤ c0_2) (h : laws_toBuf.f k a0_0 l0_1 l0_2 a0_3 = some (r1, r2, r3, r4)) :
  Calls Tryd.prog 24 #[.agg #[.int .i64 a0_0, .slice A0_1 l0_1.length c0_1, .slice A0_2 l0_2.length c0_2, .int .i64 a0_3]] w fun e w' => ∃ v1_ v2_ : Value, e = .returned (.agg #[.int .i64 r1, v1_, v2_, .int .i64 r4]) ∧ Kd.R (Kd.int .i64) 3 w' w.heap.size (fun k_ => some k_ ≠ (v2_ : Value).ownBlock) v1_ r2 ∧ Kd.R (Kd.int .i64) 3 w' w.heap.size (fun k_ => some k_ ≠ (v1_ : Value).ownBlock) v2_ r3 ∧ Below w.heap.size w w' := by
 have hu26 := Tryd.underlying26
 have hu32 := Tryd.underlying32
 have HR0_1 := Aside0.mk hr0_1
 have HC0_1 := Aside0.mk hc0_1
 clear hr0_1 hc0_1
 have HR0_2 := Aside0.mk hr0_2
 have HC0_2 := Aside0.mk hc0_2
 clear hr0_2 hc0_2
 have HB := Aside0.mk (Below.refl w.heap.size w)
 have H : ((laws_toIntS.f k l0_1).bind fun t165 => ((laws_toIntS.f k l0_2).bind fun t168 => (some (a0_0, t165, t168, a0_3)))) = some (r1, r2, r3, r4) := h
 clear h
 replace H := Option.bind_eq_some_iff.mp H
 obtain ⟨t165, A20, H⟩ := H
 replace H : ((laws_toIntS.f k l0_2).bind fun t168 => (some (a0_0, t165, t168, a0_3))) = some (r1, r2, r3, r4) := H
 have A2 := Aside0.mk A20
 clear A20
 replace H := Option.bind_eq_some_iff.mp H
 obtain ⟨t168, A30, H⟩ := H
 replace H : (some (a0_0, t165, t168, a0_3)) = some (r1, r2, r3, r4) := H
 have A3 := Aside0.mk A30
 clear A30
 simp only [Option.some.injEq, Prod.mk.injEq] at H
 obtain ⟨rfl, rfl, rfl, rfl⟩ := H
 go_enter Tryd.func24, Tryd.ntmps24
 go_wp2_with (first | ((with_reducible refine gate_dst (N := 1) rfl ?_); refine box_event ?hg (N := 1) ?hd (cs := #[.int .i64 a0_0, .slice A0_1 l0_1.length c0_1, .slice A0_2 l0_2.length c0_2, .int .i64 a0_3]) (t := 26) ?hr ?_; (case hd => rfl); (case hg => rfl); (case hr => first | (go_simp; done) | (go_simp; rfl)); intro gb162 hg w4 hbox hb; have n0_ := Aside0.mk (below_step (by repeat (first | (with_reducible first | exact HB.out | apply below_alloc | apply pw_below_drewN | apply below_drew1) | exact HB.out)) hb); have n1_ := Aside0.mk (hbox); have n2_ := Aside0.mk ((by rw [hg]; exact (below_size (by repeat (first | (with_reducible first | exact HB.out | apply below_alloc | apply pw_below_drewN | apply below_drew1) | exact HB.out))) : w.heap.size ≤ gb162)); have n3_ := Aside0.mk ((by rw [hg]; exact (below_size (by repeat (first | (with_reducible first | exact HB.out | apply below_alloc | apply pw_below_drewN | apply below_drew1) | exact HB.out))) : w.heap.size ≤ gb162)); clear HB; have HB := n0_; have BK162 := n1_; have GW162 := n2_; have GE162 := n3_; clear n0_ n1_ n2_ n3_; clear hb hbox hg) | ((with_reducible refine gate_dst (N := 2) rfl ?_); refine box_event ?hg (N := 2) ?hd (cs := #[.int .i64 0, .slice none 0 0, .slice none 0 0, .int .i64 0]) (t := 32) ?hr ?_; (case hd => rfl); (case hg => rfl); (case hr => first | (go_simp; done) | (go_simp; rfl)); intro gb163 hg w5 hbox hb; have n0_ := Aside0.mk (blk_below (g := gb162) (o := .cells #[.int .i64 a0_0, .slice A0_1 l0_1.length c0_1, .slice A0_2 l0_2.length c0_2, .int .i64 a0_3] 26 (0, 0)) (by (with_reducible repeat (first | refine blk_drewN ?_ _ | refine blk_drew ?_ | refine blk_alloc ?_ _)); exact BK162.out) hb); have n1_ := Aside0.mk (below_step (by repeat (first | (with_reducible first | exact HB.out | apply below_alloc | apply pw_below_drewN | apply below_drew1 | refine below_set ?_ GE162.out) | exact HB.out)) hb); have n2_ := Aside0.mk (hbox); have n3_ := Aside0.mk ((by rw [hg]; exact (below_size (by repeat (first | (with_reducible first | exact HB.out | apply below_alloc | apply pw_below_drewN | apply below_drew1 | refine below_set ?_ GE162.out) | exact HB.out))) : w.heap.size ≤ gb163)); have n4_ := Aside0.mk ((by rw [hg]; exact (below_size (by repeat (first | (with_reducible first | exact HB.out | apply below_alloc | apply pw_below_drewN | apply below_drew1 | refine below_set ?_ GE162.out) | exact HB.out))) : w.heap.size ≤ gb163)); have n5_ := Aside0.mk ((by rw [hg]; exact Nat.ne_of_lt (blk_lt (g := gb162) (o := .cells #[.int .i64 a0_0, .slice A0_1 l0_1.length c0_1, .slice A0_2 l0_2.length c0_2, .int .i64 a0_3] 26 (0, 0)) (by (with_reducible repeat (first | refine blk_drewN ?_ _ | refine blk_drew ?_ | refine blk_alloc ?_ _)); exact BK162.out)) : gb162 ≠ gb163)); have n6_ := Aside0.mk ((by rw [hg]; exact Nat.ne_of_gt (blk_lt (g := gb162) (o := .cells #[.int .i64 a0_0, .slice A0_1 l0_1.length c0_1, .slice A0_2 l0_2.length c0_2, .int .i64 a0_3] 26 (0, 0)) (by (with_reducible repeat (first | refine blk_drewN ?_ _ | refine blk_drew ?_ | refine blk_alloc ?_ _)); exact BK162.out)) : gb163 ≠ gb162)); clear BK162; clear HB; have BK162 := n0_; have HB := n1_; have BK163 := n2_; have GW163 := n3_; have GE163 := n4_; have NB162_163 := n5_; have NB163_162 := n6_; clear n0_ n1_ n2_ n3_ n4_ n5_ n6_; clear hb hbox hg) | ((with_reducible refine gate_dst (N := 3) rfl ?_); refine box_event ?hg (N := 3) ?hd (cs := #[.int .i64 0, .slice none 0 0, .slice none 0 0, .int .i64 0]) (t := 32) ?hr ?_; (case hd => rfl); (case hg => rfl); (case hr => first | (go_simp; done) | (go_simp; rfl)); intro gb164 hg w6 hbox hb; have n0_ := Aside0.mk (blk_below (g := gb162) (o := .cells #[.int .i64 a0_0, .slice A0_1 l0_1.length c0_1, .slice A0_2 l0_2.length c0_2, .int .i64 a0_3] 26 (0, 0)) (by (with_reducible repeat (first | refine blk_drewN ?_ _ | refine blk_drew ?_ | refine blk_alloc ?_ _)); exact BK162.out) hb); have n1_ := Aside0.mk (blk_below (g := gb163) (o := .cells #[.int .i64 0, .slice none 0 0, .slice none 0 0, .int .i64 0] 32 (0, 0)) (by (with_reducible repeat (first | refine blk_drewN ?_ _ | refine blk_drew ?_ | refine blk_alloc ?_ _)); exact BK163.out) hb); have n2_ := Aside0.mk (below_step (by repeat (first | (with_reducible first | exact HB.out | apply below_alloc | apply pw_below_drewN | apply below_drew1 | refine below_set ?_ GE162.out | refine below_set ?_ GE163.out) | exact HB.out)) hb); have n3_ := Aside0.mk (hbox); have n4_ := Aside0.mk ((by rw [hg]; exact (below_size (by repeat (first | (with_reducible first | exact HB.out | apply below_alloc | apply pw_below_drewN | apply below_drew1 | refine below_set ?_ GE162.out | refine below_set ?_ GE163.out) | exact HB.out))) : w.heap.size ≤ gb164)); have n5_ := Aside0.mk ((by rw [hg]; exact (below_size (by repeat (first | (with_reducible first | exact HB.out | apply below_alloc | apply pw_below_drewN | apply below_drew1 | refine below_set ?_ GE162.out | refine below_set ?_ GE163.out) | exact HB.out))) : w.heap.size ≤ gb164)); have n6_ := Aside0.mk ((by rw [hg]; exact Nat.ne_of_lt (blk_lt (g := gb162) (o := .cells #[.int .i64 a0_0, .slice A0_1 l0_1.length c0_1, .slice A0_2 l0_2.length c0_2, .int .i64 a0_3] 26 (0, 0)) (by (with_reducible repeat (first | refine blk_drewN ?_ _ | refine blk_drew ?_ | refine blk_alloc ?_ _)); exact BK162.out)) : gb162 ≠ gb164)); have n7_ := Aside0.mk ((by rw [hg]; exact Nat.ne_of_gt (blk_lt (g := gb162) (o := .cells #[.int .i64 a0_0, .slice A0_1 l0_1.length c0_1, .slice A0_2 l0_2.length c0_2, .int .i64 a0_3] 26 (0, 0)) (by (with_reducible repeat (first | refine blk_drewN ?_ _ | refine blk_drew ?_ | refine blk_alloc ?_ _)); exact BK162.out)) : gb164 ≠ gb162)); have n8_ := Aside0.mk ((by rw [hg]; exact Nat.ne_of_lt (blk_lt (g := gb163) (o := .cells #[.int .i64 0, .slice none 0 0, .slice none 0 0, .int .i64 0] 32 (0, 0)) (by (with_reducible repeat (first | refine blk_drewN ?_ _ | refine blk_drew ?_ | refine blk_alloc ?_ _)); exact BK163.out)) : gb163 ≠ gb164)); have n9_ := Aside0.mk ((by rw [hg]; exact Nat.ne_of_gt (blk_lt (g := gb163) (o := .cells #[.int .i64 0, .slice none 0 0, .slice none 0 0, .int .i64 0] 32 (0, 0)) (by (with_reducible repeat (first | refine blk_drewN ?_ _ | refine blk_drew ?_ | refine blk_alloc ?_ _)); exact BK163.out)) : gb164 ≠ gb163)); clear BK162; clear BK163; clear HB; have BK162 := n0_; have BK163 := n1_; have HB := n2_; have BK164 := n3_; have GW164 := n4_; have GE164 := n5_; have NB162_164 := n6_; have NB164_162 := n7_; have NB163_164 := n8_; have NB164_163 := n9_; clear n0_ n1_ n2_ n3_ n4_ n5_ n6_ n7_ n8_ n9_; clear hb hbox hg; have hnb7 := NB162_163.out; have hnc7 := NB163_162.out; have hnb8 := NB162_164.out; have hnc8 := NB164_162.out; have hcz9_0 : w6.cell? ⟨gb162, 0, none⟩ = some (.int .i64 a0_0) := (blk_cell BK162.out 0).trans rfl; have hcz9_1 : w6.cell? ⟨gb162, 1, none⟩ = some (.slice A0_1 l0_1.length c0_1) := (blk_cell BK162.out 1).trans rfl; have hcz9_2 : w6.cell? ⟨gb162, 2, none⟩ = some (.slice A0_2 l0_2.length c0_2) := (blk_cell BK162.out 2).trans rfl; have hcz9_3 : w6.cell? ⟨gb162, 3, none⟩ = some (.int .i64 a0_3) := (blk_cell BK162.out 3).trans rfl; have hfz9_0 := blk_frozen BK162.out 0; have hfz9_1 := blk_frozen BK162.out 1; have hfz9_2 := blk_frozen BK162.out 2; have hfz9_3 := blk_frozen BK162.out 3; have hnb10 := NB164_163.out; have hnc10 := NB163_164.out; have hcz11_0 : w6.cell? ⟨gb164, 0, none⟩ = some (.int .i64 0) := (blk_cell BK164.out 0).trans rfl; have hcz11_1 : w6.cell? ⟨gb164, 1, none⟩ = some (.slice none 0 0) := (blk_cell BK164.out 1).trans rfl; have hcz11_2 : w6.cell? ⟨gb164, 2, none⟩ = some (.slice none 0 0) := (blk_cell BK164.out 2).trans rfl; have hcz11_3 : w6.cell? ⟨gb164, 3, none⟩ = some (.int .i64 0) := (blk_cell BK164.out 3).trans rfl; have hfz11_0 := blk_frozen BK164.out 0; have hfz11_1 := blk_frozen BK164.out 1; have hfz11_2 := blk_frozen BK164.out 2; have hfz11_3 := blk_frozen BK164.out 3) | ((with_reducible refine gate_callee (f := 43) rfl ?_); refine goesL_ (some 9) rfl rfl Tryd.func43 (by kernel_rfl) rfl #[.slice A0_1 l0_1.length c0_1] rfl (by (try simp only [List.map_toArray, List.map_cons, List.map_nil]); first | done | rfl | (simp only [List.length_drop, List.length_take]; rfl)) ?_; (with_reducible refine (laws_toIntS.calls k _ _ l0_1 t165 _ ?side1 ?side2 A2.out).mono ?_); (case side1 => exact Kd.C_below HR0_1.out (by repeat (first | (with_reducible first | exact HB.out | apply below_alloc | apply pw_below_drewN | apply below_drew1 | refine below_set ?_ GE162.out | refine below_set ?_ GE163.out | refine below_set ?_ GE164.out) | exact HB.out))); (case side2 => exact HC0_1.out); rintro e w12 ⟨v166, rfl, ho0, hb⟩; refine ⟨_, rfl, ?_⟩; have n0_ := Aside0.mk (Kd.R_lower ho0 (below_size (by repeat (first | (with_reducible first | exact HB.out | apply below_alloc | apply pw_below_drewN | apply below_drew1 | refine below_set ?_ GE162.out | refine below_set ?_ GE163.out | refine below_set ?_ GE164.out) | exact HB.out)))); have n1_ := Aside0.mk (blk_below (g := gb162) (o := .cells #[.int .i64 a0_0, .slice A0_1 l0_1.length c0_1, .slice A0_2 l0_2.length c0_2, .int .i64 a0_3] 26 (0, 0)) (by (with_reducible repeat (first | refine blk_drewN ?_ _ | refine blk_drew ?_ | refine blk_alloc ?_ _)); refine blk_far ?_ NB162_164.out _; (with_reducible repeat (first | refine blk_drewN ?_ _ | refine blk_drew ?_ | refine blk_alloc ?_ _)); exact BK162.out) hb); have n2_ := Aside0.mk (blk_below (g := gb163) (o := .cells #[.int .i64 0, .slice none 0 0, .slice none 0 0, .int .i64 0] 32 (0, 0)) (by (with_reducible repeat (first | refine blk_drewN ?_ _ | refine blk_drew ?_ | refine blk_alloc ?_ _)); refine blk_far ?_ NB163_164.out _; (with_reducible repeat (first | refine blk_drewN ?_ _ | refine blk_drew ?_ | refine blk_alloc ?_ _)); exact BK163.out) hb); have n3_ := Aside0.mk (blk_below (g := gb164) (o := .cells #[.int .i64 a0_0, .slice none 0 0, .slice none 0 0, .int .i64 0] 32 (0, 0)) (by (with_reducible repeat (first | refine blk_drewN ?_ _ | refine blk_drew ?_ | refine blk_alloc ?_ _)); refine blk_put (cs := #[.int .i64 0, .slice none 0 0, .slice none 0 0, .int .i64 0]) ?_ 0 _ rfl; (with_reducible repeat (first | refine blk_drewN ?_ _ | refine blk_drew ?_ | refine blk_alloc ?_ _)); exact BK164.out) hb); have n4_ := Aside0.mk (below_step (by repeat (first | (with_reducible first | exact HB.out | apply below_alloc | apply pw_below_drewN | apply below_drew1 | refine below_set ?_ GE162.out | refine below_set ?_ GE163.out | refine below_set ?_ GE164.out) | exact HB.out)) hb); clear BK162; clear BK163; clear BK164; clear HB; have HO167 := n0_; have BK162 := n1_; have BK163 := n2_; have BK164 := n3_; have HB := n4_; clear n0_ n1_ n2_ n3_ n4_; (try clear hb); (try clear hb2); (try clear hk); (try clear hi); (try clear ho0); obtain ⟨Ao13, co13, eo13⟩ := Kd.R_slice HO167.out; subst eo13; have hcz14_0 : w12.cell? ⟨gb164, 0, none⟩ = some (.int .i64 a0_0) := (blk_cell BK164.out 0).trans rfl; have hcz14_1 : w12.cell? ⟨gb164, 1, none⟩ = some (.slice none 0 0) := (blk_cell BK164.out 1).trans rfl; have hcz14_2 : w12.cell? ⟨gb164, 2, none⟩ = some (.slice none 0 0) := (blk_cell BK164.out 2).trans rfl; have hcz14_3 : w12.cell? ⟨gb164, 3, none⟩ = some (.int .i64 0) := (blk_cell BK164.out 3).trans rfl; have hfz14_0 := blk_frozen BK164.out 0; have hfz14_1 := blk_frozen BK164.out 1; have hfz14_2 := blk_frozen BK164.out 2; have hfz14_3 := blk_frozen BK164.out 3; have hcz15_0 : w12.cell? ⟨gb162, 0, none⟩ = some (.int .i64 a0_0) := (blk_cell BK162.out 0).trans rfl; have hcz15_1 : w12.cell? ⟨gb162, 1, none⟩ = some (.slice A0_1 l0_1.length c0_1) := (blk_cell BK162.out 1).trans rfl; have hcz15_2 : w12.cell? ⟨gb162, 2, none⟩ = some (.slice A0_2 l0_2.length c0_2) := (blk_cell BK162.out 2).trans rfl; have hcz15_3 : w12.cell? ⟨gb162, 3, none⟩ = some (.int .i64 a0_3) := (blk_cell BK162.out 3).trans rfl; have hfz15_0 := blk_frozen BK162.out 0; have hfz15_1 := blk_frozen BK162.out 1; have hfz15_2 := blk_frozen BK162.out 2; have hfz15_3 := blk_frozen BK162.out 3) | ((with_reducible refine gate_callee (f := 43) rfl ?_); refine goesL_ (some 13) rfl rfl Tryd.func43 (by kernel_rfl) rfl #[.slice A0_2 l0_2.length c0_2] rfl (by (try simp only [List.map_toArray, List.map_cons, List.map_nil]); first | done | rfl | (simp only [List.length_drop, List.length_take]; rfl)) ?_; (with_reducible refine (laws_toIntS.calls k _ _ l0_2 t168 _ ?side1 ?side2 A3.out).mono ?_); (case side1 => exact Kd.C_below HR0_2.out (by repeat (first | (with_reducible first | exact HB.out | apply below_alloc | apply pw_below_drewN | apply below_drew1 | refine below_set ?_ GE162.out | refine below_set ?_ GE163.out | refine below_set ?_ GE164.out) | exact HB.out))); (case side2 => exact HC0_2.out); rintro e w16 ⟨v169, rfl, ho0, hb⟩; refine ⟨_, rfl, ?_⟩; have n0_ := Aside0.mk (Kd.R_elder' (by (with_reducible repeat (first | apply Kd.R_alloc | apply Kd.R_drewN | apply Kd.R_drew)); exact (Kd.R_mono (Kd.R_far (p := ⟨gb164, 1, none⟩) (Kd.R_types HO167.out BK164.out (by decide)) (fun _ hk => hk.2) (.slice Ao13 t165.length co13)) (fun _ h_ => h_.1))) (Kd.R_base ho0) hb); have n1_ := Aside0.mk (Kd.R_lower (Kd.R_new' ho0 (Kd.R_lt (by (with_reducible repeat (first | apply Kd.R_alloc | apply Kd.R_drewN | apply Kd.R_drew)); exact (Kd.R_mono (Kd.R_far (p := ⟨gb164, 1, none⟩) (Kd.R_types HO167.out BK164.out (by decide)) (fun _ hk => hk.2) (.slice Ao13 t165.length co13)) (fun _ h_ => h_.1))))) (below_size (by repeat (first | (with_reducible first | exact HB.out | apply below_alloc | apply pw_below_drewN | apply below_drew1 | refine below_set ?_ GE162.out | refine below_set ?_ GE163.out | refine below_set ?_ GE164.out) | exact HB.out)))); have n2_ := Aside0.mk (blk_below (g := gb162) (o := .cells #[.int .i64 a0_0, .slice A0_1 l0_1.length c0_1, .slice A0_2 l0_2.length c0_2, .int .i64 a0_3] 26 (0, 0)) (by (with_reducible repeat (first | refine blk_drewN ?_ _ | refine blk_drew ?_ | refine blk_alloc ?_ _)); refine blk_far ?_ NB162_164.out _; (with_reducible repeat (first | refine blk_drewN ?_ _ | refine blk_drew ?_ | refine blk_alloc ?_ _)); exact BK162.out) hb); have n3_ := Aside0.mk (blk_below (g := gb163) (o := .cells #[.int .i64 0, .slice none 0 0, .slice none 0 0, .int .i64 0] 32 (0, 0)) (by (with_reducible repeat (first | refine blk_drewN ?_ _ | refine blk_drew ?_ | refine blk_alloc ?_ _)); refine blk_far ?_ NB163_164.out _; (with_reducible repeat (first | refine blk_drewN ?_ _ | refine blk_drew ?_ | refine blk_alloc ?_ _)); exact BK163.out) hb); have n4_ := Aside0.mk (blk_below (g := gb164) (o := .cells #[.int .i64 a0_0, .slice Ao13 t165.length co13, .slice none 0 0, .int .i64 0] 32 (0, 0)) (by (with_reducible repeat (first | refine blk_drewN ?_ _ | refine blk_drew ?_ | refine blk_alloc ?_ _)); refine blk_put (cs := #[.int .i64 a0_0, .slice none 0 0, .slice none 0 0, .int .i64 0]) ?_ 1 _ rfl; (with_reducible repeat (first | refine blk_drewN ?_ _ | refine blk_drew ?_ | refine blk_alloc ?_ _)); exact BK164.out) hb); have n5_ := Aside0.mk (below_step (by repeat (first | (with_reducible first | exact HB.out | apply below_alloc | apply pw_below_drewN | apply below_drew1 | refine below_set ?_ GE162.out | refine below_set ?_ GE163.out | refine below_set ?_ GE164.out) | exact HB.out)) hb); clear HO167; clear BK162; clear BK163; clear BK164; clear HB; have HO167 := n0_; have HO170 := n1_; have BK162 := n2_; have BK163 := n3_; have BK164 := n4_; have HB := n5_; clear n0_ n1_ n2_ n3_ n4_ n5_; (try clear hb); (try clear hb2); (try clear hk); (try clear hi); (try clear ho0); obtain ⟨Ao17, co17, eo17⟩ := Kd.R_slice HO170.out; subst eo17; have hcz18_0 : w16.cell? ⟨gb164, 0, none⟩ = some (.int .i64 a0_0) := (blk_cell BK164.out 0).trans rfl; have hcz18_1 : w16.cell? ⟨gb164, 1, none⟩ = some (.slice Ao13 t165.length co13) := (blk_cell BK164.out 1).trans rfl; have hcz18_2 : w16.cell? ⟨gb164, 2, none⟩ = some (.slice none 0 0) := (blk_cell BK164.out 2).trans rfl; have hcz18_3 : w16.cell? ⟨gb164, 3, none⟩ = some (.int .i64 0) := (blk_cell BK164.out 3).trans rfl; have hfz18_0 := blk_frozen BK164.out 0; have hfz18_1 := blk_frozen BK164.out 1; have hfz18_2 := blk_frozen BK164.out 2; have hfz18_3 := blk_frozen BK164.out 3; have hcz19_0 : w16.cell? ⟨gb162, 0, none⟩ = some (.int .i64 a0_0) := (blk_cell BK162.out 0).trans rfl; have hcz19_1 : w16.cell? ⟨gb162, 1, none⟩ = some (.slice A0_1 l0_1.length c0_1) := (blk_cell BK162.out 1).trans rfl; have hcz19_2 : w16.cell? ⟨gb162, 2, none⟩ = some (.slice A0_2 l0_2.length c0_2) := (blk_cell BK162.out 2).trans rfl; have hcz19_3 : w16.cell? ⟨gb162, 3, none⟩ = some (.int .i64 a0_3) := (blk_cell BK162.out 3).trans rfl; have hfz19_0 := blk_frozen BK162.out 0; have hfz19_1 := blk_frozen BK162.out 1; have hfz19_2 := blk_frozen BK162.out 2; have hfz19_3 := blk_frozen BK162.out 3; have hcz20_0 : w16.cell? ⟨gb163, 0, none⟩ = some (.int .i64 0) := (blk_cell BK163.out 0).trans rfl; have hcz20_1 : w16.cell? ⟨gb163, 1, none⟩ = some (.slice none 0 0) := (blk_cell BK163.out 1).trans rfl; have hcz20_2 : w16.cell? ⟨gb163, 2, none⟩ = some (.slice none 0 0) := (blk_cell BK163.out 2).trans rfl; have hcz20_3 : w16.cell? ⟨gb163, 3, none⟩ = some (.int .i64 0) := (blk_cell BK163.out 3).trans rfl; have hfz20_0 := blk_frozen BK163.out 0; have hfz20_1 := blk_frozen BK163.out 1; have hfz20_2 := blk_frozen BK163.out 2; have hfz20_3 := blk_frozen BK163.out 3))
 refine bodyPost_ret (results_cell_row rfl _ _ gb163 32 #[.int .i64 a0_0, .slice Ao13 t165.length co13, .slice Ao17 t168.length co17, .int .i64 a0_3] (0, 0) _ rfl (by (with_reducible repeat (first | refine blk_drewN ?_ _ | refine blk_drew ?_ | refine blk_alloc ?_ _)); refine blk_put (cs := #[.int .i64 a0_0, .slice Ao13 t165.length co13, .slice Ao17 t168.length co17, .int .i64 0]) ?_ 3 _ rfl; (with_reducible repeat (first | refine blk_drewN ?_ _ | refine blk_drew ?_ | refine blk_alloc ?_ _)); refine blk_put (cs := #[.int .i64 a0_0, .slice Ao13 t165.length co13, .slice none 0 0, .int .i64 0]) ?_ 2 _ rfl; (with_reducible repeat (first | refine blk_drewN ?_ _ | refine blk_drew ?_ | refine blk_alloc ?_ _)); refine blk_put (cs := #[.int .i64 a0_0, .slice none 0 0, .slice none 0 0, .int .i64 0]) ?_ 1 _ rfl; (with_reducible repeat (first | refine blk_drewN ?_ _ | refine blk_drew ?_ | refine blk_alloc ?_ _)); refine blk_put (cs := #[.int .i64 0, .slice none 0 0, .slice none 0 0, .int .i64 0]) ?_ 0 _ rfl; (with_reducible repeat (first | refine blk_drewN ?_ _ | refine blk_drew ?_ | refine blk_alloc ?_ _)); refine blk_far ?_ NB163_164.out _; (with_reducible repeat (first | refine blk_drewN ?_ _ | refine blk_drew ?_ | refine blk_alloc ?_ _)); refine blk_far ?_ NB163_164.out _; (with_reducible repeat (first | refine blk_drewN ?_ _ | refine blk_drew ?_ | refine blk_alloc ?_ _)); exact BK163.out) Tryd.underlying32 rfl (by kernel_rfl)) rfl ?_
 exact ⟨_, _, by first | rfl | (simp [errW_none, errW_some] <;> rfl) | (simp [*, errW_none, errW_some] <;> rfl), by (with_reducible repeat (first | apply Kd.R_alloc | apply Kd.R_drewN | apply Kd.R_drew)); exact Kd.R_mono (Kd.R_far (p := ⟨gb163, 3, none⟩) (Kd.R_far (p := ⟨gb163, 2, none⟩) (Kd.R_far (p := ⟨gb163, 1, none⟩) (Kd.R_far (p := ⟨gb163, 0, none⟩) (Kd.R_far (p := ⟨gb164, 3, none⟩) (Kd.R_far (p := ⟨gb164, 2, none⟩) (Kd.R_types (Kd.R_types HO167.out BK164.out (by decide)) BK163.out (by decide)) (fun _ hk => hk.1.2) (.slice Ao17 t168.length co17)) (fun _ hk => hk.1.2) (.int .i64 a0_3)) (fun _ hk => hk.2) (.int .i64 a0_0)) (fun _ hk => hk.2) (.slice Ao13 t165.length co13)) (fun _ hk => hk.2) (.slice Ao17 t168.length co17)) (fun _ hk => hk.2) (.int .i64 a0_3)) (fun _ hk => hk.1.1.2), by (with_reducible repeat (first | apply Kd.R_alloc | apply Kd.R_drewN | apply Kd.R_drew)); exact Kd.R_mono (Kd.R_far (p := ⟨gb163, 3, none⟩) (Kd.R_far (p := ⟨gb163, 2, none⟩) (Kd.R_far (p := ⟨gb163, 1, none⟩) (Kd.R_far (p := ⟨gb163, 0, none⟩) (Kd.R_far (p := ⟨gb164, 3, none⟩) (Kd.R_far (p := ⟨gb164, 2, none⟩) (Kd.R_types (Kd.R_types HO170.out BK164.out (by decide)) BK163.out (by decide)) (fun _ hk => hk.1.2) (.slice Ao17 t168.length co17)) (fun _ hk => hk.1.2) (.int .i64 a0_3)) (fun _ hk => hk.2) (.int .i64 a0_0)) (fun _ hk => hk.2) (.slice Ao13 t165.length co13)) (fun _ hk => hk.2) (.slice Ao17 t168.length co17)) (fun _ hk => hk.2) (.int .i64 a0_3)) (fun _ hk => hk.1.1.2), by repeat (first | (with_reducible first | exact HB.out | apply below_alloc | apply pw_below_drewN | apply below_drew1 | refine below_set ?_ GE162.out | refine below_set ?_ GE163.out | refine below_set ?_ GE164.out) | exact HB.out)⟩

def laws_toSession.f (k : Nat) (a0_0 : Int) (a0_1 : Int) (a0_2 : Int) (a0_3 : ByteArray) (a0_4 : Int) (l0_5 : List Int) (l0_6 : List Int) (a0_7 : Int) (a0_8 : Bool) : Option (Int × Int × Int × ByteArray × Int × List Int × List Int × Int × Bool) := (laws_toDecoder.f a0_0 a0_1 a0_2 a0_3).bind fun bt174 => ((laws_toBuf.f k a0_4 l0_5 l0_6 a0_7).bind fun bt178 => (some (bt174.1, bt174.2.1, bt174.2.2.1, bt174.2.2.2, bt178.1, bt178.2.1, bt178.2.2.1, bt178.2.2.2, a0_8)))
theorem laws_toSession.mono : ∀ a0 a1 a2 a3 a4 a5 a6 a7 a8 k, LeO (laws_toSession.f k a0 a1 a2 a3 a4 a5 a6 a7 a8) (laws_toSession.f (k + 1) a0 a1 a2 a3 a4 a5 a6 a7 a8) := by
 intro a0 a1 a2 a3 a4 a5 a6 a7 a8 k
 unfold laws_toSession.f
 repeat' first
   | (with_reducible exact laws_toBuf.mono _ _ _ _ _)
   | (with_reducible exact LeO.refl _)
   | (with_reducible exact LeO.none _)
   | (with_reducible refine LeO.ite ?_ ?_)
   | (with_reducible refine LeO.bind ?_ (fun _ => ?_))
   | exact laws_toBuf.mono _ _ _ _ _
   | exact LeO.none _
   | refine LeO.ite ?_ ?_
   | refine LeO.bind ?_ (fun _ => ?_)
set_option maxHeartbeats 8000000 in
set_option maxRecDepth 100000 in
theorem laws_toSession.calls (k : Nat) (a0_0 : Int) (a0_1 : Int) (a0_2 : Int) (a0_3 : ByteArray) (a0_4 : Int) (A0_5 : Option Addr) (c0_5 : Nat) (l0_5 : List Int) (A0_6 : Option Addr) (c0_6 : Nat) (l0_6 : List Int) (a0_7 : Int) (a0_8 : Bool) (r1 : Int) (r2 : Int) (r3 : Int) (r4 : ByteArray) (r5 : Int) (r6 : List Int) (r7 : List Int) (r8 : Int) (r9 : Bool) (w : World) (hr0_5 : Kd.C (Kd.int .i64) w A0_5 l0_5.length l0_5) (hc0_5 : l0_5.length ≤ c0_5) (hr0_6 : Kd.C (Kd.int .i64) w A0_6 l0_6.length l0_6) (hc0_6 : l0_6.length ≤ c0_6) (h : laws_toSession.f k a0_0 a0_1 a0_2 a0_3 a0_4 l0_5 l0_6 a0_7 a0_8 = some (r1, r2, r3, r4, r5, r6, r7, r8, r9)) :
  Calls Tryd.prog 8 #[.agg #[.int .i64 a0_0, .int .i64 a0_1, .int .i64 a0_2, .string a0_3, .int .i64 a0_4, .slice A0_5 l0_5.length c0_5, .slice A0_6 l0_6.length c0_6, .int .i64 a0_7, .bool a0_8]] w fun e w' => ∃ v5_ v6_ : Value, e = .returned (.agg #[.int .i64 r1, .int .i64 r2, .int .i64 r3, .string r4, .int .i64 r5, v5_, v6_, .int .i64 r8, .bool r9]) ∧ Kd.R (Kd.int .i64) 3 w' w.heap.size (fun k_ => some k_ ≠ (v6_ : Value).ownBlock) v5_ r6 ∧ Kd.R (Kd.int .i64) 3 w' w.heap.size (fun k_ => some k_ ≠ (v5_ : Value).ownBlock) v6_ r7 ∧ Below w.heap.size w w' := by
 have hu28 := Tryd.underlying28
 have hu34 := Tryd.underlying34
 have hu23 := Tryd.underlying23
 have hu31 := Tryd.underlying31
 have hu26 := Tryd.underlying26
 have hu32 := Tryd.underlying32
 have HR0_5 := Aside0.mk hr0_5
 have HC0_5 := Aside0.mk hc0_5
 clear hr0_5 hc0_5
 have HR0_6 := Aside0.mk hr0_6
 have HC0_6 := Aside0.mk hc0_6
 clear hr0_6 hc0_6
 have HB := Aside0.mk (Below.refl w.heap.size w)
 have H : ((laws_toDecoder.f a0_0 a0_1 a0_2 a0_3).bind fun bt174 => ((laws_toBuf.f k a0_4 l0_5 l0_6 a0_7).bind fun bt178 => (some (bt174.1, bt174.2.1, bt174.2.2.1, bt174.2.2.2, bt178.1, bt178.2.1, bt178.2.2.1, bt178.2.2.2, a0_8)))) = some (r1, r2, r3, r4, r5, r6, r7, r8, r9) := h
 clear h
 replace H := Option.bind_eq_some_iff.mp H
 obtain ⟨⟨t174, t175, t176, t177⟩, A20, H⟩ := H
 replace H : ((laws_toBuf.f k a0_4 l0_5 l0_6 a0_7).bind fun bt178 => (some (t174, t175, t176, t177, bt178.1, bt178.2.1, bt178.2.2.1, bt178.2.2.2, a0_8))) = some (r1, r2, r3, r4, r5, r6, r7, r8, r9) := H
 have A2 := Aside0.mk A20
 clear A20
 replace H := Option.bind_eq_some_iff.mp H
 obtain ⟨⟨t178, t179, t182, t185⟩, A30, H⟩ := H
 replace H : (some (t174, t175, t176, t177, t178, t179, t182, t185, a0_8)) = some (r1, r2, r3, r4, r5, r6, r7, r8, r9) := H
 have A3 := Aside0.mk A30
 clear A30
 simp only [Option.some.injEq, Prod.mk.injEq] at H
 obtain ⟨rfl, rfl, rfl, rfl, rfl, rfl, rfl, rfl, rfl⟩ := H
 go_enter Tryd.func8, Tryd.ntmps8
 go_wp2_with (first | ((with_reducible refine gate_dst (N := 1) rfl ?_); refine box_event ?hg (N := 1) ?hd (cs := #[.int .i64 a0_0, .int .i64 a0_1, .int .i64 a0_2, .string a0_3, .int .i64 a0_4, .slice A0_5 l0_5.length c0_5, .slice A0_6 l0_6.length c0_6, .int .i64 a0_7, .bool a0_8]) (t := 28) ?hr ?_; (case hd => rfl); (case hg => rfl); (case hr => first | (go_simp; done) | (go_simp; rfl)); intro gb171 hg w4 hbox hb; have n0_ := Aside0.mk (below_step (by repeat (first | (with_reducible first | exact HB.out | apply below_alloc | apply pw_below_drewN | apply below_drew1) | exact HB.out)) hb); have n1_ := Aside0.mk (hbox); have n2_ := Aside0.mk ((by rw [hg]; exact (below_size (by repeat (first | (with_reducible first | exact HB.out | apply below_alloc | apply pw_below_drewN | apply below_drew1) | exact HB.out))) : w.heap.size ≤ gb171)); have n3_ := Aside0.mk ((by rw [hg]; exact (below_size (by repeat (first | (with_reducible first | exact HB.out | apply below_alloc | apply pw_below_drewN | apply below_drew1) | exact HB.out))) : w.heap.size ≤ gb171)); clear HB; have HB := n0_; have BK171 := n1_; have GW171 := n2_; have GE171 := n3_; clear n0_ n1_ n2_ n3_; clear hb hbox hg) | ((with_reducible refine gate_dst (N := 2) rfl ?_); refine box_event ?hg (N := 2) ?hd (cs := #[.int .i64 0, .int .i64 0, .int .i64 0, .string (⟨#[]⟩ : ByteArray), .int .i64 0, .slice none 0 0, .slice none 0 0, .int .i64 0, .bool false]) (t := 34) ?hr ?_; (case hd => rfl); (case hg => rfl); (case hr => first | (go_simp; done) | (go_simp; rfl)); intro gb172 hg w5 hbox hb; have n0_ := Aside0.mk (blk_below (g := gb171) (o := .cells #[.int .i64 a0_0, .int .i64 a0_1, .int .i64 a0_2, .string a0_3, .int .i64 a0_4, .slice A0_5 l0_5.length c0_5, .slice A0_6 l0_6.length c0_6, .int .i64 a0_7, .bool a0_8] 28 (0, 0)) (by (with_reducible repeat (first | refine blk_drewN ?_ _ | refine blk_drew ?_ | refine blk_alloc ?_ _)); exact BK171.out) hb); have n1_ := Aside0.mk (below_step (by repeat (first | (with_reducible first | exact HB.out | apply below_alloc | apply pw_below_drewN | apply below_drew1 | refine below_set ?_ GE171.out) | exact HB.out)) hb); have n2_ := Aside0.mk (hbox); have n3_ := Aside0.mk ((by rw [hg]; exact (below_size (by repeat (first | (with_reducible first | exact HB.out | apply below_alloc | apply pw_below_drewN | apply below_drew1 | refine below_set ?_ GE171.out) | exact HB.out))) : w.heap.size ≤ gb172)); have n4_ := Aside0.mk ((by rw [hg]; exact (below_size (by repeat (first | (with_reducible first | exact HB.out | apply below_alloc | apply pw_below_drewN | apply below_drew1 | refine below_set ?_ GE171.out) | exact HB.out))) : w.heap.size ≤ gb172)); have n5_ := Aside0.mk ((by rw [hg]; exact Nat.ne_of_lt (blk_lt (g := gb171) (o := .cells #[.int .i64 a0_0, .int .i64 a0_1, .int .i64 a0_2, .string a0_3, .int .i64 a0_4, .slice A0_5 l0_5.length c0_5, .slice A0_6 l0_6.length c0_6, .int .i64 a0_7, .bool a0_8] 28 (0, 0)) (by (with_reducible repeat (first | refine blk_drewN ?_ _ | refine blk_drew ?_ | refine blk_alloc ?_ _)); exact BK171.out)) : gb171 ≠ gb172)); have n6_ := Aside0.mk ((by rw [hg]; exact Nat.ne_of_gt (blk_lt (g := gb171) (o := .cells #[.int .i64 a0_0, .int .i64 a0_1, .int .i64 a0_2, .string a0_3, .int .i64 a0_4, .slice A0_5 l0_5.length c0_5, .slice A0_6 l0_6.length c0_6, .int .i64 a0_7, .bool a0_8] 28 (0, 0)) (by (with_reducible repeat (first | refine blk_drewN ?_ _ | refine blk_drew ?_ | refine blk_alloc ?_ _)); exact BK171.out)) : gb172 ≠ gb171)); clear BK171; clear HB; have BK171 := n0_; have HB := n1_; have BK172 := n2_; have GW172 := n3_; have GE172 := n4_; have NB171_172 := n5_; have NB172_171 := n6_; clear n0_ n1_ n2_ n3_ n4_ n5_ n6_; clear hb hbox hg) | ((with_reducible refine gate_dst (N := 3) rfl ?_); refine box_event ?hg (N := 3) ?hd (cs := #[.int .i64 0, .int .i64 0, .int .i64 0, .string (⟨#[]⟩ : ByteArray), .int .i64 0, .slice none 0 0, .slice none 0 0, .int .i64 0, .bool false]) (t := 34) ?hr ?_; (case hd => rfl); (case hg => rfl); (case hr => first | (go_simp; done) | (go_simp; rfl)); intro gb173 hg w6 hbox hb; have n0_ := Aside0.mk (blk_below (g := gb171) (o := .cells #[.int .i64 a0_0, .int .i64 a0_1, .int .i64 a0_2, .string a0_3, .int .i64 a0_4, .slice A0_5 l0_5.length c0_5, .slice A0_6 l0_6.length c0_6, .int .i64 a0_7, .bool a0_8] 28 (0, 0)) (by (with_reducible repeat (first | refine blk_drewN ?_ _ | refine blk_drew ?_ | refine blk_alloc ?_ _)); exact BK171.out) hb); have n1_ := Aside0.mk (blk_below (g := gb172) (o := .cells #[.int .i64 0, .int .i64 0, .int .i64 0, .string (⟨#[]⟩ : ByteArray), .int .i64 0, .slice none 0 0, .slice none 0 0, .int .i64 0, .bool false] 34 (0, 0)) (by (with_reducible repeat (first | refine blk_drewN ?_ _ | refine blk_drew ?_ | refine blk_alloc ?_ _)); exact BK172.out) hb); have n2_ := Aside0.mk (below_step (by repeat (first | (with_reducible first | exact HB.out | apply below_alloc | apply pw_below_drewN | apply below_drew1 | refine below_set ?_ GE171.out | refine below_set ?_ GE172.out) | exact HB.out)) hb); have n3_ := Aside0.mk (hbox); have n4_ := Aside0.mk ((by rw [hg]; exact (below_size (by repeat (first | (with_reducible first | exact HB.out | apply below_alloc | apply pw_below_drewN | apply below_drew1 | refine below_set ?_ GE171.out | refine below_set ?_ GE172.out) | exact HB.out))) : w.heap.size ≤ gb173)); have n5_ := Aside0.mk ((by rw [hg]; exact (below_size (by repeat (first | (with_reducible first | exact HB.out | apply below_alloc | apply pw_below_drewN | apply below_drew1 | refine below_set ?_ GE171.out | refine below_set ?_ GE172.out) | exact HB.out))) : w.heap.size ≤ gb173)); have n6_ := Aside0.mk ((by rw [hg]; exact Nat.ne_of_lt (blk_lt (g := gb171) (o := .cells #[.int .i64 a0_0, .int .i64 a0_1, .int .i64 a0_2, .string a0_3, .int .i64 a0_4, .slice A0_5 l0_5.length c0_5, .slice A0_6 l0_6.length c0_6, .int .i64 a0_7, .bool a0_8] 28 (0, 0)) (by (with_reducible repeat (first | refine blk_drewN ?_ _ | refine blk_drew ?_ | refine blk_alloc ?_ _)); exact BK171.out)) : gb171 ≠ gb173)); have n7_ := Aside0.mk ((by rw [hg]; exact Nat.ne_of_gt (blk_lt (g := gb171) (o := .cells #[.int .i64 a0_0, .int .i64 a0_1, .int .i64 a0_2, .string a0_3, .int .i64 a0_4, .slice A0_5 l0_5.length c0_5, .slice A0_6 l0_6.length c0_6, .int .i64 a0_7, .bool a0_8] 28 (0, 0)) (by (with_reducible repeat (first | refine blk_drewN ?_ _ | refine blk_drew ?_ | refine blk_alloc ?_ _)); exact BK171.out)) : gb173 ≠ gb171)); have n8_ := Aside0.mk ((by rw [hg]; exact Nat.ne_of_lt (blk_lt (g := gb172) (o := .cells #[.int .i64 0, .int .i64 0, .int .i64 0, .string (⟨#[]⟩ : ByteArray), .int .i64 0, .slice none 0 0, .slice none 0 0, .int .i64 0, .bool false] 34 (0, 0)) (by (with_reducible repeat (first | refine blk_drewN ?_ _ | refine blk_drew ?_ | refine blk_alloc ?_ _)); exact BK172.out)) : gb172 ≠ gb173)); have n9_ := Aside0.mk ((by rw [hg]; exact Nat.ne_of_gt (blk_lt (g := gb172) (o := .cells #[.int .i64 0, .int .i64 0, .int .i64 0, .string (⟨#[]⟩ : ByteArray), .int .i64 0, .slice none 0 0, .slice none 0 0, .int .i64 0, .bool false] 34 (0, 0)) (by (with_reducible repeat (first | refine blk_drewN ?_ _ | refine blk_drew ?_ | refine blk_alloc ?_ _)); exact BK172.out)) : gb173 ≠ gb172)); clear BK171; clear BK172; clear HB; have BK171 := n0_; have BK172 := n1_; have HB := n2_; have BK173 := n3_; have GW173 := n4_; have GE173 := n5_; have NB171_173 := n6_; have NB173_171 := n7_; have NB172_173 := n8_; have NB173_172 := n9_; clear n0_ n1_ n2_ n3_ n4_ n5_ n6_ n7_ n8_ n9_; clear hb hbox hg; have hnb7 := NB171_172.out; have hnc7 := NB172_171.out; have hnb8 := NB171_173.out; have hnc8 := NB173_171.out; have hcz9_0 : w6.cell? ⟨gb171, 0, none⟩ = some (.int .i64 a0_0) := (blk_cell BK171.out 0).trans rfl; have hcz9_1 : w6.cell? ⟨gb171, 1, none⟩ = some (.int .i64 a0_1) := (blk_cell BK171.out 1).trans rfl; have hcz9_2 : w6.cell? ⟨gb171, 2, none⟩ = some (.int .i64 a0_2) := (blk_cell BK171.out 2).trans rfl; have hcz9_3 : w6.cell? ⟨gb171, 3, none⟩ = some (.string a0_3) := (blk_cell BK171.out 3).trans rfl; have hcz9_4 : w6.cell? ⟨gb171, 4, none⟩ = some (.int .i64 a0_4) := (blk_cell BK171.out 4).trans rfl; have hcz9_5 : w6.cell? ⟨gb171, 5, none⟩ = some (.slice A0_5 l0_5.length c0_5) := (blk_cell BK171.out 5).trans rfl; have hcz9_6 : w6.cell? ⟨gb171, 6, none⟩ = some (.slice A0_6 l0_6.length c0_6) := (blk_cell BK171.out 6).trans rfl; have hcz9_7 : w6.cell? ⟨gb171, 7, none⟩ = some (.int .i64 a0_7) := (blk_cell BK171.out 7).trans rfl; have hcz9_8 : w6.cell? ⟨gb171, 8, none⟩ = some (.bool a0_8) := (blk_cell BK171.out 8).trans rfl; have hfz9_0 := blk_frozen BK171.out 0; have hfz9_1 := blk_frozen BK171.out 1; have hfz9_2 := blk_frozen BK171.out 2; have hfz9_3 := blk_frozen BK171.out 3; have hfz9_4 := blk_frozen BK171.out 4; have hfz9_5 := blk_frozen BK171.out 5; have hfz9_6 := blk_frozen BK171.out 6; have hfz9_7 := blk_frozen BK171.out 7; have hfz9_8 := blk_frozen BK171.out 8) | ((with_reducible refine gate_callee (f := 13) rfl ?_); refine goesL_ (some 6) rfl rfl Tryd.func13 (by kernel_rfl) rfl #[.agg #[.int .i64 a0_0, .int .i64 a0_1, .int .i64 a0_2, .string a0_3]] rfl (by (try simp only [List.map_toArray, List.map_cons, List.map_nil]); first | done | rfl | (simp only [List.length_drop, List.length_take]; rfl)) ?_; (with_reducible refine (laws_toDecoder.calls a0_0 a0_1 a0_2 a0_3 t174 t175 t176 t177 _ A2.out).mono ?_); rintro e w10 ⟨rfl, hb⟩; refine ⟨_, rfl, ?_⟩; have n0_ := Aside0.mk (blk_below (g := gb171) (o := .cells #[.int .i64 a0_0, .int .i64 a0_1, .int .i64 a0_2, .string a0_3, .int .i64 a0_4, .slice A0_5 l0_5.length c0_5, .slice A0_6 l0_6.length c0_6, .int .i64 a0_7, .bool a0_8] 28 (0, 0)) (by (with_reducible repeat (first | refine blk_drewN ?_ _ | refine blk_drew ?_ | refine blk_alloc ?_ _)); exact BK171.out) hb); have n1_ := Aside0.mk (blk_below (g := gb172) (o := .cells #[.int .i64 0, .int .i64 0, .int .i64 0, .string (⟨#[]⟩ : ByteArray), .int .i64 0, .slice none 0 0, .slice none 0 0, .int .i64 0, .bool false] 34 (0, 0)) (by (with_reducible repeat (first | refine blk_drewN ?_ _ | refine blk_drew ?_ | refine blk_alloc ?_ _)); exact BK172.out) hb); have n2_ := Aside0.mk (blk_below (g := gb173) (o := .cells #[.int .i64 0, .int .i64 0, .int .i64 0, .string (⟨#[]⟩ : ByteArray), .int .i64 0, .slice none 0 0, .slice none 0 0, .int .i64 0, .bool false] 34 (0, 0)) (by (with_reducible repeat (first | refine blk_drewN ?_ _ | refine blk_drew ?_ | refine blk_alloc ?_ _)); exact BK173.out) hb); have n3_ := Aside0.mk (below_step (by repeat (first | (with_reducible first | exact HB.out | apply below_alloc | apply pw_below_drewN | apply below_drew1 | refine below_set ?_ GE171.out | refine below_set ?_ GE172.out | refine below_set ?_ GE173.out) | exact HB.out)) hb); clear BK171; clear BK172; clear BK173; clear HB; have BK171 := n0_; have BK172 := n1_; have BK173 := n2_; have HB := n3_; clear n0_ n1_ n2_ n3_; (try clear hb); (try clear hb2); (try clear hk); (try clear hi); have hnb11 := NB173_172.out; have hnc11 := NB172_173.out; have hcz12_0 : w10.cell? ⟨gb173, 0, none⟩ = some (.int .i64 0) := (blk_cell BK173.out 0).trans rfl; have hcz12_1 : w10.cell? ⟨gb173, 1, none⟩ = some (.int .i64 0) := (blk_cell BK173.out 1).trans rfl; have hcz12_2 : w10.cell? ⟨gb173, 2, none⟩ = some (.int .i64 0) := (blk_cell BK173.out 2).trans rfl; have hcz12_3 : w10.cell? ⟨gb173, 3, none⟩ = some (.string (⟨#[]⟩ : ByteArray)) := (blk_cell BK173.out 3).trans rfl; have hcz12_4 : w10.cell? ⟨gb173, 4, none⟩ = some (.int .i64 0) := (blk_cell BK173.out 4).trans rfl; have hcz12_5 : w10.cell? ⟨gb173, 5, none⟩ = some (.slice none 0 0) := (blk_cell BK173.out 5).trans rfl; have hcz12_6 : w10.cell? ⟨gb173, 6, none⟩ = some (.slice none 0 0) := (blk_cell BK173.out 6).trans rfl; have hcz12_7 : w10.cell? ⟨gb173, 7, none⟩ = some (.int .i64 0) := (blk_cell BK173.out 7).trans rfl; have hcz12_8 : w10.cell? ⟨gb173, 8, none⟩ = some (.bool false) := (blk_cell BK173.out 8).trans rfl; have hfz12_0 := blk_frozen BK173.out 0; have hfz12_1 := blk_frozen BK173.out 1; have hfz12_2 := blk_frozen BK173.out 2; have hfz12_3 := blk_frozen BK173.out 3; have hfz12_4 := blk_frozen BK173.out 4; have hfz12_5 := blk_frozen BK173.out 5; have hfz12_6 := blk_frozen BK173.out 6; have hfz12_7 := blk_frozen BK173.out 7; have hfz12_8 := blk_frozen BK173.out 8; have hcz13_0 : w10.cell? ⟨gb171, 0, none⟩ = some (.int .i64 a0_0) := (blk_cell BK171.out 0).trans rfl; have hcz13_1 : w10.cell? ⟨gb171, 1, none⟩ = some (.int .i64 a0_1) := (blk_cell BK171.out 1).trans rfl; have hcz13_2 : w10.cell? ⟨gb171, 2, none⟩ = some (.int .i64 a0_2) := (blk_cell BK171.out 2).trans rfl; have hcz13_3 : w10.cell? ⟨gb171, 3, none⟩ = some (.string a0_3) := (blk_cell BK171.out 3).trans rfl; have hcz13_4 : w10.cell? ⟨gb171, 4, none⟩ = some (.int .i64 a0_4) := (blk_cell BK171.out 4).trans rfl; have hcz13_5 : w10.cell? ⟨gb171, 5, none⟩ = some (.slice A0_5 l0_5.length c0_5) := (blk_cell BK171.out 5).trans rfl; have hcz13_6 : w10.cell? ⟨gb171, 6, none⟩ = some (.slice A0_6 l0_6.length c0_6) := (blk_cell BK171.out 6).trans rfl; have hcz13_7 : w10.cell? ⟨gb171, 7, none⟩ = some (.int .i64 a0_7) := (blk_cell BK171.out 7).trans rfl; have hcz13_8 : w10.cell? ⟨gb171, 8, none⟩ = some (.bool a0_8) := (blk_cell BK171.out 8).trans rfl; have hfz13_0 := blk_frozen BK171.out 0; have hfz13_1 := blk_frozen BK171.out 1; have hfz13_2 := blk_frozen BK171.out 2; have hfz13_3 := blk_frozen BK171.out 3; have hfz13_4 := blk_frozen BK171.out 4; have hfz13_5 := blk_frozen BK171.out 5; have hfz13_6 := blk_frozen BK171.out 6; have hfz13_7 := blk_frozen BK171.out 7; have hfz13_8 := blk_frozen BK171.out 8) | ((with_reducible refine gate_callee (f := 24) rfl ?_); refine goesL_ (some 10) rfl rfl Tryd.func24 (by kernel_rfl) rfl #[.agg #[.int .i64 a0_4, .slice A0_5 l0_5.length c0_5, .slice A0_6 l0_6.length c0_6, .int .i64 a0_7]] rfl (by (try simp only [List.map_toArray, List.map_cons, List.map_nil]); first | done | rfl | (simp only [List.length_drop, List.length_take]; rfl)) ?_; (with_reducible refine (laws_toBuf.calls k a0_4 _ _ l0_5 _ _ l0_6 a0_7 t178 t179 t182 t185 _ ?side1 ?side2 ?side3 ?side4 A3.out).mono ?_); (case side1 => exact Kd.C_below HR0_5.out (by repeat (first | (with_reducible first | exact HB.out | apply below_alloc | apply pw_below_drewN | apply below_drew1 | refine below_set ?_ GE171.out | refine below_set ?_ GE172.out | refine below_set ?_ GE173.out) | exact HB.out))); (case side2 => exact HC0_5.out); (case side3 => exact Kd.C_below HR0_6.out (by repeat (first | (with_reducible first | exact HB.out | apply below_alloc | apply pw_below_drewN | apply below_drew1 | refine below_set ?_ GE171.out | refine below_set ?_ GE172.out | refine below_set ?_ GE173.out) | exact HB.out))); (case side4 => exact HC0_6.out); rintro e w14 ⟨v180, v183, rfl, ho0, ho1, hb⟩; refine ⟨_, rfl, ?_⟩; have n0_ := Aside0.mk (Kd.R_lower ho0 (below_size (by repeat (first | (with_reducible first | exact HB.out | apply below_alloc | apply pw_below_drewN | apply below_drew1 | refine below_set ?_ GE171.out | refine below_set ?_ GE172.out | refine below_set ?_ GE173.out) | exact HB.out)))); have n1_ := Aside0.mk (Kd.R_lower ho1 (below_size (by repeat (first | (with_reducible first | exact HB.out | apply below_alloc | apply pw_below_drewN | apply below_drew1 | refine below_set ?_ GE171.out | refine below_set ?_ GE172.out | refine below_set ?_ GE173.out) | exact HB.out)))); have n2_ := Aside0.mk (blk_below (g := gb171) (o := .cells #[.int .i64 a0_0, .int .i64 a0_1, .int .i64 a0_2, .string a0_3, .int .i64 a0_4, .slice A0_5 l0_5.length c0_5, .slice A0_6 l0_6.length c0_6, .int .i64 a0_7, .bool a0_8] 28 (0, 0)) (by (with_reducible repeat (first | refine blk_drewN ?_ _ | refine blk_drew ?_ | refine blk_alloc ?_ _)); refine blk_far ?_ NB171_173.out _; (with_reducible repeat (first | refine blk_drewN ?_ _ | refine blk_drew ?_ | refine blk_alloc ?_ _)); refine blk_far ?_ NB171_173.out _; (with_reducible repeat (first | refine blk_drewN ?_ _ | refine blk_drew ?_ | refine blk_alloc ?_ _)); refine blk_far ?_ NB171_173.out _; (with_reducible repeat (first | refine blk_drewN ?_ _ | refine blk_drew ?_ | refine blk_alloc ?_ _)); refine blk_far ?_ NB171_173.out _; (with_reducible repeat (first | refine blk_drewN ?_ _ | refine blk_drew ?_ | refine blk_alloc ?_ _)); exact BK171.out) hb); have n3_ := Aside0.mk (blk_below (g := gb172) (o := .cells #[.int .i64 0, .int .i64 0, .int .i64 0, .string (⟨#[]⟩ : ByteArray), .int .i64 0, .slice none 0 0, .slice none 0 0, .int .i64 0, .bool false] 34 (0, 0)) (by (with_reducible repeat (first | refine blk_drewN ?_ _ | refine blk_drew ?_ | refine blk_alloc ?_ _)); refine blk_far ?_ NB172_173.out _; (with_reducible repeat (first | refine blk_drewN ?_ _ | refine blk_drew ?_ | refine blk_alloc ?_ _)); refine blk_far ?_ NB172_173.out _; (with_reducible repeat (first | refine blk_drewN ?_ _ | refine blk_drew ?_ | refine blk_alloc ?_ _)); refine blk_far ?_ NB172_173.out _; (with_reducible repeat (first | refine blk_drewN ?_ _ | refine blk_drew ?_ | refine blk_alloc ?_ _)); refine blk_far ?_ NB172_173.out _; (with_reducible repeat (first | refine blk_drewN ?_ _ | refine blk_drew ?_ | refine blk_alloc ?_ _)); exact BK172.out) hb); have n4_ := Aside0.mk (blk_below (g := gb173) (o := .cells #[.int .i64 t174, .int .i64 t175, .int .i64 t176, .string t177, .int .i64 0, .slice none 0 0, .slice none 0 0, .int .i64 0, .bool false] 34 (0, 0)) (by (with_reducible repeat (first | refine blk_drewN ?_ _ | refine blk_drew ?_ | refine blk_alloc ?_ _)); refine blk_put (cs := #[.int .i64 t174, .int .i64 t175, .int .i64 t176, .string (⟨#[]⟩ : ByteArray), .int .i64 0, .slice none 0 0, .slice none 0 0, .int .i64 0, .bool false]) ?_ 3 _ rfl; (with_reducible repeat (first | refine blk_drewN ?_ _ | refine blk_drew ?_ | refine blk_alloc ?_ _)); refine blk_put (cs := #[.int .i64 t174, .int .i64 t175, .int .i64 0, .string (⟨#[]⟩ : ByteArray), .int .i64 0, .slice none 0 0, .slice none 0 0, .int .i64 0, .bool false]) ?_ 2 _ rfl; (with_reducible repeat (first | refine blk_drewN ?_ _ | refine blk_drew ?_ | refine blk_alloc ?_ _)); refine blk_put (cs := #[.int .i64 t174, .int .i64 0, .int .i64 0, .string (⟨#[]⟩ : ByteArray), .int .i64 0, .slice none 0 0, .slice none 0 0, .int .i64 0, .bool false]) ?_ 1 _ rfl; (with_reducible repeat (first | refine blk_drewN ?_ _ | refine blk_drew ?_ | refine blk_alloc ?_ _)); refine blk_put (cs := #[.int .i64 0, .int .i64 0, .int .i64 0, .string (⟨#[]⟩ : ByteArray), .int .i64 0, .slice none 0 0, .slice none 0 0, .int .i64 0, .bool false]) ?_ 0 _ rfl; (with_reducible repeat (first | refine blk_drewN ?_ _ | refine blk_drew ?_ | refine blk_alloc ?_ _)); exact BK173.out) hb); have n5_ := Aside0.mk (below_step (by repeat (first | (with_reducible first | exact HB.out | apply below_alloc | apply pw_below_drewN | apply below_drew1 | refine below_set ?_ GE171.out | refine below_set ?_ GE172.out | refine below_set ?_ GE173.out) | exact HB.out)) hb); clear BK171; clear BK172; clear BK173; clear HB; have HO181 := n0_; have HO184 := n1_; have BK171 := n2_; have BK172 := n3_; have BK173 := n4_; have HB := n5_; clear n0_ n1_ n2_ n3_ n4_ n5_; (try clear hb); (try clear hb2); (try clear hk); (try clear hi); (try clear ho0); (try clear ho1); have hcz15_0 : w14.cell? ⟨gb173, 0, none⟩ = some (.int .i64 t174) := (blk_cell BK173.out 0).trans rfl; have hcz15_1 : w14.cell? ⟨gb173, 1, none⟩ = some (.int .i64 t175) := (blk_cell BK173.out 1).trans rfl; have hcz15_2 : w14.cell? ⟨gb173, 2, none⟩ = some (.int .i64 t176) := (blk_cell BK173.out 2).trans rfl; have hcz15_3 : w14.cell? ⟨gb173, 3, none⟩ = some (.string t177) := (blk_cell BK173.out 3).trans rfl; have hcz15_4 : w14.cell? ⟨gb173, 4, none⟩ = some (.int .i64 0) := (blk_cell BK173.out 4).trans rfl; have hcz15_5 : w14.cell? ⟨gb173, 5, none⟩ = some (.slice none 0 0) := (blk_cell BK173.out 5).trans rfl; have hcz15_6 : w14.cell? ⟨gb173, 6, none⟩ = some (.slice none 0 0) := (blk_cell BK173.out 6).trans rfl; have hcz15_7 : w14.cell? ⟨gb173, 7, none⟩ = some (.int .i64 0) := (blk_cell BK173.out 7).trans rfl; have hcz15_8 : w14.cell? ⟨gb173, 8, none⟩ = some (.bool false) := (blk_cell BK173.out 8).trans rfl; have hfz15_0 := blk_frozen BK173.out 0; have hfz15_1 := blk_frozen BK173.out 1; have hfz15_2 := blk_frozen BK173.out 2; have hfz15_3 := blk_frozen BK173.out 3; have hfz15_4 := blk_frozen BK173.out 4; have hfz15_5 := blk_frozen BK173.out 5; have hfz15_6 := blk_frozen BK173.out 6; have hfz15_7 := blk_frozen BK173.out 7; have hfz15_8 := blk_frozen BK173.out 8; obtain ⟨Ao16, co16, eo16⟩ := Kd.R_slice HO181.out; subst eo16; obtain ⟨Ao17, co17, eo17⟩ := Kd.R_slice HO184.out; subst eo17; have hcz18_0 : w14.cell? ⟨gb171, 0, none⟩ = some (.int .i64 a0_0) := (blk_cell BK171.out 0).trans rfl; have hcz18_1 : w14.cell? ⟨gb171, 1, none⟩ = some (.int .i64 a0_1) := (blk_cell BK171.out 1).trans rfl; have hcz18_2 : w14.cell? ⟨gb171, 2, none⟩ = some (.int .i64 a0_2) := (blk_cell BK171.out 2).trans rfl; have hcz18_3 : w14.cell? ⟨gb171, 3, none⟩ = some (.string a0_3) := (blk_cell BK171.out 3).trans rfl; have hcz18_4 : w14.cell? ⟨gb171, 4, none⟩ = some (.int .i64 a0_4) := (blk_cell BK171.out 4).trans rfl; have hcz18_5 : w14.cell? ⟨gb171, 5, none⟩ = some (.slice A0_5 l0_5.length c0_5) := (blk_cell BK171.out 5).trans rfl; have hcz18_6 : w14.cell? ⟨gb171, 6, none⟩ = some (.slice A0_6 l0_6.length c0_6) := (blk_cell BK171.out 6).trans rfl; have hcz18_7 : w14.cell? ⟨gb171, 7, none⟩ = some (.int .i64 a0_7) := (blk_cell BK171.out 7).trans rfl; have hcz18_8 : w14.cell? ⟨gb171, 8, none⟩ = some (.bool a0_8) := (blk_cell BK171.out 8).trans rfl; have hfz18_0 := blk_frozen BK171.out 0; have hfz18_1 := blk_frozen BK171.out 1; have hfz18_2 := blk_frozen BK171.out 2; have hfz18_3 := blk_frozen BK171.out 3; have hfz18_4 := blk_frozen BK171.out 4; have hfz18_5 := blk_frozen BK171.out 5; have hfz18_6 := blk_frozen BK171.out 6; have hfz18_7 := blk_frozen BK171.out 7; have hfz18_8 := blk_frozen BK171.out 8; have hcz19_0 : w14.cell? ⟨gb172, 0, none⟩ = some (.int .i64 0) := (blk_cell BK172.out 0).trans rfl; have hcz19_1 : w14.cell? ⟨gb172, 1, none⟩ = some (.int .i64 0) := (blk_cell BK172.out 1).trans rfl; have hcz19_2 : w14.cell? ⟨gb172, 2, none⟩ = some (.int .i64 0) := (blk_cell BK172.out 2).trans rfl; have hcz19_3 : w14.cell? ⟨gb172, 3, none⟩ = some (.string (⟨#[]⟩ : ByteArray)) := (blk_cell BK172.out 3).trans rfl; have hcz19_4 : w14.cell? ⟨gb172, 4, none⟩ = some (.int .i64 0) := (blk_cell BK172.out 4).trans rfl; have hcz19_5 : w14.cell? ⟨gb172, 5, none⟩ = some (.slice none 0 0) := (blk_cell BK172.out 5).trans rfl; have hcz19_6 : w14.cell? ⟨gb172, 6, none⟩ = some (.slice none 0 0) := (blk_cell BK172.out 6).trans rfl; have hcz19_7 : w14.cell? ⟨gb172, 7, none⟩ = some (.int .i64 0) := (blk_cell BK172.out 7).trans rfl; have hcz19_8 : w14.cell? ⟨gb172, 8, none⟩ = some (.bool false) := (blk_cell BK172.out 8).trans rfl; have hfz19_0 := blk_frozen BK172.out 0; have hfz19_1 := blk_frozen BK172.out 1; have hfz19_2 := blk_frozen BK172.out 2; have hfz19_3 := blk_frozen BK172.out 3; have hfz19_4 := blk_frozen BK172.out 4; have hfz19_5 := blk_frozen BK172.out 5; have hfz19_6 := blk_frozen BK172.out 6; have hfz19_7 := blk_frozen BK172.out 7; have hfz19_8 := blk_frozen BK172.out 8))
 refine bodyPost_ret (results_cell_row rfl _ _ gb172 34 #[.int .i64 t174, .int .i64 t175, .int .i64 t176, .string t177, .int .i64 t178, .slice Ao16 t179.length co16, .slice Ao17 t182.length co17, .int .i64 t185, .bool a0_8] (0, 0) _ rfl (by (with_reducible repeat (first | refine blk_drewN ?_ _ | refine blk_drew ?_ | refine blk_alloc ?_ _)); refine blk_put (cs := #[.int .i64 t174, .int .i64 t175, .int .i64 t176, .string t177, .int .i64 t178, .slice Ao16 t179.length co16, .slice Ao17 t182.length co17, .int .i64 t185, .bool false]) ?_ 8 _ rfl; (with_reducible repeat (first | refine blk_drewN ?_ _ | refine blk_drew ?_ | refine blk_alloc ?_ _)); refine blk_put (cs := #[.int .i64 t174, .int .i64 t175, .int .i64 t176, .string t177, .int .i64 t178, .slice Ao16 t179.length co16, .slice Ao17 t182.length co17, .int .i64 0, .bool false]) ?_ 7 _ rfl; (with_reducible repeat (first | refine blk_drewN ?_ _ | refine blk_drew ?_ | refine blk_alloc ?_ _)); refine blk_put (cs := #[.int .i64 t174, .int .i64 t175, .int .i64 t176, .string t177, .int .i64 t178, .slice Ao16 t179.length co16, .slice none 0 0, .int .i64 0, .bool false]) ?_ 6 _ rfl; (with_reducible repeat (first | refine blk_drewN ?_ _ | refine blk_drew ?_ | refine blk_alloc ?_ _)); refine blk_put (cs := #[.int .i64 t174, .int .i64 t175, .int .i64 t176, .string t177, .int .i64 t178, .slice none 0 0, .slice none 0 0, .int .i64 0, .bool false]) ?_ 5 _ rfl; (with_reducible repeat (first | refine blk_drewN ?_ _ | refine blk_drew ?_ | refine blk_alloc ?_ _)); refine blk_put (cs := #[.int .i64 t174, .int .i64 t175, .int .i64 t176, .string t177, .int .i64 0, .slice none 0 0, .slice none 0 0, .int .i64 0, .bool false]) ?_ 4 _ rfl; (with_reducible repeat (first | refine blk_drewN ?_ _ | refine blk_drew ?_ | refine blk_alloc ?_ _)); refine blk_put (cs := #[.int .i64 t174, .int .i64 t175, .int .i64 t176, .string (⟨#[]⟩ : ByteArray), .int .i64 0, .slice none 0 0, .slice none 0 0, .int .i64 0, .bool false]) ?_ 3 _ rfl; (with_reducible repeat (first | refine blk_drewN ?_ _ | refine blk_drew ?_ | refine blk_alloc ?_ _)); refine blk_put (cs := #[.int .i64 t174, .int .i64 t175, .int .i64 0, .string (⟨#[]⟩ : ByteArray), .int .i64 0, .slice none 0 0, .slice none 0 0, .int .i64 0, .bool false]) ?_ 2 _ rfl; (with_reducible repeat (first | refine blk_drewN ?_ _ | refine blk_drew ?_ | refine blk_alloc ?_ _)); refine blk_put (cs := #[.int .i64 t174, .int .i64 0, .int .i64 0, .string (⟨#[]⟩ : ByteArray), .int .i64 0, .slice none 0 0, .slice none 0 0, .int .i64 0, .bool false]) ?_ 1 _ rfl; (with_reducible repeat (first | refine blk_drewN ?_ _ | refine blk_drew ?_ | refine blk_alloc ?_ _)); refine blk_put (cs := #[.int .i64 0, .int .i64 0, .int .i64 0, .string (⟨#[]⟩ : ByteArray), .int .i64 0, .slice none 0 0, .slice none 0 0, .int .i64 0, .bool false]) ?_ 0 _ rfl; (with_reducible repeat (first | refine blk_drewN ?_ _ | refine blk_drew ?_ | refine blk_alloc ?_ _)); refine blk_far ?_ NB172_173.out _; (with_reducible repeat (first | refine blk_drewN ?_ _ | refine blk_drew ?_ | refine blk_alloc ?_ _)); refine blk_far ?_ NB172_173.out _; (with_reducible repeat (first | refine blk_drewN ?_ _ | refine blk_drew ?_ | refine blk_alloc ?_ _)); refine blk_far ?_ NB172_173.out _; (with_reducible repeat (first | refine blk_drewN ?_ _ | refine blk_drew ?_ | refine blk_alloc ?_ _)); refine blk_far ?_ NB172_173.out _; (with_reducible repeat (first | refine blk_drewN ?_ _ | refine blk_drew ?_ | refine blk_alloc ?_ _)); refine blk_far ?_ NB172_173.out _; (with_reducible repeat (first | refine blk_drewN ?_ _ | refine blk_drew ?_ | refine blk_alloc ?_ _)); exact BK172.out) Tryd.underlying34 rfl (by kernel_rfl)) rfl ?_
 exact ⟨_, _, by first | rfl | (simp [errW_none, errW_some] <;> rfl) | (simp [*, errW_none, errW_some] <;> rfl), by (with_reducible repeat (first | apply Kd.R_alloc | apply Kd.R_drewN | apply Kd.R_drew)); exact Kd.R_mono (Kd.R_far (p := ⟨gb172, 8, none⟩) (Kd.R_far (p := ⟨gb172, 7, none⟩) (Kd.R_far (p := ⟨gb172, 6, none⟩) (Kd.R_far (p := ⟨gb172, 5, none⟩) (Kd.R_far (p := ⟨gb172, 4, none⟩) (Kd.R_far (p := ⟨gb172, 3, none⟩) (Kd.R_far (p := ⟨gb172, 2, none⟩) (Kd.R_far (p := ⟨gb172, 1, none⟩) (Kd.R_far (p := ⟨gb172, 0, none⟩) (Kd.R_far (p := ⟨gb173, 8, none⟩) (Kd.R_far (p := ⟨gb173, 7, none⟩) (Kd.R_far (p := ⟨gb173, 6, none⟩) (Kd.R_far (p := ⟨gb173, 5, none⟩) (Kd.R_far (p := ⟨gb173, 4, none⟩) (Kd.R_types (Kd.R_types HO181.out BK173.out (by decide)) BK172.out (by decide)) (fun _ hk => hk.1.2) (.int .i64 t178)) (fun _ hk => hk.1.2) (.slice Ao16 t179.length co16)) (fun _ hk => hk.1.2) (.slice Ao17 t182.length co17)) (fun _ hk => hk.1.2) (.int .i64 t185)) (fun _ hk => hk.1.2) (.bool a0_8)) (fun _ hk => hk.2) (.int .i64 t174)) (fun _ hk => hk.2) (.int .i64 t175)) (fun _ hk => hk.2) (.int .i64 t176)) (fun _ hk => hk.2) (.string t177)) (fun _ hk => hk.2) (.int .i64 t178)) (fun _ hk => hk.2) (.slice Ao16 t179.length co16)) (fun _ hk => hk.2) (.slice Ao17 t182.length co17)) (fun _ hk => hk.2) (.int .i64 t185)) (fun _ hk => hk.2) (.bool a0_8)) (fun _ hk => hk.1.1), by (with_reducible repeat (first | apply Kd.R_alloc | apply Kd.R_drewN | apply Kd.R_drew)); exact Kd.R_mono (Kd.R_far (p := ⟨gb172, 8, none⟩) (Kd.R_far (p := ⟨gb172, 7, none⟩) (Kd.R_far (p := ⟨gb172, 6, none⟩) (Kd.R_far (p := ⟨gb172, 5, none⟩) (Kd.R_far (p := ⟨gb172, 4, none⟩) (Kd.R_far (p := ⟨gb172, 3, none⟩) (Kd.R_far (p := ⟨gb172, 2, none⟩) (Kd.R_far (p := ⟨gb172, 1, none⟩) (Kd.R_far (p := ⟨gb172, 0, none⟩) (Kd.R_far (p := ⟨gb173, 8, none⟩) (Kd.R_far (p := ⟨gb173, 7, none⟩) (Kd.R_far (p := ⟨gb173, 6, none⟩) (Kd.R_far (p := ⟨gb173, 5, none⟩) (Kd.R_far (p := ⟨gb173, 4, none⟩) (Kd.R_types (Kd.R_types HO184.out BK173.out (by decide)) BK172.out (by decide)) (fun _ hk => hk.1.2) (.int .i64 t178)) (fun _ hk => hk.1.2) (.slice Ao16 t179.length co16)) (fun _ hk => hk.1.2) (.slice Ao17 t182.length co17)) (fun _ hk => hk.1.2) (.int .i64 t185)) (fun _ hk => hk.1.2) (.bool a0_8)) (fun _ hk => hk.2) (.int .i64 t174)) (fun _ hk => hk.2) (.int .i64 t175)) (fun _ hk => hk.2) (.int .i64 t176)) (fun _ hk => hk.2) (.string t177)) (fun _ hk => hk.2) (.int .i64 t178)) (fun _ hk => hk.2) (.slice Ao16 t179.length co16)) (fun _ hk => hk.2) (.slice Ao17 t182.length co17)) (fun _ hk => hk.2) (.int .i64 t185)) (fun _ hk => hk.2) (.bool a0_8)) (fun _ hk => hk.1.1), by repeat (first | (with_reducible first | exact HB.out | apply below_alloc | apply pw_below_drewN | apply below_drew1 | refine below_set ?_ GE171.out | refine below_set ?_ GE172.out | refine below_set ?_ GE173.out) | exact HB.out)⟩

def impl_inRange.f (a0 : Int) (a1 : Int) (a2 : Int) : Option (Bool) := if a1 ≤ a0 then (some (decide (a0 ≤ a2))) else (some false)
set_option maxHeartbeats 8000000 in
set_option maxRecDepth 100000 in
theorem impl_inRange.calls (a0 : Int) (a1 : Int) (a2 : Int) (r : Bool) (w : World) (h : impl_inRange.f a0 a1 a2 = some r) :
    Calls Tryd.prog 44 #[.int .i64 a0, .int .i64 a1, .int .i64 a2] w fun e w' => e = .returned (.bool r) ∧ Drawn0 w w' := by
  have H : (if a1 ≤ a0 then (some (decide (a0 ≤ a2))) else (some false)) = some r := h
  clear h
  by_cases c4 : a1 ≤ a0
  · rw [if_pos c4] at H
    have c4b0 : decide (a1 ≤ a0) = true := decide_eq_true c4
    clear c4
    obtain rfl := Option.some.inj H
    go_enter Tryd.func44, Tryd.ntmps44
    go_wp2
    go_ret
    exact ⟨by first | rfl | (simp; done) | (simp [*]; done), by repeat (first | exact Drawn0.refl _ | apply Drawn0.step)⟩
  · rw [if_neg c4] at H
    have c4b0 : decide (a1 ≤ a0) = false := decide_eq_false c4
    clear c4
    obtain rfl := Option.some.inj H
    go_enter Tryd.func44, Tryd.ntmps44
    go_wp2
    go_ret
    exact ⟨by first | rfl | (simp; done) | (simp [*]; done), by repeat (first | exact Drawn0.refl _ | apply Drawn0.step)⟩

def impl_isCode.f (a0 : Int) : Option (Bool) := (impl_inRange.f a0 1 5).bind fun t186 => (some t186)
set_option maxHeartbeats 8000000 in
set_option maxRecDepth 100000 in
theorem impl_isCode.calls (a0 : Int) (r : Bool) (w : World) (h : impl_isCode.f a0 = some r) :
    Calls Tryd.prog 33 #[.int .i64 a0] w fun e w' => e = .returned (.bool r) ∧ Drawn0 w w' := by
  have H : ((impl_inRange.f a0 1 5).bind fun t186 => (some t186)) = some r := h
  clear h
  replace H := Option.bind_eq_some_iff.mp H
  obtain ⟨t186, A20, H⟩ := H
  replace H : (some t186) = some r := H
  have A2 := Aside0.mk A20
  clear A20
  obtain rfl := Option.some.inj H
  go_enter Tryd.func33, Tryd.ntmps33
  go_wp2_with (first | ((with_reducible refine gate_callee (f := 44) rfl ?_); refine goesL_ (some 4) rfl rfl Tryd.func44 (by kernel_rfl) rfl #[.int .i64 a0, .int .i64 1, .int .i64 5] rfl (by (try simp only [List.map_toArray, List.map_cons, List.map_nil]); first | done | rfl | (simp only [List.length_drop, List.length_take]; rfl)) ?_; (with_reducible refine (impl_inRange.calls a0 1 5 t186 _ A2.out).mono ?_); rintro e w' ⟨rfl, ⟨nd, rfl⟩⟩; refine ⟨_, rfl, ?_⟩))
  go_ret
  exact ⟨by first | rfl | (simp; done) | (simp [*]; done), by repeat (first | exact Drawn0.refl _ | apply Drawn0.step)⟩

abbrev utf8_FullRuneInString.q16_0 : Array Bool := #[false, false, false, false, false, false, false, false, false, false, false, false, false, false, false, false]
abbrev utf8_FullRuneInString.q16_1 : Array Bool := #[true, false, false, false, false, false, false, false, false, false, false, false, false, false, false, false]
abbrev utf8_FullRuneInString.q16_2 : Array Bool := #[true, true, false, false, false, false, false, false, false, false, false, false, false, false, false, false]
abbrev utf8_FullRuneInString.q16_3 : Array Bool := #[true, true, true, false, false, false, false, false, false, false, false, false, false, false, false, false]
abbrev utf8_FullRuneInString.q16_4 : Array Bool := #[true, true, true, true, false, false, false, false, false, false, false, false, false, false, false, false]
abbrev utf8_FullRuneInString.q16_5 : Array Bool := #[true, true, true, true, true, false, false, false, false, false, false, false, false, false, false, false]
abbrev utf8_FullRuneInString.q16_6 : Array Bool := #[true, true, true, true, true, true, false, false, false, false, false, false, false, false, false, false]
abbrev utf8_FullRuneInString.q16_7 : Array Bool := #[true, true, true, true, true, true, true, false, false, false, false, false, false, false, false, false]
abbrev utf8_FullRuneInString.q16_8 : Array Bool := #[true, true, true, true, true, true, true, true, false, false, false, false, false, false, false, false]
abbrev utf8_FullRuneInString.q16_9 : Array Bool := #[true, true, true, true, true, true, true, true, true, false, false, false, false, false, false, false]
abbrev utf8_FullRuneInString.q16_10 : Array Bool := #[true, true, true, true, true, true, true, true, true, true, false, false, false, false, false, false]
abbrev utf8_FullRuneInString.q16_11 : Array Bool := #[true, true, true, true, true, true, true, true, true, true, true, false, false, false, false, false]
abbrev utf8_FullRuneInString.q16_12 : Array Bool := #[true, true, true, true, true, true, true, true, true, true, true, true, false, false, false, false]
abbrev utf8_FullRuneInString.q16_13 : Array Bool := #[true, true, true, true, true, true, true, true, true, true, true, true, true, false, false, false]
abbrev utf8_FullRuneInString.q16_14 : Array Bool := #[true, true, true, true, true, true, true, true, true, true, true, true, true, true, false, false]
abbrev utf8_FullRuneInString.q16_15 : Array Bool := #[true, true, true, true, true, true, true, true, true, true, true, true, true, true, true, false]
abbrev utf8_FullRuneInString.q16_16 : Array Bool := #[true, true, true, true, true, true, true, true, true, true, true, true, true, true, true, true]
section
variable {P : Program} {ops : Array Oper} {Q : Exit → Act → World → Prop} {md : Region.Mode} {S : World → Prop} {ds : List Nat} {oi : Oper} {v : Value} {fuel : Nat} {l : Array Bool} {a a' : Act} {w : World}
theorem utf8_FullRuneInString.pv (i : Nat) (N : Tmp) (l' : Array Bool) (h : wpAnyLast P md ops Q S ds fuel l' a' w) (hi : ops[i]? = some oi := by rfl) (hN : oi.dst = some N := by rfl) (hc : anyB md ops l l' i = true := by kernel_rfl)
    (hQ : ∀ c a w, Q (.panic c) (a.put oi.dst v) w → Q (.panic c) a w := by exact fun _ _ _ h => h) (hw : Region.wanted oi (yielded ops a.tmps) = true := by rfl)
    (hy : ∀ w, (execOp a.eval oi).run P w = .ok (.value v) w := by (intro w'; go_simp; with_reducible rfl)) (ha : a.put (some N) v = a' := by (simp only [Act.put, List.setIfInBounds_toArray, List.set_cons_zero, List.set_cons_succ, i64_w, i32_w]; rfl)) :
    wpAnyLast P md ops Q S ds (fuel + 1) l a w := pure_ l' hi hN hc hQ (.inl ⟨hw, hy⟩) ha h
theorem utf8_FullRuneInString.pu (i : Nat) (N : Tmp) (l' : Array Bool) (h : wpAnyLast P md ops Q S ds fuel l' a' w) (hi : ops[i]? = some oi := by rfl) (hN : oi.dst = some N := by rfl) (hc : anyB md ops l l' i = true := by kernel_rfl)
    (hQ : ∀ c a w, Q (.panic c) (a.put oi.dst undef) w → Q (.panic c) a w := by exact fun _ _ _ h => h) (hw : Region.wanted oi (yielded ops a.tmps) = false := by rfl)
    (ha : a.put (some N) undef = a' := by (simp only [Act.put, List.setIfInBounds_toArray, List.set_cons_zero, List.set_cons_succ, i64_w, i32_w]; rfl)) :
    wpAnyLast P md ops Q S ds (fuel + 1) l a w := pure_ l' hi hN hc hQ (.inr ⟨hw, rfl⟩) ha h
end
theorem utf8_FullRuneInString.tv {P : Program} {ops : Array Oper} {Q : Exit → Act → World → Prop} {md : Region.Mode} {S : World → Prop} {ds : List Nat} {oi : Oper} {v : Value} {fuel : Nat} {l : Array Bool} {a a' : Act} {w : World}
    (hS : S w) (i : Nat) (N : Tmp) (l' : Array Bool) (h : wpAnyLast P md ops Q S ds fuel l' a' w) (hi : ops[i]? = some oi := by rfl) (hN : oi.dst = some N := by rfl) (hc : takeB md ops ds l l' i = true := by kernel_rfl)
    (hQ : ∀ c a w, Q (.panic c) (a.put oi.dst v) w → Q (.panic c) a w := by exact fun _ _ _ h => h) (hw : Region.wanted oi (yielded ops a.tmps) = true := by rfl)
    (hy : ∀ w, S w → (execOp a.eval oi).run P w = .ok (.value v) w := by (rintro w' ⟨s0, s1⟩; go_simp; with_reducible rfl)) (ha : a.put (some N) v = a' := by (simp only [Act.put, List.setIfInBounds_toArray, List.set_cons_zero, List.set_cons_succ, i64_w, i32_w]; rfl)) :
    wpAnyLast P md ops Q S ds (fuel + 1) l a w := take_ l' hi hN hc hQ (.inl ⟨hw, hy⟩) hS ha h
def utf8_FullRuneInString.N (n x b1 b2 : Nat) : Bool := decide (x % 8 ≤ n) || ((decide (1 < n) && (decide (b1 < Lib.accLo (x / 16)) || decide (Lib.accHi (x / 16) < b1))) || (decide (2 < n) && (decide (b2 < 128) || decide (191 < b2))))
def utf8_FullRuneInString.f (s : ByteArray) : Option Bool := some (if s.size = 0 then false else utf8_FullRuneInString.N s.size (Lib.firstT (s.get! 0).toNat) (s.get! 1).toNat (s.get! 2).toNat)
set_option maxHeartbeats 8000000 in
set_option maxRecDepth 100000 in
theorem utf8_FullRuneInString.calls (s : ByteArray) (r : Bool) (w : World) (hT : Lib.Utf8Tabs 0 1 w) (h : utf8_FullRuneInString.f s = some r) :
    Calls Tryd.prog 59 #[.string s] w fun e w' => e = .returned (.bool r) ∧ Below w.heap.size w w' := by
  have u84 := Tryd.underlying84
  have h := Option.some.inj h
  by_cases h0 : s.size = 0
  · rw [if_pos h0] at h
    subst h
    have hz : (s.size : Int) = 0 := by omega
    go_enter Tryd.func59, Tryd.ntmps59
    go_wp2
    go_ret
    exact ⟨rfl, Below.refl _ _⟩
  rw [if_neg h0] at h
  have hz0 : (0 : Int) < (s.size : Int) := by omega
  have hz0' : ¬ ((s.size : Int) = 0) := by omega
  obtain ⟨x0, hx0⟩ : ∃ x0, s.get! 0 = x0 := ⟨_, rfl⟩
  obtain ⟨x1, hx1⟩ : ∃ x1, s.get! 1 = x1 := ⟨_, rfl⟩
  obtain ⟨x2, hx2⟩ : ∃ x2, s.get! 2 = x2 := ⟨_, rfl⟩
  have hs0 : s[0]'(by omega) = x0 := by rw [← hx0]; exact (Utf8W.get!_of_lt s 0 (by omega)).symm
  have l0 := x0.toNat_lt
  have l1 := x1.toNat_lt
  have l2 := x2.toNat_lt
  rw [hx0, hx1, hx2] at h
  have hc0 := hT.1 x0.toNat (by omega)
  rcases Lib.firstT_cases x0.toNat with hX | hX | hX | hX | hX | hX | hX | hX | hX
  · rw [hX] at hc0 h
    have hr : utf8_FullRuneInString.N s.size 240 x1.toNat x2.toNat = true := by unfold utf8_FullRuneInString.N; simp
    rw [hr] at h
    subst h
    clear hT hX
    go_enter Tryd.func59, Tryd.ntmps59
    go_wp2
    go_ret
    exact ⟨rfl, Below.refl _ _⟩
  · rw [hX] at hc0 h
    have hr : utf8_FullRuneInString.N s.size 241 x1.toNat x2.toNat = true := by unfold utf8_FullRuneInString.N; simp; omega
    rw [hr] at h
    subst h
    clear hT hX
    have hge : (1 : Int) ≤ (s.size : Int) := by omega
    go_enter Tryd.func59, Tryd.ntmps59
    go_wp2
    go_ret
    exact ⟨rfl, Below.refl _ _⟩
  · rw [hX] at hc0 h
    have ha0 := (hT.2 0 (by omega)).1
    have ha1 := (hT.2 0 (by omega)).2
    simp only [Lib.accLo, Lib.accHi, Nat.reduceMul, Nat.reduceAdd, Nat.reduceEqDiff, if_true, if_false] at ha0 ha1
    by_cases hn : 2 ≤ s.size
    · have hr : utf8_FullRuneInString.N s.size 2 x1.toNat x2.toNat = true := by unfold utf8_FullRuneInString.N; simp; omega
      rw [hr] at h
      subst h
      clear hT hX
      have hge : (2 : Int) ≤ (s.size : Int) := by omega
      go_enter Tryd.func59, Tryd.ntmps59
      go_wp2
      go_ret
      exact ⟨rfl, Below.refl _ _⟩
    have hn1 : s.size = 1 := by omega
    rw [hn1] at h
    have hsz : (s.size : Int) = 1 := by omega
    have hr : utf8_FullRuneInString.N 1 2 x1.toNat x2.toNat = false := by unfold utf8_FullRuneInString.N; simp only [Lib.accLo, Lib.accHi, Nat.reduceMod, Nat.reduceDiv, Nat.reduceEqDiff, if_true, if_false, Nat.reduceLeDiff, Nat.reduceLT, decide_true, decide_false]; simp
    rw [hr] at h
    subst h
    clear hT hX
    go_enter Tryd.func59, Tryd.ntmps59
    have hk0 : (w.alloc (Obj.cells #[Value.int .u8 128, Value.int .u8 191] 84)).cell? ⟨w.heap.size, 0, none⟩ = some (.int .u8 128) := bc0 (heap_alloc_new w (Obj.cells #[Value.int .u8 128, Value.int .u8 191] 84))
    have hk1 : (w.alloc (Obj.cells #[Value.int .u8 128, Value.int .u8 191] 84)).cell? ⟨w.heap.size, 1, none⟩ = some (.int .u8 191) := bc1 (heap_alloc_new w (Obj.cells #[Value.int .u8 128, Value.int .u8 191] 84))
    go_wp2
    refine start_ (n := 16) (S := fun w' => w'.cell? ⟨w.heap.size, 0, none⟩ = some (.int .u8 128) ∧ w'.cell? ⟨w.heap.size, 1, none⟩ = some (.int .u8 191)) (ds := []) utf8_FullRuneInString.q16_0 (by kernel_rfl) rfl rfl ⟨hk0, hk1⟩ (fun hHeld => ?_)
    refine utf8_FullRuneInString.pv 0 23 utf8_FullRuneInString.q16_1 ?_
    refine utf8_FullRuneInString.pv 1 24 utf8_FullRuneInString.q16_2 ?_
    refine utf8_FullRuneInString.pv 2 25 utf8_FullRuneInString.q16_3 ?_
    refine utf8_FullRuneInString.pu 3 26 utf8_FullRuneInString.q16_4 ?_
    refine utf8_FullRuneInString.pu 4 27 utf8_FullRuneInString.q16_5 ?_
    refine utf8_FullRuneInString.pu 5 28 utf8_FullRuneInString.q16_6 ?_
    refine utf8_FullRuneInString.pu 6 29 utf8_FullRuneInString.q16_7 ?_
    refine utf8_FullRuneInString.pu 7 30 utf8_FullRuneInString.q16_8 ?_
    refine utf8_FullRuneInString.pu 8 31 utf8_FullRuneInString.q16_9 ?_
    refine utf8_FullRuneInString.pu 9 32 utf8_FullRuneInString.q16_10 ?_
    refine utf8_FullRuneInString.pu 10 33 utf8_FullRuneInString.q16_11 ?_
    refine utf8_FullRuneInString.pu 11 34 utf8_FullRuneInString.q16_12 ?_
    refine utf8_FullRuneInString.pu 12 35 utf8_FullRuneInString.q16_13 ?_
    refine utf8_FullRuneInString.pu 13 36 utf8_FullRuneInString.q16_14 ?_
    refine utf8_FullRuneInString.pu 14 37 utf8_FullRuneInString.q16_15 ?_
    refine utf8_FullRuneInString.pv 15 38 utf8_FullRuneInString.q16_16 ?_
    refine done_ (by kernel_rfl) ?_
    go_wp2
    go_ret
    exact ⟨rfl, ((Below.refl _ _).alloc (Nat.le_refl _) _).drew⟩
  · rw [hX] at hc0 h
    have ha0 := (hT.2 1 (by omega)).1
    have ha1 := (hT.2 1 (by omega)).2
    simp only [Lib.accLo, Lib.accHi, Nat.reduceMul, Nat.reduceAdd, Nat.reduceEqDiff, if_true, if_false] at ha0 ha1
    by_cases hn : 3 ≤ s.size
    · have hr : utf8_FullRuneInString.N s.size 19 x1.toNat x2.toNat = true := by unfold utf8_FullRuneInString.N; simp; omega
      rw [hr] at h
      subst h
      clear hT hX
      have hge : (3 : Int) ≤ (s.size : Int) := by omega
      go_enter Tryd.func59, Tryd.ntmps59
      go_wp2
      go_ret
      exact ⟨rfl, Below.refl _ _⟩
    by_cases hn1 : s.size = 1
    · rw [hn1] at h
      have hsz : (s.size : Int) = 1 := by omega
      have hr : utf8_FullRuneInString.N 1 19 x1.toNat x2.toNat = false := by unfold utf8_FullRuneInString.N; simp only [Lib.accLo, Lib.accHi, Nat.reduceMod, Nat.reduceDiv, Nat.reduceEqDiff, if_true, if_false, Nat.reduceLeDiff, Nat.reduceLT, decide_true, decide_false]; simp
      rw [hr] at h
      subst h
      clear hT hX
      go_enter Tryd.func59, Tryd.ntmps59
      have hk0 : (w.alloc (Obj.cells #[Value.int .u8 160, Value.int .u8 191] 84)).cell? ⟨w.heap.size, 0, none⟩ = some (.int .u8 160) := bc0 (heap_alloc_new w (Obj.cells #[Value.int .u8 160, Value.int .u8 191] 84))
      have hk1 : (w.alloc (Obj.cells #[Value.int .u8 160, Value.int .u8 191] 84)).cell? ⟨w.heap.size, 1, none⟩ = some (.int .u8 191) := bc1 (heap_alloc_new w (Obj.cells #[Value.int .u8 160, Value.int .u8 191] 84))
      go_wp2
      refine start_ (n := 16) (S := fun w' => w'.cell? ⟨w.heap.size, 0, none⟩ = some (.int .u8 160) ∧ w'.cell? ⟨w.heap.size, 1, none⟩ = some (.int .u8 191)) (ds := []) utf8_FullRuneInString.q16_0 (by kernel_rfl) rfl rfl ⟨hk0, hk1⟩ (fun hHeld => ?_)
      refine utf8_FullRuneInString.pv 0 23 utf8_FullRuneInString.q16_1 ?_
      refine utf8_FullRuneInString.pv 1 24 utf8_FullRuneInString.q16_2 ?_
      refine utf8_FullRuneInString.pv 2 25 utf8_FullRuneInString.q16_3 ?_
      refine utf8_FullRuneInString.pu 3 26 utf8_FullRuneInString.q16_4 ?_
      refine utf8_FullRuneInString.pu 4 27 utf8_FullRuneInString.q16_5 ?_
      refine utf8_FullRuneInString.pu 5 28 utf8_FullRuneInString.q16_6 ?_
      refine utf8_FullRuneInString.pu 6 29 utf8_FullRuneInString.q16_7 ?_
      refine utf8_FullRuneInString.pu 7 30 utf8_FullRuneInString.q16_8 ?_
      refine utf8_FullRuneInString.pu 8 31 utf8_FullRuneInString.q16_9 ?_
      refine utf8_FullRuneInString.pu 9 32 utf8_FullRuneInString.q16_10 ?_
      refine utf8_FullRuneInString.pu 10 33 utf8_FullRuneInString.q16_11 ?_
      refine utf8_FullRuneInString.pu 11 34 utf8_FullRuneInString.q16_12 ?_
      refine utf8_FullRuneInString.pu 12 35 utf8_FullRuneInString.q16_13 ?_
      refine utf8_FullRuneInString.pu 13 36 utf8_FullRuneInString.q16_14 ?_
      refine utf8_FullRuneInString.pu 14 37 utf8_FullRuneInString.q16_15 ?_
      refine utf8_FullRuneInString.pv 15 38 utf8_FullRuneInString.q16_16 ?_
      refine done_ (by kernel_rfl) ?_
      go_wp2
      go_ret
      exact ⟨rfl, ((Below.refl _ _).alloc (Nat.le_refl _) _).drew⟩
    have hn2 : s.size = 2 := by omega
    rw [hn2] at h
    have hsz : (s.size : Int) = 2 := by omega
    have hs1 : s[1]'(by omega) = x1 := by rw [← hx1]; exact (Utf8W.get!_of_lt s 1 (by omega)).symm
    by_cases hb1 : x1.toNat < 160
    · skip
      have hr : utf8_FullRuneInString.N 2 19 x1.toNat x2.toNat = true := by unfold utf8_FullRuneInString.N; simp only [Lib.accLo, Lib.accHi, Nat.reduceMod, Nat.reduceDiv, Nat.reduceEqDiff, if_true, if_false, Nat.reduceLeDiff, Nat.reduceLT, decide_true, decide_false]; simp; omega
      rw [hr] at h
      subst h
      clear hT hX
      have hb1z : (x1.toNat : Int) < 160 := by omega
      have hb1d : decide ((x1.toNat : Int) < 160) = true := decide_eq_true hb1z
      go_enter Tryd.func59, Tryd.ntmps59
      have hk0 : (w.alloc (Obj.cells #[Value.int .u8 160, Value.int .u8 191] 84)).cell? ⟨w.heap.size, 0, none⟩ = some (.int .u8 160) := bc0 (heap_alloc_new w (Obj.cells #[Value.int .u8 160, Value.int .u8 191] 84))
      have hk1 : (w.alloc (Obj.cells #[Value.int .u8 160, Value.int .u8 191] 84)).cell? ⟨w.heap.size, 1, none⟩ = some (.int .u8 191) := bc1 (heap_alloc_new w (Obj.cells #[Value.int .u8 160, Value.int .u8 191] 84))
      go_wp2
      refine start_ (n := 16) (S := fun w' => w'.cell? ⟨w.heap.size, 0, none⟩ = some (.int .u8 160) ∧ w'.cell? ⟨w.heap.size, 1, none⟩ = some (.int .u8 191)) (ds := []) utf8_FullRuneInString.q16_0 (by kernel_rfl) rfl rfl ⟨hk0, hk1⟩ (fun hHeld => ?_)
      refine utf8_FullRuneInString.pv 0 23 utf8_FullRuneInString.q16_1 ?_
      refine utf8_FullRuneInString.pv 1 24 utf8_FullRuneInString.q16_2 ?_
      refine utf8_FullRuneInString.pv 2 25 utf8_FullRuneInString.q16_3 ?_
      refine utf8_FullRuneInString.pv 3 26 utf8_FullRuneInString.q16_4 ?_
      refine utf8_FullRuneInString.pv 5 28 #[true, true, true, true, false, true, false, false, false, false, false, false, false, false, false, false] ?_
      refine utf8_FullRuneInString.tv hHeld 4 27 utf8_FullRuneInString.q16_6 ?_
      refine utf8_FullRuneInString.tv hHeld 6 29 utf8_FullRuneInString.q16_7 ?_
      refine utf8_FullRuneInString.pv 7 30 utf8_FullRuneInString.q16_8 ?_
      refine utf8_FullRuneInString.pv 8 31 utf8_FullRuneInString.q16_9 ?_
      refine utf8_FullRuneInString.pu 9 32 utf8_FullRuneInString.q16_10 ?_
      refine utf8_FullRuneInString.pu 10 33 utf8_FullRuneInString.q16_11 ?_
      refine utf8_FullRuneInString.pu 11 34 utf8_FullRuneInString.q16_12 ?_
      refine utf8_FullRuneInString.pu 12 35 utf8_FullRuneInString.q16_13 ?_
      refine utf8_FullRuneInString.pu 13 36 utf8_FullRuneInString.q16_14 ?_
      refine utf8_FullRuneInString.pv 14 37 utf8_FullRuneInString.q16_15 ?_
      refine utf8_FullRuneInString.pv 15 38 utf8_FullRuneInString.q16_16 ?_
      refine done_ (by kernel_rfl) ?_
      go_wp2
      go_ret
      exact ⟨rfl, ((Below.refl _ _).alloc (Nat.le_refl _) _).drew⟩
    have hb1z : ¬ ((x1.toNat : Int) < 160) := by omega
    have hb1d : decide ((x1.toNat : Int) < 160) = false := decide_eq_false hb1z
    by_cases hb2 : 191 < x1.toNat
    · skip
      have hr : utf8_FullRuneInString.N 2 19 x1.toNat x2.toNat = true := by unfold utf8_FullRuneInString.N; simp only [Lib.accLo, Lib.accHi, Nat.reduceMod, Nat.reduceDiv, Nat.reduceEqDiff, if_true, if_false, Nat.reduceLeDiff, Nat.reduceLT, decide_true, decide_false]; simp; omega
      rw [hr] at h
      subst h
      clear hT hX
      have hb2z : (191 : Int) < (x1.toNat : Int) := by omega
      have hb2d : decide ((191 : Int) < (x1.toNat : Int)) = true := decide_eq_true hb2z
      go_enter Tryd.func59, Tryd.ntmps59
      have hk0 : (w.alloc (Obj.cells #[Value.int .u8 160, Value.int .u8 191] 84)).cell? ⟨w.heap.size, 0, none⟩ = some (.int .u8 160) := bc0 (heap_alloc_new w (Obj.cells #[Value.int .u8 160, Value.int .u8 191] 84))
      have hk1 : (w.alloc (Obj.cells #[Value.int .u8 160, Value.int .u8 191] 84)).cell? ⟨w.heap.size, 1, none⟩ = some (.int .u8 191) := bc1 (heap_alloc_new w (Obj.cells #[Value.int .u8 160, Value.int .u8 191] 84))
      go_wp2
      refine start_ (n := 16) (S := fun w' => w'.cell? ⟨w.heap.size, 0, none⟩ = some (.int .u8 160) ∧ w'.cell? ⟨w.heap.size, 1, none⟩ = some (.int .u8 191)) (ds := []) utf8_FullRuneInString.q16_0 (by kernel_rfl) rfl rfl ⟨hk0, hk1⟩ (fun hHeld => ?_)
      refine utf8_FullRuneInString.pv 0 23 utf8_FullRuneInString.q16_1 ?_
      refine utf8_FullRuneInString.pv 1 24 utf8_FullRuneInString.q16_2 ?_
      refine utf8_FullRuneInString.pv 2 25 utf8_FullRuneInString.q16_3 ?_
      refine utf8_FullRuneInString.pv 3 26 utf8_FullRuneInString.q16_4 ?_
      refine utf8_FullRuneInString.pv 5 28 #[true, true, true, true, false, true, false, false, false, false, false, false, false, false, false, false] ?_
      refine utf8_FullRuneInString.tv hHeld 4 27 utf8_FullRuneInString.q16_6 ?_
      refine utf8_FullRuneInString.tv hHeld 6 29 utf8_FullRuneInString.q16_7 ?_
      refine utf8_FullRuneInString.pv 7 30 utf8_FullRuneInString.q16_8 ?_
      refine utf8_FullRuneInString.pv 8 31 utf8_FullRuneInString.q16_9 ?_
      refine utf8_FullRuneInString.pv 9 32 utf8_FullRuneInString.q16_10 ?_
      refine utf8_FullRuneInString.pv 11 34 #[true, true, true, true, true, true, true, true, true, true, false, true, false, false, false, false] ?_
      refine utf8_FullRuneInString.tv hHeld 10 33 utf8_FullRuneInString.q16_12 ?_
      refine utf8_FullRuneInString.tv hHeld 12 35 utf8_FullRuneInString.q16_13 ?_
      refine utf8_FullRuneInString.pv 13 36 utf8_FullRuneInString.q16_14 ?_
      refine utf8_FullRuneInString.pv 14 37 utf8_FullRuneInString.q16_15 ?_
      refine utf8_FullRuneInString.pv 15 38 utf8_FullRuneInString.q16_16 ?_
      refine done_ (by kernel_rfl) ?_
      go_wp2
      go_ret
      exact ⟨rfl, ((Below.refl _ _).alloc (Nat.le_refl _) _).drew⟩
    have hb2z : ¬ ((191 : Int) < (x1.toNat : Int)) := by omega
    have hb2d : decide ((191 : Int) < (x1.toNat : Int)) = false := decide_eq_false hb2z
    have hr : utf8_FullRuneInString.N 2 19 x1.toNat x2.toNat = false := by unfold utf8_FullRuneInString.N; simp only [Lib.accLo, Lib.accHi, Nat.reduceMod, Nat.reduceDiv, Nat.reduceEqDiff, if_true, if_false, Nat.reduceLeDiff, Nat.reduceLT, decide_true, decide_false]; simp; omega
    rw [hr] at h
    subst h
    clear hT hX
    go_enter Tryd.func59, Tryd.ntmps59
    have hk0 : (w.alloc (Obj.cells #[Value.int .u8 160, Value.int .u8 191] 84)).cell? ⟨w.heap.size, 0, none⟩ = some (.int .u8 160) := bc0 (heap_alloc_new w (Obj.cells #[Value.int .u8 160, Value.int .u8 191] 84))
    have hk1 : (w.alloc (Obj.cells #[Value.int .u8 160, Value.int .u8 191] 84)).cell? ⟨w.heap.size, 1, none⟩ = some (.int .u8 191) := bc1 (heap_alloc_new w (Obj.cells #[Value.int .u8 160, Value.int .u8 191] 84))
    go_wp2
    refine start_ (n := 16) (S := fun w' => w'.cell? ⟨w.heap.size, 0, none⟩ = some (.int .u8 160) ∧ w'.cell? ⟨w.heap.size, 1, none⟩ = some (.int .u8 191)) (ds := []) utf8_FullRuneInString.q16_0 (by kernel_rfl) rfl rfl ⟨hk0, hk1⟩ (fun hHeld => ?_)
    refine utf8_FullRuneInString.pv 0 23 utf8_FullRuneInString.q16_1 ?_
    refine utf8_FullRuneInString.pv 1 24 utf8_FullRuneInString.q16_2 ?_
    refine utf8_FullRuneInString.pv 2 25 utf8_FullRuneInString.q16_3 ?_
    refine utf8_FullRuneInString.pv 3 26 utf8_FullRuneInString.q16_4 ?_
    refine utf8_FullRuneInString.pv 5 28 #[true, true, true, true, false, true, false, false, false, false, false, false, false, false, false, false] ?_
    refine utf8_FullRuneInString.tv hHeld 4 27 utf8_FullRuneInString.q16_6 ?_
    refine utf8_FullRuneInString.tv hHeld 6 29 utf8_FullRuneInString.q16_7 ?_
    refine utf8_FullRuneInString.pv 7 30 utf8_FullRuneInString.q16_8 ?_
    refine utf8_FullRuneInString.pv 8 31 utf8_FullRuneInString.q16_9 ?_
    refine utf8_FullRuneInString.pv 9 32 utf8_FullRuneInString.q16_10 ?_
    refine utf8_FullRuneInString.pv 11 34 #[true, true, true, true, true, true, true, true, true, true, false, true, false, false, false, false] ?_
    refine utf8_FullRuneInString.tv hHeld 10 33 utf8_FullRuneInString.q16_12 ?_
    refine utf8_FullRuneInString.tv hHeld 12 35 utf8_FullRuneInString.q16_13 ?_
    refine utf8_FullRuneInString.pv 13 36 utf8_FullRuneInString.q16_14 ?_
    refine utf8_FullRuneInString.pv 14 37 utf8_FullRuneInString.q16_15 ?_
    refine utf8_FullRuneInString.pv 15 38 utf8_FullRuneInString.q16_16 ?_
    refine done_ (by kernel_rfl) ?_
    go_wp2
    go_ret
    exact ⟨rfl, ((Below.refl _ _).alloc (Nat.le_refl _) _).drew⟩
  · rw [hX] at hc0 h
    have ha0 := (hT.2 0 (by omega)).1
    have ha1 := (hT.2 0 (by omega)).2
    simp only [Lib.accLo, Lib.accHi, Nat.reduceMul, Nat.reduceAdd, Nat.reduceEqDiff, if_true, if_false] at ha0 ha1
    by_cases hn : 3 ≤ s.size
    · have hr : utf8_FullRuneInString.N s.size 3 x1.toNat x2.toNat = true := by unfold utf8_FullRuneInString.N; simp; omega
      rw [hr] at h
      subst h
      clear hT hX
      have hge : (3 : Int) ≤ (s.size : Int) := by omega
      go_enter Tryd.func59, Tryd.ntmps59
      go_wp2
      go_ret
      exact ⟨rfl, Below.refl _ _⟩
    by_cases hn1 : s.size = 1
    · rw [hn1] at h
      have hsz : (s.size : Int) = 1 := by omega
      have hr : utf8_FullRuneInString.N 1 3 x1.toNat x2.toNat = false := by unfold utf8_FullRuneInString.N; simp only [Lib.accLo, Lib.accHi, Nat.reduceMod, Nat.reduceDiv, Nat.reduceEqDiff, if_true, if_false, Nat.reduceLeDiff, Nat.reduceLT, decide_true, decide_false]; simp
      rw [hr] at h
      subst h
      clear hT hX
      go_enter Tryd.func59, Tryd.ntmps59
      have hk0 : (w.alloc (Obj.cells #[Value.int .u8 128, Value.int .u8 191] 84)).cell? ⟨w.heap.size, 0, none⟩ = some (.int .u8 128) := bc0 (heap_alloc_new w (Obj.cells #[Value.int .u8 128, Value.int .u8 191] 84))
      have hk1 : (w.alloc (Obj.cells #[Value.int .u8 128, Value.int .u8 191] 84)).cell? ⟨w.heap.size, 1, none⟩ = some (.int .u8 191) := bc1 (heap_alloc_new w (Obj.cells #[Value.int .u8 128, Value.int .u8 191] 84))
      go_wp2
      refine start_ (n := 16) (S := fun w' => w'.cell? ⟨w.heap.size, 0, none⟩ = some (.int .u8 128) ∧ w'.cell? ⟨w.heap.size, 1, none⟩ = some (.int .u8 191)) (ds := []) utf8_FullRuneInString.q16_0 (by kernel_rfl) rfl rfl ⟨hk0, hk1⟩ (fun hHeld => ?_)
      refine utf8_FullRuneInString.pv 0 23 utf8_FullRuneInString.q16_1 ?_
      refine utf8_FullRuneInString.pv 1 24 utf8_FullRuneInString.q16_2 ?_
      refine utf8_FullRuneInString.pv 2 25 utf8_FullRuneInString.q16_3 ?_
      refine utf8_FullRuneInString.pu 3 26 utf8_FullRuneInString.q16_4 ?_
      refine utf8_FullRuneInString.pu 4 27 utf8_FullRuneInString.q16_5 ?_
      refine utf8_FullRuneInString.pu 5 28 utf8_FullRuneInString.q16_6 ?_
      refine utf8_FullRuneInString.pu 6 29 utf8_FullRuneInString.q16_7 ?_
      refine utf8_FullRuneInString.pu 7 30 utf8_FullRuneInString.q16_8 ?_
      refine utf8_FullRuneInString.pu 8 31 utf8_FullRuneInString.q16_9 ?_
      refine utf8_FullRuneInString.pu 9 32 utf8_FullRuneInString.q16_10 ?_
      refine utf8_FullRuneInString.pu 10 33 utf8_FullRuneInString.q16_11 ?_
      refine utf8_FullRuneInString.pu 11 34 utf8_FullRuneInString.q16_12 ?_
      refine utf8_FullRuneInString.pu 12 35 utf8_FullRuneInString.q16_13 ?_
      refine utf8_FullRuneInString.pu 13 36 utf8_FullRuneInString.q16_14 ?_
      refine utf8_FullRuneInString.pu 14 37 utf8_FullRuneInString.q16_15 ?_
      refine utf8_FullRuneInString.pv 15 38 utf8_FullRuneInString.q16_16 ?_
      refine done_ (by kernel_rfl) ?_
      go_wp2
      go_ret
      exact ⟨rfl, ((Below.refl _ _).alloc (Nat.le_refl _) _).drew⟩
    have hn2 : s.size = 2 := by omega
    rw [hn2] at h
    have hsz : (s.size : Int) = 2 := by omega
    have hs1 : s[1]'(by omega) = x1 := by rw [← hx1]; exact (Utf8W.get!_of_lt s 1 (by omega)).symm
    by_cases hb1 : x1.toNat < 128
    · skip
      have hr : utf8_FullRuneInString.N 2 3 x1.toNat x2.toNat = true := by unfold utf8_FullRuneInString.N; simp only [Lib.accLo, Lib.accHi, Nat.reduceMod, Nat.reduceDiv, Nat.reduceEqDiff, if_true, if_false, Nat.reduceLeDiff, Nat.reduceLT, decide_true, decide_false]; simp; omega
      rw [hr] at h
      subst h
      clear hT hX
      have hb1z : (x1.toNat : Int) < 128 := by omega
      have hb1d : decide ((x1.toNat : Int) < 128) = true := decide_eq_true hb1z
      go_enter Tryd.func59, Tryd.ntmps59
      have hk0 : (w.alloc (Obj.cells #[Value.int .u8 128, Value.int .u8 191] 84)).cell? ⟨w.heap.size, 0, none⟩ = some (.int .u8 128) := bc0 (heap_alloc_new w (Obj.cells #[Value.int .u8 128, Value.int .u8 191] 84))
      have hk1 : (w.alloc (Obj.cells #[Value.int .u8 128, Value.int .u8 191] 84)).cell? ⟨w.heap.size, 1, none⟩ = some (.int .u8 191) := bc1 (heap_alloc_new w (Obj.cells #[Value.int .u8 128, Value.int .u8 191] 84))
      go_wp2
      refine start_ (n := 16) (S := fun w' => w'.cell? ⟨w.heap.size, 0, none⟩ = some (.int .u8 128) ∧ w'.cell? ⟨w.heap.size, 1, none⟩ = some (.int .u8 191)) (ds := []) utf8_FullRuneInString.q16_0 (by kernel_rfl) rfl rfl ⟨hk0, hk1⟩ (fun hHeld => ?_)
      refine utf8_FullRuneInString.pv 0 23 utf8_FullRuneInString.q16_1 ?_
      refine utf8_FullRuneInString.pv 1 24 utf8_FullRuneInString.q16_2 ?_
      refine utf8_FullRuneInString.pv 2 25 utf8_FullRuneInString.q16_3 ?_
      refine utf8_FullRuneInString.pv 3 26 utf8_FullRuneInString.q16_4 ?_
      refine utf8_FullRuneInString.pv 5 28 #[true, true, true, true, false, true, false, false, false, false, false, false, false, false, false, false] ?_
      refine utf8_FullRuneInString.tv hHeld 4 27 utf8_FullRuneInString.q16_6 ?_
      refine utf8_FullRuneInString.tv hHeld 6 29 utf8_FullRuneInString.q16_7 ?_
      refine utf8_FullRuneInString.pv 7 30 utf8_FullRuneInString.q16_8 ?_
      refine utf8_FullRuneInString.pv 8 31 utf8_FullRuneInString.q16_9 ?_
      refine utf8_FullRuneInString.pu 9 32 utf8_FullRuneInString.q16_10 ?_
      refine utf8_FullRuneInString.pu 10 33 utf8_FullRuneInString.q16_11 ?_
      refine utf8_FullRuneInString.pu 11 34 utf8_FullRuneInString.q16_12 ?_
      refine utf8_FullRuneInString.pu 12 35 utf8_FullRuneInString.q16_13 ?_
      refine utf8_FullRuneInString.pu 13 36 utf8_FullRuneInString.q16_14 ?_
      refine utf8_FullRuneInString.pv 14 37 utf8_FullRuneInString.q16_15 ?_
      refine utf8_FullRuneInString.pv 15 38 utf8_FullRuneInString.q16_16 ?_
      refine done_ (by kernel_rfl) ?_
      go_wp2
      go_ret
      exact ⟨rfl, ((Below.refl _ _).alloc (Nat.le_refl _) _).drew⟩
    have hb1z : ¬ ((x1.toNat : Int) < 128) := by omega
    have hb1d : decide ((x1.toNat : Int) < 128) = false := decide_eq_false hb1z
    by_cases hb2 : 191 < x1.toNat
    · skip
      have hr : utf8_FullRuneInString.N 2 3 x1.toNat x2.toNat = true := by unfold utf8_FullRuneInString.N; simp only [Lib.accLo, Lib.accHi, Nat.reduceMod, Nat.reduceDiv, Nat.reduceEqDiff, if_true, if_false, Nat.reduceLeDiff, Nat.reduceLT, decide_true, decide_false]; simp; omega
      rw [hr] at h
      subst h
      clear hT hX
      have hb2z : (191 : Int) < (x1.toNat : Int) := by omega
      have hb2d : decide ((191 : Int) < (x1.toNat : Int)) = true := decide_eq_true hb2z
      go_enter Tryd.func59, Tryd.ntmps59
      have hk0 : (w.alloc (Obj.cells #[Value.int .u8 128, Value.int .u8 191] 84)).cell? ⟨w.heap.size, 0, none⟩ = some (.int .u8 128) := bc0 (heap_alloc_new w (Obj.cells #[Value.int .u8 128, Value.int .u8 191] 84))
      have hk1 : (w.alloc (Obj.cells #[Value.int .u8 128, Value.int .u8 191] 84)).cell? ⟨w.heap.size, 1, none⟩ = some (.int .u8 191) := bc1 (heap_alloc_new w (Obj.cells #[Value.int .u8 128, Value.int .u8 191] 84))
      go_wp2
      refine start_ (n := 16) (S := fun w' => w'.cell? ⟨w.heap.size, 0, none⟩ = some (.int .u8 128) ∧ w'.cell? ⟨w.heap.size, 1, none⟩ = some (.int .u8 191)) (ds := []) utf8_FullRuneInString.q16_0 (by kernel_rfl) rfl rfl ⟨hk0, hk1⟩ (fun hHeld => ?_)
      refine utf8_FullRuneInString.pv 0 23 utf8_FullRuneInString.q16_1 ?_
      refine utf8_FullRuneInString.pv 1 24 utf8_FullRuneInString.q16_2 ?_
      refine utf8_FullRuneInString.pv 2 25 utf8_FullRuneInString.q16_3 ?_
      refine utf8_FullRuneInString.pv 3 26 utf8_FullRuneInString.q16_4 ?_
      refine utf8_FullRuneInString.pv 5 28 #[true, true, true, true, false, true, false, false, false, false, false, false, false, false, false, false] ?_
      refine utf8_FullRuneInString.tv hHeld 4 27 utf8_FullRuneInString.q16_6 ?_
      refine utf8_FullRuneInString.tv hHeld 6 29 utf8_FullRuneInString.q16_7 ?_
      refine utf8_FullRuneInString.pv 7 30 utf8_FullRuneInString.q16_8 ?_
      refine utf8_FullRuneInString.pv 8 31 utf8_FullRuneInString.q16_9 ?_
      refine utf8_FullRuneInString.pv 9 32 utf8_FullRuneInString.q16_10 ?_
      refine utf8_FullRuneInString.pv 11 34 #[true, true, true, true, true, true, true, true, true, true, false, true, false, false, false, false] ?_
      refine utf8_FullRuneInString.tv hHeld 10 33 utf8_FullRuneInString.q16_12 ?_
      refine utf8_FullRuneInString.tv hHeld 12 35 utf8_FullRuneInString.q16_13 ?_
      refine utf8_FullRuneInString.pv 13 36 utf8_FullRuneInString.q16_14 ?_
      refine utf8_FullRuneInString.pv 14 37 utf8_FullRuneInString.q16_15 ?_
      refine utf8_FullRuneInString.pv 15 38 utf8_FullRuneInString.q16_16 ?_
      refine done_ (by kernel_rfl) ?_
      go_wp2
      go_ret
      exact ⟨rfl, ((Below.refl _ _).alloc (Nat.le_refl _) _).drew⟩
    have hb2z : ¬ ((191 : Int) < (x1.toNat : Int)) := by omega
    have hb2d : decide ((191 : Int) < (x1.toNat : Int)) = false := decide_eq_false hb2z
    have hr : utf8_FullRuneInString.N 2 3 x1.toNat x2.toNat = false := by unfold utf8_FullRuneInString.N; simp only [Lib.accLo, Lib.accHi, Nat.reduceMod, Nat.reduceDiv, Nat.reduceEqDiff, if_true, if_false, Nat.reduceLeDiff, Nat.reduceLT, decide_true, decide_false]; simp; omega
    rw [hr] at h
    subst h
    clear hT hX
    go_enter Tryd.func59, Tryd.ntmps59
    have hk0 : (w.alloc (Obj.cells #[Value.int .u8 128, Value.int .u8 191] 84)).cell? ⟨w.heap.size, 0, none⟩ = some (.int .u8 128) := bc0 (heap_alloc_new w (Obj.cells #[Value.int .u8 128, Value.int .u8 191] 84))
    have hk1 : (w.alloc (Obj.cells #[Value.int .u8 128, Value.int .u8 191] 84)).cell? ⟨w.heap.size, 1, none⟩ = some (.int .u8 191) := bc1 (heap_alloc_new w (Obj.cells #[Value.int .u8 128, Value.int .u8 191] 84))
    go_wp2
    refine start_ (n := 16) (S := fun w' => w'.cell? ⟨w.heap.size, 0, none⟩ = some (.int .u8 128) ∧ w'.cell? ⟨w.heap.size, 1, none⟩ = some (.int .u8 191)) (ds := []) utf8_FullRuneInString.q16_0 (by kernel_rfl) rfl rfl ⟨hk0, hk1⟩ (fun hHeld => ?_)
    refine utf8_FullRuneInString.pv 0 23 utf8_FullRuneInString.q16_1 ?_
    refine utf8_FullRuneInString.pv 1 24 utf8_FullRuneInString.q16_2 ?_
    refine utf8_FullRuneInString.pv 2 25 utf8_FullRuneInString.q16_3 ?_
    refine utf8_FullRuneInString.pv 3 26 utf8_FullRuneInString.q16_4 ?_
    refine utf8_FullRuneInString.pv 5 28 #[true, true, true, true, false, true, false, false, false, false, false, false, false, false, false, false] ?_
    refine utf8_FullRuneInString.tv hHeld 4 27 utf8_FullRuneInString.q16_6 ?_
    refine utf8_FullRuneInString.tv hHeld 6 29 utf8_FullRuneInString.q16_7 ?_
    refine utf8_FullRuneInString.pv 7 30 utf8_FullRuneInString.q16_8 ?_
    refine utf8_FullRuneInString.pv 8 31 utf8_FullRuneInString.q16_9 ?_
    refine utf8_FullRuneInString.pv 9 32 utf8_FullRuneInString.q16_10 ?_
    refine utf8_FullRuneInString.pv 11 34 #[true, true, true, true, true, true, true, true, true, true, false, true, false, false, false, false] ?_
    refine utf8_FullRuneInString.tv hHeld 10 33 utf8_FullRuneInString.q16_12 ?_
    refine utf8_FullRuneInString.tv hHeld 12 35 utf8_FullRuneInString.q16_13 ?_
    refine utf8_FullRuneInString.pv 13 36 utf8_FullRuneInString.q16_14 ?_
    refine utf8_FullRuneInString.pv 14 37 utf8_FullRuneInString.q16_15 ?_
    refine utf8_FullRuneInString.pv 15 38 utf8_FullRuneInString.q16_16 ?_
    refine done_ (by kernel_rfl) ?_
    go_wp2
    go_ret
    exact ⟨rfl, ((Below.refl _ _).alloc (Nat.le_refl _) _).drew⟩
  · rw [hX] at hc0 h
    have ha0 := (hT.2 2 (by omega)).1
    have ha1 := (hT.2 2 (by omega)).2
    simp only [Lib.accLo, Lib.accHi, Nat.reduceMul, Nat.reduceAdd, Nat.reduceEqDiff, if_true, if_false] at ha0 ha1
    by_cases hn : 3 ≤ s.size
    · have hr : utf8_FullRuneInString.N s.size 35 x1.toNat x2.toNat = true := by unfold utf8_FullRuneInString.N; simp; omega
      rw [hr] at h
      subst h
      clear hT hX
      have hge : (3 : Int) ≤ (s.size : Int) := by omega
      go_enter Tryd.func59, Tryd.ntmps59
      go_wp2
      go_ret
      exact ⟨rfl, Below.refl _ _⟩
    by_cases hn1 : s.size = 1
    · rw [hn1] at h
      have hsz : (s.size : Int) = 1 := by omega
      have hr : utf8_FullRuneInString.N 1 35 x1.toNat x2.toNat = false := by unfold utf8_FullRuneInString.N; simp only [Lib.accLo, Lib.accHi, Nat.reduceMod, Nat.reduceDiv, Nat.reduceEqDiff, if_true, if_false, Nat.reduceLeDiff, Nat.reduceLT, decide_true, decide_false]; simp
      rw [hr] at h
      subst h
      clear hT hX
      go_enter Tryd.func59, Tryd.ntmps59
      have hk0 : (w.alloc (Obj.cells #[Value.int .u8 128, Value.int .u8 159] 84)).cell? ⟨w.heap.size, 0, none⟩ = some (.int .u8 128) := bc0 (heap_alloc_new w (Obj.cells #[Value.int .u8 128, Value.int .u8 159] 84))
      have hk1 : (w.alloc (Obj.cells #[Value.int .u8 128, Value.int .u8 159] 84)).cell? ⟨w.heap.size, 1, none⟩ = some (.int .u8 159) := bc1 (heap_alloc_new w (Obj.cells #[Value.int .u8 128, Value.int .u8 159] 84))
      go_wp2
      refine start_ (n := 16) (S := fun w' => w'.cell? ⟨w.heap.size, 0, none⟩ = some (.int .u8 128) ∧ w'.cell? ⟨w.heap.size, 1, none⟩ = some (.int .u8 159)) (ds := []) utf8_FullRuneInString.q16_0 (by kernel_rfl) rfl rfl ⟨hk0, hk1⟩ (fun hHeld => ?_)
      refine utf8_FullRuneInString.pv 0 23 utf8_FullRuneInString.q16_1 ?_
      refine utf8_FullRuneInString.pv 1 24 utf8_FullRuneInString.q16_2 ?_
      refine utf8_FullRuneInString.pv 2 25 utf8_FullRuneInString.q16_3 ?_
      refine utf8_FullRuneInString.pu 3 26 utf8_FullRuneInString.q16_4 ?_
      refine utf8_FullRuneInString.pu 4 27 utf8_FullRuneInString.q16_5 ?_
      refine utf8_FullRuneInString.pu 5 28 utf8_FullRuneInString.q16_6 ?_
      refine utf8_FullRuneInString.pu 6 29 utf8_FullRuneInString.q16_7 ?_
      refine utf8_FullRuneInString.pu 7 30 utf8_FullRuneInString.q16_8 ?_
      refine utf8_FullRuneInString.pu 8 31 utf8_FullRuneInString.q16_9 ?_
      refine utf8_FullRuneInString.pu 9 32 utf8_FullRuneInString.q16_10 ?_
      refine utf8_FullRuneInString.pu 10 33 utf8_FullRuneInString.q16_11 ?_
      refine utf8_FullRuneInString.pu 11 34 utf8_FullRuneInString.q16_12 ?_
      refine utf8_FullRuneInString.pu 12 35 utf8_FullRuneInString.q16_13 ?_
      refine utf8_FullRuneInString.pu 13 36 utf8_FullRuneInString.q16_14 ?_
      refine utf8_FullRuneInString.pu 14 37 utf8_FullRuneInString.q16_15 ?_
      refine utf8_FullRuneInString.pv 15 38 utf8_FullRuneInString.q16_16 ?_
      refine done_ (by kernel_rfl) ?_
      go_wp2
      go_ret
      exact ⟨rfl, ((Below.refl _ _).alloc (Nat.le_refl _) _).drew⟩
    have hn2 : s.size = 2 := by omega
    rw [hn2] at h
    have hsz : (s.size : Int) = 2 := by omega
    have hs1 : s[1]'(by omega) = x1 := by rw [← hx1]; exact (Utf8W.get!_of_lt s 1 (by omega)).symm
    by_cases hb1 : x1.toNat < 128
    · skip
      have hr : utf8_FullRuneInString.N 2 35 x1.toNat x2.toNat = true := by unfold utf8_FullRuneInString.N; simp only [Lib.accLo, Lib.accHi, Nat.reduceMod, Nat.reduceDiv, Nat.reduceEqDiff, if_true, if_false, Nat.reduceLeDiff, Nat.reduceLT, decide_true, decide_false]; simp; omega
      rw [hr] at h
      subst h
      clear hT hX
      have hb1z : (x1.toNat : Int) < 128 := by omega
      have hb1d : decide ((x1.toNat : Int) < 128) = true := decide_eq_true hb1z
      go_enter Tryd.func59, Tryd.ntmps59
      have hk0 : (w.alloc (Obj.cells #[Value.int .u8 128, Value.int .u8 159] 84)).cell? ⟨w.heap.size, 0, none⟩ = some (.int .u8 128) := bc0 (heap_alloc_new w (Obj.cells #[Value.int .u8 128, Value.int .u8 159] 84))
      have hk1 : (w.alloc (Obj.cells #[Value.int .u8 128, Value.int .u8 159] 84)).cell? ⟨w.heap.size, 1, none⟩ = some (.int .u8 159) := bc1 (heap_alloc_new w (Obj.cells #[Value.int .u8 128, Value.int .u8 159] 84))
      go_wp2
      refine start_ (n := 16) (S := fun w' => w'.cell? ⟨w.heap.size, 0, none⟩ = some (.int .u8 128) ∧ w'.cell? ⟨w.heap.size, 1, none⟩ = some (.int .u8 159)) (ds := []) utf8_FullRuneInString.q16_0 (by kernel_rfl) rfl rfl ⟨hk0, hk1⟩ (fun hHeld => ?_)
      refine utf8_FullRuneInString.pv 0 23 utf8_FullRuneInString.q16_1 ?_
      refine utf8_FullRuneInString.pv 1 24 utf8_FullRuneInString.q16_2 ?_
      refine utf8_FullRuneInString.pv 2 25 utf8_FullRuneInString.q16_3 ?_
      refine utf8_FullRuneInString.pv 3 26 utf8_FullRuneInString.q16_4 ?_
      refine utf8_FullRuneInString.pv 5 28 #[true, true, true, true, false, true, false, false, false, false, false, false, false, false, false, false] ?_
      refine utf8_FullRuneInString.tv hHeld 4 27 utf8_FullRuneInString.q16_6 ?_
      refine utf8_FullRuneInString.tv hHeld 6 29 utf8_FullRuneInString.q16_7 ?_
      refine utf8_FullRuneInString.pv 7 30 utf8_FullRuneInString.q16_8 ?_
      refine utf8_FullRuneInString.pv 8 31 utf8_FullRuneInString.q16_9 ?_
      refine utf8_FullRuneInString.pu 9 32 utf8_FullRuneInString.q16_10 ?_
      refine utf8_FullRuneInString.pu 10 33 utf8_FullRuneInString.q16_11 ?_
      refine utf8_FullRuneInString.pu 11 34 utf8_FullRuneInString.q16_12 ?_
      refine utf8_FullRuneInString.pu 12 35 utf8_FullRuneInString.q16_13 ?_
      refine utf8_FullRuneInString.pu 13 36 utf8_FullRuneInString.q16_14 ?_
      refine utf8_FullRuneInString.pv 14 37 utf8_FullRuneInString.q16_15 ?_
      refine utf8_FullRuneInString.pv 15 38 utf8_FullRuneInString.q16_16 ?_
      refine done_ (by kernel_rfl) ?_
      go_wp2
      go_ret
      exact ⟨rfl, ((Below.refl _ _).alloc (Nat.le_refl _) _).drew⟩
    have hb1z : ¬ ((x1.toNat : Int) < 128) := by omega
    have hb1d : decide ((x1.toNat : Int) < 128) = false := decide_eq_false hb1z
    by_cases hb2 : 159 < x1.toNat
    · skip
      have hr : utf8_FullRuneInString.N 2 35 x1.toNat x2.toNat = true := by unfold utf8_FullRuneInString.N; simp only [Lib.accLo, Lib.accHi, Nat.reduceMod, Nat.reduceDiv, Nat.reduceEqDiff, if_true, if_false, Nat.reduceLeDiff, Nat.reduceLT, decide_true, decide_false]; simp; omega
      rw [hr] at h
      subst h
      clear hT hX
      have hb2z : (159 : Int) < (x1.toNat : Int) := by omega
      have hb2d : decide ((159 : Int) < (x1.toNat : Int)) = true := decide_eq_true hb2z
      go_enter Tryd.func59, Tryd.ntmps59
      have hk0 : (w.alloc (Obj.cells #[Value.int .u8 128, Value.int .u8 159] 84)).cell? ⟨w.heap.size, 0, none⟩ = some (.int .u8 128) := bc0 (heap_alloc_new w (Obj.cells #[Value.int .u8 128, Value.int .u8 159] 84))
      have hk1 : (w.alloc (Obj.cells #[Value.int .u8 128, Value.int .u8 159] 84)).cell? ⟨w.heap.size, 1, none⟩ = some (.int .u8 159) := bc1 (heap_alloc_new w (Obj.cells #[Value.int .u8 128, Value.int .u8 159] 84))
      go_wp2
      refine start_ (n := 16) (S := fun w' => w'.cell? ⟨w.heap.size, 0, none⟩ = some (.int .u8 128) ∧ w'.cell? ⟨w.heap.size, 1, none⟩ = some (.int .u8 159)) (ds := []) utf8_FullRuneInString.q16_0 (by kernel_rfl) rfl rfl ⟨hk0, hk1⟩ (fun hHeld => ?_)
      refine utf8_FullRuneInString.pv 0 23 utf8_FullRuneInString.q16_1 ?_
      refine utf8_FullRuneInString.pv 1 24 utf8_FullRuneInString.q16_2 ?_
      refine utf8_FullRuneInString.pv 2 25 utf8_FullRuneInString.q16_3 ?_
      refine utf8_FullRuneInString.pv 3 26 utf8_FullRuneInString.q16_4 ?_
      refine utf8_FullRuneInString.pv 5 28 #[true, true, true, true, false, true, false, false, false, false, false, false, false, false, false, false] ?_
      refine utf8_FullRuneInString.tv hHeld 4 27 utf8_FullRuneInString.q16_6 ?_
      refine utf8_FullRuneInString.tv hHeld 6 29 utf8_FullRuneInString.q16_7 ?_
      refine utf8_FullRuneInString.pv 7 30 utf8_FullRuneInString.q16_8 ?_
      refine utf8_FullRuneInString.pv 8 31 utf8_FullRuneInString.q16_9 ?_
      refine utf8_FullRuneInString.pv 9 32 utf8_FullRuneInString.q16_10 ?_
      refine utf8_FullRuneInString.pv 11 34 #[true, true, true, true, true, true, true, true, true, true, false, true, false, false, false, false] ?_
      refine utf8_FullRuneInString.tv hHeld 10 33 utf8_FullRuneInString.q16_12 ?_
      refine utf8_FullRuneInString.tv hHeld 12 35 utf8_FullRuneInString.q16_13 ?_
      refine utf8_FullRuneInString.pv 13 36 utf8_FullRuneInString.q16_14 ?_
      refine utf8_FullRuneInString.pv 14 37 utf8_FullRuneInString.q16_15 ?_
      refine utf8_FullRuneInString.pv 15 38 utf8_FullRuneInString.q16_16 ?_
      refine done_ (by kernel_rfl) ?_
      go_wp2
      go_ret
      exact ⟨rfl, ((Below.refl _ _).alloc (Nat.le_refl _) _).drew⟩
    have hb2z : ¬ ((159 : Int) < (x1.toNat : Int)) := by omega
    have hb2d : decide ((159 : Int) < (x1.toNat : Int)) = false := decide_eq_false hb2z
    have hr : utf8_FullRuneInString.N 2 35 x1.toNat x2.toNat = false := by unfold utf8_FullRuneInString.N; simp only [Lib.accLo, Lib.accHi, Nat.reduceMod, Nat.reduceDiv, Nat.reduceEqDiff, if_true, if_false, Nat.reduceLeDiff, Nat.reduceLT, decide_true, decide_false]; simp; omega
    rw [hr] at h
    subst h
    clear hT hX
    go_enter Tryd.func59, Tryd.ntmps59
    have hk0 : (w.alloc (Obj.cells #[Value.int .u8 128, Value.int .u8 159] 84)).cell? ⟨w.heap.size, 0, none⟩ = some (.int .u8 128) := bc0 (heap_alloc_new w (Obj.cells #[Value.int .u8 128, Value.int .u8 159] 84))
    have hk1 : (w.alloc (Obj.cells #[Value.int .u8 128, Value.int .u8 159] 84)).cell? ⟨w.heap.size, 1, none⟩ = some (.int .u8 159) := bc1 (heap_alloc_new w (Obj.cells #[Value.int .u8 128, Value.int .u8 159] 84))
    go_wp2
    refine start_ (n := 16) (S := fun w' => w'.cell? ⟨w.heap.size, 0, none⟩ = some (.int .u8 128) ∧ w'.cell? ⟨w.heap.size, 1, none⟩ = some (.int .u8 159)) (ds := []) utf8_FullRuneInString.q16_0 (by kernel_rfl) rfl rfl ⟨hk0, hk1⟩ (fun hHeld => ?_)
    refine utf8_FullRuneInString.pv 0 23 utf8_FullRuneInString.q16_1 ?_
    refine utf8_FullRuneInString.pv 1 24 utf8_FullRuneInString.q16_2 ?_
    refine utf8_FullRuneInString.pv 2 25 utf8_FullRuneInString.q16_3 ?_
    refine utf8_FullRuneInString.pv 3 26 utf8_FullRuneInString.q16_4 ?_
    refine utf8_FullRuneInString.pv 5 28 #[true, true, true, true, false, true, false, false, false, false, false, false, false, false, false, false] ?_
    refine utf8_FullRuneInString.tv hHeld 4 27 utf8_FullRuneInString.q16_6 ?_
    refine utf8_FullRuneInString.tv hHeld 6 29 utf8_FullRuneInString.q16_7 ?_
    refine utf8_FullRuneInString.pv 7 30 utf8_FullRuneInString.q16_8 ?_
    refine utf8_FullRuneInString.pv 8 31 utf8_FullRuneInString.q16_9 ?_
    refine utf8_FullRuneInString.pv 9 32 utf8_FullRuneInString.q16_10 ?_
    refine utf8_FullRuneInString.pv 11 34 #[true, true, true, true, true, true, true, true, true, true, false, true, false, false, false, false] ?_
    refine utf8_FullRuneInString.tv hHeld 10 33 utf8_FullRuneInString.q16_12 ?_
    refine utf8_FullRuneInString.tv hHeld 12 35 utf8_FullRuneInString.q16_13 ?_
    refine utf8_FullRuneInString.pv 13 36 utf8_FullRuneInString.q16_14 ?_
    refine utf8_FullRuneInString.pv 14 37 utf8_FullRuneInString.q16_15 ?_
    refine utf8_FullRuneInString.pv 15 38 utf8_FullRuneInString.q16_16 ?_
    refine done_ (by kernel_rfl) ?_
    go_wp2
    go_ret
    exact ⟨rfl, ((Below.refl _ _).alloc (Nat.le_refl _) _).drew⟩
  · rw [hX] at hc0 h
    have ha0 := (hT.2 3 (by omega)).1
    have ha1 := (hT.2 3 (by omega)).2
    simp only [Lib.accLo, Lib.accHi, Nat.reduceMul, Nat.reduceAdd, Nat.reduceEqDiff, if_true, if_false] at ha0 ha1
    by_cases hn : 4 ≤ s.size
    · have hr : utf8_FullRuneInString.N s.size 52 x1.toNat x2.toNat = true := by unfold utf8_FullRuneInString.N; simp; omega
      rw [hr] at h
      subst h
      clear hT hX
      have hge : (4 : Int) ≤ (s.size : Int) := by omega
      go_enter Tryd.func59, Tryd.ntmps59
      go_wp2
      go_ret
      exact ⟨rfl, Below.refl _ _⟩
    by_cases hn1 : s.size = 1
    · rw [hn1] at h
      have hsz : (s.size : Int) = 1 := by omega
      have hr : utf8_FullRuneInString.N 1 52 x1.toNat x2.toNat = false := by unfold utf8_FullRuneInString.N; simp only [Lib.accLo, Lib.accHi, Nat.reduceMod, Nat.reduceDiv, Nat.reduceEqDiff, if_true, if_false, Nat.reduceLeDiff, Nat.reduceLT, decide_true, decide_false]; simp
      rw [hr] at h
      subst h
      clear hT hX
      go_enter Tryd.func59, Tryd.ntmps59
      have hk0 : (w.alloc (Obj.cells #[Value.int .u8 144, Value.int .u8 191] 84)).cell? ⟨w.heap.size, 0, none⟩ = some (.int .u8 144) := bc0 (heap_alloc_new w (Obj.cells #[Value.int .u8 144, Value.int .u8 191] 84))
      have hk1 : (w.alloc (Obj.cells #[Value.int .u8 144, Value.int .u8 191] 84)).cell? ⟨w.heap.size, 1, none⟩ = some (.int .u8 191) := bc1 (heap_alloc_new w (Obj.cells #[Value.int .u8 144, Value.int .u8 191] 84))
      go_wp2
      refine start_ (n := 16) (S := fun w' => w'.cell? ⟨w.heap.size, 0, none⟩ = some (.int .u8 144) ∧ w'.cell? ⟨w.heap.size, 1, none⟩ = some (.int .u8 191)) (ds := []) utf8_FullRuneInString.q16_0 (by kernel_rfl) rfl rfl ⟨hk0, hk1⟩ (fun hHeld => ?_)
      refine utf8_FullRuneInString.pv 0 23 utf8_FullRuneInString.q16_1 ?_
      refine utf8_FullRuneInString.pv 1 24 utf8_FullRuneInString.q16_2 ?_
      refine utf8_FullRuneInString.pv 2 25 utf8_FullRuneInString.q16_3 ?_
      refine utf8_FullRuneInString.pu 3 26 utf8_FullRuneInString.q16_4 ?_
      refine utf8_FullRuneInString.pu 4 27 utf8_FullRuneInString.q16_5 ?_
      refine utf8_FullRuneInString.pu 5 28 utf8_FullRuneInString.q16_6 ?_
      refine utf8_FullRuneInString.pu 6 29 utf8_FullRuneInString.q16_7 ?_
      refine utf8_FullRuneInString.pu 7 30 utf8_FullRuneInString.q16_8 ?_
      refine utf8_FullRuneInString.pu 8 31 utf8_FullRuneInString.q16_9 ?_
      refine utf8_FullRuneInString.pu 9 32 utf8_FullRuneInString.q16_10 ?_
      refine utf8_FullRuneInString.pu 10 33 utf8_FullRuneInString.q16_11 ?_
      refine utf8_FullRuneInString.pu 11 34 utf8_FullRuneInString.q16_12 ?_
      refine utf8_FullRuneInString.pu 12 35 utf8_FullRuneInString.q16_13 ?_
      refine utf8_FullRuneInString.pu 13 36 utf8_FullRuneInString.q16_14 ?_
      refine utf8_FullRuneInString.pu 14 37 utf8_FullRuneInString.q16_15 ?_
      refine utf8_FullRuneInString.pv 15 38 utf8_FullRuneInString.q16_16 ?_
      refine done_ (by kernel_rfl) ?_
      go_wp2
      go_ret
      exact ⟨rfl, ((Below.refl _ _).alloc (Nat.le_refl _) _).drew⟩
    by_cases hn2 : s.size = 2
    · rw [hn2] at h
      have hsz : (s.size : Int) = 2 := by omega
      have hs1 : s[1]'(by omega) = x1 := by rw [← hx1]; exact (Utf8W.get!_of_lt s 1 (by omega)).symm
      by_cases hb1 : x1.toNat < 144
      · skip
        have hr : utf8_FullRuneInString.N 2 52 x1.toNat x2.toNat = true := by unfold utf8_FullRuneInString.N; simp only [Lib.accLo, Lib.accHi, Nat.reduceMod, Nat.reduceDiv, Nat.reduceEqDiff, if_true, if_false, Nat.reduceLeDiff, Nat.reduceLT, decide_true, decide_false]; simp; omega
        rw [hr] at h
        subst h
        clear hT hX
        have hb1z : (x1.toNat : Int) < 144 := by omega
        have hb1d : decide ((x1.toNat : Int) < 144) = true := decide_eq_true hb1z
        go_enter Tryd.func59, Tryd.ntmps59
        have hk0 : (w.alloc (Obj.cells #[Value.int .u8 144, Value.int .u8 191] 84)).cell? ⟨w.heap.size, 0, none⟩ = some (.int .u8 144) := bc0 (heap_alloc_new w (Obj.cells #[Value.int .u8 144, Value.int .u8 191] 84))
        have hk1 : (w.alloc (Obj.cells #[Value.int .u8 144, Value.int .u8 191] 84)).cell? ⟨w.heap.size, 1, none⟩ = some (.int .u8 191) := bc1 (heap_alloc_new w (Obj.cells #[Value.int .u8 144, Value.int .u8 191] 84))
        go_wp2
        refine start_ (n := 16) (S := fun w' => w'.cell? ⟨w.heap.size, 0, none⟩ = some (.int .u8 144) ∧ w'.cell? ⟨w.heap.size, 1, none⟩ = some (.int .u8 191)) (ds := []) utf8_FullRuneInString.q16_0 (by kernel_rfl) rfl rfl ⟨hk0, hk1⟩ (fun hHeld => ?_)
        refine utf8_FullRuneInString.pv 0 23 utf8_FullRuneInString.q16_1 ?_
        refine utf8_FullRuneInString.pv 1 24 utf8_FullRuneInString.q16_2 ?_
        refine utf8_FullRuneInString.pv 2 25 utf8_FullRuneInString.q16_3 ?_
        refine utf8_FullRuneInString.pv 3 26 utf8_FullRuneInString.q16_4 ?_
        refine utf8_FullRuneInString.pv 5 28 #[true, true, true, true, false, true, false, false, false, false, false, false, false, false, false, false] ?_
        refine utf8_FullRuneInString.tv hHeld 4 27 utf8_FullRuneInString.q16_6 ?_
        refine utf8_FullRuneInString.tv hHeld 6 29 utf8_FullRuneInString.q16_7 ?_
        refine utf8_FullRuneInString.pv 7 30 utf8_FullRuneInString.q16_8 ?_
        refine utf8_FullRuneInString.pv 8 31 utf8_FullRuneInString.q16_9 ?_
        refine utf8_FullRuneInString.pu 9 32 utf8_FullRuneInString.q16_10 ?_
        refine utf8_FullRuneInString.pu 10 33 utf8_FullRuneInString.q16_11 ?_
        refine utf8_FullRuneInString.pu 11 34 utf8_FullRuneInString.q16_12 ?_
        refine utf8_FullRuneInString.pu 12 35 utf8_FullRuneInString.q16_13 ?_
        refine utf8_FullRuneInString.pu 13 36 utf8_FullRuneInString.q16_14 ?_
        refine utf8_FullRuneInString.pv 14 37 utf8_FullRuneInString.q16_15 ?_
        refine utf8_FullRuneInString.pv 15 38 utf8_FullRuneInString.q16_16 ?_
        refine done_ (by kernel_rfl) ?_
        go_wp2
        go_ret
        exact ⟨rfl, ((Below.refl _ _).alloc (Nat.le_refl _) _).drew⟩
      have hb1z : ¬ ((x1.toNat : Int) < 144) := by omega
      have hb1d : decide ((x1.toNat : Int) < 144) = false := decide_eq_false hb1z
      by_cases hb2 : 191 < x1.toNat
      · skip
        have hr : utf8_FullRuneInString.N 2 52 x1.toNat x2.toNat = true := by unfold utf8_FullRuneInString.N; simp only [Lib.accLo, Lib.accHi, Nat.reduceMod, Nat.reduceDiv, Nat.reduceEqDiff, if_true, if_false, Nat.reduceLeDiff, Nat.reduceLT, decide_true, decide_false]; simp; omega
        rw [hr] at h
        subst h
        clear hT hX
        have hb2z : (191 : Int) < (x1.toNat : Int) := by omega
        have hb2d : decide ((191 : Int) < (x1.toNat : Int)) = true := decide_eq_true hb2z
        go_enter Tryd.func59, Tryd.ntmps59
        have hk0 : (w.alloc (Obj.cells #[Value.int .u8 144, Value.int .u8 191] 84)).cell? ⟨w.heap.size, 0, none⟩ = some (.int .u8 144) := bc0 (heap_alloc_new w (Obj.cells #[Value.int .u8 144, Value.int .u8 191] 84))
        have hk1 : (w.alloc (Obj.cells #[Value.int .u8 144, Value.int .u8 191] 84)).cell? ⟨w.heap.size, 1, none⟩ = some (.int .u8 191) := bc1 (heap_alloc_new w (Obj.cells #[Value.int .u8 144, Value.int .u8 191] 84))
        go_wp2
        refine start_ (n := 16) (S := fun w' => w'.cell? ⟨w.heap.size, 0, none⟩ = some (.int .u8 144) ∧ w'.cell? ⟨w.heap.size, 1, none⟩ = some (.int .u8 191)) (ds := []) utf8_FullRuneInString.q16_0 (by kernel_rfl) rfl rfl ⟨hk0, hk1⟩ (fun hHeld => ?_)
        refine utf8_FullRuneInString.pv 0 23 utf8_FullRuneInString.q16_1 ?_
        refine utf8_FullRuneInString.pv 1 24 utf8_FullRuneInString.q16_2 ?_
        refine utf8_FullRuneInString.pv 2 25 utf8_FullRuneInString.q16_3 ?_
        refine utf8_FullRuneInString.pv 3 26 utf8_FullRuneInString.q16_4 ?_
        refine utf8_FullRuneInString.pv 5 28 #[true, true, true, true, false, true, false, false, false, false, false, false, false, false, false, false] ?_
        refine utf8_FullRuneInString.tv hHeld 4 27 utf8_FullRuneInString.q16_6 ?_
        refine utf8_FullRuneInString.tv hHeld 6 29 utf8_FullRuneInString.q16_7 ?_
        refine utf8_FullRuneInString.pv 7 30 utf8_FullRuneInString.q16_8 ?_
        refine utf8_FullRuneInString.pv 8 31 utf8_FullRuneInString.q16_9 ?_
        refine utf8_FullRuneInString.pv 9 32 utf8_FullRuneInString.q16_10 ?_
        refine utf8_FullRuneInString.pv 11 34 #[true, true, true, true, true, true, true, true, true, true, false, true, false, false, false, false] ?_
        refine utf8_FullRuneInString.tv hHeld 10 33 utf8_FullRuneInString.q16_12 ?_
        refine utf8_FullRuneInString.tv hHeld 12 35 utf8_FullRuneInString.q16_13 ?_
        refine utf8_FullRuneInString.pv 13 36 utf8_FullRuneInString.q16_14 ?_
        refine utf8_FullRuneInString.pv 14 37 utf8_FullRuneInString.q16_15 ?_
        refine utf8_FullRuneInString.pv 15 38 utf8_FullRuneInString.q16_16 ?_
        refine done_ (by kernel_rfl) ?_
        go_wp2
        go_ret
        exact ⟨rfl, ((Below.refl _ _).alloc (Nat.le_refl _) _).drew⟩
      have hb2z : ¬ ((191 : Int) < (x1.toNat : Int)) := by omega
      have hb2d : decide ((191 : Int) < (x1.toNat : Int)) = false := decide_eq_false hb2z
      have hr : utf8_FullRuneInString.N 2 52 x1.toNat x2.toNat = false := by unfold utf8_FullRuneInString.N; simp only [Lib.accLo, Lib.accHi, Nat.reduceMod, Nat.reduceDiv, Nat.reduceEqDiff, if_true, if_false, Nat.reduceLeDiff, Nat.reduceLT, decide_true, decide_false]; simp; omega
      rw [hr] at h
      subst h
      clear hT hX
      go_enter Tryd.func59, Tryd.ntmps59
      have hk0 : (w.alloc (Obj.cells #[Value.int .u8 144, Value.int .u8 191] 84)).cell? ⟨w.heap.size, 0, none⟩ = some (.int .u8 144) := bc0 (heap_alloc_new w (Obj.cells #[Value.int .u8 144, Value.int .u8 191] 84))
      have hk1 : (w.alloc (Obj.cells #[Value.int .u8 144, Value.int .u8 191] 84)).cell? ⟨w.heap.size, 1, none⟩ = some (.int .u8 191) := bc1 (heap_alloc_new w (Obj.cells #[Value.int .u8 144, Value.int .u8 191] 84))
      go_wp2
      refine start_ (n := 16) (S := fun w' => w'.cell? ⟨w.heap.size, 0, none⟩ = some (.int .u8 144) ∧ w'.cell? ⟨w.heap.size, 1, none⟩ = some (.int .u8 191)) (ds := []) utf8_FullRuneInString.q16_0 (by kernel_rfl) rfl rfl ⟨hk0, hk1⟩ (fun hHeld => ?_)
      refine utf8_FullRuneInString.pv 0 23 utf8_FullRuneInString.q16_1 ?_
      refine utf8_FullRuneInString.pv 1 24 utf8_FullRuneInString.q16_2 ?_
      refine utf8_FullRuneInString.pv 2 25 utf8_FullRuneInString.q16_3 ?_
      refine utf8_FullRuneInString.pv 3 26 utf8_FullRuneInString.q16_4 ?_
      refine utf8_FullRuneInString.pv 5 28 #[true, true, true, true, false, true, false, false, false, false, false, false, false, false, false, false] ?_
      refine utf8_FullRuneInString.tv hHeld 4 27 utf8_FullRuneInString.q16_6 ?_
      refine utf8_FullRuneInString.tv hHeld 6 29 utf8_FullRuneInString.q16_7 ?_
      refine utf8_FullRuneInString.pv 7 30 utf8_FullRuneInString.q16_8 ?_
      refine utf8_FullRuneInString.pv 8 31 utf8_FullRuneInString.q16_9 ?_
      refine utf8_FullRuneInString.pv 9 32 utf8_FullRuneInString.q16_10 ?_
      refine utf8_FullRuneInString.pv 11 34 #[true, true, true, true, true, true, true, true, true, true, false, true, false, false, false, false] ?_
      refine utf8_FullRuneInString.tv hHeld 10 33 utf8_FullRuneInString.q16_12 ?_
      refine utf8_FullRuneInString.tv hHeld 12 35 utf8_FullRuneInString.q16_13 ?_
      refine utf8_FullRuneInString.pv 13 36 utf8_FullRuneInString.q16_14 ?_
      refine utf8_FullRuneInString.pv 14 37 utf8_FullRuneInString.q16_15 ?_
      refine utf8_FullRuneInString.pv 15 38 utf8_FullRuneInString.q16_16 ?_
      refine done_ (by kernel_rfl) ?_
      go_wp2
      go_ret
      exact ⟨rfl, ((Below.refl _ _).alloc (Nat.le_refl _) _).drew⟩
    have hn3 : s.size = 3 := by omega
    rw [hn3] at h
    have hsz : (s.size : Int) = 3 := by omega
    have hs1 : s[1]'(by omega) = x1 := by rw [← hx1]; exact (Utf8W.get!_of_lt s 1 (by omega)).symm
    have hs2 : s[2]'(by omega) = x2 := by rw [← hx2]; exact (Utf8W.get!_of_lt s 2 (by omega)).symm
    by_cases hb1 : x1.toNat < 144
    · skip
      have hr : utf8_FullRuneInString.N 3 52 x1.toNat x2.toNat = true := by unfold utf8_FullRuneInString.N; simp only [Lib.accLo, Lib.accHi, Nat.reduceMod, Nat.reduceDiv, Nat.reduceEqDiff, if_true, if_false, Nat.reduceLeDiff, Nat.reduceLT, decide_true, decide_false]; simp; omega
      rw [hr] at h
      subst h
      clear hT hX
      have hb1z : (x1.toNat : Int) < 144 := by omega
      have hb1d : decide ((x1.toNat : Int) < 144) = true := decide_eq_true hb1z
      go_enter Tryd.func59, Tryd.ntmps59
      have hk0 : (w.alloc (Obj.cells #[Value.int .u8 144, Value.int .u8 191] 84)).cell? ⟨w.heap.size, 0, none⟩ = some (.int .u8 144) := bc0 (heap_alloc_new w (Obj.cells #[Value.int .u8 144, Value.int .u8 191] 84))
      have hk1 : (w.alloc (Obj.cells #[Value.int .u8 144, Value.int .u8 191] 84)).cell? ⟨w.heap.size, 1, none⟩ = some (.int .u8 191) := bc1 (heap_alloc_new w (Obj.cells #[Value.int .u8 144, Value.int .u8 191] 84))
      go_wp2
      refine start_ (n := 16) (S := fun w' => w'.cell? ⟨w.heap.size, 0, none⟩ = some (.int .u8 144) ∧ w'.cell? ⟨w.heap.size, 1, none⟩ = some (.int .u8 191)) (ds := []) utf8_FullRuneInString.q16_0 (by kernel_rfl) rfl rfl ⟨hk0, hk1⟩ (fun hHeld => ?_)
      refine utf8_FullRuneInString.pv 0 23 utf8_FullRuneInString.q16_1 ?_
      refine utf8_FullRuneInString.pv 1 24 utf8_FullRuneInString.q16_2 ?_
      refine utf8_FullRuneInString.pv 2 25 utf8_FullRuneInString.q16_3 ?_
      refine utf8_FullRuneInString.pv 3 26 utf8_FullRuneInString.q16_4 ?_
      refine utf8_FullRuneInString.pv 5 28 #[true, true, true, true, false, true, false, false, false, false, false, false, false, false, false, false] ?_
      refine utf8_FullRuneInString.tv hHeld 4 27 utf8_FullRuneInString.q16_6 ?_
      refine utf8_FullRuneInString.tv hHeld 6 29 utf8_FullRuneInString.q16_7 ?_
      refine utf8_FullRuneInString.pv 7 30 utf8_FullRuneInString.q16_8 ?_
      refine utf8_FullRuneInString.pv 8 31 utf8_FullRuneInString.q16_9 ?_
      refine utf8_FullRuneInString.pu 9 32 utf8_FullRuneInString.q16_10 ?_
      refine utf8_FullRuneInString.pu 10 33 utf8_FullRuneInString.q16_11 ?_
      refine utf8_FullRuneInString.pu 11 34 utf8_FullRuneInString.q16_12 ?_
      refine utf8_FullRuneInString.pu 12 35 utf8_FullRuneInString.q16_13 ?_
      refine utf8_FullRuneInString.pu 13 36 utf8_FullRuneInString.q16_14 ?_
      refine utf8_FullRuneInString.pv 14 37 utf8_FullRuneInString.q16_15 ?_
      refine utf8_FullRuneInString.pv 15 38 utf8_FullRuneInString.q16_16 ?_
      refine done_ (by kernel_rfl) ?_
      go_wp2
      go_ret
      exact ⟨rfl, ((Below.refl _ _).alloc (Nat.le_refl _) _).drew⟩
    have hb1z : ¬ ((x1.toNat : Int) < 144) := by omega
    have hb1d : decide ((x1.toNat : Int) < 144) = false := decide_eq_false hb1z
    by_cases hb2 : 191 < x1.toNat
    · skip
      have hr : utf8_FullRuneInString.N 3 52 x1.toNat x2.toNat = true := by unfold utf8_FullRuneInString.N; simp only [Lib.accLo, Lib.accHi, Nat.reduceMod, Nat.reduceDiv, Nat.reduceEqDiff, if_true, if_false, Nat.reduceLeDiff, Nat.reduceLT, decide_true, decide_false]; simp; omega
      rw [hr] at h
      subst h
      clear hT hX
      have hb2z : (191 : Int) < (x1.toNat : Int) := by omega
      have hb2d : decide ((191 : Int) < (x1.toNat : Int)) = true := decide_eq_true hb2z
      go_enter Tryd.func59, Tryd.ntmps59
      have hk0 : (w.alloc (Obj.cells #[Value.int .u8 144, Value.int .u8 191] 84)).cell? ⟨w.heap.size, 0, none⟩ = some (.int .u8 144) := bc0 (heap_alloc_new w (Obj.cells #[Value.int .u8 144, Value.int .u8 191] 84))
      have hk1 : (w.alloc (Obj.cells #[Value.int .u8 144, Value.int .u8 191] 84)).cell? ⟨w.heap.size, 1, none⟩ = some (.int .u8 191) := bc1 (heap_alloc_new w (Obj.cells #[Value.int .u8 144, Value.int .u8 191] 84))
      go_wp2
      refine start_ (n := 16) (S := fun w' => w'.cell? ⟨w.heap.size, 0, none⟩ = some (.int .u8 144) ∧ w'.cell? ⟨w.heap.size, 1, none⟩ = some (.int .u8 191)) (ds := []) utf8_FullRuneInString.q16_0 (by kernel_rfl) rfl rfl ⟨hk0, hk1⟩ (fun hHeld => ?_)
      refine utf8_FullRuneInString.pv 0 23 utf8_FullRuneInString.q16_1 ?_
      refine utf8_FullRuneInString.pv 1 24 utf8_FullRuneInString.q16_2 ?_
      refine utf8_FullRuneInString.pv 2 25 utf8_FullRuneInString.q16_3 ?_
      refine utf8_FullRuneInString.pv 3 26 utf8_FullRuneInString.q16_4 ?_
      refine utf8_FullRuneInString.pv 5 28 #[true, true, true, true, false, true, false, false, false, false, false, false, false, false, false, false] ?_
      refine utf8_FullRuneInString.tv hHeld 4 27 utf8_FullRuneInString.q16_6 ?_
      refine utf8_FullRuneInString.tv hHeld 6 29 utf8_FullRuneInString.q16_7 ?_
      refine utf8_FullRuneInString.pv 7 30 utf8_FullRuneInString.q16_8 ?_
      refine utf8_FullRuneInString.pv 8 31 utf8_FullRuneInString.q16_9 ?_
      refine utf8_FullRuneInString.pv 9 32 utf8_FullRuneInString.q16_10 ?_
      refine utf8_FullRuneInString.pv 11 34 #[true, true, true, true, true, true, true, true, true, true, false, true, false, false, false, false] ?_
      refine utf8_FullRuneInString.tv hHeld 10 33 utf8_FullRuneInString.q16_12 ?_
      refine utf8_FullRuneInString.tv hHeld 12 35 utf8_FullRuneInString.q16_13 ?_
      refine utf8_FullRuneInString.pv 13 36 utf8_FullRuneInString.q16_14 ?_
      refine utf8_FullRuneInString.pv 14 37 utf8_FullRuneInString.q16_15 ?_
      refine utf8_FullRuneInString.pv 15 38 utf8_FullRuneInString.q16_16 ?_
      refine done_ (by kernel_rfl) ?_
      go_wp2
      go_ret
      exact ⟨rfl, ((Below.refl _ _).alloc (Nat.le_refl _) _).drew⟩
    have hb2z : ¬ ((191 : Int) < (x1.toNat : Int)) := by omega
    have hb2d : decide ((191 : Int) < (x1.toNat : Int)) = false := decide_eq_false hb2z
    by_cases hb3 : x2.toNat < 128
    · skip
      have hr : utf8_FullRuneInString.N 3 52 x1.toNat x2.toNat = true := by unfold utf8_FullRuneInString.N; simp only [Lib.accLo, Lib.accHi, Nat.reduceMod, Nat.reduceDiv, Nat.reduceEqDiff, if_true, if_false, Nat.reduceLeDiff, Nat.reduceLT, decide_true, decide_false]; simp; omega
      rw [hr] at h
      subst h
      clear hT hX
      have hb3z : (x2.toNat : Int) < 128 := by omega
      go_enter Tryd.func59, Tryd.ntmps59
      have hk0 : (w.alloc (Obj.cells #[Value.int .u8 144, Value.int .u8 191] 84)).cell? ⟨w.heap.size, 0, none⟩ = some (.int .u8 144) := bc0 (heap_alloc_new w (Obj.cells #[Value.int .u8 144, Value.int .u8 191] 84))
      have hk1 : (w.alloc (Obj.cells #[Value.int .u8 144, Value.int .u8 191] 84)).cell? ⟨w.heap.size, 1, none⟩ = some (.int .u8 191) := bc1 (heap_alloc_new w (Obj.cells #[Value.int .u8 144, Value.int .u8 191] 84))
      go_wp2
      refine start_ (n := 16) (S := fun w' => w'.cell? ⟨w.heap.size, 0, none⟩ = some (.int .u8 144) ∧ w'.cell? ⟨w.heap.size, 1, none⟩ = some (.int .u8 191)) (ds := []) utf8_FullRuneInString.q16_0 (by kernel_rfl) rfl rfl ⟨hk0, hk1⟩ (fun hHeld => ?_)
      refine utf8_FullRuneInString.pv 0 23 utf8_FullRuneInString.q16_1 ?_
      refine utf8_FullRuneInString.pv 1 24 utf8_FullRuneInString.q16_2 ?_
      refine utf8_FullRuneInString.pv 2 25 utf8_FullRuneInString.q16_3 ?_
      refine utf8_FullRuneInString.pv 3 26 utf8_FullRuneInString.q16_4 ?_
      refine utf8_FullRuneInString.pv 5 28 #[true, true, true, true, false, true, false, false, false, false, false, false, false, false, false, false] ?_
      refine utf8_FullRuneInString.tv hHeld 4 27 utf8_FullRuneInString.q16_6 ?_
      refine utf8_FullRuneInString.tv hHeld 6 29 utf8_FullRuneInString.q16_7 ?_
      refine utf8_FullRuneInString.pv 7 30 utf8_FullRuneInString.q16_8 ?_
      refine utf8_FullRuneInString.pv 8 31 utf8_FullRuneInString.q16_9 ?_
      refine utf8_FullRuneInString.pv 9 32 utf8_FullRuneInString.q16_10 ?_
      refine utf8_FullRuneInString.pv 11 34 #[true, true, true, true, true, true, true, true, true, true, false, true, false, false, false, false] ?_
      refine utf8_FullRuneInString.tv hHeld 10 33 utf8_FullRuneInString.q16_12 ?_
      refine utf8_FullRuneInString.tv hHeld 12 35 utf8_FullRuneInString.q16_13 ?_
      refine utf8_FullRuneInString.pv 13 36 utf8_FullRuneInString.q16_14 ?_
      refine utf8_FullRuneInString.pv 14 37 utf8_FullRuneInString.q16_15 ?_
      refine utf8_FullRuneInString.pv 15 38 utf8_FullRuneInString.q16_16 ?_
      refine done_ (by kernel_rfl) ?_
      go_wp2
      go_ret
      exact ⟨rfl, ((Below.refl _ _).alloc (Nat.le_refl _) _).drew⟩
    have hb3z : ¬ ((x2.toNat : Int) < 128) := by omega
    by_cases hb4 : 191 < x2.toNat
    · skip
      have hr : utf8_FullRuneInString.N 3 52 x1.toNat x2.toNat = true := by unfold utf8_FullRuneInString.N; simp only [Lib.accLo, Lib.accHi, Nat.reduceMod, Nat.reduceDiv, Nat.reduceEqDiff, if_true, if_false, Nat.reduceLeDiff, Nat.reduceLT, decide_true, decide_false]; simp; omega
      rw [hr] at h
      subst h
      clear hT hX
      have hb4z : (191 : Int) < (x2.toNat : Int) := by omega
      go_enter Tryd.func59, Tryd.ntmps59
      have hk0 : (w.alloc (Obj.cells #[Value.int .u8 144, Value.int .u8 191] 84)).cell? ⟨w.heap.size, 0, none⟩ = some (.int .u8 144) := bc0 (heap_alloc_new w (Obj.cells #[Value.int .u8 144, Value.int .u8 191] 84))
      have hk1 : (w.alloc (Obj.cells #[Value.int .u8 144, Value.int .u8 191] 84)).cell? ⟨w.heap.size, 1, none⟩ = some (.int .u8 191) := bc1 (heap_alloc_new w (Obj.cells #[Value.int .u8 144, Value.int .u8 191] 84))
      go_wp2
      refine start_ (n := 16) (S := fun w' => w'.cell? ⟨w.heap.size, 0, none⟩ = some (.int .u8 144) ∧ w'.cell? ⟨w.heap.size, 1, none⟩ = some (.int .u8 191)) (ds := []) utf8_FullRuneInString.q16_0 (by kernel_rfl) rfl rfl ⟨hk0, hk1⟩ (fun hHeld => ?_)
      refine utf8_FullRuneInString.pv 0 23 utf8_FullRuneInString.q16_1 ?_
      refine utf8_FullRuneInString.pv 1 24 utf8_FullRuneInString.q16_2 ?_
      refine utf8_FullRuneInString.pv 2 25 utf8_FullRuneInString.q16_3 ?_
      refine utf8_FullRuneInString.pv 3 26 utf8_FullRuneInString.q16_4 ?_
      refine utf8_FullRuneInString.pv 5 28 #[true, true, true, true, false, true, false, false, false, false, false, false, false, false, false, false] ?_
      refine utf8_FullRuneInString.tv hHeld 4 27 utf8_FullRuneInString.q16_6 ?_
      refine utf8_FullRuneInString.tv hHeld 6 29 utf8_FullRuneInString.q16_7 ?_
      refine utf8_FullRuneInString.pv 7 30 utf8_FullRuneInString.q16_8 ?_
      refine utf8_FullRuneInString.pv 8 31 utf8_FullRuneInString.q16_9 ?_
      refine utf8_FullRuneInString.pv 9 32 utf8_FullRuneInString.q16_10 ?_
      refine utf8_FullRuneInString.pv 11 34 #[true, true, true, true, true, true, true, true, true, true, false, true, false, false, false, false] ?_
      refine utf8_FullRuneInString.tv hHeld 10 33 utf8_FullRuneInString.q16_12 ?_
      refine utf8_FullRuneInString.tv hHeld 12 35 utf8_FullRuneInString.q16_13 ?_
      refine utf8_FullRuneInString.pv 13 36 utf8_FullRuneInString.q16_14 ?_
      refine utf8_FullRuneInString.pv 14 37 utf8_FullRuneInString.q16_15 ?_
      refine utf8_FullRuneInString.pv 15 38 utf8_FullRuneInString.q16_16 ?_
      refine done_ (by kernel_rfl) ?_
      go_wp2
      go_ret
      exact ⟨rfl, ((Below.refl _ _).alloc (Nat.le_refl _) _).drew⟩
    have hb4z : ¬ ((191 : Int) < (x2.toNat : Int)) := by omega
    have hr : utf8_FullRuneInString.N 3 52 x1.toNat x2.toNat = false := by unfold utf8_FullRuneInString.N; simp only [Lib.accLo, Lib.accHi, Nat.reduceMod, Nat.reduceDiv, Nat.reduceEqDiff, if_true, if_false, Nat.reduceLeDiff, Nat.reduceLT, decide_true, decide_false]; simp; omega
    rw [hr] at h
    subst h
    clear hT hX
    go_enter Tryd.func59, Tryd.ntmps59
    have hk0 : (w.alloc (Obj.cells #[Value.int .u8 144, Value.int .u8 191] 84)).cell? ⟨w.heap.size, 0, none⟩ = some (.int .u8 144) := bc0 (heap_alloc_new w (Obj.cells #[Value.int .u8 144, Value.int .u8 191] 84))
    have hk1 : (w.alloc (Obj.cells #[Value.int .u8 144, Value.int .u8 191] 84)).cell? ⟨w.heap.size, 1, none⟩ = some (.int .u8 191) := bc1 (heap_alloc_new w (Obj.cells #[Value.int .u8 144, Value.int .u8 191] 84))
    go_wp2
    refine start_ (n := 16) (S := fun w' => w'.cell? ⟨w.heap.size, 0, none⟩ = some (.int .u8 144) ∧ w'.cell? ⟨w.heap.size, 1, none⟩ = some (.int .u8 191)) (ds := []) utf8_FullRuneInString.q16_0 (by kernel_rfl) rfl rfl ⟨hk0, hk1⟩ (fun hHeld => ?_)
    refine utf8_FullRuneInString.pv 0 23 utf8_FullRuneInString.q16_1 ?_
    refine utf8_FullRuneInString.pv 1 24 utf8_FullRuneInString.q16_2 ?_
    refine utf8_FullRuneInString.pv 2 25 utf8_FullRuneInString.q16_3 ?_
    refine utf8_FullRuneInString.pv 3 26 utf8_FullRuneInString.q16_4 ?_
    refine utf8_FullRuneInString.pv 5 28 #[true, true, true, true, false, true, false, false, false, false, false, false, false, false, false, false] ?_
    refine utf8_FullRuneInString.tv hHeld 4 27 utf8_FullRuneInString.q16_6 ?_
    refine utf8_FullRuneInString.tv hHeld 6 29 utf8_FullRuneInString.q16_7 ?_
    refine utf8_FullRuneInString.pv 7 30 utf8_FullRuneInString.q16_8 ?_
    refine utf8_FullRuneInString.pv 8 31 utf8_FullRuneInString.q16_9 ?_
    refine utf8_FullRuneInString.pv 9 32 utf8_FullRuneInString.q16_10 ?_
    refine utf8_FullRuneInString.pv 11 34 #[true, true, true, true, true, true, true, true, true, true, false, true, false, false, false, false] ?_
    refine utf8_FullRuneInString.tv hHeld 10 33 utf8_FullRuneInString.q16_12 ?_
    refine utf8_FullRuneInString.tv hHeld 12 35 utf8_FullRuneInString.q16_13 ?_
    refine utf8_FullRuneInString.pv 13 36 utf8_FullRuneInString.q16_14 ?_
    refine utf8_FullRuneInString.pv 14 37 utf8_FullRuneInString.q16_15 ?_
    refine utf8_FullRuneInString.pv 15 38 utf8_FullRuneInString.q16_16 ?_
    refine done_ (by kernel_rfl) ?_
    go_wp2
    go_ret
    exact ⟨rfl, ((Below.refl _ _).alloc (Nat.le_refl _) _).drew⟩
  · rw [hX] at hc0 h
    have ha0 := (hT.2 0 (by omega)).1
    have ha1 := (hT.2 0 (by omega)).2
    simp only [Lib.accLo, Lib.accHi, Nat.reduceMul, Nat.reduceAdd, Nat.reduceEqDiff, if_true, if_false] at ha0 ha1
    by_cases hn : 4 ≤ s.size
    · have hr : utf8_FullRuneInString.N s.size 4 x1.toNat x2.toNat = true := by unfold utf8_FullRuneInString.N; simp; omega
      rw [hr] at h
      subst h
      clear hT hX
      have hge : (4 : Int) ≤ (s.size : Int) := by omega
      go_enter Tryd.func59, Tryd.ntmps59
      go_wp2
      go_ret
      exact ⟨rfl, Below.refl _ _⟩
    by_cases hn1 : s.size = 1
    · rw [hn1] at h
      have hsz : (s.size : Int) = 1 := by omega
      have hr : utf8_FullRuneInString.N 1 4 x1.toNat x2.toNat = false := by unfold utf8_FullRuneInString.N; simp only [Lib.accLo, Lib.accHi, Nat.reduceMod, Nat.reduceDiv, Nat.reduceEqDiff, if_true, if_false, Nat.reduceLeDiff, Nat.reduceLT, decide_true, decide_false]; simp
      rw [hr] at h
      subst h
      clear hT hX
      go_enter Tryd.func59, Tryd.ntmps59
      have hk0 : (w.alloc (Obj.cells #[Value.int .u8 128, Value.int .u8 191] 84)).cell? ⟨w.heap.size, 0, none⟩ = some (.int .u8 128) := bc0 (heap_alloc_new w (Obj.cells #[Value.int .u8 128, Value.int .u8 191] 84))
      have hk1 : (w.alloc (Obj.cells #[Value.int .u8 128, Value.int .u8 191] 84)).cell? ⟨w.heap.size, 1, none⟩ = some (.int .u8 191) := bc1 (heap_alloc_new w (Obj.cells #[Value.int .u8 128, Value.int .u8 191] 84))
      go_wp2
      refine start_ (n := 16) (S := fun w' => w'.cell? ⟨w.heap.size, 0, none⟩ = some (.int .u8 128) ∧ w'.cell? ⟨w.heap.size, 1, none⟩ = some (.int .u8 191)) (ds := []) utf8_FullRuneInString.q16_0 (by kernel_rfl) rfl rfl ⟨hk0, hk1⟩ (fun hHeld => ?_)
      refine utf8_FullRuneInString.pv 0 23 utf8_FullRuneInString.q16_1 ?_
      refine utf8_FullRuneInString.pv 1 24 utf8_FullRuneInString.q16_2 ?_
      refine utf8_FullRuneInString.pv 2 25 utf8_FullRuneInString.q16_3 ?_
      refine utf8_FullRuneInString.pu 3 26 utf8_FullRuneInString.q16_4 ?_
      refine utf8_FullRuneInString.pu 4 27 utf8_FullRuneInString.q16_5 ?_
      refine utf8_FullRuneInString.pu 5 28 utf8_FullRuneInString.q16_6 ?_
      refine utf8_FullRuneInString.pu 6 29 utf8_FullRuneInString.q16_7 ?_
      refine utf8_FullRuneInString.pu 7 30 utf8_FullRuneInString.q16_8 ?_
      refine utf8_FullRuneInString.pu 8 31 utf8_FullRuneInString.q16_9 ?_
      refine utf8_FullRuneInString.pu 9 32 utf8_FullRuneInString.q16_10 ?_
      refine utf8_FullRuneInString.pu 10 33 utf8_FullRuneInString.q16_11 ?_
      refine utf8_FullRuneInString.pu 11 34 utf8_FullRuneInString.q16_12 ?_
      refine utf8_FullRuneInString.pu 12 35 utf8_FullRuneInString.q16_13 ?_
      refine utf8_FullRuneInString.pu 13 36 utf8_FullRuneInString.q16_14 ?_
      refine utf8_FullRuneInString.pu 14 37 utf8_FullRuneInString.q16_15 ?_
      refine utf8_FullRuneInString.pv 15 38 utf8_FullRuneInString.q16_16 ?_
      refine done_ (by kernel_rfl) ?_
      go_wp2
      go_ret
      exact ⟨rfl, ((Below.refl _ _).alloc (Nat.le_refl _) _).drew⟩
    by_cases hn2 : s.size = 2
    · rw [hn2] at h
      have hsz : (s.size : Int) = 2 := by omega
      have hs1 : s[1]'(by omega) = x1 := by rw [← hx1]; exact (Utf8W.get!_of_lt s 1 (by omega)).symm
      by_cases hb1 : x1.toNat < 128
      · skip
        have hr : utf8_FullRuneInString.N 2 4 x1.toNat x2.toNat = true := by unfold utf8_FullRuneInString.N; simp only [Lib.accLo, Lib.accHi, Nat.reduceMod, Nat.reduceDiv, Nat.reduceEqDiff, if_true, if_false, Nat.reduceLeDiff, Nat.reduceLT, decide_true, decide_false]; simp; omega
        rw [hr] at h
        subst h
        clear hT hX
        have hb1z : (x1.toNat : Int) < 128 := by omega
        have hb1d : decide ((x1.toNat : Int) < 128) = true := decide_eq_true hb1z
        go_enter Tryd.func59, Tryd.ntmps59
        have hk0 : (w.alloc (Obj.cells #[Value.int .u8 128, Value.int .u8 191] 84)).cell? ⟨w.heap.size, 0, none⟩ = some (.int .u8 128) := bc0 (heap_alloc_new w (Obj.cells #[Value.int .u8 128, Value.int .u8 191] 84))
        have hk1 : (w.alloc (Obj.cells #[Value.int .u8 128, Value.int .u8 191] 84)).cell? ⟨w.heap.size, 1, none⟩ = some (.int .u8 191) := bc1 (heap_alloc_new w (Obj.cells #[Value.int .u8 128, Value.int .u8 191] 84))
        go_wp2
        refine start_ (n := 16) (S := fun w' => w'.cell? ⟨w.heap.size, 0, none⟩ = some (.int .u8 128) ∧ w'.cell? ⟨w.heap.size, 1, none⟩ = some (.int .u8 191)) (ds := []) utf8_FullRuneInString.q16_0 (by kernel_rfl) rfl rfl ⟨hk0, hk1⟩ (fun hHeld => ?_)
        refine utf8_FullRuneInString.pv 0 23 utf8_FullRuneInString.q16_1 ?_
        refine utf8_FullRuneInString.pv 1 24 utf8_FullRuneInString.q16_2 ?_
        refine utf8_FullRuneInString.pv 2 25 utf8_FullRuneInString.q16_3 ?_
        refine utf8_FullRuneInString.pv 3 26 utf8_FullRuneInString.q16_4 ?_
        refine utf8_FullRuneInString.pv 5 28 #[true, true, true, true, false, true, false, false, false, false, false, false, false, false, false, false] ?_
        refine utf8_FullRuneInString.tv hHeld 4 27 utf8_FullRuneInString.q16_6 ?_
        refine utf8_FullRuneInString.tv hHeld 6 29 utf8_FullRuneInString.q16_7 ?_
        refine utf8_FullRuneInString.pv 7 30 utf8_FullRuneInString.q16_8 ?_
        refine utf8_FullRuneInString.pv 8 31 utf8_FullRuneInString.q16_9 ?_
        refine utf8_FullRuneInString.pu 9 32 utf8_FullRuneInString.q16_10 ?_
        refine utf8_FullRuneInString.pu 10 33 utf8_FullRuneInString.q16_11 ?_
        refine utf8_FullRuneInString.pu 11 34 utf8_FullRuneInString.q16_12 ?_
        refine utf8_FullRuneInString.pu 12 35 utf8_FullRuneInString.q16_13 ?_
        refine utf8_FullRuneInString.pu 13 36 utf8_FullRuneInString.q16_14 ?_
        refine utf8_FullRuneInString.pv 14 37 utf8_FullRuneInString.q16_15 ?_
        refine utf8_FullRuneInString.pv 15 38 utf8_FullRuneInString.q16_16 ?_
        refine done_ (by kernel_rfl) ?_
        go_wp2
        go_ret
        exact ⟨rfl, ((Below.refl _ _).alloc (Nat.le_refl _) _).drew⟩
      have hb1z : ¬ ((x1.toNat : Int) < 128) := by omega
      have hb1d : decide ((x1.toNat : Int) < 128) = false := decide_eq_false hb1z
      by_cases hb2 : 191 < x1.toNat
      · skip
        have hr : utf8_FullRuneInString.N 2 4 x1.toNat x2.toNat = true := by unfold utf8_FullRuneInString.N; simp only [Lib.accLo, Lib.accHi, Nat.reduceMod, Nat.reduceDiv, Nat.reduceEqDiff, if_true, if_false, Nat.reduceLeDiff, Nat.reduceLT, decide_true, decide_false]; simp; omega
        rw [hr] at h
        subst h
        clear hT hX
        have hb2z : (191 : Int) < (x1.toNat : Int) := by omega
        have hb2d : decide ((191 : Int) < (x1.toNat : Int)) = true := decide_eq_true hb2z
        go_enter Tryd.func59, Tryd.ntmps59
        have hk0 : (w.alloc (Obj.cells #[Value.int .u8 128, Value.int .u8 191] 84)).cell? ⟨w.heap.size, 0, none⟩ = some (.int .u8 128) := bc0 (heap_alloc_new w (Obj.cells #[Value.int .u8 128, Value.int .u8 191] 84))
        have hk1 : (w.alloc (Obj.cells #[Value.int .u8 128, Value.int .u8 191] 84)).cell? ⟨w.heap.size, 1, none⟩ = some (.int .u8 191) := bc1 (heap_alloc_new w (Obj.cells #[Value.int .u8 128, Value.int .u8 191] 84))
        go_wp2
        refine start_ (n := 16) (S := fun w' => w'.cell? ⟨w.heap.size, 0, none⟩ = some (.int .u8 128) ∧ w'.cell? ⟨w.heap.size, 1, none⟩ = some (.int .u8 191)) (ds := []) utf8_FullRuneInString.q16_0 (by kernel_rfl) rfl rfl ⟨hk0, hk1⟩ (fun hHeld => ?_)
        refine utf8_FullRuneInString.pv 0 23 utf8_FullRuneInString.q16_1 ?_
        refine utf8_FullRuneInString.pv 1 24 utf8_FullRuneInString.q16_2 ?_
        refine utf8_FullRuneInString.pv 2 25 utf8_FullRuneInString.q16_3 ?_
        refine utf8_FullRuneInString.pv 3 26 utf8_FullRuneInString.q16_4 ?_
        refine utf8_FullRuneInString.pv 5 28 #[true, true, true, true, false, true, false, false, false, false, false, false, false, false, false, false] ?_
        refine utf8_FullRuneInString.tv hHeld 4 27 utf8_FullRuneInString.q16_6 ?_
        refine utf8_FullRuneInString.tv hHeld 6 29 utf8_FullRuneInString.q16_7 ?_
        refine utf8_FullRuneInString.pv 7 30 utf8_FullRuneInString.q16_8 ?_
        refine utf8_FullRuneInString.pv 8 31 utf8_FullRuneInString.q16_9 ?_
        refine utf8_FullRuneInString.pv 9 32 utf8_FullRuneInString.q16_10 ?_
        refine utf8_FullRuneInString.pv 11 34 #[true, true, true, true, true, true, true, true, true, true, false, true, false, false, false, false] ?_
        refine utf8_FullRuneInString.tv hHeld 10 33 utf8_FullRuneInString.q16_12 ?_
        refine utf8_FullRuneInString.tv hHeld 12 35 utf8_FullRuneInString.q16_13 ?_
        refine utf8_FullRuneInString.pv 13 36 utf8_FullRuneInString.q16_14 ?_
        refine utf8_FullRuneInString.pv 14 37 utf8_FullRuneInString.q16_15 ?_
        refine utf8_FullRuneInString.pv 15 38 utf8_FullRuneInString.q16_16 ?_
        refine done_ (by kernel_rfl) ?_
        go_wp2
        go_ret
        exact ⟨rfl, ((Below.refl _ _).alloc (Nat.le_refl _) _).drew⟩
      have hb2z : ¬ ((191 : Int) < (x1.toNat : Int)) := by omega
      have hb2d : decide ((191 : Int) < (x1.toNat : Int)) = false := decide_eq_false hb2z
      have hr : utf8_FullRuneInString.N 2 4 x1.toNat x2.toNat = false := by unfold utf8_FullRuneInString.N; simp only [Lib.accLo, Lib.accHi, Nat.reduceMod, Nat.reduceDiv, Nat.reduceEqDiff, if_true, if_false, Nat.reduceLeDiff, Nat.reduceLT, decide_true, decide_false]; simp; omega
      rw [hr] at h
      subst h
      clear hT hX
      go_enter Tryd.func59, Tryd.ntmps59
      have hk0 : (w.alloc (Obj.cells #[Value.int .u8 128, Value.int .u8 191] 84)).cell? ⟨w.heap.size, 0, none⟩ = some (.int .u8 128) := bc0 (heap_alloc_new w (Obj.cells #[Value.int .u8 128, Value.int .u8 191] 84))
      have hk1 : (w.alloc (Obj.cells #[Value.int .u8 128, Value.int .u8 191] 84)).cell? ⟨w.heap.size, 1, none⟩ = some (.int .u8 191) := bc1 (heap_alloc_new w (Obj.cells #[Value.int .u8 128, Value.int .u8 191] 84))
      go_wp2
      refine start_ (n := 16) (S := fun w' => w'.cell? ⟨w.heap.size, 0, none⟩ = some (.int .u8 128) ∧ w'.cell? ⟨w.heap.size, 1, none⟩ = some (.int .u8 191)) (ds := []) utf8_FullRuneInString.q16_0 (by kernel_rfl) rfl rfl ⟨hk0, hk1⟩ (fun hHeld => ?_)
      refine utf8_FullRuneInString.pv 0 23 utf8_FullRuneInString.q16_1 ?_
      refine utf8_FullRuneInString.pv 1 24 utf8_FullRuneInString.q16_2 ?_
      refine utf8_FullRuneInString.pv 2 25 utf8_FullRuneInString.q16_3 ?_
      refine utf8_FullRuneInString.pv 3 26 utf8_FullRuneInString.q16_4 ?_
      refine utf8_FullRuneInString.pv 5 28 #[true, true, true, true, false, true, false, false, false, false, false, false, false, false, false, false] ?_
      refine utf8_FullRuneInString.tv hHeld 4 27 utf8_FullRuneInString.q16_6 ?_
      refine utf8_FullRuneInString.tv hHeld 6 29 utf8_FullRuneInString.q16_7 ?_
      refine utf8_FullRuneInString.pv 7 30 utf8_FullRuneInString.q16_8 ?_
      refine utf8_FullRuneInString.pv 8 31 utf8_FullRuneInString.q16_9 ?_
      refine utf8_FullRuneInString.pv 9 32 utf8_FullRuneInString.q16_10 ?_
      refine utf8_FullRuneInString.pv 11 34 #[true, true, true, true, true, true, true, true, true, true, false, true, false, false, false, false] ?_
      refine utf8_FullRuneInString.tv hHeld 10 33 utf8_FullRuneInString.q16_12 ?_
      refine utf8_FullRuneInString.tv hHeld 12 35 utf8_FullRuneInString.q16_13 ?_
      refine utf8_FullRuneInString.pv 13 36 utf8_FullRuneInString.q16_14 ?_
      refine utf8_FullRuneInString.pv 14 37 utf8_FullRuneInString.q16_15 ?_
      refine utf8_FullRuneInString.pv 15 38 utf8_FullRuneInString.q16_16 ?_
      refine done_ (by kernel_rfl) ?_
      go_wp2
      go_ret
      exact ⟨rfl, ((Below.refl _ _).alloc (Nat.le_refl _) _).drew⟩
    have hn3 : s.size = 3 := by omega
    rw [hn3] at h
    have hsz : (s.size : Int) = 3 := by omega
    have hs1 : s[1]'(by omega) = x1 := by rw [← hx1]; exact (Utf8W.get!_of_lt s 1 (by omega)).symm
    have hs2 : s[2]'(by omega) = x2 := by rw [← hx2]; exact (Utf8W.get!_of_lt s 2 (by omega)).symm
    by_cases hb1 : x1.toNat < 128
    · skip
      have hr : utf8_FullRuneInString.N 3 4 x1.toNat x2.toNat = true := by unfold utf8_FullRuneInString.N; simp only [Lib.accLo, Lib.accHi, Nat.reduceMod, Nat.reduceDiv, Nat.reduceEqDiff, if_true, if_false, Nat.reduceLeDiff, Nat.reduceLT, decide_true, decide_false]; simp; omega
      rw [hr] at h
      subst h
      clear hT hX
      have hb1z : (x1.toNat : Int) < 128 := by omega
      have hb1d : decide ((x1.toNat : Int) < 128) = true := decide_eq_true hb1z
      go_enter Tryd.func59, Tryd.ntmps59
      have hk0 : (w.alloc (Obj.cells #[Value.int .u8 128, Value.int .u8 191] 84)).cell? ⟨w.heap.size, 0, none⟩ = some (.int .u8 128) := bc0 (heap_alloc_new w (Obj.cells #[Value.int .u8 128, Value.int .u8 191] 84))
      have hk1 : (w.alloc (Obj.cells #[Value.int .u8 128, Value.int .u8 191] 84)).cell? ⟨w.heap.size, 1, none⟩ = some (.int .u8 191) := bc1 (heap_alloc_new w (Obj.cells #[Value.int .u8 128, Value.int .u8 191] 84))
      go_wp2
      refine start_ (n := 16) (S := fun w' => w'.cell? ⟨w.heap.size, 0, none⟩ = some (.int .u8 128) ∧ w'.cell? ⟨w.heap.size, 1, none⟩ = some (.int .u8 191)) (ds := []) utf8_FullRuneInString.q16_0 (by kernel_rfl) rfl rfl ⟨hk0, hk1⟩ (fun hHeld => ?_)
      refine utf8_FullRuneInString.pv 0 23 utf8_FullRuneInString.q16_1 ?_
      refine utf8_FullRuneInString.pv 1 24 utf8_FullRuneInString.q16_2 ?_
      refine utf8_FullRuneInString.pv 2 25 utf8_FullRuneInString.q16_3 ?_
      refine utf8_FullRuneInString.pv 3 26 utf8_FullRuneInString.q16_4 ?_
      refine utf8_FullRuneInString.pv 5 28 #[true, true, true, true, false, true, false, false, false, false, false, false, false, false, false, false] ?_
      refine utf8_FullRuneInString.tv hHeld 4 27 utf8_FullRuneInString.q16_6 ?_
      refine utf8_FullRuneInString.tv hHeld 6 29 utf8_FullRuneInString.q16_7 ?_
      refine utf8_FullRuneInString.pv 7 30 utf8_FullRuneInString.q16_8 ?_
      refine utf8_FullRuneInString.pv 8 31 utf8_FullRuneInString.q16_9 ?_
      refine utf8_FullRuneInString.pu 9 32 utf8_FullRuneInString.q16_10 ?_
      refine utf8_FullRuneInString.pu 10 33 utf8_FullRuneInString.q16_11 ?_
      refine utf8_FullRuneInString.pu 11 34 utf8_FullRuneInString.q16_12 ?_
      refine utf8_FullRuneInString.pu 12 35 utf8_FullRuneInString.q16_13 ?_
      refine utf8_FullRuneInString.pu 13 36 utf8_FullRuneInString.q16_14 ?_
      refine utf8_FullRuneInString.pv 14 37 utf8_FullRuneInString.q16_15 ?_
      refine utf8_FullRuneInString.pv 15 38 utf8_FullRuneInString.q16_16 ?_
      refine done_ (by kernel_rfl) ?_
      go_wp2
      go_ret
      exact ⟨rfl, ((Below.refl _ _).alloc (Nat.le_refl _) _).drew⟩
    have hb1z : ¬ ((x1.toNat : Int) < 128) := by omega
    have hb1d : decide ((x1.toNat : Int) < 128) = false := decide_eq_false hb1z
    by_cases hb2 : 191 < x1.toNat
    · skip
      have hr : utf8_FullRuneInString.N 3 4 x1.toNat x2.toNat = true := by unfold utf8_FullRuneInString.N; simp only [Lib.accLo, Lib.accHi, Nat.reduceMod, Nat.reduceDiv, Nat.reduceEqDiff, if_true, if_false, Nat.reduceLeDiff, Nat.reduceLT, decide_true, decide_false]; simp; omega
      rw [hr] at h
      subst h
      clear hT hX
      have hb2z : (191 : Int) < (x1.toNat : Int) := by omega
      have hb2d : decide ((191 : Int) < (x1.toNat : Int)) = true := decide_eq_true hb2z
      go_enter Tryd.func59, Tryd.ntmps59
      have hk0 : (w.alloc (Obj.cells #[Value.int .u8 128, Value.int .u8 191] 84)).cell? ⟨w.heap.size, 0, none⟩ = some (.int .u8 128) := bc0 (heap_alloc_new w (Obj.cells #[Value.int .u8 128, Value.int .u8 191] 84))
      have hk1 : (w.alloc (Obj.cells #[Value.int .u8 128, Value.int .u8 191] 84)).cell? ⟨w.heap.size, 1, none⟩ = some (.int .u8 191) := bc1 (heap_alloc_new w (Obj.cells #[Value.int .u8 128, Value.int .u8 191] 84))
      go_wp2
      refine start_ (n := 16) (S := fun w' => w'.cell? ⟨w.heap.size, 0, none⟩ = some (.int .u8 128) ∧ w'.cell? ⟨w.heap.size, 1, none⟩ = some (.int .u8 191)) (ds := []) utf8_FullRuneInString.q16_0 (by kernel_rfl) rfl rfl ⟨hk0, hk1⟩ (fun hHeld => ?_)
      refine utf8_FullRuneInString.pv 0 23 utf8_FullRuneInString.q16_1 ?_
      refine utf8_FullRuneInString.pv 1 24 utf8_FullRuneInString.q16_2 ?_
      refine utf8_FullRuneInString.pv 2 25 utf8_FullRuneInString.q16_3 ?_
      refine utf8_FullRuneInString.pv 3 26 utf8_FullRuneInString.q16_4 ?_
      refine utf8_FullRuneInString.pv 5 28 #[true, true, true, true, false, true, false, false, false, false, false, false, false, false, false, false] ?_
      refine utf8_FullRuneInString.tv hHeld 4 27 utf8_FullRuneInString.q16_6 ?_
      refine utf8_FullRuneInString.tv hHeld 6 29 utf8_FullRuneInString.q16_7 ?_
      refine utf8_FullRuneInString.pv 7 30 utf8_FullRuneInString.q16_8 ?_
      refine utf8_FullRuneInString.pv 8 31 utf8_FullRuneInString.q16_9 ?_
      refine utf8_FullRuneInString.pv 9 32 utf8_FullRuneInString.q16_10 ?_
      refine utf8_FullRuneInString.pv 11 34 #[true, true, true, true, true, true, true, true, true, true, false, true, false, false, false, false] ?_
      refine utf8_FullRuneInString.tv hHeld 10 33 utf8_FullRuneInString.q16_12 ?_
      refine utf8_FullRuneInString.tv hHeld 12 35 utf8_FullRuneInString.q16_13 ?_
      refine utf8_FullRuneInString.pv 13 36 utf8_FullRuneInString.q16_14 ?_
      refine utf8_FullRuneInString.pv 14 37 utf8_FullRuneInString.q16_15 ?_
      refine utf8_FullRuneInString.pv 15 38 utf8_FullRuneInString.q16_16 ?_
      refine done_ (by kernel_rfl) ?_
      go_wp2
      go_ret
      exact ⟨rfl, ((Below.refl _ _).alloc (Nat.le_refl _) _).drew⟩
    have hb2z : ¬ ((191 : Int) < (x1.toNat : Int)) := by omega
    have hb2d : decide ((191 : Int) < (x1.toNat : Int)) = false := decide_eq_false hb2z
    by_cases hb3 : x2.toNat < 128
    · skip
      have hr : utf8_FullRuneInString.N 3 4 x1.toNat x2.toNat = true := by unfold utf8_FullRuneInString.N; simp only [Lib.accLo, Lib.accHi, Nat.reduceMod, Nat.reduceDiv, Nat.reduceEqDiff, if_true, if_false, Nat.reduceLeDiff, Nat.reduceLT, decide_true, decide_false]; simp; omega
      rw [hr] at h
      subst h
      clear hT hX
      have hb3z : (x2.toNat : Int) < 128 := by omega
      go_enter Tryd.func59, Tryd.ntmps59
      have hk0 : (w.alloc (Obj.cells #[Value.int .u8 128, Value.int .u8 191] 84)).cell? ⟨w.heap.size, 0, none⟩ = some (.int .u8 128) := bc0 (heap_alloc_new w (Obj.cells #[Value.int .u8 128, Value.int .u8 191] 84))
      have hk1 : (w.alloc (Obj.cells #[Value.int .u8 128, Value.int .u8 191] 84)).cell? ⟨w.heap.size, 1, none⟩ = some (.int .u8 191) := bc1 (heap_alloc_new w (Obj.cells #[Value.int .u8 128, Value.int .u8 191] 84))
      go_wp2
      refine start_ (n := 16) (S := fun w' => w'.cell? ⟨w.heap.size, 0, none⟩ = some (.int .u8 128) ∧ w'.cell? ⟨w.heap.size, 1, none⟩ = some (.int .u8 191)) (ds := []) utf8_FullRuneInString.q16_0 (by kernel_rfl) rfl rfl ⟨hk0, hk1⟩ (fun hHeld => ?_)
      refine utf8_FullRuneInString.pv 0 23 utf8_FullRuneInString.q16_1 ?_
      refine utf8_FullRuneInString.pv 1 24 utf8_FullRuneInString.q16_2 ?_
      refine utf8_FullRuneInString.pv 2 25 utf8_FullRuneInString.q16_3 ?_
      refine utf8_FullRuneInString.pv 3 26 utf8_FullRuneInString.q16_4 ?_
      refine utf8_FullRuneInString.pv 5 28 #[true, true, true, true, false, true, false, false, false, false, false, false, false, false, false, false] ?_
      refine utf8_FullRuneInString.tv hHeld 4 27 utf8_FullRuneInString.q16_6 ?_
      refine utf8_FullRuneInString.tv hHeld 6 29 utf8_FullRuneInString.q16_7 ?_
      refine utf8_FullRuneInString.pv 7 30 utf8_FullRuneInString.q16_8 ?_
      refine utf8_FullRuneInString.pv 8 31 utf8_FullRuneInString.q16_9 ?_
      refine utf8_FullRuneInString.pv 9 32 utf8_FullRuneInString.q16_10 ?_
      refine utf8_FullRuneInString.pv 11 34 #[true, true, true, true, true, true, true, true, true, true, false, true, false, false, false, false] ?_
      refine utf8_FullRuneInString.tv hHeld 10 33 utf8_FullRuneInString.q16_12 ?_
      refine utf8_FullRuneInString.tv hHeld 12 35 utf8_FullRuneInString.q16_13 ?_
      refine utf8_FullRuneInString.pv 13 36 utf8_FullRuneInString.q16_14 ?_
      refine utf8_FullRuneInString.pv 14 37 utf8_FullRuneInString.q16_15 ?_
      refine utf8_FullRuneInString.pv 15 38 utf8_FullRuneInString.q16_16 ?_
      refine done_ (by kernel_rfl) ?_
      go_wp2
      go_ret
      exact ⟨rfl, ((Below.refl _ _).alloc (Nat.le_refl _) _).drew⟩
    have hb3z : ¬ ((x2.toNat : Int) < 128) := by omega
    by_cases hb4 : 191 < x2.toNat
    · skip
      have hr : utf8_FullRuneInString.N 3 4 x1.toNat x2.toNat = true := by unfold utf8_FullRuneInString.N; simp only [Lib.accLo, Lib.accHi, Nat.reduceMod, Nat.reduceDiv, Nat.reduceEqDiff, if_true, if_false, Nat.reduceLeDiff, Nat.reduceLT, decide_true, decide_false]; simp; omega
      rw [hr] at h
      subst h
      clear hT hX
      have hb4z : (191 : Int) < (x2.toNat : Int) := by omega
      go_enter Tryd.func59, Tryd.ntmps59
      have hk0 : (w.alloc (Obj.cells #[Value.int .u8 128, Value.int .u8 191] 84)).cell? ⟨w.heap.size, 0, none⟩ = some (.int .u8 128) := bc0 (heap_alloc_new w (Obj.cells #[Value.int .u8 128, Value.int .u8 191] 84))
      have hk1 : (w.alloc (Obj.cells #[Value.int .u8 128, Value.int .u8 191] 84)).cell? ⟨w.heap.size, 1, none⟩ = some (.int .u8 191) := bc1 (heap_alloc_new w (Obj.cells #[Value.int .u8 128, Value.int .u8 191] 84))
      go_wp2
      refine start_ (n := 16) (S := fun w' => w'.cell? ⟨w.heap.size, 0, none⟩ = some (.int .u8 128) ∧ w'.cell? ⟨w.heap.size, 1, none⟩ = some (.int .u8 191)) (ds := []) utf8_FullRuneInString.q16_0 (by kernel_rfl) rfl rfl ⟨hk0, hk1⟩ (fun hHeld => ?_)
      refine utf8_FullRuneInString.pv 0 23 utf8_FullRuneInString.q16_1 ?_
      refine utf8_FullRuneInString.pv 1 24 utf8_FullRuneInString.q16_2 ?_
      refine utf8_FullRuneInString.pv 2 25 utf8_FullRuneInString.q16_3 ?_
      refine utf8_FullRuneInString.pv 3 26 utf8_FullRuneInString.q16_4 ?_
      refine utf8_FullRuneInString.pv 5 28 #[true, true, true, true, false, true, false, false, false, false, false, false, false, false, false, false] ?_
      refine utf8_FullRuneInString.tv hHeld 4 27 utf8_FullRuneInString.q16_6 ?_
      refine utf8_FullRuneInString.tv hHeld 6 29 utf8_FullRuneInString.q16_7 ?_
      refine utf8_FullRuneInString.pv 7 30 utf8_FullRuneInString.q16_8 ?_
      refine utf8_FullRuneInString.pv 8 31 utf8_FullRuneInString.q16_9 ?_
      refine utf8_FullRuneInString.pv 9 32 utf8_FullRuneInString.q16_10 ?_
      refine utf8_FullRuneInString.pv 11 34 #[true, true, true, true, true, true, true, true, true, true, false, true, false, false, false, false] ?_
      refine utf8_FullRuneInString.tv hHeld 10 33 utf8_FullRuneInString.q16_12 ?_
      refine utf8_FullRuneInString.tv hHeld 12 35 utf8_FullRuneInString.q16_13 ?_
      refine utf8_FullRuneInString.pv 13 36 utf8_FullRuneInString.q16_14 ?_
      refine utf8_FullRuneInString.pv 14 37 utf8_FullRuneInString.q16_15 ?_
      refine utf8_FullRuneInString.pv 15 38 utf8_FullRuneInString.q16_16 ?_
      refine done_ (by kernel_rfl) ?_
      go_wp2
      go_ret
      exact ⟨rfl, ((Below.refl _ _).alloc (Nat.le_refl _) _).drew⟩
    have hb4z : ¬ ((191 : Int) < (x2.toNat : Int)) := by omega
    have hr : utf8_FullRuneInString.N 3 4 x1.toNat x2.toNat = false := by unfold utf8_FullRuneInString.N; simp only [Lib.accLo, Lib.accHi, Nat.reduceMod, Nat.reduceDiv, Nat.reduceEqDiff, if_true, if_false, Nat.reduceLeDiff, Nat.reduceLT, decide_true, decide_false]; simp; omega
    rw [hr] at h
    subst h
    clear hT hX
    go_enter Tryd.func59, Tryd.ntmps59
    have hk0 : (w.alloc (Obj.cells #[Value.int .u8 128, Value.int .u8 191] 84)).cell? ⟨w.heap.size, 0, none⟩ = some (.int .u8 128) := bc0 (heap_alloc_new w (Obj.cells #[Value.int .u8 128, Value.int .u8 191] 84))
    have hk1 : (w.alloc (Obj.cells #[Value.int .u8 128, Value.int .u8 191] 84)).cell? ⟨w.heap.size, 1, none⟩ = some (.int .u8 191) := bc1 (heap_alloc_new w (Obj.cells #[Value.int .u8 128, Value.int .u8 191] 84))
    go_wp2
    refine start_ (n := 16) (S := fun w' => w'.cell? ⟨w.heap.size, 0, none⟩ = some (.int .u8 128) ∧ w'.cell? ⟨w.heap.size, 1, none⟩ = some (.int .u8 191)) (ds := []) utf8_FullRuneInString.q16_0 (by kernel_rfl) rfl rfl ⟨hk0, hk1⟩ (fun hHeld => ?_)
    refine utf8_FullRuneInString.pv 0 23 utf8_FullRuneInString.q16_1 ?_
    refine utf8_FullRuneInString.pv 1 24 utf8_FullRuneInString.q16_2 ?_
    refine utf8_FullRuneInString.pv 2 25 utf8_FullRuneInString.q16_3 ?_
    refine utf8_FullRuneInString.pv 3 26 utf8_FullRuneInString.q16_4 ?_
    refine utf8_FullRuneInString.pv 5 28 #[true, true, true, true, false, true, false, false, false, false, false, false, false, false, false, false] ?_
    refine utf8_FullRuneInString.tv hHeld 4 27 utf8_FullRuneInString.q16_6 ?_
    refine utf8_FullRuneInString.tv hHeld 6 29 utf8_FullRuneInString.q16_7 ?_
    refine utf8_FullRuneInString.pv 7 30 utf8_FullRuneInString.q16_8 ?_
    refine utf8_FullRuneInString.pv 8 31 utf8_FullRuneInString.q16_9 ?_
    refine utf8_FullRuneInString.pv 9 32 utf8_FullRuneInString.q16_10 ?_
    refine utf8_FullRuneInString.pv 11 34 #[true, true, true, true, true, true, true, true, true, true, false, true, false, false, false, false] ?_
    refine utf8_FullRuneInString.tv hHeld 10 33 utf8_FullRuneInString.q16_12 ?_
    refine utf8_FullRuneInString.tv hHeld 12 35 utf8_FullRuneInString.q16_13 ?_
    refine utf8_FullRuneInString.pv 13 36 utf8_FullRuneInString.q16_14 ?_
    refine utf8_FullRuneInString.pv 14 37 utf8_FullRuneInString.q16_15 ?_
    refine utf8_FullRuneInString.pv 15 38 utf8_FullRuneInString.q16_16 ?_
    refine done_ (by kernel_rfl) ?_
    go_wp2
    go_ret
    exact ⟨rfl, ((Below.refl _ _).alloc (Nat.le_refl _) _).drew⟩
  · rw [hX] at hc0 h
    have ha0 := (hT.2 4 (by omega)).1
    have ha1 := (hT.2 4 (by omega)).2
    simp only [Lib.accLo, Lib.accHi, Nat.reduceMul, Nat.reduceAdd, Nat.reduceEqDiff, if_true, if_false] at ha0 ha1
    by_cases hn : 4 ≤ s.size
    · have hr : utf8_FullRuneInString.N s.size 68 x1.toNat x2.toNat = true := by unfold utf8_FullRuneInString.N; simp; omega
      rw [hr] at h
      subst h
      clear hT hX
      have hge : (4 : Int) ≤ (s.size : Int) := by omega
      go_enter Tryd.func59, Tryd.ntmps59
      go_wp2
      go_ret
      exact ⟨rfl, Below.refl _ _⟩
    by_cases hn1 : s.size = 1
    · rw [hn1] at h
      have hsz : (s.size : Int) = 1 := by omega
      have hr : utf8_FullRuneInString.N 1 68 x1.toNat x2.toNat = false := by unfold utf8_FullRuneInString.N; simp only [Lib.accLo, Lib.accHi, Nat.reduceMod, Nat.reduceDiv, Nat.reduceEqDiff, if_true, if_false, Nat.reduceLeDiff, Nat.reduceLT, decide_true, decide_false]; simp
      rw [hr] at h
      subst h
      clear hT hX
      go_enter Tryd.func59, Tryd.ntmps59
      have hk0 : (w.alloc (Obj.cells #[Value.int .u8 128, Value.int .u8 143] 84)).cell? ⟨w.heap.size, 0, none⟩ = some (.int .u8 128) := bc0 (heap_alloc_new w (Obj.cells #[Value.int .u8 128, Value.int .u8 143] 84))
      have hk1 : (w.alloc (Obj.cells #[Value.int .u8 128, Value.int .u8 143] 84)).cell? ⟨w.heap.size, 1, none⟩ = some (.int .u8 143) := bc1 (heap_alloc_new w (Obj.cells #[Value.int .u8 128, Value.int .u8 143] 84))
      go_wp2
      refine start_ (n := 16) (S := fun w' => w'.cell? ⟨w.heap.size, 0, none⟩ = some (.int .u8 128) ∧ w'.cell? ⟨w.heap.size, 1, none⟩ = some (.int .u8 143)) (ds := []) utf8_FullRuneInString.q16_0 (by kernel_rfl) rfl rfl ⟨hk0, hk1⟩ (fun hHeld => ?_)
      refine utf8_FullRuneInString.pv 0 23 utf8_FullRuneInString.q16_1 ?_
      refine utf8_FullRuneInString.pv 1 24 utf8_FullRuneInString.q16_2 ?_
      refine utf8_FullRuneInString.pv 2 25 utf8_FullRuneInString.q16_3 ?_
      refine utf8_FullRuneInString.pu 3 26 utf8_FullRuneInString.q16_4 ?_
      refine utf8_FullRuneInString.pu 4 27 utf8_FullRuneInString.q16_5 ?_
      refine utf8_FullRuneInString.pu 5 28 utf8_FullRuneInString.q16_6 ?_
      refine utf8_FullRuneInString.pu 6 29 utf8_FullRuneInString.q16_7 ?_
      refine utf8_FullRuneInString.pu 7 30 utf8_FullRuneInString.q16_8 ?_
      refine utf8_FullRuneInString.pu 8 31 utf8_FullRuneInString.q16_9 ?_
      refine utf8_FullRuneInString.pu 9 32 utf8_FullRuneInString.q16_10 ?_
      refine utf8_FullRuneInString.pu 10 33 utf8_FullRuneInString.q16_11 ?_
      refine utf8_FullRuneInString.pu 11 34 utf8_FullRuneInString.q16_12 ?_
      refine utf8_FullRuneInString.pu 12 35 utf8_FullRuneInString.q16_13 ?_
      refine utf8_FullRuneInString.pu 13 36 utf8_FullRuneInString.q16_14 ?_
      refine utf8_FullRuneInString.pu 14 37 utf8_FullRuneInString.q16_15 ?_
      refine utf8_FullRuneInString.pv 15 38 utf8_FullRuneInString.q16_16 ?_
      refine done_ (by kernel_rfl) ?_
      go_wp2
      go_ret
      exact ⟨rfl, ((Below.refl _ _).alloc (Nat.le_refl _) _).drew⟩
    by_cases hn2 : s.size = 2
    · rw [hn2] at h
      have hsz : (s.size : Int) = 2 := by omega
      have hs1 : s[1]'(by omega) = x1 := by rw [← hx1]; exact (Utf8W.get!_of_lt s 1 (by omega)).symm
      by_cases hb1 : x1.toNat < 128
      · skip
        have hr : utf8_FullRuneInString.N 2 68 x1.toNat x2.toNat = true := by unfold utf8_FullRuneInString.N; simp only [Lib.accLo, Lib.accHi, Nat.reduceMod, Nat.reduceDiv, Nat.reduceEqDiff, if_true, if_false, Nat.reduceLeDiff, Nat.reduceLT, decide_true, decide_false]; simp; omega
        rw [hr] at h
        subst h
        clear hT hX
        have hb1z : (x1.toNat : Int) < 128 := by omega
        have hb1d : decide ((x1.toNat : Int) < 128) = true := decide_eq_true hb1z
        go_enter Tryd.func59, Tryd.ntmps59
        have hk0 : (w.alloc (Obj.cells #[Value.int .u8 128, Value.int .u8 143] 84)).cell? ⟨w.heap.size, 0, none⟩ = some (.int .u8 128) := bc0 (heap_alloc_new w (Obj.cells #[Value.int .u8 128, Value.int .u8 143] 84))
        have hk1 : (w.alloc (Obj.cells #[Value.int .u8 128, Value.int .u8 143] 84)).cell? ⟨w.heap.size, 1, none⟩ = some (.int .u8 143) := bc1 (heap_alloc_new w (Obj.cells #[Value.int .u8 128, Value.int .u8 143] 84))
        go_wp2
        refine start_ (n := 16) (S := fun w' => w'.cell? ⟨w.heap.size, 0, none⟩ = some (.int .u8 128) ∧ w'.cell? ⟨w.heap.size, 1, none⟩ = some (.int .u8 143)) (ds := []) utf8_FullRuneInString.q16_0 (by kernel_rfl) rfl rfl ⟨hk0, hk1⟩ (fun hHeld => ?_)
        refine utf8_FullRuneInString.pv 0 23 utf8_FullRuneInString.q16_1 ?_
        refine utf8_FullRuneInString.pv 1 24 utf8_FullRuneInString.q16_2 ?_
        refine utf8_FullRuneInString.pv 2 25 utf8_FullRuneInString.q16_3 ?_
        refine utf8_FullRuneInString.pv 3 26 utf8_FullRuneInString.q16_4 ?_
        refine utf8_FullRuneInString.pv 5 28 #[true, true, true, true, false, true, false, false, false, false, false, false, false, false, false, false] ?_
        refine utf8_FullRuneInString.tv hHeld 4 27 utf8_FullRuneInString.q16_6 ?_
        refine utf8_FullRuneInString.tv hHeld 6 29 utf8_FullRuneInString.q16_7 ?_
        refine utf8_FullRuneInString.pv 7 30 utf8_FullRuneInString.q16_8 ?_
        refine utf8_FullRuneInString.pv 8 31 utf8_FullRuneInString.q16_9 ?_
        refine utf8_FullRuneInString.pu 9 32 utf8_FullRuneInString.q16_10 ?_
        refine utf8_FullRuneInString.pu 10 33 utf8_FullRuneInString.q16_11 ?_
        refine utf8_FullRuneInString.pu 11 34 utf8_FullRuneInString.q16_12 ?_
        refine utf8_FullRuneInString.pu 12 35 utf8_FullRuneInString.q16_13 ?_
        refine utf8_FullRuneInString.pu 13 36 utf8_FullRuneInString.q16_14 ?_
        refine utf8_FullRuneInString.pv 14 37 utf8_FullRuneInString.q16_15 ?_
        refine utf8_FullRuneInString.pv 15 38 utf8_FullRuneInString.q16_16 ?_
        refine done_ (by kernel_rfl) ?_
        go_wp2
        go_ret
        exact ⟨rfl, ((Below.refl _ _).alloc (Nat.le_refl _) _).drew⟩
      have hb1z : ¬ ((x1.toNat : Int) < 128) := by omega
      have hb1d : decide ((x1.toNat : Int) < 128) = false := decide_eq_false hb1z
      by_cases hb2 : 143 < x1.toNat
      · skip
        have hr : utf8_FullRuneInString.N 2 68 x1.toNat x2.toNat = true := by unfold utf8_FullRuneInString.N; simp only [Lib.accLo, Lib.accHi, Nat.reduceMod, Nat.reduceDiv, Nat.reduceEqDiff, if_true, if_false, Nat.reduceLeDiff, Nat.reduceLT, decide_true, decide_false]; simp; omega
        rw [hr] at h
        subst h
        clear hT hX
        have hb2z : (143 : Int) < (x1.toNat : Int) := by omega
        have hb2d : decide ((143 : Int) < (x1.toNat : Int)) = true := decide_eq_true hb2z
        go_enter Tryd.func59, Tryd.ntmps59
        have hk0 : (w.alloc (Obj.cells #[Value.int .u8 128, Value.int .u8 143] 84)).cell? ⟨w.heap.size, 0, none⟩ = some (.int .u8 128) := bc0 (heap_alloc_new w (Obj.cells #[Value.int .u8 128, Value.int .u8 143] 84))
        have hk1 : (w.alloc (Obj.cells #[Value.int .u8 128, Value.int .u8 143] 84)).cell? ⟨w.heap.size, 1, none⟩ = some (.int .u8 143) := bc1 (heap_alloc_new w (Obj.cells #[Value.int .u8 128, Value.int .u8 143] 84))
        go_wp2
        refine start_ (n := 16) (S := fun w' => w'.cell? ⟨w.heap.size, 0, none⟩ = some (.int .u8 128) ∧ w'.cell? ⟨w.heap.size, 1, none⟩ = some (.int .u8 143)) (ds := []) utf8_FullRuneInString.q16_0 (by kernel_rfl) rfl rfl ⟨hk0, hk1⟩ (fun hHeld => ?_)
        refine utf8_FullRuneInString.pv 0 23 utf8_FullRuneInString.q16_1 ?_
        refine utf8_FullRuneInString.pv 1 24 utf8_FullRuneInString.q16_2 ?_
        refine utf8_FullRuneInString.pv 2 25 utf8_FullRuneInString.q16_3 ?_
        refine utf8_FullRuneInString.pv 3 26 utf8_FullRuneInString.q16_4 ?_
        refine utf8_FullRuneInString.pv 5 28 #[true, true, true, true, false, true, false, false, false, false, false, false, false, false, false, false] ?_
        refine utf8_FullRuneInString.tv hHeld 4 27 utf8_FullRuneInString.q16_6 ?_
        refine utf8_FullRuneInString.tv hHeld 6 29 utf8_FullRuneInString.q16_7 ?_
        refine utf8_FullRuneInString.pv 7 30 utf8_FullRuneInString.q16_8 ?_
        refine utf8_FullRuneInString.pv 8 31 utf8_FullRuneInString.q16_9 ?_
        refine utf8_FullRuneInString.pv 9 32 utf8_FullRuneInString.q16_10 ?_
        refine utf8_FullRuneInString.pv 11 34 #[true, true, true, true, true, true, true, true, true, true, false, true, false, false, false, false] ?_
        refine utf8_FullRuneInString.tv hHeld 10 33 utf8_FullRuneInString.q16_12 ?_
        refine utf8_FullRuneInString.tv hHeld 12 35 utf8_FullRuneInString.q16_13 ?_
        refine utf8_FullRuneInString.pv 13 36 utf8_FullRuneInString.q16_14 ?_
        refine utf8_FullRuneInString.pv 14 37 utf8_FullRuneInString.q16_15 ?_
        refine utf8_FullRuneInString.pv 15 38 utf8_FullRuneInString.q16_16 ?_
        refine done_ (by kernel_rfl) ?_
        go_wp2
        go_ret
        exact ⟨rfl, ((Below.refl _ _).alloc (Nat.le_refl _) _).drew⟩
      have hb2z : ¬ ((143 : Int) < (x1.toNat : Int)) := by omega
      have hb2d : decide ((143 : Int) < (x1.toNat : Int)) = false := decide_eq_false hb2z
      have hr : utf8_FullRuneInString.N 2 68 x1.toNat x2.toNat = false := by unfold utf8_FullRuneInString.N; simp only [Lib.accLo, Lib.accHi, Nat.reduceMod, Nat.reduceDiv, Nat.reduceEqDiff, if_true, if_false, Nat.reduceLeDiff, Nat.reduceLT, decide_true, decide_false]; simp; omega
      rw [hr] at h
      subst h
      clear hT hX
      go_enter Tryd.func59, Tryd.ntmps59
      have hk0 : (w.alloc (Obj.cells #[Value.int .u8 128, Value.int .u8 143] 84)).cell? ⟨w.heap.size, 0, none⟩ = some (.int .u8 128) := bc0 (heap_alloc_new w (Obj.cells #[Value.int .u8 128, Value.int .u8 143] 84))
      have hk1 : (w.alloc (Obj.cells #[Value.int .u8 128, Value.int .u8 143] 84)).cell? ⟨w.heap.size, 1, none⟩ = some (.int .u8 143) := bc1 (heap_alloc_new w (Obj.cells #[Value.int .u8 128, Value.int .u8 143] 84))
      go_wp2
      refine start_ (n := 16) (S := fun w' => w'.cell? ⟨w.heap.size, 0, none⟩ = some (.int .u8 128) ∧ w'.cell? ⟨w.heap.size, 1, none⟩ = some (.int .u8 143)) (ds := []) utf8_FullRuneInString.q16_0 (by kernel_rfl) rfl rfl ⟨hk0, hk1⟩ (fun hHeld => ?_)
      refine utf8_FullRuneInString.pv 0 23 utf8_FullRuneInString.q16_1 ?_
      refine utf8_FullRuneInString.pv 1 24 utf8_FullRuneInString.q16_2 ?_
      refine utf8_FullRuneInString.pv 2 25 utf8_FullRuneInString.q16_3 ?_
      refine utf8_FullRuneInString.pv 3 26 utf8_FullRuneInString.q16_4 ?_
      refine utf8_FullRuneInString.pv 5 28 #[true, true, true, true, false, true, false, false, false, false, false, false, false, false, false, false] ?_
      refine utf8_FullRuneInString.tv hHeld 4 27 utf8_FullRuneInString.q16_6 ?_
      refine utf8_FullRuneInString.tv hHeld 6 29 utf8_FullRuneInString.q16_7 ?_
      refine utf8_FullRuneInString.pv 7 30 utf8_FullRuneInString.q16_8 ?_
      refine utf8_FullRuneInString.pv 8 31 utf8_FullRuneInString.q16_9 ?_
      refine utf8_FullRuneInString.pv 9 32 utf8_FullRuneInString.q16_10 ?_
      refine utf8_FullRuneInString.pv 11 34 #[true, true, true, true, true, true, true, true, true, true, false, true, false, false, false, false] ?_
      refine utf8_FullRuneInString.tv hHeld 10 33 utf8_FullRuneInString.q16_12 ?_
      refine utf8_FullRuneInString.tv hHeld 12 35 utf8_FullRuneInString.q16_13 ?_
      refine utf8_FullRuneInString.pv 13 36 utf8_FullRuneInString.q16_14 ?_
      refine utf8_FullRuneInString.pv 14 37 utf8_FullRuneInString.q16_15 ?_
      refine utf8_FullRuneInString.pv 15 38 utf8_FullRuneInString.q16_16 ?_
      refine done_ (by kernel_rfl) ?_
      go_wp2
      go_ret
      exact ⟨rfl, ((Below.refl _ _).alloc (Nat.le_refl _) _).drew⟩
    have hn3 : s.size = 3 := by omega
    rw [hn3] at h
    have hsz : (s.size : Int) = 3 := by omega
    have hs1 : s[1]'(by omega) = x1 := by rw [← hx1]; exact (Utf8W.get!_of_lt s 1 (by omega)).symm
    have hs2 : s[2]'(by omega) = x2 := by rw [← hx2]; exact (Utf8W.get!_of_lt s 2 (by omega)).symm
    by_cases hb1 : x1.toNat < 128
    · skip
      have hr : utf8_FullRuneInString.N 3 68 x1.toNat x2.toNat = true := by unfold utf8_FullRuneInString.N; simp only [Lib.accLo, Lib.accHi, Nat.reduceMod, Nat.reduceDiv, Nat.reduceEqDiff, if_true, if_false, Nat.reduceLeDiff, Nat.reduceLT, decide_true, decide_false]; simp; omega
      rw [hr] at h
      subst h
      clear hT hX
      have hb1z : (x1.toNat : Int) < 128 := by omega
      have hb1d : decide ((x1.toNat : Int) < 128) = true := decide_eq_true hb1z
      go_enter Tryd.func59, Tryd.ntmps59
      have hk0 : (w.alloc (Obj.cells #[Value.int .u8 128, Value.int .u8 143] 84)).cell? ⟨w.heap.size, 0, none⟩ = some (.int .u8 128) := bc0 (heap_alloc_new w (Obj.cells #[Value.int .u8 128, Value.int .u8 143] 84))
      have hk1 : (w.alloc (Obj.cells #[Value.int .u8 128, Value.int .u8 143] 84)).cell? ⟨w.heap.size, 1, none⟩ = some (.int .u8 143) := bc1 (heap_alloc_new w (Obj.cells #[Value.int .u8 128, Value.int .u8 143] 84))
      go_wp2
      refine start_ (n := 16) (S := fun w' => w'.cell? ⟨w.heap.size, 0, none⟩ = some (.int .u8 128) ∧ w'.cell? ⟨w.heap.size, 1, none⟩ = some (.int .u8 143)) (ds := []) utf8_FullRuneInString.q16_0 (by kernel_rfl) rfl rfl ⟨hk0, hk1⟩ (fun hHeld => ?_)
      refine utf8_FullRuneInString.pv 0 23 utf8_FullRuneInString.q16_1 ?_
      refine utf8_FullRuneInString.pv 1 24 utf8_FullRuneInString.q16_2 ?_
      refine utf8_FullRuneInString.pv 2 25 utf8_FullRuneInString.q16_3 ?_
      refine utf8_FullRuneInString.pv 3 26 utf8_FullRuneInString.q16_4 ?_
      refine utf8_FullRuneInString.pv 5 28 #[true, true, true, true, false, true, false, false, false, false, false, false, false, false, false, false] ?_
      refine utf8_FullRuneInString.tv hHeld 4 27 utf8_FullRuneInString.q16_6 ?_
      refine utf8_FullRuneInString.tv hHeld 6 29 utf8_FullRuneInString.q16_7 ?_
      refine utf8_FullRuneInString.pv 7 30 utf8_FullRuneInString.q16_8 ?_
      refine utf8_FullRuneInString.pv 8 31 utf8_FullRuneInString.q16_9 ?_
      refine utf8_FullRuneInString.pu 9 32 utf8_FullRuneInString.q16_10 ?_
      refine utf8_FullRuneInString.pu 10 33 utf8_FullRuneInString.q16_11 ?_
      refine utf8_FullRuneInString.pu 11 34 utf8_FullRuneInString.q16_12 ?_
      refine utf8_FullRuneInString.pu 12 35 utf8_FullRuneInString.q16_13 ?_
      refine utf8_FullRuneInString.pu 13 36 utf8_FullRuneInString.q16_14 ?_
      refine utf8_FullRuneInString.pv 14 37 utf8_FullRuneInString.q16_15 ?_
      refine utf8_FullRuneInString.pv 15 38 utf8_FullRuneInString.q16_16 ?_
      refine done_ (by kernel_rfl) ?_
      go_wp2
      go_ret
      exact ⟨rfl, ((Below.refl _ _).alloc (Nat.le_refl _) _).drew⟩
    have hb1z : ¬ ((x1.toNat : Int) < 128) := by omega
    have hb1d : decide ((x1.toNat : Int) < 128) = false := decide_eq_false hb1z
    by_cases hb2 : 143 < x1.toNat
    · skip
      have hr : utf8_FullRuneInString.N 3 68 x1.toNat x2.toNat = true := by unfold utf8_FullRuneInString.N; simp only [Lib.accLo, Lib.accHi, Nat.reduceMod, Nat.reduceDiv, Nat.reduceEqDiff, if_true, if_false, Nat.reduceLeDiff, Nat.reduceLT, decide_true, decide_false]; simp; omega
      rw [hr] at h
      subst h
      clear hT hX
      have hb2z : (143 : Int) < (x1.toNat : Int) := by omega
      have hb2d : decide ((143 : Int) < (x1.toNat : Int)) = true := decide_eq_true hb2z
      go_enter Tryd.func59, Tryd.ntmps59
      have hk0 : (w.alloc (Obj.cells #[Value.int .u8 128, Value.int .u8 143] 84)).cell? ⟨w.heap.size, 0, none⟩ = some (.int .u8 128) := bc0 (heap_alloc_new w (Obj.cells #[Value.int .u8 128, Value.int .u8 143] 84))
      have hk1 : (w.alloc (Obj.cells #[Value.int .u8 128, Value.int .u8 143] 84)).cell? ⟨w.heap.size, 1, none⟩ = some (.int .u8 143) := bc1 (heap_alloc_new w (Obj.cells #[Value.int .u8 128, Value.int .u8 143] 84))
      go_wp2
      refine start_ (n := 16) (S := fun w' => w'.cell? ⟨w.heap.size, 0, none⟩ = some (.int .u8 128) ∧ w'.cell? ⟨w.heap.size, 1, none⟩ = some (.int .u8 143)) (ds := []) utf8_FullRuneInString.q16_0 (by kernel_rfl) rfl rfl ⟨hk0, hk1⟩ (fun hHeld => ?_)
      refine utf8_FullRuneInString.pv 0 23 utf8_FullRuneInString.q16_1 ?_
      refine utf8_FullRuneInString.pv 1 24 utf8_FullRuneInString.q16_2 ?_
      refine utf8_FullRuneInString.pv 2 25 utf8_FullRuneInString.q16_3 ?_
      refine utf8_FullRuneInString.pv 3 26 utf8_FullRuneInString.q16_4 ?_
      refine utf8_FullRuneInString.pv 5 28 #[true, true, true, true, false, true, false, false, false, false, false, false, false, false, false, false] ?_
      refine utf8_FullRuneInString.tv hHeld 4 27 utf8_FullRuneInString.q16_6 ?_
      refine utf8_FullRuneInString.tv hHeld 6 29 utf8_FullRuneInString.q16_7 ?_
      refine utf8_FullRuneInString.pv 7 30 utf8_FullRuneInString.q16_8 ?_
      refine utf8_FullRuneInString.pv 8 31 utf8_FullRuneInString.q16_9 ?_
      refine utf8_FullRuneInString.pv 9 32 utf8_FullRuneInString.q16_10 ?_
      refine utf8_FullRuneInString.pv 11 34 #[true, true, true, true, true, true, true, true, true, true, false, true, false, false, false, false] ?_
      refine utf8_FullRuneInString.tv hHeld 10 33 utf8_FullRuneInString.q16_12 ?_
      refine utf8_FullRuneInString.tv hHeld 12 35 utf8_FullRuneInString.q16_13 ?_
      refine utf8_FullRuneInString.pv 13 36 utf8_FullRuneInString.q16_14 ?_
      refine utf8_FullRuneInString.pv 14 37 utf8_FullRuneInString.q16_15 ?_
      refine utf8_FullRuneInString.pv 15 38 utf8_FullRuneInString.q16_16 ?_
      refine done_ (by kernel_rfl) ?_
      go_wp2
      go_ret
      exact ⟨rfl, ((Below.refl _ _).alloc (Nat.le_refl _) _).drew⟩
    have hb2z : ¬ ((143 : Int) < (x1.toNat : Int)) := by omega
    have hb2d : decide ((143 : Int) < (x1.toNat : Int)) = false := decide_eq_false hb2z
    by_cases hb3 : x2.toNat < 128
    · skip
      have hr : utf8_FullRuneInString.N 3 68 x1.toNat x2.toNat = true := by unfold utf8_FullRuneInString.N; simp only [Lib.accLo, Lib.accHi, Nat.reduceMod, Nat.reduceDiv, Nat.reduceEqDiff, if_true, if_false, Nat.reduceLeDiff, Nat.reduceLT, decide_true, decide_false]; simp; omega
      rw [hr] at h
      subst h
      clear hT hX
      have hb3z : (x2.toNat : Int) < 128 := by omega
      go_enter Tryd.func59, Tryd.ntmps59
      have hk0 : (w.alloc (Obj.cells #[Value.int .u8 128, Value.int .u8 143] 84)).cell? ⟨w.heap.size, 0, none⟩ = some (.int .u8 128) := bc0 (heap_alloc_new w (Obj.cells #[Value.int .u8 128, Value.int .u8 143] 84))
      have hk1 : (w.alloc (Obj.cells #[Value.int .u8 128, Value.int .u8 143] 84)).cell? ⟨w.heap.size, 1, none⟩ = some (.int .u8 143) := bc1 (heap_alloc_new w (Obj.cells #[Value.int .u8 128, Value.int .u8 143] 84))
      go_wp2
      refine start_ (n := 16) (S := fun w' => w'.cell? ⟨w.heap.size, 0, none⟩ = some (.int .u8 128) ∧ w'.cell? ⟨w.heap.size, 1, none⟩ = some (.int .u8 143)) (ds := []) utf8_FullRuneInString.q16_0 (by kernel_rfl) rfl rfl ⟨hk0, hk1⟩ (fun hHeld => ?_)
      refine utf8_FullRuneInString.pv 0 23 utf8_FullRuneInString.q16_1 ?_
      refine utf8_FullRuneInString.pv 1 24 utf8_FullRuneInString.q16_2 ?_
      refine utf8_FullRuneInString.pv 2 25 utf8_FullRuneInString.q16_3 ?_
      refine utf8_FullRuneInString.pv 3 26 utf8_FullRuneInString.q16_4 ?_
      refine utf8_FullRuneInString.pv 5 28 #[true, true, true, true, false, true, false, false, false, false, false, false, false, false, false, false] ?_
      refine utf8_FullRuneInString.tv hHeld 4 27 utf8_FullRuneInString.q16_6 ?_
      refine utf8_FullRuneInString.tv hHeld 6 29 utf8_FullRuneInString.q16_7 ?_
      refine utf8_FullRuneInString.pv 7 30 utf8_FullRuneInString.q16_8 ?_
      refine utf8_FullRuneInString.pv 8 31 utf8_FullRuneInString.q16_9 ?_
      refine utf8_FullRuneInString.pv 9 32 utf8_FullRuneInString.q16_10 ?_
      refine utf8_FullRuneInString.pv 11 34 #[true, true, true, true, true, true, true, true, true, true, false, true, false, false, false, false] ?_
      refine utf8_FullRuneInString.tv hHeld 10 33 utf8_FullRuneInString.q16_12 ?_
      refine utf8_FullRuneInString.tv hHeld 12 35 utf8_FullRuneInString.q16_13 ?_
      refine utf8_FullRuneInString.pv 13 36 utf8_FullRuneInString.q16_14 ?_
      refine utf8_FullRuneInString.pv 14 37 utf8_FullRuneInString.q16_15 ?_
      refine utf8_FullRuneInString.pv 15 38 utf8_FullRuneInString.q16_16 ?_
      refine done_ (by kernel_rfl) ?_
      go_wp2
      go_ret
      exact ⟨rfl, ((Below.refl _ _).alloc (Nat.le_refl _) _).drew⟩
    have hb3z : ¬ ((x2.toNat : Int) < 128) := by omega
    by_cases hb4 : 191 < x2.toNat
    · skip
      have hr : utf8_FullRuneInString.N 3 68 x1.toNat x2.toNat = true := by unfold utf8_FullRuneInString.N; simp only [Lib.accLo, Lib.accHi, Nat.reduceMod, Nat.reduceDiv, Nat.reduceEqDiff, if_true, if_false, Nat.reduceLeDiff, Nat.reduceLT, decide_true, decide_false]; simp; omega
      rw [hr] at h
      subst h
      clear hT hX
      have hb4z : (191 : Int) < (x2.toNat : Int) := by omega
      go_enter Tryd.func59, Tryd.ntmps59
      have hk0 : (w.alloc (Obj.cells #[Value.int .u8 128, Value.int .u8 143] 84)).cell? ⟨w.heap.size, 0, none⟩ = some (.int .u8 128) := bc0 (heap_alloc_new w (Obj.cells #[Value.int .u8 128, Value.int .u8 143] 84))
      have hk1 : (w.alloc (Obj.cells #[Value.int .u8 128, Value.int .u8 143] 84)).cell? ⟨w.heap.size, 1, none⟩ = some (.int .u8 143) := bc1 (heap_alloc_new w (Obj.cells #[Value.int .u8 128, Value.int .u8 143] 84))
      go_wp2
      refine start_ (n := 16) (S := fun w' => w'.cell? ⟨w.heap.size, 0, none⟩ = some (.int .u8 128) ∧ w'.cell? ⟨w.heap.size, 1, none⟩ = some (.int .u8 143)) (ds := []) utf8_FullRuneInString.q16_0 (by kernel_rfl) rfl rfl ⟨hk0, hk1⟩ (fun hHeld => ?_)
      refine utf8_FullRuneInString.pv 0 23 utf8_FullRuneInString.q16_1 ?_
      refine utf8_FullRuneInString.pv 1 24 utf8_FullRuneInString.q16_2 ?_
      refine utf8_FullRuneInString.pv 2 25 utf8_FullRuneInString.q16_3 ?_
      refine utf8_FullRuneInString.pv 3 26 utf8_FullRuneInString.q16_4 ?_
      refine utf8_FullRuneInString.pv 5 28 #[true, true, true, true, false, true, false, false, false, false, false, false, false, false, false, false] ?_
      refine utf8_FullRuneInString.tv hHeld 4 27 utf8_FullRuneInString.q16_6 ?_
      refine utf8_FullRuneInString.tv hHeld 6 29 utf8_FullRuneInString.q16_7 ?_
      refine utf8_FullRuneInString.pv 7 30 utf8_FullRuneInString.q16_8 ?_
      refine utf8_FullRuneInString.pv 8 31 utf8_FullRuneInString.q16_9 ?_
      refine utf8_FullRuneInString.pv 9 32 utf8_FullRuneInString.q16_10 ?_
      refine utf8_FullRuneInString.pv 11 34 #[true, true, true, true, true, true, true, true, true, true, false, true, false, false, false, false] ?_
      refine utf8_FullRuneInString.tv hHeld 10 33 utf8_FullRuneInString.q16_12 ?_
      refine utf8_FullRuneInString.tv hHeld 12 35 utf8_FullRuneInString.q16_13 ?_
      refine utf8_FullRuneInString.pv 13 36 utf8_FullRuneInString.q16_14 ?_
      refine utf8_FullRuneInString.pv 14 37 utf8_FullRuneInString.q16_15 ?_
      refine utf8_FullRuneInString.pv 15 38 utf8_FullRuneInString.q16_16 ?_
      refine done_ (by kernel_rfl) ?_
      go_wp2
      go_ret
      exact ⟨rfl, ((Below.refl _ _).alloc (Nat.le_refl _) _).drew⟩
    have hb4z : ¬ ((191 : Int) < (x2.toNat : Int)) := by omega
    have hr : utf8_FullRuneInString.N 3 68 x1.toNat x2.toNat = false := by unfold utf8_FullRuneInString.N; simp only [Lib.accLo, Lib.accHi, Nat.reduceMod, Nat.reduceDiv, Nat.reduceEqDiff, if_true, if_false, Nat.reduceLeDiff, Nat.reduceLT, decide_true, decide_false]; simp; omega
    rw [hr] at h
    subst h
    clear hT hX
    go_enter Tryd.func59, Tryd.ntmps59
    have hk0 : (w.alloc (Obj.cells #[Value.int .u8 128, Value.int .u8 143] 84)).cell? ⟨w.heap.size, 0, none⟩ = some (.int .u8 128) := bc0 (heap_alloc_new w (Obj.cells #[Value.int .u8 128, Value.int .u8 143] 84))
    have hk1 : (w.alloc (Obj.cells #[Value.int .u8 128, Value.int .u8 143] 84)).cell? ⟨w.heap.size, 1, none⟩ = some (.int .u8 143) := bc1 (heap_alloc_new w (Obj.cells #[Value.int .u8 128, Value.int .u8 143] 84))
    go_wp2
    refine start_ (n := 16) (S := fun w' => w'.cell? ⟨w.heap.size, 0, none⟩ = some (.int .u8 128) ∧ w'.cell? ⟨w.heap.size, 1, none⟩ = some (.int .u8 143)) (ds := []) utf8_FullRuneInString.q16_0 (by kernel_rfl) rfl rfl ⟨hk0, hk1⟩ (fun hHeld => ?_)
    refine utf8_FullRuneInString.pv 0 23 utf8_FullRuneInString.q16_1 ?_
    refine utf8_FullRuneInString.pv 1 24 utf8_FullRuneInString.q16_2 ?_
    refine utf8_FullRuneInString.pv 2 25 utf8_FullRuneInString.q16_3 ?_
    refine utf8_FullRuneInString.pv 3 26 utf8_FullRuneInString.q16_4 ?_
    refine utf8_FullRuneInString.pv 5 28 #[true, true, true, true, false, true, false, false, false, false, false, false, false, false, false, false] ?_
    refine utf8_FullRuneInString.tv hHeld 4 27 utf8_FullRuneInString.q16_6 ?_
    refine utf8_FullRuneInString.tv hHeld 6 29 utf8_FullRuneInString.q16_7 ?_
    refine utf8_FullRuneInString.pv 7 30 utf8_FullRuneInString.q16_8 ?_
    refine utf8_FullRuneInString.pv 8 31 utf8_FullRuneInString.q16_9 ?_
    refine utf8_FullRuneInString.pv 9 32 utf8_FullRuneInString.q16_10 ?_
    refine utf8_FullRuneInString.pv 11 34 #[true, true, true, true, true, true, true, true, true, true, false, true, false, false, false, false] ?_
    refine utf8_FullRuneInString.tv hHeld 10 33 utf8_FullRuneInString.q16_12 ?_
    refine utf8_FullRuneInString.tv hHeld 12 35 utf8_FullRuneInString.q16_13 ?_
    refine utf8_FullRuneInString.pv 13 36 utf8_FullRuneInString.q16_14 ?_
    refine utf8_FullRuneInString.pv 14 37 utf8_FullRuneInString.q16_15 ?_
    refine utf8_FullRuneInString.pv 15 38 utf8_FullRuneInString.q16_16 ?_
    refine done_ (by kernel_rfl) ?_
    go_wp2
    go_ret
    exact ⟨rfl, ((Below.refl _ _).alloc (Nat.le_refl _) _).drew⟩


end Go.Proofs.YtpmdecdomfoaoaaDoor.P
