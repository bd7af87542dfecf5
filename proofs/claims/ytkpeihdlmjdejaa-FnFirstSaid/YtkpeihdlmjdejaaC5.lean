import Derived.Test.YtkpeihdlmjdejaaCP0
import Derived.Test.YtkpeihdlmjdejaaC0
import Derived.Test.YtkpeihdlmjdejaaC4
namespace Go.Proofs.Ytkpeihdlmjdejaa.P
open Go.RowKit Go.Proofs.YtkpeihdlmjdejaaW.PrintWords Go.Proofs.YtkpeihdlmjdejaaW.PrintLast Go.Proofs.YtkpeihdlmjdejaaW.PrintMore
attribute [local go_sem] max2_int min2_int max_two min_two max_three min_three max_four min_four   -- for this text's walks alone
set_option linter.unusedVariables false
set_option linter.unusedSimpArgs false


def spec_l4Not.l0 : Nat → List Int → List Int → Int → Int → Option (List Int)
 | 0, _, _, _, _ => none
 | k + 1, x0, x3, x4, x5 => if x5 < (x0.length : Int) then (if 0 ≤ x5 then (if (rd x0 x5) > x4 then ((some (([x4, wrap64 ((rd x0 x5) - 1)] : List Int) : List Int)).bind fun y577 => (if x3.length + y577.length < 17592186044416 then (if 0 ≤ (wrap64 (x5 + 1)) then (if (wrap64 (x5 + 1)) < (x0.length : Int) then (spec_l4Not.l0 k x0 (x3 ++ y577) (wrap64 ((rd x0 (wrap64 (x5 + 1))) + 1)) (wrap64 (x5 + 2))) else (none)) else (none)) else (none))) else (if 0 ≤ (wrap64 (x5 + 1)) then (if (wrap64 (x5 + 1)) < (x0.length : Int) then (spec_l4Not.l0 k x0 x3 (wrap64 ((rd x0 (wrap64 (x5 + 1))) + 1)) (wrap64 (x5 + 2))) else (none)) else (none))) else (none)) else (if x4 ≤ 1114111 then ((some (([x4, 1114111] : List Int) : List Int)).bind fun y585 => (if x3.length + y585.length < 17592186044416 then (some (x3 ++ y585)) else (none))) else (some x3))
def spec_l4Not.f (k : Nat) (l0 : List Int) : Option (List Int) := spec_l4Not.l0 k l0 ([] : List Int) 0 0
theorem spec_l4Not.mono_l : ∀ k, (∀ y0 y1 y2 y3, LeO (spec_l4Not.l0 k y0 y1 y2 y3) (spec_l4Not.l0 (k + 1) y0 y1 y2 y3))
 | 0 => fun _ _ _ _ r h => by simp [spec_l4Not.l0] at h
 | k + 1 => by
  have ih0 := spec_l4Not.mono_l k
  ·intro y0 y1 y2 y3
   unfold spec_l4Not.l0
   repeat' first
   | (with_reducible exact ih0 _ _ _ _)
   | (with_reducible exact LeO.refl _)
   | (with_reducible exact LeO.none _)
   | (with_reducible refine LeO.ite ?_ ?_)
   | (with_reducible refine LeO.bind ?_ (fun _ => ?_))
   | exact ih0 _ _ _ _
   | exact LeO.none _
   | refine LeO.ite ?_ ?_
   | refine LeO.bind ?_ (fun _ => ?_)
theorem spec_l4Not.mono : ∀ a0 k, LeO (spec_l4Not.f k a0) (spec_l4Not.f (k + 1) a0) := by
 intro a0 k
 have ih0 := spec_l4Not.mono_l k
 unfold spec_l4Not.f
 repeat' first
   | (with_reducible exact ih0 _ _ _ _)
   | (with_reducible exact LeO.refl _)
   | (with_reducible exact LeO.none _)
   | (with_reducible refine LeO.ite ?_ ?_)
   | (with_reducible refine LeO.bind ?_ (fun _ => ?_))
   | exact ih0 _ _ _ _
   | exact LeO.none _
   | refine LeO.ite ?_ ?_
   | refine LeO.bind ?_ (fun _ => ?_)
set_option maxHeartbeats 8000000 in
set_option maxRecDepth 100000 in
theorem spec_l4Not.calls (k : Nat) (A0 : Option Addr) (c0 : Nat) (l0 : List Int) (r : List Int) (w : World) (hr0 : Kd.C (Kd.int .i64) w A0 l0.length l0) (hc0 : l0.length ≤ c0) (h : spec_l4Not.f k l0 = some r) :
  Calls Try.prog 163 #[.slice A0 l0.length c0] w fun e w' => ∃ v0_ : Value, e = .returned (v0_) ∧ Kd.R (Kd.int .i64) 3 w' w.heap.size (fun _ => True) v0_ r ∧ Below w.heap.size w w' := by
 have HR0 := Aside0.mk hr0
 have HC0 := Aside0.mk hc0
 clear hr0 hc0
 have HB := Aside0.mk (Below.refl w.heap.size w)
 have H : (spec_l4Not.l0 k l0 ([] : List Int) 0 0) = some r := h
 clear h
 have H' := Aside0.mk H
 clear H
 go_enter Try.func163, Try.ntmps163
 go_wp2
 go_loopg [3, 4, 5] k (fun kq v3 v4 v5 w' => ∃ (x3_1 : List Int) (x4_1 : Int) (x5_1 : Int), v4 = .int .i64 x4_1 ∧ v5 = .int .i64 x5_1 ∧ Aside0 (spec_l4Not.l0 kq l0 x3_1 x4_1 x5_1 = some r) ∧ Aside0 (kq ≤ k) ∧ Aside0 (Kd.R (Kd.int .i64) 3 w' w.heap.size (fun _ => True) v3 x3_1) ∧ Aside0 (Below w.heap.size w w'))
 case atStart => exact ⟨(([] : List Int)), (0), (0), (by first | rfl | (simp; done) | (simp [*]; done)), (by first | rfl | (simp; done) | (simp [*]; done)), H', ⟨Nat.le_refl _⟩, ⟨by first | exact Kd.R_nil _ _ _ _ _ | exact Kd.N_nil _ _ _ _ _ | exact Kd.V_nil _ _ _ _ _ | exact Kd.Q_nil _ _ _ _ _ | exact Kd.S_nil _ _ _ _ _⟩, ⟨HB.out⟩⟩
 case round =>
  clear H'
  try clear c1
  obtain ⟨x3_1, x4_1, x5_1, rfl, rfl, HA, HK1, HO_3, HB⟩ := hrel
  cases gk with
  | zero => exact absurd HA.out (by simp [spec_l4Not.l0])
  | succ k1 =>
   have H := HA.out
   clear HA
   simp only [spec_l4Not.l0] at H
   by_cases c2 : x5_1 < (l0.length : Int)
   ·rw [if_pos c2] at H
    have c2b0 : decide (x5_1 < (l0.length : Int)) = true := decide_eq_true c2
    clear c2
    by_cases c3 : 0 ≤ x5_1
    ·rw [if_pos c3] at H
     have c3b0 : decide (0 ≤ x5_1) = true := decide_eq_true c3
     clear c3
     by_cases c4 : (rd l0 x5_1) > x4_1
     ·rw [if_pos c4] at H
      have c4b0 : decide (x4_1 < (rd l0 x5_1)) = true := decide_eq_true c4
      clear c4
      obtain ⟨y577, hy577⟩ : ∃ y_ : List Int, y_ = (([x4_1, wrap64 ((rd l0 x5_1) - 1)] : List Int)) := ⟨_, rfl⟩
      replace H : (if x3_1.length + y577.length < 17592186044416 then (if 0 ≤ (wrap64 (x5_1 + 1)) then (if (wrap64 (x5_1 + 1)) < (l0.length : Int) then (spec_l4Not.l0 k1 l0 (x3_1 ++ y577) (wrap64 ((rd l0 (wrap64 (x5_1 + 1))) + 1)) (wrap64 (x5_1 + 2))) else (none)) else (none)) else (none)) = some r := by rw [hy577]; exact H
      have Ny577 := Aside0.mk hy577
      clear hy577
      by_cases c5 : x3_1.length + y577.length < 17592186044416
      ·rw [if_pos c5] at H
       have LMc5 := Aside0.mk c5
       clear c5
       obtain ⟨y580, hy580⟩ : ∃ y_ : List Int, y_ = (x3_1 ++ y577) := ⟨_, rfl⟩
       replace H : (if 0 ≤ (wrap64 (x5_1 + 1)) then (if (wrap64 (x5_1 + 1)) < (l0.length : Int) then (spec_l4Not.l0 k1 l0 y580 (wrap64 ((rd l0 (wrap64 (x5_1 + 1))) + 1)) (wrap64 (x5_1 + 2))) else (none)) else (none)) = some r := by rw [hy580]; exact H
       have Ny580 := Aside0.mk hy580
       clear hy580
       obtain ⟨ji6, hji6⟩ : ∃ j_ : Int, (wrap64 (x5_1 + 1)) = j_ := ⟨_, rfl⟩
       replace H : (if 0 ≤ (ji6) then (if (ji6) < (l0.length : Int) then (spec_l4Not.l0 k1 l0 y580 (wrap64 ((rd l0 (ji6)) + 1)) (wrap64 (x5_1 + 2))) else (none)) else (none)) = some r := by first | (rw [hji6] at H; exact H) | (simp only [hji6] at H ⊢; exact H)
       have hji6w : (IntKind.i64.wrap (x5_1 + 1)) = ji6 := (i64_w _).trans hji6
       by_cases c7 : 0 ≤ (ji6)
       ·rw [if_pos c7] at H
        have c7b0 : decide (0 ≤ (ji6)) = true := decide_eq_true c7
        clear c7
        by_cases c8 : (ji6) < (l0.length : Int)
        ·rw [if_pos c8] at H
         have c8b0 : decide ((ji6) < (l0.length : Int)) = true := decide_eq_true c8
         clear c8
         have H' := Aside0.mk H
         clear H
         have p575 : 0 ≤ (x5_1 : Int) := of_decide_eq_true (by assumption)
         have q575 : x5_1 < (l0.length : Int) := of_decide_eq_true (by assumption)
         obtain ⟨ad575, e575, hx575_0⟩ := Kd.at_int HR0.out x5_1 p575 q575
         cases e575
         replace hx575_0 := (HB.out.cell (World.block_lt_of_cell? w _ hx575_0)).trans hx575_0
         replace p575 := eq_true p575
         replace q575 := eq_true q575
         have p576 : 0 ≤ (x5_1 : Int) := of_decide_eq_true (by assumption)
         have q576 : x5_1 < (l0.length : Int) := of_decide_eq_true (by assumption)
         obtain ⟨ad576, e576, hx576_0⟩ := Kd.at_int HR0.out x5_1 p576 q576
         obtain rfl : ad575 = ad576 := (by injection e576)
         replace hx576_0 := (HB.out.cell (World.block_lt_of_cell? w _ hx576_0)).trans hx576_0
         replace p576 := eq_true p576
         replace q576 := eq_true q576
         go_wp2_with (first | ((with_reducible refine gate_dst (N := 25) rfl ?_); refine Kd.R_lit (Kd.int .i64) _ 3 ?hg (N := 25) ?hd (xs := ([x4_1, wrap64 ((rd l0 x5_1) - 1)] : List Int)) (inner := [.int .i64 x4_1, .int .i64 (wrap64 ((rd l0 x5_1) - 1))]) (ok := fun _ => True) (okp := fun _ => True) ?hr ?hp (fun _ hk => hk) trivial (Below.refl _ _) (Nat.le_refl _) (by simp) ?_; (case hd => rfl); (case hg => rfl); (case hr => go_simp <;> rfl); (case hp => exact (Reps.one (show Kd.M (Kd.int .i64) _ _ _ x4_1 [.int .i64 x4_1] from rfl) (Reps.one (show Kd.M (Kd.int .i64) _ _ _ (wrap64 ((rd l0 x5_1) - 1)) [.int .i64 (wrap64 ((rd l0 x5_1) - 1))] from rfl) (Reps.none _ _)))); intro v578 w9 ho10 hb hg_ hnew_; clear hg_ hnew_; (first | rw [← Ny577.out] at ho10 | (simp only [Int.reduceToNat] at ho10; rw [← Ny577.out] at ho10)); have n0_ := Aside0.mk (Kd.R_elder' HO_3.out (Kd.R_base ho10) hb); have n1_ := Aside0.mk (Kd.R_lower (Kd.R_new' ho10 (Kd.R_lt HO_3.out)) (below_size HB.out)); have n2_ := Aside0.mk (below_step HB.out hb); clear HO_3; clear HB; have HO_3 := n0_; have HO579 := n1_; have HB := n2_; clear n0_ n1_ n2_; clear hb ho10; obtain ⟨Ao12, co12, eo12⟩ := Kd.R_slice HO579.out; subst eo12) | ((with_reducible refine gate_builtin (b := .append) (xs := #[.tmp 18, .tmp 25]) rfl ?_); at_builtin; refine Kd.R_append_rows (Kd.int .i64) (w0 := w) w.heap.size rfl (.tmp 18) (.tmp 25) 23 3 (.int .i64 0) 8 rfl Try.underlying23 info3 rfl (by decide) (by omega) u3 x3_1 y577 _ _ _ (fun k_ => some k_ ≠ (.slice Ao12 y577.length co12 : Value).ownBlock) (fun _ => False) rfl rfl ?aO ?aR (fun _ _ h => h) (fun _ h => h.elim) ?aF ?aB ?aS ?aL ?_; (case aR => repeat (first | exact (Kd.R_reads' HO579.out).2.2 | (with_reducible refine Kd.C_alloc ?_ _) | (with_reducible refine Kd.C_drewN ?_ _) | (with_reducible refine Kd.C_drew ?_))); (case aB => exact HB.out); (case aF => exact (fun k_ hk => Kd.fresh' (Kd.R_lt HO579.out) k_ hk)); (case aO => exact (by (with_reducible repeat (first | apply Kd.R_alloc | apply Kd.R_drewN | apply Kd.R_drew)); exact Kd.R_mono HO_3.out (fun _ hk => hk.2))); (case aS => exact (below_size HB.out)); (case aL => have := LMc5.out; omega); intro v581 w11 ho hb hg hat; rw [← Ny580.out] at ho; have n0_ := Aside0.mk (Kd.R_after (ok := (fun _ => True)) HO579.out hg hat); have n1_ := Aside0.mk (hb); have n2_ := Aside0.mk (ho); clear HO579; clear HB; clear HO_3; have HO579 := n0_; have HB := n1_; have HO582 := n2_; clear n0_ n1_ n2_; clear ho hb hg hat; have p583 : 0 ≤ ((ji6) : Int) := of_decide_eq_true (by assumption); have q583 : (ji6) < (l0.length : Int) := of_decide_eq_true (by assumption); obtain ⟨ad583, e583, hx583_0⟩ := Kd.at_int HR0.out (ji6) p583 q583; obtain rfl : ad575 = ad583 := (by injection e583); replace hx583_0 := (HB.out.cell (World.block_lt_of_cell? w _ hx583_0)).trans hx583_0; replace p583 := eq_true p583; replace q583 := eq_true q583))
         go_roundg k1
         case measure => have := HK1.out; omega
         case rel => exact ⟨(y580), (wrap64 ((rd l0 (ji6)) + 1)), (wrap64 (x5_1 + 2)), (by first | rfl | (simp; done) | (simp only [← hji6] <;> (first | rfl | simp)) | (simp [*]; done)), (by first | rfl | (simp; done) | (simp [*]; done)), H', ⟨by have := HK1.out; omega⟩, ⟨by (with_reducible repeat (first | apply Kd.R_alloc | apply Kd.R_drewN | apply Kd.R_drew)); exact Kd.R_mono HO582.out (fun _ hk => trivial)⟩, ⟨HB.out⟩⟩
        ·rw [if_neg c8] at H
         exact absurd H (by simp)
       ·rw [if_neg c7] at H
        exact absurd H (by simp)
      ·rw [if_neg c5] at H
       exact absurd H (by simp)
     ·rw [if_neg c4] at H
      have c4b0 : decide (x4_1 < (rd l0 x5_1)) = false := decide_eq_false c4
      clear c4
      obtain ⟨ji13, hji13⟩ : ∃ j_ : Int, (wrap64 (x5_1 + 1)) = j_ := ⟨_, rfl⟩
      replace H : (if 0 ≤ (ji13) then (if (ji13) < (l0.length : Int) then (spec_l4Not.l0 k1 l0 x3_1 (wrap64 ((rd l0 (ji13)) + 1)) (wrap64 (x5_1 + 2))) else (none)) else (none)) = some r := by first | (rw [hji13] at H; exact H) | (simp only [hji13] at H ⊢; exact H)
      have hji13w : (IntKind.i64.wrap (x5_1 + 1)) = ji13 := (i64_w _).trans hji13
      by_cases c14 : 0 ≤ (ji13)
      ·rw [if_pos c14] at H
       have c14b0 : decide (0 ≤ (ji13)) = true := decide_eq_true c14
       clear c14
       by_cases c15 : (ji13) < (l0.length : Int)
       ·rw [if_pos c15] at H
        have c15b0 : decide ((ji13) < (l0.length : Int)) = true := decide_eq_true c15
        clear c15
        have H' := Aside0.mk H
        clear H
        have p575 : 0 ≤ (x5_1 : Int) := of_decide_eq_true (by assumption)
        have q575 : x5_1 < (l0.length : Int) := of_decide_eq_true (by assumption)
        obtain ⟨ad575, e575, hx575_0⟩ := Kd.at_int HR0.out x5_1 p575 q575
        cases e575
        replace hx575_0 := (HB.out.cell (World.block_lt_of_cell? w _ hx575_0)).trans hx575_0
        replace p575 := eq_true p575
        replace q575 := eq_true q575
        have p584 : 0 ≤ ((ji13) : Int) := of_decide_eq_true (by assumption)
        have q584 : (ji13) < (l0.length : Int) := of_decide_eq_true (by assumption)
        obtain ⟨ad584, e584, hx584_0⟩ := Kd.at_int HR0.out (ji13) p584 q584
        obtain rfl : ad575 = ad584 := (by injection e584)
        replace hx584_0 := (HB.out.cell (World.block_lt_of_cell? w _ hx584_0)).trans hx584_0
        replace p584 := eq_true p584
        replace q584 := eq_true q584
        go_wp2
        go_roundg k1
        case measure => have := HK1.out; omega
        case rel => exact ⟨(x3_1), (wrap64 ((rd l0 (ji13)) + 1)), (wrap64 (x5_1 + 2)), (by first | rfl | (simp; done) | (simp only [← hji13] <;> (first | rfl | simp)) | (simp [*]; done)), (by first | rfl | (simp; done) | (simp [*]; done)), H', ⟨by have := HK1.out; omega⟩, ⟨HO_3.out⟩, ⟨HB.out⟩⟩
       ·rw [if_neg c15] at H
        exact absurd H (by simp)
      ·rw [if_neg c14] at H
       exact absurd H (by simp)
    ·rw [if_neg c3] at H
     exact absurd H (by simp)
   ·rw [if_neg c2] at H
    have c2b0 : decide (x5_1 < (l0.length : Int)) = false := decide_eq_false c2
    clear c2
    by_cases c16 : x4_1 ≤ 1114111
    ·rw [if_pos c16] at H
     have c16b0 : decide (x4_1 ≤ 1114111) = true := decide_eq_true c16
     clear c16
     obtain ⟨y585, hy585⟩ : ∃ y_ : List Int, y_ = (([x4_1, 1114111] : List Int)) := ⟨_, rfl⟩
     replace H : (if x3_1.length + y585.length < 17592186044416 then (some (x3_1 ++ y585)) else (none)) = some r := by rw [hy585]; exact H
     have Ny585 := Aside0.mk hy585
     clear hy585
     by_cases c17 : x3_1.length + y585.length < 17592186044416
     ·rw [if_pos c17] at H
      have LMc17 := Aside0.mk c17
      clear c17
      obtain ⟨y588, hy588⟩ : ∃ y_ : List Int, y_ = (x3_1 ++ y585) := ⟨_, rfl⟩
      replace H : (some y588) = some r := by rw [hy588]; exact H
      have Ny588 := Aside0.mk hy588
      clear hy588
      obtain rfl := Option.some.inj H
      go_wp2_with (first | ((with_reducible refine gate_dst (N := 37) rfl ?_); refine Kd.R_lit (Kd.int .i64) _ 3 ?hg (N := 37) ?hd (xs := ([x4_1, 1114111] : List Int)) (inner := [.int .i64 x4_1, .int .i64 1114111]) (ok := fun _ => True) (okp := fun _ => True) ?hr ?hp (fun _ hk => hk) trivial (Below.refl _ _) (Nat.le_refl _) (by simp) ?_; (case hd => rfl); (case hg => rfl); (case hr => go_simp <;> rfl); (case hp => exact (Reps.one (show Kd.M (Kd.int .i64) _ _ _ x4_1 [.int .i64 x4_1] from rfl) (Reps.one (show Kd.M (Kd.int .i64) _ _ _ 1114111 [.int .i64 1114111] from rfl) (Reps.none _ _)))); intro v586 w18 ho19 hb hg_ hnew_; clear hg_ hnew_; (first | rw [← Ny585.out] at ho19 | (simp only [Int.reduceToNat] at ho19; rw [← Ny585.out] at ho19)); have n0_ := Aside0.mk (Kd.R_elder' HO_3.out (Kd.R_base ho19) hb); have n1_ := Aside0.mk (Kd.R_lower (Kd.R_new' ho19 (Kd.R_lt HO_3.out)) (below_size HB.out)); have n2_ := Aside0.mk (below_step HB.out hb); clear HO_3; clear HB; have HO_3 := n0_; have HO587 := n1_; have HB := n2_; clear n0_ n1_ n2_; clear hb ho19; obtain ⟨Ao21, co21, eo21⟩ := Kd.R_slice HO587.out; subst eo21) | ((with_reducible refine gate_builtin (b := .append) (xs := #[.tmp 35, .tmp 37]) rfl ?_); at_builtin; refine Kd.R_append_rows (Kd.int .i64) (w0 := w) w.heap.size rfl (.tmp 35) (.tmp 37) 23 3 (.int .i64 0) 8 rfl Try.underlying23 info3 rfl (by decide) (by omega) u3 x3_1 y585 _ _ _ (fun k_ => some k_ ≠ (.slice Ao21 y585.length co21 : Value).ownBlock) (fun _ => False) rfl rfl ?aO ?aR (fun _ _ h => h) (fun _ h => h.elim) ?aF ?aB ?aS ?aL ?_; (case aR => repeat (first | exact (Kd.R_reads' HO587.out).2.2 | (with_reducible refine Kd.C_alloc ?_ _) | (with_reducible refine Kd.C_drewN ?_ _) | (with_reducible refine Kd.C_drew ?_))); (case aB => exact HB.out); (case aF => exact (fun k_ hk => Kd.fresh' (Kd.R_lt HO587.out) k_ hk)); (case aO => exact (by (with_reducible repeat (first | apply Kd.R_alloc | apply Kd.R_drewN | apply Kd.R_drew)); exact Kd.R_mono HO_3.out (fun _ hk => hk.2))); (case aS => exact (below_size HB.out)); (case aL => have := LMc17.out; omega); intro v589 w20 ho hb hg hat; rw [← Ny588.out] at ho; have n0_ := Aside0.mk (Kd.R_after (ok := (fun _ => True)) HO587.out hg hat); have n1_ := Aside0.mk (hb); have n2_ := Aside0.mk (ho); clear HO587; clear HB; clear HO_3; have HO587 := n0_; have HB := n1_; have HO590 := n2_; clear n0_ n1_ n2_; clear ho hb hg hat))
      go_ret
      exact ⟨_, by first | rfl | (simp [errW_none, errW_some] <;> rfl) | (simp [*, errW_none, errW_some] <;> rfl), by (with_reducible repeat (first | apply Kd.R_alloc | apply Kd.R_drewN | apply Kd.R_drew)); exact Kd.R_mono HO590.out (fun _ hk => trivial), HB.out⟩
     ·rw [if_neg c17] at H
      exact absurd H (by simp)
    ·rw [if_neg c16] at H
     have c16b0 : decide (x4_1 ≤ 1114111) = false := decide_eq_false c16
     clear c16
     obtain rfl := Option.some.inj H
     go_wp2
     go_ret
     exact ⟨_, by first | rfl | (simp [errW_none, errW_some] <;> rfl) | (simp [*, errW_none, errW_some] <;> rfl), by (with_reducible repeat (first | apply Kd.R_alloc | apply Kd.R_drewN | apply Kd.R_drew)); exact HO_3.out, HB.out⟩

mutual
def spec_l1Cur_set.l0 : Nat → List Int → Int → List Int → Int → Int → Option (List Int × Int × Int)
 | 0, _, _, _, _, _ => none
 | k + 1, x3, x4, x1000, x1001, x1002 => if x4 > 0 then ((spec_l1Cur_among.f x1000 x1001 x1002 (([0, 48, 65, 70, 90, 97, 98, 110, 122, 200, 12354, 1114111] : List Int))).bind fun bt597 => ((spec_l1Cur_among.f x1000 bt597.2.1 bt597.2.2 (([0, 0, 1, 2, 9, 25, 300] : List Int))).bind fun bt603 => ((spec_l1Least.f 1114111 (wrap64 (bt597.1 + bt603.1))).bind fun t606 => ((spec_l4Add.f k x3 bt597.1 t606).bind fun t607 => (spec_l1Cur_set.l0 k t607 (wrap64 (x4 - 1)) x1000 bt603.2.1 bt603.2.2))))) else ((spec_l1Cur_one.f x1000 x1001 x1002 12).bind fun bt610 => (if bt610.1 = true then ((spec_l4Not.f k x3).bind fun t613 => (spec_l1Cur_set.j1 k t613 x1000 bt610.2.1 bt610.2.2)) else (spec_l1Cur_set.j1 k x3 x1000 bt610.2.1 bt610.2.2)))
def spec_l1Cur_set.j1 : Nat → List Int → List Int → Int → Int → Option (List Int × Int × Int)
 | 0, _, _, _, _ => none
 | k + 1, x3, x1000, x1001, x1002 => if (x3.length : Int) > 0 then ((spec_l1Cur_one.f x1000 x1001 x1002 30).bind fun bt616 => (if bt616.1 = true then ((spec_l1Cur_among.f x1000 bt616.2.1 bt616.2.2 (([(-1), 1114112, 64] : List Int))).bind fun bt622 => (if 0 < (x3.length : Int) then (some ((x3.set (0 : Int).toNat bt622.1), bt622.2.1, bt622.2.2)) else (none))) else (some (x3, bt616.2.1, bt616.2.2)))) else (some (x3, x1001, x1002))
end
def spec_l1Cur_set.f (k : Nat) (s0_0 : List Int) (s0_1 : Int) (s0_2 : Int) : Option (List Int × Int × Int) := (spec_l1Cur_pick.f s0_0 s0_1 s0_2 4).bind fun bt591 => (spec_l1Cur_set.l0 k ([] : List Int) bt591.1 s0_0 bt591.2.1 bt591.2.2)
theorem spec_l1Cur_set.mono_l : ∀ k, (∀ y0 y1 y2 y3 y4, LeO (spec_l1Cur_set.l0 k y0 y1 y2 y3 y4) (spec_l1Cur_set.l0 (k + 1) y0 y1 y2 y3 y4)) ∧ (∀ y0 y1 y2 y3, LeO (spec_l1Cur_set.j1 k y0 y1 y2 y3) (spec_l1Cur_set.j1 (k + 1) y0 y1 y2 y3))
 | 0 => ⟨fun _ _ _ _ _ r h => by simp [spec_l1Cur_set.l0] at h, fun _ _ _ _ r h => by simp [spec_l1Cur_set.j1] at h⟩
 | k + 1 => by
  obtain ⟨ih0, ih1⟩ := spec_l1Cur_set.mono_l k
  refine ⟨?_, ?_⟩
  ·intro y0 y1 y2 y3 y4
   unfold spec_l1Cur_set.l0
   repeat' first
   | (with_reducible exact ih0 _ _ _ _ _)
   | (with_reducible exact ih1 _ _ _ _)
   | (with_reducible exact spec_l4Add.mono _ _ _ _)
   | (with_reducible exact spec_l4Not.mono _ _)
   | (with_reducible exact LeO.refl _)
   | (with_reducible exact LeO.none _)
   | (with_reducible refine LeO.ite ?_ ?_)
   | (with_reducible refine LeO.bind ?_ (fun _ => ?_))
   | exact ih0 _ _ _ _ _
   | exact ih1 _ _ _ _
   | exact spec_l4Add.mono _ _ _ _
   | exact spec_l4Not.mono _ _
   | exact LeO.none _
   | refine LeO.ite ?_ ?_
   | refine LeO.bind ?_ (fun _ => ?_)
  ·intro y0 y1 y2 y3
   unfold spec_l1Cur_set.j1
   repeat' first
   | (with_reducible exact ih0 _ _ _ _ _)
   | (with_reducible exact ih1 _ _ _ _)
   | (with_reducible exact spec_l4Add.mono _ _ _ _)
   | (with_reducible exact spec_l4Not.mono _ _)
   | (with_reducible exact LeO.refl _)
   | (with_reducible exact LeO.none _)
   | (with_reducible refine LeO.ite ?_ ?_)
   | (with_reducible refine LeO.bind ?_ (fun _ => ?_))
   | exact ih0 _ _ _ _ _
   | exact ih1 _ _ _ _
   | exact spec_l4Add.mono _ _ _ _
   | exact spec_l4Not.mono _ _
   | exact LeO.none _
   | refine LeO.ite ?_ ?_
   | refine LeO.bind ?_ (fun _ => ?_)
theorem spec_l1Cur_set.mono : ∀ a0 a1 a2 k, LeO (spec_l1Cur_set.f k a0 a1 a2) (spec_l1Cur_set.f (k + 1) a0 a1 a2) := by
 intro a0 a1 a2 k
 obtain ⟨ih0, ih1⟩ := spec_l1Cur_set.mono_l k
 unfold spec_l1Cur_set.f
 repeat' first
   | (with_reducible exact ih0 _ _ _ _ _)
   | (with_reducible exact ih1 _ _ _ _)
   | (with_reducible exact spec_l4Add.mono _ _ _ _)
   | (with_reducible exact spec_l4Not.mono _ _)
   | (with_reducible exact LeO.refl _)
   | (with_reducible exact LeO.none _)
   | (with_reducible refine LeO.ite ?_ ?_)
   | (with_reducible refine LeO.bind ?_ (fun _ => ?_))
   | exact ih0 _ _ _ _ _
   | exact ih1 _ _ _ _
   | exact spec_l4Add.mono _ _ _ _
   | exact spec_l4Not.mono _ _
   | exact LeO.none _
   | refine LeO.ite ?_ ?_
   | refine LeO.bind ?_ (fun _ => ?_)
set_option maxHeartbeats 8000000 in
set_option maxRecDepth 100000 in
theorem spec_l1Cur_set.calls (k : Nat) (g : Nat) (s0_0 : List Int) (s0_1 : Int) (s0_2 : Int) (r1 : List Int) (r2 : Int) (r3 : Int) (w0 w : World) (hI : IsS104 w0 w g s0_0 s0_1 s0_2) (hB : Below w0.heap.size w0 w) (h : spec_l1Cur_set.f k s0_0 s0_1 s0_2 = some (r1, r2, r3)) :
  Calls Try.prog 123 #[.pointer (some ⟨g, 0, none⟩)] w fun e w' => ∃ v0_ : Value, e = .returned (v0_) ∧ Kd.R (Kd.int .i64) 3 w' w.heap.size (fun _ => True) v0_ r1 ∧ IsS104 w0 w' g s0_0 r2 r3 ∧ Below w0.heap.size w0 w' ∧ KeepBut w w' g none := by
 have HI0 := Aside0.mk hI
 have HK := Aside0.mk (KeepBut.refl w g none)
 have HL := Aside0.mk hB.size
 clear hI
 have HW0 := Aside0.mk hB.size
 have HB := Aside0.mk hB
 clear hB
 have H : ((spec_l1Cur_pick.f s0_0 s0_1 s0_2 4).bind fun bt591 => (spec_l1Cur_set.l0 k ([] : List Int) bt591.1 s0_0 bt591.2.1 bt591.2.2)) = some (r1, r2, r3) := h
 clear h
 replace H := Option.bind_eq_some_iff.mp H
 obtain ⟨⟨t591, t592, t593⟩, A20, H⟩ := H
 replace H : (spec_l1Cur_set.l0 k ([] : List Int) t591 s0_0 t592 t593) = some (r1, r2, r3) := H
 have A2 := Aside0.mk A20
 clear A20
 have H' := Aside0.mk H
 clear H
 go_enter Try.func123, Try.ntmps123
 go_wp2_with (first | ((with_reducible refine gate_callee (f := 78) rfl ?_); refine goesL_ (some 7) rfl rfl Try.func78 (by kernel_rfl) rfl #[.pointer (some ⟨g, 0, none⟩), .int .i64 4] rfl (by simp only [List.map_toArray, List.map_cons, List.map_nil] <;> rfl) ?_; (with_reducible refine (spec_l1Cur_pick.calls g s0_0 s0_1 s0_2 4 t591 t592 t593 w0 _ ?side1 ?side2 A2.out).mono ?_); (case side1 => exact HI0.out); (case side2 => exact HB.out); rintro e w3 ⟨rfl, hi, hb, hk⟩; refine ⟨_, rfl, ?_⟩; have n0_ := Aside0.mk (KeepBut.trans HK.out hk (.inl rfl)); have n1_ := Aside0.mk (hb); have n2_ := Aside0.mk (hi); clear HK; clear HB; clear HI0; have HK := n0_; have HB := n1_; have HI0 := n2_; clear n0_ n1_ n2_))
 go_loopg [3, 4] k (fun kq v3 v4 w' => ∃ (x3_1 : List Int) (x4_1 : Int) (x1001_1 : Int) (x1002_1 : Int), v4 = .int .i64 x4_1 ∧ Aside0 (spec_l1Cur_set.l0 kq x3_1 x4_1 s0_0 x1001_1 x1002_1 = some (r1, r2, r3)) ∧ Aside0 (kq ≤ k) ∧ Aside0 (Kd.R (Kd.int .i64) 3 w' w.heap.size (fun _ => True) v3 x3_1) ∧ Aside0 (IsS104 w0 w' g s0_0 x1001_1 x1002_1) ∧ Aside0 (KeepBut w w' g none) ∧ Aside0 (Below w0.heap.size w0 w'))
 case atStart => exact ⟨(([] : List Int)), (t591), (t592), (t593), (by first | rfl | (simp; done) | (simp [*]; done)), H', ⟨Nat.le_refl _⟩, ⟨by first | exact Kd.R_nil _ _ _ _ _ | exact Kd.N_nil _ _ _ _ _ | exact Kd.V_nil _ _ _ _ _ | exact Kd.Q_nil _ _ _ _ _ | exact Kd.S_nil _ _ _ _ _⟩, ⟨HI0.out⟩, ⟨HK.out⟩, ⟨HB.out⟩⟩
 case round =>
  clear H'
  try clear c1
  try clear p2
  obtain ⟨x3_1, x4_1, x1001_1, x1002_1, rfl, HA, HK1, HO_3, HI0, HK, HB⟩ := hrel
  cases gk with
  | zero => exact absurd HA.out (by simp [spec_l1Cur_set.l0])
  | succ k1 =>
   have H := HA.out
   clear HA
   simp only [spec_l1Cur_set.l0] at H
   by_cases c4 : x4_1 > 0
   ·rw [if_pos c4] at H
    have c4b0 : decide (0 < x4_1) = true := decide_eq_true c4
    clear c4
    obtain ⟨y594, hy594⟩ : ∃ y_ : List Int, y_ = (([0, 48, 65, 70, 90, 97, 98, 110, 122, 200, 12354, 1114111] : List Int)) := ⟨_, rfl⟩
    replace H : ((spec_l1Cur_among.f s0_0 x1001_1 x1002_1 y594).bind fun bt597 => ((spec_l1Cur_among.f s0_0 bt597.2.1 bt597.2.2 (([0, 0, 1, 2, 9, 25, 300] : List Int))).bind fun bt603 => ((spec_l1Least.f 1114111 (wrap64 (bt597.1 + bt603.1))).bind fun t606 => ((spec_l4Add.f k1 x3_1 bt597.1 t606).bind fun t607 => (spec_l1Cur_set.l0 k1 t607 (wrap64 (x4_1 - 1)) s0_0 bt603.2.1 bt603.2.2))))) = some (r1, r2, r3) := by rw [hy594]; exact H
    have Ny594 := Aside0.mk hy594
    clear hy594
    replace H := Option.bind_eq_some_iff.mp H
    obtain ⟨⟨t597, t598, t599⟩, A50, H⟩ := H
    replace H : ((spec_l1Cur_among.f s0_0 t598 t599 (([0, 0, 1, 2, 9, 25, 300] : List Int))).bind fun bt603 => ((spec_l1Least.f 1114111 (wrap64 (t597 + bt603.1))).bind fun t606 => ((spec_l4Add.f k1 x3_1 t597 t606).bind fun t607 => (spec_l1Cur_set.l0 k1 t607 (wrap64 (x4_1 - 1)) s0_0 bt603.2.1 bt603.2.2)))) = some (r1, r2, r3) := H
    have A5 := Aside0.mk A50
    clear A50
    obtain ⟨y600, hy600⟩ : ∃ y_ : List Int, y_ = (([0, 0, 1, 2, 9, 25, 300] : List Int)) := ⟨_, rfl⟩
    replace H : ((spec_l1Cur_among.f s0_0 t598 t599 y600).bind fun bt603 => ((spec_l1Least.f 1114111 (wrap64 (t597 + bt603.1))).bind fun t606 => ((spec_l4Add.f k1 x3_1 t597 t606).bind fun t607 => (spec_l1Cur_set.l0 k1 t607 (wrap64 (x4_1 - 1)) s0_0 bt603.2.1 bt603.2.2)))) = some (r1, r2, r3) := by rw [hy600]; exact H
    have Ny600 := Aside0.mk hy600
    clear hy600
    replace H := Option.bind_eq_some_iff.mp H
    obtain ⟨⟨t603, t604, t605⟩, A60, H⟩ := H
    replace H : ((spec_l1Least.f 1114111 (wrap64 (t597 + t603))).bind fun t606 => ((spec_l4Add.f k1 x3_1 t597 t606).bind fun t607 => (spec_l1Cur_set.l0 k1 t607 (wrap64 (x4_1 - 1)) s0_0 t604 t605))) = some (r1, r2, r3) := H
    have A6 := Aside0.mk A60
    clear A60
    replace H := Option.bind_eq_some_iff.mp H
    obtain ⟨t606, A70, H⟩ := H
    replace H : ((spec_l4Add.f k1 x3_1 t597 t606).bind fun t607 => (spec_l1Cur_set.l0 k1 t607 (wrap64 (x4_1 - 1)) s0_0 t604 t605)) = some (r1, r2, r3) := H
    have A7 := Aside0.mk A70
    clear A70
    replace H := Option.bind_eq_some_iff.mp H
    obtain ⟨t607, A80, H⟩ := H
    replace H : (spec_l1Cur_set.l0 k1 t607 (wrap64 (x4_1 - 1)) s0_0 t604 t605) = some (r1, r2, r3) := H
    have A8 := Aside0.mk A80
    clear A80
    have H' := Aside0.mk H
    clear H
    go_wp2_with (first | ((with_reducible refine gate_dst (N := 13) rfl ?_); refine Kd.R_lit (Kd.int .i64) _ 3 ?hg (N := 13) ?hd (xs := ([0, 48, 65, 70, 90, 97, 98, 110, 122, 200, 12354, 1114111] : List Int)) (inner := [.int .i64 0, .int .i64 48, .int .i64 65, .int .i64 70, .int .i64 90, .int .i64 97, .int .i64 98, .int .i64 110, .int .i64 122, .int .i64 200, .int .i64 12354, .int .i64 1114111]) (ok := fun _ => True) (okp := fun _ => True) ?hr ?hp (fun _ hk => hk) trivial (Below.refl _ _) (Nat.le_refl _) (by simp) ?_; (case hd => rfl); (case hg => rfl); (case hr => first | (go_simp; done) | (go_simp; rfl)); (case hp => exact (Reps.one (show Kd.M (Kd.int .i64) _ _ _ 0 [.int .i64 0] from rfl) (Reps.one (show Kd.M (Kd.int .i64) _ _ _ 48 [.int .i64 48] from rfl) (Reps.one (show Kd.M (Kd.int .i64) _ _ _ 65 [.int .i64 65] from rfl) (Reps.one (show Kd.M (Kd.int .i64) _ _ _ 70 [.int .i64 70] from rfl) (Reps.one (show Kd.M (Kd.int .i64) _ _ _ 90 [.int .i64 90] from rfl) (Reps.one (show Kd.M (Kd.int .i64) _ _ _ 97 [.int .i64 97] from rfl) (Reps.one (show Kd.M (Kd.int .i64) _ _ _ 98 [.int .i64 98] from rfl) (Reps.one (show Kd.M (Kd.int .i64) _ _ _ 110 [.int .i64 110] from rfl) (Reps.one (show Kd.M (Kd.int .i64) _ _ _ 122 [.int .i64 122] from rfl) (Reps.one (show Kd.M (Kd.int .i64) _ _ _ 200 [.int .i64 200] from rfl) (Reps.one (show Kd.M (Kd.int .i64) _ _ _ 12354 [.int .i64 12354] from rfl) (Reps.one (show Kd.M (Kd.int .i64) _ _ _ 1114111 [.int .i64 1114111] from rfl) (Reps.none _ _)))))))))))))); intro v595 w9 ho10 hb hg_ hnew_; clear hg_ hnew_; (first | rw [← Ny594.out] at ho10 | (simp only [Int.reduceToNat] at ho10; rw [← Ny594.out] at ho10)); have n0_ := Aside0.mk (Kd.R_elder' (by (with_reducible repeat (first | apply Kd.R_alloc | apply Kd.R_drewN | apply Kd.R_drew)); exact HO_3.out) (Kd.R_base ho10) hb); have n1_ := Aside0.mk (Kd.R_lower (Kd.R_new' ho10 (Kd.R_lt (by (with_reducible repeat (first | apply Kd.R_alloc | apply Kd.R_drewN | apply Kd.R_drew)); exact HO_3.out))) (keep_size (w := w) (g := g) (row := none) (by repeat (first | (with_reducible first | exact HK.out | apply KeepBut.set_ | apply keep_drewN | apply keep_drew | apply keep_alloc) | exact HK.out)))); have n2_ := Aside0.mk (IsS104.below (by repeat (first | (with_reducible first | exact HI0.out | apply IsS104.alloc | apply IsS104.drewN | apply IsS104.drew | apply IsS104.set_1 | apply IsS104.set_2) | exact HI0.out)) hb); have n3_ := Aside0.mk (KeepBut.trans (by repeat (first | (with_reducible first | exact HK.out | apply KeepBut.set_ | apply keep_drewN | apply keep_drew | apply keep_alloc) | exact HK.out)) (KeepBut.of_below hb g none) (.inl rfl)); have n4_ := Aside0.mk (below_step (by repeat (first | (with_reducible first | exact HB.out | apply below_alloc | apply pw_below_drewN | apply below_drew1 | refine below_set ?_ (IsS104.ge HI0.out)) | exact HB.out)) hb); clear HO_3; clear HI0; clear HK; clear HB; have HO_3 := n0_; have HO596 := n1_; have HI0 := n2_; have HK := n3_; have HB := n4_; clear n0_ n1_ n2_ n3_ n4_; clear hb ho10; obtain ⟨Ao11, co11, eo11⟩ := Kd.R_slice HO596.out; subst eo11) | ((with_reducible refine gate_callee (f := 125) rfl ?_); refine goesL_ (some 14) rfl rfl Try.func125 (by kernel_rfl) rfl #[.pointer (some ⟨g, 0, none⟩), .slice Ao11 y594.length co11] rfl (by (try simp only [List.map_toArray, List.map_cons, List.map_nil]); first | done | rfl | (simp only [List.length_drop, List.length_take]; rfl)) ?_; (with_reducible refine (spec_l1Cur_among.calls g s0_0 x1001_1 x1002_1 _ _ y594 t597 t598 t599 w0 _ ?side1 ?side2 ?side3 ?side4 ?side5 A5.out).mono ?_); (case side1 => repeat (first | (with_reducible first | exact HI0.out | apply IsS104.alloc | apply IsS104.drewN | apply IsS104.drew | apply IsS104.set_1 | apply IsS104.set_2) | exact HI0.out)); (case side2 => repeat (first | (with_reducible first | exact HB.out | apply below_alloc | apply pw_below_drewN | apply below_drew1 | refine below_set ?_ (IsS104.ge HI0.out)) | exact HB.out)); (case side3 => repeat (first | exact (Kd.R_reads' HO596.out).2.2 | (with_reducible refine Kd.C_alloc ?_ _) | (with_reducible refine Kd.C_drewN ?_ _) | (with_reducible refine Kd.C_drew ?_))); (case side4 => exact (Kd.R_reads' HO596.out).2.1); (case side5 => exact far_slice (IsS104.own_ne HI0.out HO596.out (by decide))); rintro e w12 ⟨rfl, hi, hb, hk⟩; refine ⟨_, rfl, ?_⟩; have n0_ := Aside0.mk (Kd.R_mono (Kd.R_keep (IsS104.apart (show IsS104 w0 _ g s0_0 x1001_1 x1002_1 from by repeat (first | (with_reducible first | exact HI0.out | apply IsS104.alloc | apply IsS104.drewN | apply IsS104.drew | apply IsS104.set_1 | apply IsS104.set_2) | exact HI0.out)) (by (with_reducible repeat (first | apply Kd.R_alloc | apply Kd.R_drewN | apply Kd.R_drew)); exact HO_3.out) (by decide)) hk (fun _ h => h.2)) (fun _ h => h.1)); have n1_ := Aside0.mk (Kd.R_mono (Kd.R_keep (IsS104.apart (show IsS104 w0 _ g s0_0 x1001_1 x1002_1 from by repeat (first | (with_reducible first | exact HI0.out | apply IsS104.alloc | apply IsS104.drewN | apply IsS104.drew | apply IsS104.set_1 | apply IsS104.set_2) | exact HI0.out)) (by (with_reducible repeat (first | apply Kd.R_alloc | apply Kd.R_drewN | apply Kd.R_drew)); exact HO596.out) (by decide)) hk (fun _ h => h.2)) (fun _ h => h.1)); have n2_ := Aside0.mk (KeepBut.trans (by repeat (first | (with_reducible first | exact HK.out | apply KeepBut.set_ | apply keep_drewN | apply keep_drew | apply keep_alloc) | exact HK.out)) hk (.inl rfl)); have n3_ := Aside0.mk (hb); have n4_ := Aside0.mk (hi); clear HO_3; clear HO596; clear HK; clear HB; clear HI0; have HO_3 := n0_; have HO596 := n1_; have HK := n2_; have HB := n3_; have HI0 := n4_; clear n0_ n1_ n2_ n3_ n4_; (try clear hb); (try clear hb2); (try clear hk); (try clear hi)) | ((with_reducible refine gate_dst (N := 19) rfl ?_); refine Kd.R_lit (Kd.int .i64) _ 3 ?hg (N := 19) ?hd (xs := ([0, 0, 1, 2, 9, 25, 300] : List Int)) (inner := [.int .i64 0, .int .i64 0, .int .i64 1, .int .i64 2, .int .i64 9, .int .i64 25, .int .i64 300]) (ok := fun _ => True) (okp := fun _ => True) ?hr ?hp (fun _ hk => hk) trivial (Below.refl _ _) (Nat.le_refl _) (by simp) ?_; (case hd => rfl); (case hg => rfl); (case hr => first | (go_simp; done) | (go_simp; rfl)); (case hp => exact (Reps.one (show Kd.M (Kd.int .i64) _ _ _ 0 [.int .i64 0] from rfl) (Reps.one (show Kd.M (Kd.int .i64) _ _ _ 0 [.int .i64 0] from rfl) (Reps.one (show Kd.M (Kd.int .i64) _ _ _ 1 [.int .i64 1] from rfl) (Reps.one (show Kd.M (Kd.int .i64) _ _ _ 2 [.int .i64 2] from rfl) (Reps.one (show Kd.M (Kd.int .i64) _ _ _ 9 [.int .i64 9] from rfl) (Reps.one (show Kd.M (Kd.int .i64) _ _ _ 25 [.int .i64 25] from rfl) (Reps.one (show Kd.M (Kd.int .i64) _ _ _ 300 [.int .i64 300] from rfl) (Reps.none _ _))))))))); intro v601 w13 ho14 hb hg_ hnew_; clear hg_ hnew_; (first | rw [← Ny600.out] at ho14 | (simp only [Int.reduceToNat] at ho14; rw [← Ny600.out] at ho14)); have n0_ := Aside0.mk (Kd.R_elder' (by (with_reducible repeat (first | apply Kd.R_alloc | apply Kd.R_drewN | apply Kd.R_drew)); exact HO_3.out) (Kd.R_base ho14) hb); have n1_ := Aside0.mk (Kd.R_elder' (by (with_reducible repeat (first | apply Kd.R_alloc | apply Kd.R_drewN | apply Kd.R_drew)); exact HO596.out) (Kd.R_base ho14) hb); have n2_ := Aside0.mk (Kd.R_lower (Kd.R_new' (Kd.R_new' ho14 (Kd.R_lt (by (with_reducible repeat (first | apply Kd.R_alloc | apply Kd.R_drewN | apply Kd.R_drew)); exact HO_3.out))) (Kd.R_lt (by (with_reducible repeat (first | apply Kd.R_alloc | apply Kd.R_drewN | apply Kd.R_drew)); exact HO596.out))) (keep_size (w := w) (g := g) (row := none) (by repeat (first | (with_reducible first | exact HK.out | apply KeepBut.set_ | apply keep_drewN | apply keep_drew | apply keep_alloc) | exact HK.out)))); have n3_ := Aside0.mk (IsS104.below (by repeat (first | (with_reducible first | exact HI0.out | apply IsS104.alloc | apply IsS104.drewN | apply IsS104.drew | apply IsS104.set_1 | apply IsS104.set_2) | exact HI0.out)) hb); have n4_ := Aside0.mk (KeepBut.trans (by repeat (first | (with_reducible first | exact HK.out | apply KeepBut.set_ | apply keep_drewN | apply keep_drew | apply keep_alloc) | exact HK.out)) (KeepBut.of_below hb g none) (.inl rfl)); have n5_ := Aside0.mk (below_step (by repeat (first | (with_reducible first | exact HB.out | apply below_alloc | apply pw_below_drewN | apply below_drew1 | refine below_set ?_ (IsS104.ge HI0.out)) | exact HB.out)) hb); clear HO_3; clear HO596; clear HI0; clear HK; clear HB; have HO_3 := n0_; have HO596 := n1_; have HO602 := n2_; have HI0 := n3_; have HK := n4_; have HB := n5_; clear n0_ n1_ n2_ n3_ n4_ n5_; clear hb ho14; obtain ⟨Ao15, co15, eo15⟩ := Kd.R_slice HO602.out; subst eo15) | ((with_reducible refine gate_callee (f := 125) rfl ?_); refine goesL_ (some 20) rfl rfl Try.func125 (by kernel_rfl) rfl #[.pointer (some ⟨g, 0, none⟩), .slice Ao15 y600.length co15] rfl (by (try simp only [List.map_toArray, List.map_cons, List.map_nil]); first | done | rfl | (simp only [List.length_drop, List.length_take]; rfl)) ?_; (with_reducible refine (spec_l1Cur_among.calls g s0_0 t598 t599 _ _ y600 t603 t604 t605 w0 _ ?side1 ?side2 ?side3 ?side4 ?side5 A6.out).mono ?_); (case side1 => repeat (first | (with_reducible first | exact HI0.out | apply IsS104.alloc | apply IsS104.drewN | apply IsS104.drew | apply IsS104.set_1 | apply IsS104.set_2) | exact HI0.out)); (case side2 => repeat (first | (with_reducible first | exact HB.out | apply below_alloc | apply pw_below_drewN | apply below_drew1 | refine below_set ?_ (IsS104.ge HI0.out)) | exact HB.out)); (case side3 => repeat (first | exact (Kd.R_reads' HO602.out).2.2 | (with_reducible refine Kd.C_alloc ?_ _) | (with_reducible refine Kd.C_drewN ?_ _) | (with_reducible refine Kd.C_drew ?_))); (case side4 => exact (Kd.R_reads' HO602.out).2.1); (case side5 => exact far_slice (IsS104.own_ne HI0.out HO602.out (by decide))); rintro e w16 ⟨rfl, hi, hb, hk⟩; refine ⟨_, rfl, ?_⟩; have n0_ := Aside0.mk (Kd.R_mono (Kd.R_keep (IsS104.apart (show IsS104 w0 _ g s0_0 t598 t599 from by repeat (first | (with_reducible first | exact HI0.out | apply IsS104.alloc | apply IsS104.drewN | apply IsS104.drew | apply IsS104.set_1 | apply IsS104.set_2) | exact HI0.out)) (by (with_reducible repeat (first | apply Kd.R_alloc | apply Kd.R_drewN | apply Kd.R_drew)); exact HO_3.out) (by decide)) hk (fun _ h => h.2)) (fun _ h => h.1)); have n1_ := Aside0.mk (Kd.R_mono (Kd.R_keep (IsS104.apart (show IsS104 w0 _ g s0_0 t598 t599 from by repeat (first | (with_reducible first | exact HI0.out | apply IsS104.alloc | apply IsS104.drewN | apply IsS104.drew | apply IsS104.set_1 | apply IsS104.set_2) | exact HI0.out)) (by (with_reducible repeat (first | apply Kd.R_alloc | apply Kd.R_drewN | apply Kd.R_drew)); exact HO596.out) (by decide)) hk (fun _ h => h.2)) (fun _ h => h.1)); have n2_ := Aside0.mk (Kd.R_mono (Kd.R_keep (IsS104.apart (show IsS104 w0 _ g s0_0 t598 t599 from by repeat (first | (with_reducible first | exact HI0.out | apply IsS104.alloc | apply IsS104.drewN | apply IsS104.drew | apply IsS104.set_1 | apply IsS104.set_2) | exact HI0.out)) (by (with_reducible repeat (first | apply Kd.R_alloc | apply Kd.R_drewN | apply Kd.R_drew)); exact HO602.out) (by decide)) hk (fun _ h => h.2)) (fun _ h => h.1)); have n3_ := Aside0.mk (KeepBut.trans (by repeat (first | (with_reducible first | exact HK.out | apply KeepBut.set_ | apply keep_drewN | apply keep_drew | apply keep_alloc) | exact HK.out)) hk (.inl rfl)); have n4_ := Aside0.mk (hb); have n5_ := Aside0.mk (hi); clear HO_3; clear HO596; clear HO602; clear HK; clear HB; clear HI0; have HO_3 := n0_; have HO596 := n1_; have HO602 := n2_; have HK := n3_; have HB := n4_; have HI0 := n5_; clear n0_ n1_ n2_ n3_ n4_ n5_; (try clear hb); (try clear hb2); (try clear hk); (try clear hi)) | ((with_reducible refine gate_callee (f := 162) rfl ?_); refine goesL_ (some 22) rfl rfl Try.func162 (by kernel_rfl) rfl #[.int .i64 1114111, .int .i64 (wrap64 (t597 + t603))] rfl (by (try simp only [List.map_toArray, List.map_cons, List.map_nil]); first | done | rfl | (simp only [List.length_drop, List.length_take]; rfl)) ?_; (with_reducible refine (spec_l1Least.calls 1114111 (wrap64 (t597 + t603)) t606 _ A7.out).mono ?_); rintro e w' ⟨rfl, ⟨nd, rfl⟩⟩; refine ⟨_, rfl, ?_⟩; obtain ⟨Ao17, co17, eo17⟩ := Kd.R_slice HO_3.out; subst eo17) | ((with_reducible refine gate_callee (f := 161) rfl ?_); refine goesL_ (some 23) rfl rfl Try.func161 (by kernel_rfl) rfl #[.slice Ao17 x3_1.length co17, .int .i64 t597, .int .i64 t606] rfl (by (try simp only [List.map_toArray, List.map_cons, List.map_nil]); first | done | rfl | (simp only [List.length_drop, List.length_take]; rfl)) ?_; (with_reducible refine (spec_l4Add.calls k1 _ _ x3_1 t597 t606 t607 _ ?side1 ?side2 A8.out).mono ?_); (case side1 => repeat (first | exact (Kd.R_reads' HO_3.out).2.2 | (with_reducible refine Kd.C_alloc ?_ _) | (with_reducible refine Kd.C_drewN ?_ _) | (with_reducible refine Kd.C_drew ?_))); (case side2 => exact (Kd.R_reads' HO_3.out).2.1); rintro e w18 ⟨v608, rfl, ho0, hb⟩; refine ⟨_, rfl, ?_⟩; have n0_ := Aside0.mk (Kd.R_elder' (by (with_reducible repeat (first | apply Kd.R_alloc | apply Kd.R_drewN | apply Kd.R_drew)); exact HO_3.out) (Kd.R_base ho0) hb); have n1_ := Aside0.mk (Kd.R_elder' (by (with_reducible repeat (first | apply Kd.R_alloc | apply Kd.R_drewN | apply Kd.R_drew)); exact HO596.out) (Kd.R_base ho0) hb); have n2_ := Aside0.mk (Kd.R_elder' (by (with_reducible repeat (first | apply Kd.R_alloc | apply Kd.R_drewN | apply Kd.R_drew)); exact HO602.out) (Kd.R_base ho0) hb); have n3_ := Aside0.mk (Kd.R_lower (Kd.R_new' (Kd.R_new' (Kd.R_new' ho0 (Kd.R_lt (by (with_reducible repeat (first | apply Kd.R_alloc | apply Kd.R_drewN | apply Kd.R_drew)); exact HO_3.out))) (Kd.R_lt (by (with_reducible repeat (first | apply Kd.R_alloc | apply Kd.R_drewN | apply Kd.R_drew)); exact HO596.out))) (Kd.R_lt (by (with_reducible repeat (first | apply Kd.R_alloc | apply Kd.R_drewN | apply Kd.R_drew)); exact HO602.out))) (keep_size (w := w) (g := g) (row := none) (by repeat (first | (with_reducible first | exact HK.out | apply KeepBut.set_ | apply keep_drewN | apply keep_drew | apply keep_alloc) | exact HK.out)))); have n4_ := Aside0.mk (IsS104.below (by repeat (first | (with_reducible first | exact HI0.out | apply IsS104.alloc | apply IsS104.drewN | apply IsS104.drew | apply IsS104.set_1 | apply IsS104.set_2) | exact HI0.out)) hb); have n5_ := Aside0.mk (KeepBut.trans (by repeat (first | (with_reducible first | exact HK.out | apply KeepBut.set_ | apply keep_drewN | apply keep_drew | apply keep_alloc) | exact HK.out)) (KeepBut.of_below hb g none) (.inl rfl)); have n6_ := Aside0.mk (below_step (by repeat (first | (with_reducible first | exact HB.out | apply below_alloc | apply pw_below_drewN | apply below_drew1 | refine below_set ?_ (IsS104.ge HI0.out)) | exact HB.out)) hb); clear HO_3; clear HO596; clear HO602; clear HI0; clear HK; clear HB; have HO_3 := n0_; have HO596 := n1_; have HO602 := n2_; have HO609 := n3_; have HI0 := n4_; have HK := n5_; have HB := n6_; clear n0_ n1_ n2_ n3_ n4_ n5_ n6_; (try clear hb); (try clear hb2); (try clear hk); (try clear hi); (try clear ho0)))
    go_roundg k1
    case measure => have := HK1.out; omega
    case rel => exact ⟨(t607), (wrap64 (x4_1 - 1)), (t604), (t605), (by first | rfl | (simp; done) | (simp [*]; done)), H', ⟨by have := HK1.out; omega⟩, ⟨by (with_reducible repeat (first | apply Kd.R_alloc | apply Kd.R_drewN | apply Kd.R_drew)); exact Kd.R_mono HO609.out (fun _ hk => trivial)⟩, ⟨HI0.out⟩, ⟨HK.out⟩, ⟨HB.out⟩⟩
   ·rw [if_neg c4] at H
    have c4b0 : decide (0 < x4_1) = false := decide_eq_false c4
    clear c4
    replace H := Option.bind_eq_some_iff.mp H
    obtain ⟨⟨t610, t611, t612⟩, A190, H⟩ := H
    replace H : (if t610 = true then ((spec_l4Not.f k1 x3_1).bind fun t613 => (spec_l1Cur_set.j1 k1 t613 s0_0 t611 t612)) else (spec_l1Cur_set.j1 k1 x3_1 s0_0 t611 t612)) = some (r1, r2, r3) := H
    have A19 := Aside0.mk A190
    clear A190
    have HC20 := Aside0.mk H
    clear H
    go_upto_if 25 with (first | ((with_reducible refine gate_callee (f := 122) rfl ?_); refine goesL_ (some 25) rfl rfl Try.func122 (by kernel_rfl) rfl #[.pointer (some ⟨g, 0, none⟩), .int .i64 12] rfl (by simp only [List.map_toArray, List.map_cons, List.map_nil] <;> rfl) ?_; (with_reducible refine (spec_l1Cur_one.calls g s0_0 x1001_1 x1002_1 12 t610 t611 t612 w0 _ ?side1 ?side2 A19.out).mono ?_); (case side1 => exact HI0.out); (case side2 => exact HB.out); rintro e w21 ⟨rfl, hi, hb, hk⟩; refine ⟨_, rfl, ?_⟩; have n0_ := Aside0.mk (Kd.R_mono (Kd.R_keep (IsS104.apart (show IsS104 w0 _ g s0_0 x1001_1 x1002_1 from by repeat (first | (with_reducible first | exact HI0.out | apply IsS104.alloc | apply IsS104.drewN | apply IsS104.drew | apply IsS104.set_1 | apply IsS104.set_2) | exact HI0.out)) HO_3.out (by decide)) hk (fun _ h => h.2)) (fun _ h => h.1)); have n1_ := Aside0.mk (KeepBut.trans HK.out hk (.inl rfl)); have n2_ := Aside0.mk (hb); have n3_ := Aside0.mk (hi); clear HO_3; clear HK; clear HB; clear HI0; have HO_3 := n0_; have HK := n1_; have HB := n2_; have HI0 := n3_; clear n0_ n1_ n2_ n3_))
    (try simp only [Act.put, List.setIfInBounds_toArray, List.set_cons_zero, List.set_cons_succ])
    go_cut [3] (fun v3 wc => ∃ (kq : Nat) (x3_19 : List Int), Aside0 (spec_l1Cur_set.j1 kq x3_19 s0_0 t611 t612 = some (r1, r2, r3)) ∧ Aside0 (kq ≤ k1) ∧ Aside0 (Kd.R (Kd.int .i64) 3 wc w.heap.size (fun _ => True) v3 x3_19) ∧ Aside0 (IsS104 w0 wc g s0_0 t611 t612) ∧ Aside0 (KeepBut w wc g none) ∧ Aside0 (Below w0.heap.size w0 wc))
    case first =>
     have H := HC20.out
     clear HC20
     by_cases c22 : t610 = true
     ·subst c22
      have H1 : ((spec_l4Not.f k1 x3_1).bind fun t613 => (spec_l1Cur_set.j1 k1 t613 s0_0 t611 t612)) = some (r1, r2, r3) := by rw [if_pos rfl] at H; exact H
      clear H
      have H := H1
      clear H1
      replace H := Option.bind_eq_some_iff.mp H
      obtain ⟨t613, A230, H⟩ := H
      replace H : (spec_l1Cur_set.j1 k1 t613 s0_0 t611 t612) = some (r1, r2, r3) := H
      have A23 := Aside0.mk A230
      clear A230
      have H' := Aside0.mk H
      clear H
      obtain ⟨Ao24, co24, eo24⟩ := Kd.R_slice HO_3.out
      subst eo24
      go_wp2_with (first | ((with_reducible refine gate_callee (f := 163) rfl ?_); refine goesL_ (some 27) rfl rfl Try.func163 (by kernel_rfl) rfl #[.slice Ao24 x3_1.length co24] rfl (by simp only [List.map_toArray, List.map_cons, List.map_nil] <;> rfl) ?_; (with_reducible refine (spec_l4Not.calls k1 _ _ x3_1 t613 _ ?side1 ?side2 A23.out).mono ?_); (case side1 => repeat (first | exact (Kd.R_reads' HO_3.out).2.2 | (with_reducible refine Kd.C_alloc ?_ _) | (with_reducible refine Kd.C_drewN ?_ _) | (with_reducible refine Kd.C_drew ?_))); (case side2 => exact (Kd.R_reads' HO_3.out).2.1); rintro e w25 ⟨v614, rfl, ho0, hb⟩; refine ⟨_, rfl, ?_⟩; have n0_ := Aside0.mk (Kd.R_elder' HO_3.out (Kd.R_base ho0) hb); have n1_ := Aside0.mk (Kd.R_lower (Kd.R_new' ho0 (Kd.R_lt HO_3.out)) (keep_size (w := w) (g := g) (row := none) HK.out)); have n2_ := Aside0.mk (IsS104.below HI0.out hb); have n3_ := Aside0.mk (KeepBut.trans HK.out (KeepBut.of_below hb g none) (.inl rfl)); have n4_ := Aside0.mk (below_step HB.out hb); clear HO_3; clear HI0; clear HK; clear HB; have HO_3 := n0_; have HO615 := n1_; have HI0 := n2_; have HK := n3_; have HB := n4_; clear n0_ n1_ n2_ n3_ n4_))
      go_meet
      case rel => exact ⟨_, (t613), H', ⟨by have := HK1.out; first | omega | exact Nat.le_refl _⟩, ⟨by (with_reducible repeat (first | apply Kd.R_alloc | apply Kd.R_drewN | apply Kd.R_drew)); exact Kd.R_mono HO615.out (fun _ hk => trivial)⟩, ⟨HI0.out⟩, ⟨HK.out⟩, ⟨HB.out⟩⟩
     ·replace c22 := Bool.eq_false_iff.mpr c22
      subst c22
      have H1 : (spec_l1Cur_set.j1 k1 x3_1 s0_0 t611 t612) = some (r1, r2, r3) := by rw [if_neg (show ¬ (false = true) by decide)] at H; exact H
      clear H
      have H := H1
      clear H1
      have H' := Aside0.mk H
      clear H
      go_wp2
      go_meet
      case rel => exact ⟨_, (x3_1), H', ⟨by have := HK1.out; first | omega | exact Nat.le_refl _⟩, ⟨HO_3.out⟩, ⟨HI0.out⟩, ⟨HK.out⟩, ⟨HB.out⟩⟩
    case rest =>
     clear HC20
     try clear c1
     try clear c2
     try clear p2
     try clear c4
     try clear c4b0
     try clear p6
     try clear c7
     try clear c12
     try clear c16
     try clear c22
     try clear p2
     obtain ⟨kq, x3_19, HA, HJ19, HO_3, HI0, HK, HB⟩ := hcut
     cases kq with
     | zero => exact absurd HA.out (by simp [spec_l1Cur_set.j1])
     | succ kj19 =>
      have H := HA.out
      clear HA
      simp only [spec_l1Cur_set.j1] at H
      by_cases c26 : (x3_19.length : Int) > 0
      ·rw [if_pos c26] at H
       have c26b0 : decide (0 < (x3_19.length : Int)) = true := decide_eq_true c26
       have c26b1 : decide (0 < x3_19.length) = true := decide_eq_true (by omega)
       clear c26
       replace H := Option.bind_eq_some_iff.mp H
       obtain ⟨⟨t616, t617, t618⟩, A270, H⟩ := H
       replace H : (if t616 = true then ((spec_l1Cur_among.f s0_0 t617 t618 (([(-1), 1114112, 64] : List Int))).bind fun bt622 => (if 0 < (x3_19.length : Int) then (some ((x3_19.set (0 : Int).toNat bt622.1), bt622.2.1, bt622.2.2)) else (none))) else (some (x3_19, t617, t618))) = some (r1, r2, r3) := H
       have A27 := Aside0.mk A270
       clear A270
       by_cases c28 : t616 = true
       ·subst c28
        have H1 : ((spec_l1Cur_among.f s0_0 t617 t618 (([(-1), 1114112, 64] : List Int))).bind fun bt622 => (if 0 < (x3_19.length : Int) then (some ((x3_19.set (0 : Int).toNat bt622.1), bt622.2.1, bt622.2.2)) else (none))) = some (r1, r2, r3) := by rw [if_pos rfl] at H; exact H
        clear H
        have H := H1
        clear H1
        obtain ⟨y619, hy619⟩ : ∃ y_ : List Int, y_ = (([(-1), 1114112, 64] : List Int)) := ⟨_, rfl⟩
        replace H : ((spec_l1Cur_among.f s0_0 t617 t618 y619).bind fun bt622 => (if 0 < (x3_19.length : Int) then (some ((x3_19.set (0 : Int).toNat bt622.1), bt622.2.1, bt622.2.2)) else (none))) = some (r1, r2, r3) := by rw [hy619]; exact H
        have Ny619 := Aside0.mk hy619
        clear hy619
        replace H := Option.bind_eq_some_iff.mp H
        obtain ⟨⟨t622, t623, t624⟩, A290, H⟩ := H
        replace H : (if 0 < (x3_19.length : Int) then (some ((x3_19.set (0 : Int).toNat t622), t623, t624)) else (none)) = some (r1, r2, r3) := H
        have A29 := Aside0.mk A290
        clear A290
        by_cases c30 : 0 < (x3_19.length : Int)
        ·rw [if_pos c30] at H
         have c30b0 : decide (0 < (x3_19.length : Int)) = true := decide_eq_true c30
         have c30b1 : decide (0 < x3_19.length) = true := decide_eq_true (by omega)
         clear c30
         obtain ⟨y625, hy625⟩ : ∃ y_ : List Int, y_ = (x3_19.set (0 : Int).toNat t622) := ⟨_, rfl⟩
         replace H : (some (y625, t623, t624)) = some (r1, r2, r3) := by rw [hy625]; exact H
         have Ny625 := Aside0.mk hy625
         clear hy625
         simp only [Option.some.injEq, Prod.mk.injEq] at H
         obtain ⟨rfl, rfl, rfl⟩ := H
         obtain ⟨Ao32, co32, eo32⟩ := Kd.R_slice HO_3.out
         subst eo32
         go_wp2_with (first | (go_at_call 122; (with_reducible refine (spec_l1Cur_one.calls g s0_0 t611 t612 30 true t617 t618 w0 _ ?side1 ?side2 A27.out).mono ?_); (case side1 => exact HI0.out); (case side2 => exact HB.out); rintro e w33 ⟨rfl, hi, hb, hk⟩; have n0_ := Aside0.mk (Kd.R_mono (Kd.R_keep (IsS104.apart (show IsS104 w0 _ g s0_0 t611 t612 from by repeat (first | (with_reducible first | exact HI0.out | apply IsS104.alloc | apply IsS104.drewN | apply IsS104.drew | apply IsS104.set_1 | apply IsS104.set_2) | exact HI0.out)) HO_3.out (by decide)) hk (fun _ h => h.2)) (fun _ h => h.1)); have n1_ := Aside0.mk (KeepBut.trans HK.out hk (.inl rfl)); have n2_ := Aside0.mk (hb); have n3_ := Aside0.mk (hi); clear HO_3; clear HK; clear HB; clear HI0; have HO_3 := n0_; have HK := n1_; have HB := n2_; have HI0 := n3_; clear n0_ n1_ n2_ n3_) | ((with_reducible refine gate_dst (N := 37) rfl ?_); refine Kd.R_lit (Kd.int .i64) _ 3 ?hg (N := 37) ?hd (xs := ([(-1), 1114112, 64] : List Int)) (inner := [.int .i64 (-1), .int .i64 1114112, .int .i64 64]) (ok := fun _ => True) (okp := fun _ => True) ?hr ?hp (fun _ hk => hk) trivial (Below.refl _ _) (Nat.le_refl _) (by simp) ?_; (case hd => rfl); (case hg => rfl); (case hr => go_simp <;> rfl); (case hp => exact (Reps.one (show Kd.M (Kd.int .i64) _ _ _ (-1) [.int .i64 (-1)] from rfl) (Reps.one (show Kd.M (Kd.int .i64) _ _ _ 1114112 [.int .i64 1114112] from rfl) (Reps.one (show Kd.M (Kd.int .i64) _ _ _ 64 [.int .i64 64] from rfl) (Reps.none _ _))))); intro v620 w34 ho35 hb hg_ hnew_; clear hg_ hnew_; (first | rw [← Ny619.out] at ho35 | (simp only [Int.reduceToNat] at ho35; rw [← Ny619.out] at ho35)); have n0_ := Aside0.mk (Kd.R_elder' HO_3.out (Kd.R_base ho35) hb); have n1_ := Aside0.mk (Kd.R_lower (Kd.R_new' ho35 (Kd.R_lt HO_3.out)) (keep_size (w := w) (g := g) (row := none) HK.out)); have n2_ := Aside0.mk (IsS104.below HI0.out hb); have n3_ := Aside0.mk (KeepBut.trans HK.out (KeepBut.of_below hb g none) (.inl rfl)); have n4_ := Aside0.mk (below_step HB.out hb); clear HO_3; clear HI0; clear HK; clear HB; have HO_3 := n0_; have HO621 := n1_; have HI0 := n2_; have HK := n3_; have HB := n4_; clear n0_ n1_ n2_ n3_ n4_; clear hb ho35; obtain ⟨Ao36, co36, eo36⟩ := Kd.R_slice HO621.out; subst eo36) | ((with_reducible refine gate_callee (f := 125) rfl ?_); refine goesL_ (some 38) rfl rfl Try.func125 (by kernel_rfl) rfl #[.pointer (some ⟨g, 0, none⟩), .slice Ao36 y619.length co36] rfl (by simp only [List.map_toArray, List.map_cons, List.map_nil] <;> rfl) ?_; (with_reducible refine (spec_l1Cur_among.calls g s0_0 t617 t618 _ _ y619 t622 t623 t624 w0 _ ?side1 ?side2 ?side3 ?side4 ?side5 A29.out).mono ?_); (case side1 => exact HI0.out); (case side2 => exact HB.out); (case side3 => repeat (first | exact (Kd.R_reads' HO621.out).2.2 | (with_reducible refine Kd.C_alloc ?_ _) | (with_reducible refine Kd.C_drewN ?_ _) | (with_reducible refine Kd.C_drew ?_))); (case side4 => exact (Kd.R_reads' HO621.out).2.1); (case side5 => exact far_slice (IsS104.own_ne HI0.out HO621.out (by decide))); rintro e w37 ⟨rfl, hi, hb, hk⟩; refine ⟨_, rfl, ?_⟩; have n0_ := Aside0.mk (Kd.R_mono (Kd.R_keep (IsS104.apart (show IsS104 w0 _ g s0_0 t617 t618 from by repeat (first | (with_reducible first | exact HI0.out | apply IsS104.alloc | apply IsS104.drewN | apply IsS104.drew | apply IsS104.set_1 | apply IsS104.set_2) | exact HI0.out)) HO_3.out (by decide)) hk (fun _ h => h.2)) (fun _ h => h.1)); have n1_ := Aside0.mk (Kd.R_mono (Kd.R_keep (IsS104.apart (show IsS104 w0 _ g s0_0 t617 t618 from by repeat (first | (with_reducible first | exact HI0.out | apply IsS104.alloc | apply IsS104.drewN | apply IsS104.drew | apply IsS104.set_1 | apply IsS104.set_2) | exact HI0.out)) HO621.out (by decide)) hk (fun _ h => h.2)) (fun _ h => h.1)); have n2_ := Aside0.mk (KeepBut.trans HK.out hk (.inl rfl)); have n3_ := Aside0.mk (hb); have n4_ := Aside0.mk (hi); clear HO_3; clear HO621; clear HK; clear HB; clear HI0; have HO_3 := n0_; have HO621 := n1_; have HK := n2_; have HB := n3_; have HI0 := n4_; clear n0_ n1_ n2_ n3_ n4_; have p31 : 0 ≤ (0 : Int) := (by omega); have q31 : (0 : Int) < ((x3_19.length : Int) : Int) := of_decide_eq_true (by assumption); have qi31 : (0 < x3_19.length) = True := eq_true (by omega); obtain ⟨go31, co31, eo31, gb31, gl31, cl31, HG31⟩ := Kd.R_form HO_3.out (by omega); (first | cases eo31 | (injection eo31 with ea_ en_ ec_; (first | subst ea_ | (injection ea_ with ea_; subst ea_)); subst ec_; clear en_)); have GB31 := Aside0.mk gb31; have GG31 := Aside0.mk HG31; clear gb31 gl31 HG31; obtain ⟨hx31_0, hf31_0⟩ := Kd.R_celln 0 HO_3.out (0 : Int) p31 q31; (try rw [show ((0 : Int)).toNat = 0 from rfl] at hx31_0); (try simp only [Nat.reduceMul, Nat.zero_mul, Nat.zero_add, Nat.reduceAdd] at hx31_0); (try rw [show ((0 : Int)).toNat = 0 from rfl] at hf31_0); (try simp only [Nat.reduceMul, Nat.zero_mul, Nat.zero_add, Nat.reduceAdd] at hf31_0); replace p31 := eq_true p31; replace q31 := eq_true q31; have n_ := Aside0.mk (Kd.R_mono (ok' := (fun k_ => some k_ ≠ (.slice Ao36 y619.length co36 : Value).ownBlock)) HO_3.out (fun k_ hk => hk.2)); clear HO_3; have HO_3 := n_; clear n_; obtain ⟨hy38_, hz38_⟩ := Kd.R_celln 0 HO_3.out (0 : Int) (by omega) (of_decide_eq_true (by assumption)); (try simp only [Int.reduceToNat, Int.toNat_zero, Int.toNat_ofNat, Nat.reduceMul, Nat.zero_mul, Nat.zero_add] at hy38_ hz38_); (try rw [show ((0 : Int)).toNat = 0 from rfl] at hy38_); (try rw [show ((0 : Int)).toNat = 0 from rfl] at hz38_); have HP38 := Kd.R_putg HO_3.out (0 : Int) t622) | ((with_reducible refine gate_store (t := 3) (p := 39) rfl ?_); refine store_event (t := 3) (p := 39) (v := ?vo_w39) (w1 := (w37.setCell ⟨go31, (0 : Int).toNat, none⟩ (.int .i64 t622))) ?hg ?ho ?hn ?hr ?_; (case ho => rfl); (case hg => rfl); (case hn => rfl); (case hr => go_simp <;> rfl); intro w39 hw; have hg : w37.grownBy w39 (some go31) := (by rw [hw]; exact HP38.2); have hp_ : Kd.R (Kd.int .i64) 3 w39 w.heap.size (fun k_ => some k_ ≠ (.slice Ao36 y619.length co36 : Value).ownBlock) (.slice (some ⟨go31, 0, none⟩) x3_19.length co32) y625 := (by rw [hw, Ny625.out]; exact HP38.1); clear HP38; have n0_ := Aside0.mk (hp_); have n1_ := Aside0.mk (IsS104.grown HI0.out hg (IsS104.own_ne HI0.out HO_3.out (by decide))); have n2_ := Aside0.mk (Kd.R_after (v := (.slice (some ⟨go31, 0, none⟩) x3_19.length co32)) (v1 := (.slice (some ⟨go31, 0, none⟩) x3_19.length co32)) (ok := (fun _ => True)) HO621.out hg (.inl rfl)); have n3_ := Aside0.mk ((by rw [hw]; exact below_set (HB.out) (Nat.le_trans HL.out GB31.out) : Below w0.heap.size w0 w39)); have n4_ := Aside0.mk (KeepBut.trans HK.out (KeepBut.of_grown hg g) (Kd.R_base2 HO_3.out)); clear HO_3; clear HI0; clear HO621; clear HB; clear HK; have HO_3 := n0_; have HI0 := n1_; have HO621 := n2_; have HB := n3_; have HK := n4_; clear n0_ n1_ n2_ n3_ n4_; clear hg hw hp_))
         go_ret
         exact ⟨_, by first | rfl | (simp [errW_none, errW_some] <;> rfl) | (simp [*, errW_none, errW_some] <;> rfl), by (with_reducible repeat (first | apply Kd.R_alloc | apply Kd.R_drewN | apply Kd.R_drew)); exact Kd.R_mono HO_3.out (fun _ hk => trivial), HI0.out, HB.out, HK.out⟩
        ·rw [if_neg c30] at H
         exact absurd H (by simp)
       ·replace c28 := Bool.eq_false_iff.mpr c28
        subst c28
        have H1 : (some (x3_19, t617, t618)) = some (r1, r2, r3) := by rw [if_neg (show ¬ (false = true) by decide)] at H; exact H
        clear H
        have H := H1
        clear H1
        simp only [Option.some.injEq, Prod.mk.injEq] at H
        obtain ⟨rfl, rfl, rfl⟩ := H
        obtain ⟨Ao40, co40, eo40⟩ := Kd.R_slice HO_3.out
        subst eo40
        go_wp2_with (first | (go_at_call 122; (with_reducible refine (spec_l1Cur_one.calls g s0_0 t611 t612 30 false t617 t618 w0 _ ?side1 ?side2 A27.out).mono ?_); (case side1 => exact HI0.out); (case side2 => exact HB.out); rintro e w41 ⟨rfl, hi, hb, hk⟩; have n0_ := Aside0.mk (Kd.R_mono (Kd.R_keep (IsS104.apart (show IsS104 w0 _ g s0_0 t611 t612 from by repeat (first | (with_reducible first | exact HI0.out | apply IsS104.alloc | apply IsS104.drewN | apply IsS104.drew | apply IsS104.set_1 | apply IsS104.set_2) | exact HI0.out)) HO_3.out (by decide)) hk (fun _ h => h.2)) (fun _ h => h.1)); have n1_ := Aside0.mk (KeepBut.trans HK.out hk (.inl rfl)); have n2_ := Aside0.mk (hb); have n3_ := Aside0.mk (hi); clear HO_3; clear HK; clear HB; clear HI0; have HO_3 := n0_; have HK := n1_; have HB := n2_; have HI0 := n3_; clear n0_ n1_ n2_ n3_))
        go_ret
        exact ⟨_, by first | rfl | (simp [errW_none, errW_some] <;> rfl) | (simp [*, errW_none, errW_some] <;> rfl), by (with_reducible repeat (first | apply Kd.R_alloc | apply Kd.R_drewN | apply Kd.R_drew)); exact HO_3.out, HI0.out, HB.out, HK.out⟩
      ·rw [if_neg c26] at H
       have c26b0 : decide (0 < (x3_19.length : Int)) = false := decide_eq_false c26
       have c26b1 : decide (0 < x3_19.length) = false := decide_eq_false (by omega)
       clear c26
       simp only [Option.some.injEq, Prod.mk.injEq] at H
       obtain ⟨rfl, rfl, rfl⟩ := H
       obtain ⟨Ao42, co42, eo42⟩ := Kd.R_slice HO_3.out
       subst eo42
       go_wp2
       go_ret
       exact ⟨_, by first | rfl | (simp [errW_none, errW_some] <;> rfl) | (simp [*, errW_none, errW_some] <;> rfl), by (with_reducible repeat (first | apply Kd.R_alloc | apply Kd.R_drewN | apply Kd.R_drew)); exact HO_3.out, HI0.out, HB.out, HK.out⟩

mutual
def spec_l1Cur_re.j0 : Nat → Int → Bool → Bool → List Int → Int → Int → Option ((List (S89)) × Int × Int)
 | 0, _, _, _, _, _, _ => none
 | k + 1, x1, x2, x16, x1000, x1001, x1002 => if x16 = true then ((spec_l1Cur_pick.f x1000 x1001 x1002 8).bind fun bt629 => (if bt629.1 = 0 then (some ((([(⟨1, ([] : List Int)⟩ : S89)] : List (S89))), bt629.2.1, bt629.2.2)) else (if bt629.1 = 1 then ((spec_l1Cur_set.f k x1000 bt629.2.1 bt629.2.2).bind fun bt635 => ((spec_l1AllRunes.f k bt635.1).bind fun t640 => (if t640 = true then ((spec_GoodSet.f k bt635.1).bind fun t641 => (if t641 = true then (some ((([(⟨2, bt635.1⟩ : S89)] : List (S89))), bt635.2.1, bt635.2.2)) else (some ((([(⟨2, ([] : List Int)⟩ : S89)] : List (S89))), bt635.2.1, bt635.2.2)))) else (some ((([(⟨2, ([] : List Int)⟩ : S89)] : List (S89))), bt635.2.1, bt635.2.2))))) else (if bt629.1 = 2 then (some ((([(⟨2, (([0, 1114111] : List Int))⟩ : S89)] : List (S89))), bt629.2.1, bt629.2.2)) else ((spec_l1Cur_among.f x1000 bt629.2.1 bt629.2.2 (([97, 97, 98, 99, 65, 12354, 42, 45] : List Int))).bind fun bt660 => (some ((([(⟨2, (([bt660.1, bt660.1] : List Int))⟩ : S89)] : List (S89))), bt660.2.1, bt660.2.2))))))) else ((spec_l1Cur_among.f x1000 x1001 x1002 (([3, 3, 4, 4, 6, 6, 5, 7] : List Int))).bind fun bt672 => (if x2 = true then (if bt672.1 = 5 then (spec_l1Cur_re.j1 k x1 x2 bt672.1 true x1000 bt672.2.1 bt672.2.2) else (spec_l1Cur_re.j1 k x1 x2 bt672.1 (bt672.1 == 7) x1000 bt672.2.1 bt672.2.2)) else (spec_l1Cur_re.j1 k x1 x2 bt672.1 false x1000 bt672.2.1 bt672.2.2)))
def spec_l1Cur_re.j1 : Nat → Int → Bool → Int → Bool → List Int → Int → Int → Option ((List (S89)) × Int × Int)
 | 0, _, _, _, _, _, _, _ => none
 | k + 1, x1, x2, x9, x62, x1000, x1001, x1002 => if x62 = true then (spec_l1Cur_re.j2 k x1 x2 3 x1000 x1001 x1002) else (spec_l1Cur_re.j2 k x1 x2 x9 x1000 x1001 x1002)
def spec_l1Cur_re.j2 : Nat → Int → Bool → Int → List Int → Int → Int → Option ((List (S89)) × Int × Int)
 | 0, _, _, _, _, _, _ => none
 | k + 1, x1, x2, x9, x1000, x1001, x1002 => (spec_l1Cur_re.f k x1000 x1001 x1002 (wrap64 (x1 - 1)) x2).bind fun bt675 => ((spec_l5Arity.f k x9).bind fun t680 => (if t680 = 2 then ((spec_l1Cur_re.f k x1000 bt675.2.1 bt675.2.2 (wrap64 (x1 - 1)) x2).bind fun bt681 => (if bt675.1.length + bt681.1.length < 4398046511104 then ((some (bt675.1 ++ bt681.1 : List (S89))).bind fun y686 => (if y686.length < 4398046511104 then (some ((y686 ++ [(⟨x9, ([] : List Int)⟩ : S89)]), bt681.2.1, bt681.2.2)) else (none))) else (none))) else (if bt675.1.length < 4398046511104 then (some ((bt675.1 ++ [(⟨x9, ([] : List Int)⟩ : S89)]), bt675.2.1, bt675.2.2)) else (none))))
def spec_l1Cur_re.f : Nat → List Int → Int → Int → Int → Bool → Option ((List (S89)) × Int × Int)
 | 0, _, _, _, _, _ => none
 | k + 1, s0_0, s0_1, s0_2, a1, a2 => if a1 = 0 then (spec_l1Cur_re.j0 k a1 a2 true s0_0 s0_1 s0_2) else ((spec_l1Cur_one.f s0_0 s0_1 s0_2 4).bind fun bt626 => (spec_l1Cur_re.j0 k a1 a2 bt626.1 s0_0 bt626.2.1 bt626.2.2))
end
theorem spec_l1Cur_re.mono_l : ∀ k, (∀ y0 y1 y2 y3 y4, LeO (spec_l1Cur_re.f k y0 y1 y2 y3 y4) (spec_l1Cur_re.f (k + 1) y0 y1 y2 y3 y4)) ∧ (∀ y0 y1 y2 y3 y4 y5, LeO (spec_l1Cur_re.j0 k y0 y1 y2 y3 y4 y5) (spec_l1Cur_re.j0 (k + 1) y0 y1 y2 y3 y4 y5)) ∧ (∀ y0 y1 y2 y3 y4 y5 y6, LeO (spec_l1Cur_re.j1 k y0 y1 y2 y3 y4 y5 y6) (spec_l1Cur_re.j1 (k + 1) y0 y1 y2 y3 y4 y5 y6)) ∧ (∀ y0 y1 y2 y3 y4 y5, LeO (spec_l1Cur_re.j2 k y0 y1 y2 y3 y4 y5) (spec_l1Cur_re.j2 (k + 1) y0 y1 y2 y3 y4 y5))
 | 0 => ⟨fun _ _ _ _ _ r h => by simp [spec_l1Cur_re.f] at h, fun _ _ _ _ _ _ r h => by simp [spec_l1Cur_re.j0] at h, fun _ _ _ _ _ _ _ r h => by simp [spec_l1Cur_re.j1] at h, fun _ _ _ _ _ _ r h => by simp [spec_l1Cur_re.j2] at h⟩
 | k + 1 => by
  obtain ⟨ih0, ih1, ih2, ih3⟩ := spec_l1Cur_re.mono_l k
  refine ⟨?_, ?_, ?_, ?_⟩
  ·intro y0 y1 y2 y3 y4
   unfold spec_l1Cur_re.f
   repeat' first
   | (with_reducible exact ih0 _ _ _ _ _)
   | (with_reducible exact ih1 _ _ _ _ _ _)
   | (with_reducible exact ih2 _ _ _ _ _ _ _)
   | (with_reducible exact ih3 _ _ _ _ _ _)
   | (with_reducible exact spec_GoodSet.mono _ _)
   | (with_reducible exact spec_l1AllRunes.mono _ _)
   | (with_reducible exact spec_l1Cur_set.mono _ _ _ _)
   | (with_reducible exact spec_l5Arity.mono _ _)
   | (with_reducible exact LeO.refl _)
   | (with_reducible exact LeO.none _)
   | (with_reducible refine LeO.ite ?_ ?_)
   | (with_reducible refine LeO.bind ?_ (fun _ => ?_))
   | exact ih0 _ _ _ _ _
   | exact ih1 _ _ _ _ _ _
   | exact ih2 _ _ _ _ _ _ _
   | exact ih3 _ _ _ _ _ _
   | exact spec_GoodSet.mono _ _
   | exact spec_l1AllRunes.mono _ _
   | exact spec_l1Cur_set.mono _ _ _ _
   | exact spec_l5Arity.mono _ _
   | exact LeO.none _
   | refine LeO.ite ?_ ?_
   | refine LeO.bind ?_ (fun _ => ?_)
  ·intro y0 y1 y2 y3 y4 y5
   unfold spec_l1Cur_re.j0
   repeat' first
   | (with_reducible exact ih0 _ _ _ _ _)
   | (with_reducible exact ih1 _ _ _ _ _ _)
   | (with_reducible exact ih2 _ _ _ _ _ _ _)
   | (with_reducible exact ih3 _ _ _ _ _ _)
   | (with_reducible exact spec_GoodSet.mono _ _)
   | (with_reducible exact spec_l1AllRunes.mono _ _)
   | (with_reducible exact spec_l1Cur_set.mono _ _ _ _)
   | (with_reducible exact spec_l5Arity.mono _ _)
   | (with_reducible exact LeO.refl _)
   | (with_reducible exact LeO.none _)
   | (with_reducible refine LeO.ite ?_ ?_)
   | (with_reducible refine LeO.bind ?_ (fun _ => ?_))
   | exact ih0 _ _ _ _ _
   | exact ih1 _ _ _ _ _ _
   | exact ih2 _ _ _ _ _ _ _
   | exact ih3 _ _ _ _ _ _
   | exact spec_GoodSet.mono _ _
   | exact spec_l1AllRunes.mono _ _
   | exact spec_l1Cur_set.mono _ _ _ _
   | exact spec_l5Arity.mono _ _
   | exact LeO.none _
   | refine LeO.ite ?_ ?_
   | refine LeO.bind ?_ (fun _ => ?_)
  ·intro y0 y1 y2 y3 y4 y5 y6
   unfold spec_l1Cur_re.j1
   repeat' first
   | (with_reducible exact ih0 _ _ _ _ _)
   | (with_reducible exact ih1 _ _ _ _ _ _)
   | (with_reducible exact ih2 _ _ _ _ _ _ _)
   | (with_reducible exact ih3 _ _ _ _ _ _)
   | (with_reducible exact spec_GoodSet.mono _ _)
   | (with_reducible exact spec_l1AllRunes.mono _ _)
   | (with_reducible exact spec_l1Cur_set.mono _ _ _ _)
   | (with_reducible exact spec_l5Arity.mono _ _)
   | (with_reducible exact LeO.refl _)
   | (with_reducible exact LeO.none _)
   | (with_reducible refine LeO.ite ?_ ?_)
   | (with_reducible refine LeO.bind ?_ (fun _ => ?_))
   | exact ih0 _ _ _ _ _
   | exact ih1 _ _ _ _ _ _
   | exact ih2 _ _ _ _ _ _ _
   | exact ih3 _ _ _ _ _ _
   | exact spec_GoodSet.mono _ _
   | exact spec_l1AllRunes.mono _ _
   | exact spec_l1Cur_set.mono _ _ _ _
   | exact spec_l5Arity.mono _ _
   | exact LeO.none _
   | refine LeO.ite ?_ ?_
   | refine LeO.bind ?_ (fun _ => ?_)
  ·intro y0 y1 y2 y3 y4 y5
   unfold spec_l1Cur_re.j2
   repeat' first
   | (with_reducible exact ih0 _ _ _ _ _)
   | (with_reducible exact ih1 _ _ _ _ _ _)
   | (with_reducible exact ih2 _ _ _ _ _ _ _)
   | (with_reducible exact ih3 _ _ _ _ _ _)
   | (with_reducible exact spec_GoodSet.mono _ _)
   | (with_reducible exact spec_l1AllRunes.mono _ _)
   | (with_reducible exact spec_l1Cur_set.mono _ _ _ _)
   | (with_reducible exact spec_l5Arity.mono _ _)
   | (with_reducible exact LeO.refl _)
   | (with_reducible exact LeO.none _)
   | (with_reducible refine LeO.ite ?_ ?_)
   | (with_reducible refine LeO.bind ?_ (fun _ => ?_))
   | exact ih0 _ _ _ _ _
   | exact ih1 _ _ _ _ _ _
   | exact ih2 _ _ _ _ _ _ _
   | exact ih3 _ _ _ _ _ _
   | exact spec_GoodSet.mono _ _
   | exact spec_l1AllRunes.mono _ _
   | exact spec_l1Cur_set.mono _ _ _ _
   | exact spec_l5Arity.mono _ _
   | exact LeO.none _
   | refine LeO.ite ?_ ?_
   | refine LeO.bind ?_ (fun _ => ?_)
theorem spec_l1Cur_re.mono : ∀ a0 a1 a2 a3 a4 k, LeO (spec_l1Cur_re.f k a0 a1 a2 a3 a4) (spec_l1Cur_re.f (k + 1) a0 a1 a2 a3 a4) := by
 intro a0 a1 a2 a3 a4 k
 obtain ⟨ih0, ih1, ih2, ih3⟩ := spec_l1Cur_re.mono_l k
 exact ih0 a0 a1 a2 a3 a4
set_option maxHeartbeats 8000000 in
set_option maxRecDepth 100000 in
theorem spec_l1Cur_re.calls (k : Nat) : ∀ (g : Nat) (s0_0 : List Int) (s0_1 : Int) (s0_2 : Int) (a1 : Int) (a2 : Bool) (r1 : List (S89)) (r2 : Int) (r3 : Int) (w0 w : World) (hI : IsS104 w0 w g s0_0 s0_1 s0_2) (hB : Below w0.heap.size w0 w) (h : spec_l1Cur_re.f k s0_0 s0_1 s0_2 a1 a2 = some (r1, r2, r3)),
  Calls Try.prog 79 #[.pointer (some ⟨g, 0, none⟩), .int .i64 a1, .bool a2] w fun e w' => ∃ v0_ : Value, e = .returned (v0_) ∧ Kd.N k89 89 w' w.heap.size (fun k_ => (w.heap.size ≤ k_)) v0_ r1 ∧ IsS104 w0 w' g s0_0 r2 r3 ∧ Below w0.heap.size w0 w' ∧ KeepBut w w' g none := by
 induction k using Nat.strongRecOn with
 | _ k ih =>
 intro g s0_0 s0_1 s0_2 a1 a2 r1 r2 r3 w0 w hI hB h
 cases k with
 | zero => exact absurd h (by simp [spec_l1Cur_re.f])
 | succ k =>
 simp only [spec_l1Cur_re.f] at h
 have hu89 := Try.underlying89
 have HI0 := Aside0.mk hI
 have HK := Aside0.mk (KeepBut.refl w g none)
 have HL := Aside0.mk hB.size
 clear hI
 have HW0 := Aside0.mk hB.size
 have HB := Aside0.mk hB
 clear hB
 have H : (if a1 = 0 then (spec_l1Cur_re.j0 k a1 a2 true s0_0 s0_1 s0_2) else ((spec_l1Cur_one.f s0_0 s0_1 s0_2 4).bind fun bt626 => (spec_l1Cur_re.j0 k a1 a2 bt626.1 s0_0 bt626.2.1 bt626.2.2))) = some (r1, r2, r3) := h
 clear h
 have HC4 := Aside0.mk H
 clear H
 go_enter Try.func79, Try.ntmps79
 go_upto_region 1 with (fail)
 go_cut [16] (fun v16 wc => ∃ (kq : Nat) (x16_3 : Bool) (x1001_3 : Int) (x1002_3 : Int), v16 = .bool x16_3 ∧ Aside0 (spec_l1Cur_re.j0 kq a1 a2 x16_3 s0_0 x1001_3 x1002_3 = some (r1, r2, r3)) ∧ Aside0 (kq ≤ k) ∧ Aside0 (IsS104 w0 wc g s0_0 x1001_3 x1002_3) ∧ Aside0 (KeepBut w wc g none) ∧ Aside0 (Below w0.heap.size w0 wc))
 case first =>
  have H := HC4.out
  clear HC4
  by_cases c5 : a1 = 0
  ·rw [if_pos c5] at H
   have c5b0 : (a1 == 0) = true := beq_iff_eq.mpr c5
   have c5b1 : (a1 != 0) = false := bne_eq_false_iff_eq.mpr c5
   clear c5
   (first | rw [c5b0] | (simp only [i64_w, i32_w]; rw [c5b0]) | skip)
   have H' := Aside0.mk H
   clear H
   go_wp2
   go_meet
   case rel => exact ⟨_, (true), (s0_1), (s0_2), (by first | rfl | (simp; done) | (simp [*]; done)), H', ⟨by first | omega | exact Nat.le_refl _⟩, ⟨HI0.out⟩, ⟨HK.out⟩, ⟨HB.out⟩⟩
  ·rw [if_neg c5] at H
   have c5b0 : (a1 == 0) = false := beq_eq_false_iff_ne.mpr c5
   have c5b1 : (a1 != 0) = true := bne_iff_ne.mpr c5
   (first | rw [c5b0] | (simp only [i64_w, i32_w]; rw [c5b0]) | skip)
   replace H := Option.bind_eq_some_iff.mp H
   obtain ⟨⟨t626, t627, t628⟩, A60, H⟩ := H
   replace H : (spec_l1Cur_re.j0 k a1 a2 t626 s0_0 t627 t628) = some (r1, r2, r3) := H
   have A6 := Aside0.mk A60
   clear A60
   have H' := Aside0.mk H
   clear H
   go_wp2_with (first | (go_at_call 122; (with_reducible refine (spec_l1Cur_one.calls g s0_0 s0_1 s0_2 4 t626 t627 t628 w0 _ ?side1 ?side2 A6.out).mono ?_); (case side1 => exact HI0.out); (case side2 => exact HB.out); rintro e w7 ⟨rfl, hi, hb, hk⟩; have n0_ := Aside0.mk (KeepBut.trans HK.out hk (.inl rfl)); have n1_ := Aside0.mk (hb); have n2_ := Aside0.mk (hi); clear HK; clear HB; clear HI0; have HK := n0_; have HB := n1_; have HI0 := n2_; clear n0_ n1_ n2_))
   go_meet
   case rel => exact ⟨_, (t626), (t627), (t628), (by first | rfl | (simp; done) | (simp [*]; done)), H', ⟨by first | omega | exact Nat.le_refl _⟩, ⟨HI0.out⟩, ⟨HK.out⟩, ⟨HB.out⟩⟩
 case rest =>
  clear HC4
  try clear p2
  try clear c5
  try clear c5b0
  try clear c5b1
  try clear c7
  obtain ⟨kq, x16_3, x1001_3, x1002_3, rfl, HA, HJ3, HI0, HK, HB⟩ := hcut
  cases kq with
  | zero => exact absurd HA.out (by simp [spec_l1Cur_re.j0])
  | succ kj3 =>
   have H := HA.out
   clear HA
   simp only [spec_l1Cur_re.j0] at H
   by_cases c8 : x16_3 = true
   ·subst c8
    have H1 : ((spec_l1Cur_pick.f s0_0 x1001_3 x1002_3 8).bind fun bt629 => (if bt629.1 = 0 then (some ((([(⟨1, ([] : List Int)⟩ : S89)] : List (S89))), bt629.2.1, bt629.2.2)) else (if bt629.1 = 1 then ((spec_l1Cur_set.f kj3 s0_0 bt629.2.1 bt629.2.2).bind fun bt635 => ((spec_l1AllRunes.f kj3 bt635.1).bind fun t640 => (if t640 = true then ((spec_GoodSet.f kj3 bt635.1).bind fun t641 => (if t641 = true then (some ((([(⟨2, bt635.1⟩ : S89)] : List (S89))), bt635.2.1, bt635.2.2)) else (some ((([(⟨2, ([] : List Int)⟩ : S89)] : List (S89))), bt635.2.1, bt635.2.2)))) else (some ((([(⟨2, ([] : List Int)⟩ : S89)] : List (S89))), bt635.2.1, bt635.2.2))))) else (if bt629.1 = 2 then (some ((([(⟨2, (([0, 1114111] : List Int))⟩ : S89)] : List (S89))), bt629.2.1, bt629.2.2)) else ((spec_l1Cur_among.f s0_0 bt629.2.1 bt629.2.2 (([97, 97, 98, 99, 65, 12354, 42, 45] : List Int))).bind fun bt660 => (some ((([(⟨2, (([bt660.1, bt660.1] : List Int))⟩ : S89)] : List (S89))), bt660.2.1, bt660.2.2))))))) = some (r1, r2, r3) := by rw [if_pos rfl] at H; exact H
    clear H
    have H := H1
    clear H1
    replace H := Option.bind_eq_some_iff.mp H
    obtain ⟨⟨t629, t630, t631⟩, A90, H⟩ := H
    replace H : (if t629 = 0 then (some ((([(⟨1, ([] : List Int)⟩ : S89)] : List (S89))), t630, t631)) else (if t629 = 1 then ((spec_l1Cur_set.f kj3 s0_0 t630 t631).bind fun bt635 => ((spec_l1AllRunes.f kj3 bt635.1).bind fun t640 => (if t640 = true then ((spec_GoodSet.f kj3 bt635.1).bind fun t641 => (if t641 = true then (some ((([(⟨2, bt635.1⟩ : S89)] : List (S89))), bt635.2.1, bt635.2.2)) else (some ((([(⟨2, ([] : List Int)⟩ : S89)] : List (S89))), bt635.2.1, bt635.2.2)))) else (some ((([(⟨2, ([] : List Int)⟩ : S89)] : List (S89))), bt635.2.1, bt635.2.2))))) else (if t629 = 2 then (some ((([(⟨2, (([0, 1114111] : List Int))⟩ : S89)] : List (S89))), t630, t631)) else ((spec_l1Cur_among.f s0_0 t630 t631 (([97, 97, 98, 99, 65, 12354, 42, 45] : List Int))).bind fun bt660 => (some ((([(⟨2, (([bt660.1, bt660.1] : List Int))⟩ : S89)] : List (S89))), bt660.2.1, bt660.2.2)))))) = some (r1, r2, r3) := H
    have A9 := Aside0.mk A90
    clear A90
    by_cases c10 : t629 = 0
    ·rw [if_pos c10] at H
     have c10b0 : (t629 == 0) = true := beq_iff_eq.mpr c10
     have c10b1 : (t629 != 0) = false := bne_eq_false_iff_eq.mpr c10
     clear c10
     obtain ⟨y632, hy632⟩ : ∃ y_ : List (S89), y_ = (([(⟨1, ([] : List Int)⟩ : S89)] : List (S89))) := ⟨_, rfl⟩
     replace H : (some (y632, t630, t631)) = some (r1, r2, r3) := by rw [hy632]; exact H
     have Ny632 := Aside0.mk hy632
     clear hy632
     simp only [Option.some.injEq, Prod.mk.injEq] at H
     obtain ⟨rfl, rfl, rfl⟩ := H
     go_wp2_with (first | ((with_reducible refine gate_callee (f := 78) rfl ?_); refine goesL_ (some 18) rfl rfl Try.func78 (by kernel_rfl) rfl #[.pointer (some ⟨g, 0, none⟩), .int .i64 8] rfl (by simp only [List.map_toArray, List.map_cons, List.map_nil] <;> rfl) ?_; (with_reducible refine (spec_l1Cur_pick.calls g s0_0 x1001_3 x1002_3 8 t629 t630 t631 w0 _ ?side1 ?side2 A9.out).mono ?_); (case side1 => exact HI0.out); (case side2 => exact HB.out); rintro e w11 ⟨rfl, hi, hb, hk⟩; refine ⟨_, rfl, ?_⟩; have n0_ := Aside0.mk (KeepBut.trans HK.out hk (.inl rfl)); have n1_ := Aside0.mk (hb); have n2_ := Aside0.mk (hi); clear HK; clear HB; clear HI0; have HK := n0_; have HB := n1_; have HI0 := n2_; clear n0_ n1_ n2_) | ((with_reducible refine gate_dst (N := 22) rfl ?_); refine Kd.N_lit k89 _ 89 ?hg (N' := 22) ?hd (xs := ([(⟨1, ([] : List Int)⟩ : S89)] : List (S89))) (inner := [.int .i64 1, .slice none 0 0]) (ok := (fun k_ => (w.heap.size ≤ k_) ∧ k_ ≠ g)) (okp := (fun k_ => (w.heap.size ≤ k_) ∧ k_ ≠ g)) ?hr ?hp (fun _ hk => hk) ((show ∀ k_, w11.heap.size ≤ k_ → (fun k_ => (w.heap.size ≤ k_) ∧ k_ ≠ g) k_ from fun k_ hk => ⟨(Nat.le_trans (keep_size (w := w) (g := g) (row := none) HK.out) hk), IsS104.fresh HI0.out k_ hk⟩) _ (Nat.le_refl _)) (Below.refl _ _) (Nat.le_refl _) (by simp) ?_; (case hd => rfl); (case hg => rfl); (case hr => go_simp <;> rfl); (case hp => exact (Reps.c2 (show Kd.FK k89 _ _ (⟨1, ([] : List Int)⟩ : S89) [.int .i64 1, .slice none 0 0] from (k89_mkF _ _ (⟨1, ([] : List Int)⟩ : S89) (Nat.le_refl _) (Kd.F_nil _ _ _))) (Reps.none _ _))); intro v633 w12 ho13 hb hg_ hnew_; clear hg_ hnew_; (first | rw [← Ny632.out] at ho13 | (simp only [Int.reduceToNat] at ho13; rw [← Ny632.out] at ho13)); have n0_ := Aside0.mk (Kd.N_lower ho13 (keep_size (w := w) (g := g) (row := none) HK.out)); have n1_ := Aside0.mk (IsS104.below HI0.out hb); have n2_ := Aside0.mk (KeepBut.trans HK.out (KeepBut.of_below hb g none) (.inl rfl)); have n3_ := Aside0.mk (below_step HB.out hb); clear HI0; clear HK; clear HB; have HO634 := n0_; have HI0 := n1_; have HK := n2_; have HB := n3_; clear n0_ n1_ n2_ n3_; clear hb ho13))
     go_ret
     exact ⟨_, by first | rfl | (simp [errW_none, errW_some] <;> rfl) | (simp [*, errW_none, errW_some] <;> rfl), by (with_reducible repeat (first | apply Kd.N_alloc | apply Kd.N_drewN | apply Kd.N_drew)); exact Kd.N_mono HO634.out (fun _ hk => hk.1), HI0.out, HB.out, HK.out⟩
    ·rw [if_neg c10] at H
     have c10b0 : (t629 == 0) = false := beq_eq_false_iff_ne.mpr c10
     have c10b1 : (t629 != 0) = true := bne_iff_ne.mpr c10
     by_cases c14 : t629 = 1
     ·rw [if_pos c14] at H
      have c14b0 : (t629 == 1) = true := beq_iff_eq.mpr c14
      have c14b1 : (t629 != 1) = false := bne_eq_false_iff_eq.mpr c14
      clear c14
      replace H := Option.bind_eq_some_iff.mp H
      obtain ⟨⟨t635, t638, t639⟩, A150, H⟩ := H
      replace H : ((spec_l1AllRunes.f kj3 t635).bind fun t640 => (if t640 = true then ((spec_GoodSet.f kj3 t635).bind fun t641 => (if t641 = true then (some ((([(⟨2, t635⟩ : S89)] : List (S89))), t638, t639)) else (some ((([(⟨2, ([] : List Int)⟩ : S89)] : List (S89))), t638, t639)))) else (some ((([(⟨2, ([] : List Int)⟩ : S89)] : List (S89))), t638, t639)))) = some (r1, r2, r3) := H
      have A15 := Aside0.mk A150
      clear A150
      replace H := Option.bind_eq_some_iff.mp H
      obtain ⟨t640, A160, H⟩ := H
      replace H : (if t640 = true then ((spec_GoodSet.f kj3 t635).bind fun t641 => (if t641 = true then (some ((([(⟨2, t635⟩ : S89)] : List (S89))), t638, t639)) else (some ((([(⟨2, ([] : List Int)⟩ : S89)] : List (S89))), t638, t639)))) else (some ((([(⟨2, ([] : List Int)⟩ : S89)] : List (S89))), t638, t639))) = some (r1, r2, r3) := H
      have A16 := Aside0.mk A160
      clear A160
      by_cases c17 : t640 = true
      ·subst c17
       have H1 : ((spec_GoodSet.f kj3 t635).bind fun t641 => (if t641 = true then (some ((([(⟨2, t635⟩ : S89)] : List (S89))), t638, t639)) else (some ((([(⟨2, ([] : List Int)⟩ : S89)] : List (S89))), t638, t639)))) = some (r1, r2, r3) := by rw [if_pos rfl] at H; exact H
       clear H
       have H := H1
       clear H1
       replace H := Option.bind_eq_some_iff.mp H
       obtain ⟨t641, A180, H⟩ := H
       replace H : (if t641 = true then (some ((([(⟨2, t635⟩ : S89)] : List (S89))), t638, t639)) else (some ((([(⟨2, ([] : List Int)⟩ : S89)] : List (S89))), t638, t639))) = some (r1, r2, r3) := H
       have A18 := Aside0.mk A180
       clear A180
       by_cases c19 : t641 = true
       ·subst c19
        have H1 : (some ((([(⟨2, t635⟩ : S89)] : List (S89))), t638, t639)) = some (r1, r2, r3) := by rw [if_pos rfl] at H; exact H
        clear H
        have H := H1
        clear H1
        obtain ⟨y642, hy642⟩ : ∃ y_ : List (S89), y_ = (([(⟨2, t635⟩ : S89)] : List (S89))) := ⟨_, rfl⟩
        replace H : (some (y642, t638, t639)) = some (r1, r2, r3) := by rw [hy642]; exact H
        have Ny642 := Aside0.mk hy642
        clear hy642
        simp only [Option.some.injEq, Prod.mk.injEq] at H
        obtain ⟨rfl, rfl, rfl⟩ := H
        go_wp2_with (first | ((with_reducible refine gate_callee (f := 78) rfl ?_); refine goesL_ (some 18) rfl rfl Try.func78 (by kernel_rfl) rfl #[.pointer (some ⟨g, 0, none⟩), .int .i64 8] rfl (by simp only [List.map_toArray, List.map_cons, List.map_nil] <;> rfl) ?_; (with_reducible refine (spec_l1Cur_pick.calls g s0_0 x1001_3 x1002_3 8 t629 t630 t631 w0 _ ?side1 ?side2 A9.out).mono ?_); (case side1 => repeat (first | (with_reducible first | exact HI0.out | apply IsS104.alloc | apply IsS104.drewN | apply IsS104.drew | apply IsS104.set_1 | apply IsS104.set_2) | exact HI0.out)); (case side2 => repeat (first | (with_reducible first | exact HB.out | apply below_alloc | apply pw_below_drewN | apply below_drew1 | refine below_set ?_ (IsS104.ge HI0.out)) | exact HB.out)); rintro e w20 ⟨rfl, hi, hb, hk⟩; refine ⟨_, rfl, ?_⟩; have n0_ := Aside0.mk (KeepBut.trans (by repeat (first | (with_reducible first | exact HK.out | apply KeepBut.set_ | apply keep_drewN | apply keep_drew | apply keep_alloc) | exact HK.out)) hk (.inl rfl)); have n1_ := Aside0.mk (hb); have n2_ := Aside0.mk (hi); clear HK; clear HB; clear HI0; have HK := n0_; have HB := n1_; have HI0 := n2_; clear n0_ n1_ n2_) | ((with_reducible refine gate_callee (f := 123) rfl ?_); refine goesL_ (some 26) rfl rfl Try.func123 (by kernel_rfl) rfl #[.pointer (some ⟨g, 0, none⟩)] rfl (by simp only [List.map_toArray, List.map_cons, List.map_nil] <;> rfl) ?_; (with_reducible refine (spec_l1Cur_set.calls kj3 g s0_0 t630 t631 t635 t638 t639 w0 _ ?side1 ?side2 A15.out).mono ?_); (case side1 => repeat (first | (with_reducible first | exact HI0.out | apply IsS104.alloc | apply IsS104.drewN | apply IsS104.drew | apply IsS104.set_1 | apply IsS104.set_2) | exact HI0.out)); (case side2 => repeat (first | (with_reducible first | exact HB.out | apply below_alloc | apply pw_below_drewN | apply below_drew1 | refine below_set ?_ (IsS104.ge HI0.out)) | exact HB.out)); rintro e w21 ⟨v636, rfl, ho0, hi, hb, hk⟩; refine ⟨_, rfl, ?_⟩; have n0_ := Aside0.mk (Kd.R_lower (Kd.R_newM (M := fun k_ => (w.heap.size ≤ k_)) ho0 (keep_size (w := w) (g := g) (row := none) (by repeat (first | (with_reducible first | exact HK.out | apply KeepBut.set_ | apply keep_drewN | apply keep_drew | apply keep_alloc) | exact HK.out))) (fun k_ h_ => h_)) (keep_size (w := w) (g := g) (row := none) (by repeat (first | (with_reducible first | exact HK.out | apply KeepBut.set_ | apply keep_drewN | apply keep_drew | apply keep_alloc) | exact HK.out)))); have n1_ := Aside0.mk (KeepBut.trans (by repeat (first | (with_reducible first | exact HK.out | apply KeepBut.set_ | apply keep_drewN | apply keep_drew | apply keep_alloc) | exact HK.out)) hk (.inl rfl)); have n2_ := Aside0.mk (hb); have n3_ := Aside0.mk (hi); clear HK; clear HB; clear HI0; have HO637 := n0_; have HK := n1_; have HB := n2_; have HI0 := n3_; clear n0_ n1_ n2_ n3_; obtain ⟨Ao22, co22, eo22⟩ := Kd.R_slice HO637.out; subst eo22) | ((with_reducible refine gate_callee (f := 93) rfl ?_); refine goesL_ (some 28) rfl rfl Try.func93 (by kernel_rfl) rfl #[.slice Ao22 t635.length co22] rfl (by simp only [List.map_toArray, List.map_cons, List.map_nil] <;> rfl) ?_; (with_reducible refine (spec_l1AllRunes.calls kj3 _ _ t635 true _ ?side1 ?side2 A16.out).mono ?_); (case side1 => repeat (first | exact (Kd.R_reads' HO637.out).2.2 | (with_reducible refine Kd.C_alloc ?_ _) | (with_reducible refine Kd.C_drewN ?_ _) | (with_reducible refine Kd.C_drew ?_))); (case side2 => exact (Kd.R_reads' HO637.out).2.1); rintro e w' ⟨rfl, ⟨nd, rfl⟩⟩; refine ⟨_, rfl, ?_⟩) | (go_at_call 124; (with_reducible refine (spec_GoodSet.calls kj3 _ _ t635 true _ ?side1 ?side2 A18.out).mono ?_); (case side1 => repeat (first | exact (Kd.R_reads' HO637.out).2.2 | (with_reducible refine Kd.C_alloc ?_ _) | (with_reducible refine Kd.C_drewN ?_ _) | (with_reducible refine Kd.C_drew ?_))); (case side2 => exact (Kd.R_reads' HO637.out).2.1); rintro e w' ⟨rfl, ⟨nd, rfl⟩⟩) | ((with_reducible refine gate_dst (N := 37) rfl ?_); refine Kd.N_lit k89 _ 89 ?hg (N' := 37) ?hd (xs := ([(⟨2, t635⟩ : S89)] : List (S89))) (inner := [.int .i64 2, .slice Ao22 t635.length co22]) (ok := (fun k_ => (w.heap.size ≤ k_) ∧ k_ ≠ g)) (okp := (fun k_ => (w.heap.size ≤ k_) ∧ k_ ≠ g)) ?hr ?hp (fun _ hk => hk) ((show ∀ k_, w21.heap.size ≤ k_ → (fun k_ => (w.heap.size ≤ k_) ∧ k_ ≠ g) k_ from fun k_ hk => ⟨(Nat.le_trans (keep_size (w := w) (g := g) (row := none) (by repeat (first | (with_reducible first | exact HK.out | apply KeepBut.set_ | apply keep_drewN | apply keep_drew | apply keep_alloc) | exact HK.out))) hk), IsS104.fresh (by repeat (first | (with_reducible first | exact HI0.out | apply IsS104.alloc | apply IsS104.drewN | apply IsS104.drew | apply IsS104.set_1 | apply IsS104.set_2) | exact HI0.out)) k_ hk⟩) _ (Nat.le_refl _)) (Below.refl _ _) (Nat.le_refl _) (by simp) ?_; (case hd => rfl); (case hg => rfl); (case hr => go_simp <;> rfl); (case hp => exact (Reps.c2 (show Kd.FK k89 _ _ (⟨2, t635⟩ : S89) [.int .i64 2, .slice Ao22 t635.length co22] from (k89_mkF _ _ (⟨2, t635⟩ : S89) (Kd.R_reads' (Kd.R_mono (ok' := (fun k_ => (w.heap.size ≤ k_) ∧ k_ ≠ g)) (IsS104.apart HI0.out (HO637.out) (by decide)) (fun k_ hk => ⟨hk.1.1, hk.2⟩))).2.1 (Kd.R_F (Kd.R_mono (ok' := (fun k_ => (w.heap.size ≤ k_) ∧ k_ ≠ g)) (IsS104.apart HI0.out (HO637.out) (by decide)) (fun k_ hk => ⟨hk.1.1, hk.2⟩))))) (Reps.none _ _))); intro v643 w23 ho24 hb hg_ hnew_; clear hg_ hnew_; (first | rw [← Ny642.out] at ho24 | (simp only [Int.reduceToNat] at ho24; rw [← Ny642.out] at ho24)); have n0_ := Aside0.mk (Kd.N_lower ho24 (keep_size (w := w) (g := g) (row := none) (by repeat (first | (with_reducible first | exact HK.out | apply KeepBut.set_ | apply keep_drewN | apply keep_drew | apply keep_alloc) | exact HK.out)))); have n1_ := Aside0.mk (IsS104.below (by repeat (first | (with_reducible first | exact HI0.out | apply IsS104.alloc | apply IsS104.drewN | apply IsS104.drew | apply IsS104.set_1 | apply IsS104.set_2) | exact HI0.out)) hb); have n2_ := Aside0.mk (KeepBut.trans (by repeat (first | (with_reducible first | exact HK.out | apply KeepBut.set_ | apply keep_drewN | apply keep_drew | apply keep_alloc) | exact HK.out)) (KeepBut.of_below hb g none) (.inl rfl)); have n3_ := Aside0.mk (below_step (by repeat (first | (with_reducible first | exact HB.out | apply below_alloc | apply pw_below_drewN | apply below_drew1 | refine below_set ?_ (IsS104.ge HI0.out)) | exact HB.out)) hb); clear HI0; clear HK; clear HB; clear HO637; have HO644 := n0_; have HI0 := n1_; have HK := n2_; have HB := n3_; clear n0_ n1_ n2_ n3_; clear hb ho24))
        go_ret
        exact ⟨_, by first | rfl | (simp [errW_none, errW_some] <;> rfl) | (simp [*, errW_none, errW_some] <;> rfl), by (with_reducible repeat (first | apply Kd.N_alloc | apply Kd.N_drewN | apply Kd.N_drew)); exact Kd.N_mono HO644.out (fun _ hk => hk.1), by repeat (first | (with_reducible first | exact HI0.out | apply IsS104.alloc | apply IsS104.drewN | apply IsS104.drew | apply IsS104.set_1 | apply IsS104.set_2) | exact HI0.out), by repeat (first | (with_reducible first | exact HB.out | apply below_alloc | apply pw_below_drewN | apply below_drew1 | refine below_set ?_ (IsS104.ge HI0.out)) | exact HB.out), by repeat (first | (with_reducible first | exact HK.out | apply KeepBut.set_ | apply keep_drewN | apply keep_drew | apply keep_alloc) | exact HK.out)⟩
       ·replace c19 := Bool.eq_false_iff.mpr c19
        subst c19
        have H1 : (some ((([(⟨2, ([] : List Int)⟩ : S89)] : List (S89))), t638, t639)) = some (r1, r2, r3) := by rw [if_neg (show ¬ (false = true) by decide)] at H; exact H
        clear H
        have H := H1
        clear H1
        obtain ⟨y645, hy645⟩ : ∃ y_ : List (S89), y_ = (([(⟨2, ([] : List Int)⟩ : S89)] : List (S89))) := ⟨_, rfl⟩
        replace H : (some (y645, t638, t639)) = some (r1, r2, r3) := by rw [hy645]; exact H
        have Ny645 := Aside0.mk hy645
        clear hy645
        simp only [Option.some.injEq, Prod.mk.injEq] at H
        obtain ⟨rfl, rfl, rfl⟩ := H
        go_wp2_with (first | ((with_reducible refine gate_callee (f := 78) rfl ?_); refine goesL_ (some 18) rfl rfl Try.func78 (by kernel_rfl) rfl #[.pointer (some ⟨g, 0, none⟩), .int .i64 8] rfl (by (try simp only [List.map_toArray, List.map_cons, List.map_nil]); first | done | rfl | (simp only [List.length_drop, List.length_take]; rfl)) ?_; (with_reducible refine (spec_l1Cur_pick.calls g s0_0 x1001_3 x1002_3 8 t629 t630 t631 w0 _ ?side1 ?side2 A9.out).mono ?_); (case side1 => repeat (first | (with_reducible first | exact HI0.out | apply IsS104.alloc | apply IsS104.drewN | apply IsS104.drew | apply IsS104.set_1 | apply IsS104.set_2) | exact HI0.out)); (case side2 => repeat (first | (with_reducible first | exact HB.out | apply below_alloc | apply pw_below_drewN | apply below_drew1 | refine below_set ?_ (IsS104.ge HI0.out)) | exact HB.out)); rintro e w25 ⟨rfl, hi, hb, hk⟩; refine ⟨_, rfl, ?_⟩; have n0_ := Aside0.mk (KeepBut.trans (by repeat (first | (with_reducible first | exact HK.out | apply KeepBut.set_ | apply keep_drewN | apply keep_drew | apply keep_alloc) | exact HK.out)) hk (.inl rfl)); have n1_ := Aside0.mk (hb); have n2_ := Aside0.mk (hi); clear HK; clear HB; clear HI0; have HK := n0_; have HB := n1_; have HI0 := n2_; clear n0_ n1_ n2_; (try clear hb); (try clear hb2); (try clear hk); (try clear hi)) | ((with_reducible refine gate_callee (f := 123) rfl ?_); refine goesL_ (some 26) rfl rfl Try.func123 (by kernel_rfl) rfl #[.pointer (some ⟨g, 0, none⟩)] rfl (by (try simp only [List.map_toArray, List.map_cons, List.map_nil]); first | done | rfl | (simp only [List.length_drop, List.length_take]; rfl)) ?_; (with_reducible refine (spec_l1Cur_set.calls kj3 g s0_0 t630 t631 t635 t638 t639 w0 _ ?side1 ?side2 A15.out).mono ?_); (case side1 => repeat (first | (with_reducible first | exact HI0.out | apply IsS104.alloc | apply IsS104.drewN | apply IsS104.drew | apply IsS104.set_1 | apply IsS104.set_2) | exact HI0.out)); (case side2 => repeat (first | (with_reducible first | exact HB.out | apply below_alloc | apply pw_below_drewN | apply below_drew1 | refine below_set ?_ (IsS104.ge HI0.out)) | exact HB.out)); rintro e w26 ⟨v636, rfl, ho0, hi, hb, hk⟩; refine ⟨_, rfl, ?_⟩; have n0_ := Aside0.mk (Kd.R_lower (Kd.R_newM (M := fun k_ => (w.heap.size ≤ k_)) ho0 (keep_size (w := w) (g := g) (row := none) (by repeat (first | (with_reducible first | exact HK.out | apply KeepBut.set_ | apply keep_drewN | apply keep_drew | apply keep_alloc) | exact HK.out))) (fun k_ h_ => h_)) (keep_size (w := w) (g := g) (row := none) (by repeat (first | (with_reducible first | exact HK.out | apply KeepBut.set_ | apply keep_drewN | apply keep_drew | apply keep_alloc) | exact HK.out)))); have n1_ := Aside0.mk (KeepBut.trans (by repeat (first | (with_reducible first | exact HK.out | apply KeepBut.set_ | apply keep_drewN | apply keep_drew | apply keep_alloc) | exact HK.out)) hk (.inl rfl)); have n2_ := Aside0.mk (hb); have n3_ := Aside0.mk (hi); clear HK; clear HB; clear HI0; have HO637 := n0_; have HK := n1_; have HB := n2_; have HI0 := n3_; clear n0_ n1_ n2_ n3_; (try clear hb); (try clear hb2); (try clear hk); (try clear hi); (try clear ho0); obtain ⟨Ao27, co27, eo27⟩ := Kd.R_slice HO637.out; subst eo27) | ((with_reducible refine gate_callee (f := 93) rfl ?_); refine goesL_ (some 28) rfl rfl Try.func93 (by kernel_rfl) rfl #[.slice Ao27 t635.length co27] rfl (by (try simp only [List.map_toArray, List.map_cons, List.map_nil]); first | done | rfl | (simp only [List.length_drop, List.length_take]; rfl)) ?_; (with_reducible refine (spec_l1AllRunes.calls kj3 _ _ t635 true _ ?side1 ?side2 A16.out).mono ?_); (case side1 => repeat (first | exact (Kd.R_reads' HO637.out).2.2 | (with_reducible refine Kd.C_alloc ?_ _) | (with_reducible refine Kd.C_drewN ?_ _) | (with_reducible refine Kd.C_drew ?_))); (case side2 => exact (Kd.R_reads' HO637.out).2.1); rintro e w' ⟨rfl, ⟨nd, rfl⟩⟩; refine ⟨_, rfl, ?_⟩) | (go_at_call 124; (with_reducible refine (spec_GoodSet.calls kj3 _ _ t635 false _ ?side1 ?side2 A18.out).mono ?_); (case side1 => repeat (first | exact (Kd.R_reads' HO637.out).2.2 | (with_reducible refine Kd.C_alloc ?_ _) | (with_reducible refine Kd.C_drewN ?_ _) | (with_reducible refine Kd.C_drew ?_))); (case side2 => exact (Kd.R_reads' HO637.out).2.1); rintro e w' ⟨rfl, ⟨nd, rfl⟩⟩) | ((with_reducible refine gate_dst (N := 37) rfl ?_); refine Kd.N_lit k89 _ 89 ?hg (N' := 37) ?hd (xs := ([(⟨2, ([] : List Int)⟩ : S89)] : List (S89))) (inner := [.int .i64 2, .slice none 0 0]) (ok := (fun k_ => (w.heap.size ≤ k_) ∧ some k_ ≠ (.slice Ao27 t635.length co27 : Value).ownBlock ∧ k_ ≠ g)) (okp := (fun k_ => (w.heap.size ≤ k_) ∧ some k_ ≠ (.slice Ao27 t635.length co27 : Value).ownBlock ∧ k_ ≠ g)) ?hr ?hp (fun _ hk => hk) ((show ∀ k_, w26.heap.size ≤ k_ → (fun k_ => (w.heap.size ≤ k_) ∧ some k_ ≠ (.slice Ao27 t635.length co27 : Value).ownBlock ∧ k_ ≠ g) k_ from fun k_ hk => ⟨(Nat.le_trans (keep_size (w := w) (g := g) (row := none) (by repeat (first | (with_reducible first | exact HK.out | apply KeepBut.set_ | apply keep_drewN | apply keep_drew | apply keep_alloc) | exact HK.out))) hk), Kd.fresh' (Kd.R_lt (by (with_reducible repeat (first | apply Kd.R_alloc | apply Kd.R_drewN | apply Kd.R_drew)); exact HO637.out)) k_ hk, IsS104.fresh (by repeat (first | (with_reducible first | exact HI0.out | apply IsS104.alloc | apply IsS104.drewN | apply IsS104.drew | apply IsS104.set_1 | apply IsS104.set_2) | exact HI0.out)) k_ hk⟩) _ (Nat.le_refl _)) (Below.refl _ _) (Nat.le_refl _) (by simp) ?_; (case hd => rfl); (case hg => rfl); (case hr => first | (go_simp; done) | (go_simp; rfl)); (case hp => exact (Reps.c2 (show Kd.FK k89 _ _ (⟨2, ([] : List Int)⟩ : S89) [.int .i64 2, .slice none 0 0] from (k89_mkF _ _ (⟨2, ([] : List Int)⟩ : S89) (Nat.le_refl _) (Kd.F_nil _ _ _))) (Reps.none _ _))); intro v646 w28 ho29 hb hg_ hnew_; clear hg_ hnew_; (first | rw [← Ny645.out] at ho29 | (simp only [Int.reduceToNat] at ho29; rw [← Ny645.out] at ho29)); have n0_ := Aside0.mk (Kd.R_below (by (with_reducible repeat (first | apply Kd.R_alloc | apply Kd.R_drewN | apply Kd.R_drew)); exact HO637.out) hb); have n1_ := Aside0.mk (Kd.N_lower ho29 (keep_size (w := w) (g := g) (row := none) (by repeat (first | (with_reducible first | exact HK.out | apply KeepBut.set_ | apply keep_drewN | apply keep_drew | apply keep_alloc) | exact HK.out)))); have n2_ := Aside0.mk (IsS104.below (by repeat (first | (with_reducible first | exact HI0.out | apply IsS104.alloc | apply IsS104.drewN | apply IsS104.drew | apply IsS104.set_1 | apply IsS104.set_2) | exact HI0.out)) hb); have n3_ := Aside0.mk (KeepBut.trans (by repeat (first | (with_reducible first | exact HK.out | apply KeepBut.set_ | apply keep_drewN | apply keep_drew | apply keep_alloc) | exact HK.out)) (KeepBut.of_below hb g none) (.inl rfl)); have n4_ := Aside0.mk (below_step (by repeat (first | (with_reducible first | exact HB.out | apply below_alloc | apply pw_below_drewN | apply below_drew1 | refine below_set ?_ (IsS104.ge HI0.out)) | exact HB.out)) hb); clear HO637; clear HI0; clear HK; clear HB; have HO637 := n0_; have HO647 := n1_; have HI0 := n2_; have HK := n3_; have HB := n4_; clear n0_ n1_ n2_ n3_ n4_; clear hb ho29))
        go_ret
        exact ⟨_, by first | rfl | (simp [errW_none, errW_some] <;> rfl) | (simp [*, errW_none, errW_some] <;> rfl), by (with_reducible repeat (first | apply Kd.N_alloc | apply Kd.N_drewN | apply Kd.N_drew)); exact Kd.N_mono HO647.out (fun _ hk => hk.1), by repeat (first | (with_reducible first | exact HI0.out | apply IsS104.alloc | apply IsS104.drewN | apply IsS104.drew | apply IsS104.set_1 | apply IsS104.set_2) | exact HI0.out), by repeat (first | (with_reducible first | exact HB.out | apply below_alloc | apply pw_below_drewN | apply below_drew1 | refine below_set ?_ (IsS104.ge HI0.out)) | exact HB.out), by repeat (first | (with_reducible first | exact HK.out | apply KeepBut.set_ | apply keep_drewN | apply keep_drew | apply keep_alloc) | exact HK.out)⟩
      ·replace c17 := Bool.eq_false_iff.mpr c17
       subst c17
       have H1 : (some ((([(⟨2, ([] : List Int)⟩ : S89)] : List (S89))), t638, t639)) = some (r1, r2, r3) := by rw [if_neg (show ¬ (false = true) by decide)] at H; exact H
       clear H
       have H := H1
       clear H1
       obtain ⟨y648, hy648⟩ : ∃ y_ : List (S89), y_ = (([(⟨2, ([] : List Int)⟩ : S89)] : List (S89))) := ⟨_, rfl⟩
       replace H : (some (y648, t638, t639)) = some (r1, r2, r3) := by rw [hy648]; exact H
       have Ny648 := Aside0.mk hy648
       clear hy648
       simp only [Option.some.injEq, Prod.mk.injEq] at H
       obtain ⟨rfl, rfl, rfl⟩ := H
       go_wp2_with (first | ((with_reducible refine gate_callee (f := 78) rfl ?_); refine goesL_ (some 18) rfl rfl Try.func78 (by kernel_rfl) rfl #[.pointer (some ⟨g, 0, none⟩), .int .i64 8] rfl (by (try simp only [List.map_toArray, List.map_cons, List.map_nil]); first | done | rfl | (simp only [List.length_drop, List.length_take]; rfl)) ?_; (with_reducible refine (spec_l1Cur_pick.calls g s0_0 x1001_3 x1002_3 8 t629 t630 t631 w0 _ ?side1 ?side2 A9.out).mono ?_); (case side1 => repeat (first | (with_reducible first | exact HI0.out | apply IsS104.alloc | apply IsS104.drewN | apply IsS104.drew | apply IsS104.set_1 | apply IsS104.set_2) | exact HI0.out)); (case side2 => repeat (first | (with_reducible first | exact HB.out | apply below_alloc | apply pw_below_drewN | apply below_drew1 | refine below_set ?_ (IsS104.ge HI0.out)) | exact HB.out)); rintro e w30 ⟨rfl, hi, hb, hk⟩; refine ⟨_, rfl, ?_⟩; have n0_ := Aside0.mk (KeepBut.trans (by repeat (first | (with_reducible first | exact HK.out | apply KeepBut.set_ | apply keep_drewN | apply keep_drew | apply keep_alloc) | exact HK.out)) hk (.inl rfl)); have n1_ := Aside0.mk (hb); have n2_ := Aside0.mk (hi); clear HK; clear HB; clear HI0; have HK := n0_; have HB := n1_; have HI0 := n2_; clear n0_ n1_ n2_; (try clear hb); (try clear hb2); (try clear hk); (try clear hi)) | ((with_reducible refine gate_callee (f := 123) rfl ?_); refine goesL_ (some 26) rfl rfl Try.func123 (by kernel_rfl) rfl #[.pointer (some ⟨g, 0, none⟩)] rfl (by (try simp only [List.map_toArray, List.map_cons, List.map_nil]); first | done | rfl | (simp only [List.length_drop, List.length_take]; rfl)) ?_; (with_reducible refine (spec_l1Cur_set.calls kj3 g s0_0 t630 t631 t635 t638 t639 w0 _ ?side1 ?side2 A15.out).mono ?_); (case side1 => repeat (first | (with_reducible first | exact HI0.out | apply IsS104.alloc | apply IsS104.drewN | apply IsS104.drew | apply IsS104.set_1 | apply IsS104.set_2) | exact HI0.out)); (case side2 => repeat (first | (with_reducible first | exact HB.out | apply below_alloc | apply pw_below_drewN | apply below_drew1 | refine below_set ?_ (IsS104.ge HI0.out)) | exact HB.out)); rintro e w31 ⟨v636, rfl, ho0, hi, hb, hk⟩; refine ⟨_, rfl, ?_⟩; have n0_ := Aside0.mk (Kd.R_lower (Kd.R_newM (M := fun k_ => (w.heap.size ≤ k_)) ho0 (keep_size (w := w) (g := g) (row := none) (by repeat (first | (with_reducible first | exact HK.out | apply KeepBut.set_ | apply keep_drewN | apply keep_drew | apply keep_alloc) | exact HK.out))) (fun k_ h_ => h_)) (keep_size (w := w) (g := g) (row := none) (by repeat (first | (with_reducible first | exact HK.out | apply KeepBut.set_ | apply keep_drewN | apply keep_drew | apply keep_alloc) | exact HK.out)))); have n1_ := Aside0.mk (KeepBut.trans (by repeat (first | (with_reducible first | exact HK.out | apply KeepBut.set_ | apply keep_drewN | apply keep_drew | apply keep_alloc) | exact HK.out)) hk (.inl rfl)); have n2_ := Aside0.mk (hb); have n3_ := Aside0.mk (hi); clear HK; clear HB; clear HI0; have HO637 := n0_; have HK := n1_; have HB := n2_; have HI0 := n3_; clear n0_ n1_ n2_ n3_; (try clear hb); (try clear hb2); (try clear hk); (try clear hi); (try clear ho0); obtain ⟨Ao32, co32, eo32⟩ := Kd.R_slice HO637.out; subst eo32) | ((with_reducible refine gate_callee (f := 93) rfl ?_); refine goesL_ (some 28) rfl rfl Try.func93 (by kernel_rfl) rfl #[.slice Ao32 t635.length co32] rfl (by (try simp only [List.map_toArray, List.map_cons, List.map_nil]); first | done | rfl | (simp only [List.length_drop, List.length_take]; rfl)) ?_; (with_reducible refine (spec_l1AllRunes.calls kj3 _ _ t635 false _ ?side1 ?side2 A16.out).mono ?_); (case side1 => repeat (first | exact (Kd.R_reads' HO637.out).2.2 | (with_reducible refine Kd.C_alloc ?_ _) | (with_reducible refine Kd.C_drewN ?_ _) | (with_reducible refine Kd.C_drew ?_))); (case side2 => exact (Kd.R_reads' HO637.out).2.1); rintro e w' ⟨rfl, ⟨nd, rfl⟩⟩; refine ⟨_, rfl, ?_⟩) | ((with_reducible refine gate_dst (N := 37) rfl ?_); refine Kd.N_lit k89 _ 89 ?hg (N' := 37) ?hd (xs := ([(⟨2, ([] : List Int)⟩ : S89)] : List (S89))) (inner := [.int .i64 2, .slice none 0 0]) (ok := (fun k_ => (w.heap.size ≤ k_) ∧ some k_ ≠ (.slice Ao32 t635.length co32 : Value).ownBlock ∧ k_ ≠ g)) (okp := (fun k_ => (w.heap.size ≤ k_) ∧ some k_ ≠ (.slice Ao32 t635.length co32 : Value).ownBlock ∧ k_ ≠ g)) ?hr ?hp (fun _ hk => hk) ((show ∀ k_, w31.heap.size ≤ k_ → (fun k_ => (w.heap.size ≤ k_) ∧ some k_ ≠ (.slice Ao32 t635.length co32 : Value).ownBlock ∧ k_ ≠ g) k_ from fun k_ hk => ⟨(Nat.le_trans (keep_size (w := w) (g := g) (row := none) (by repeat (first | (with_reducible first | exact HK.out | apply KeepBut.set_ | apply keep_drewN | apply keep_drew | apply keep_alloc) | exact HK.out))) hk), Kd.fresh' (Kd.R_lt (by (with_reducible repeat (first | apply Kd.R_alloc | apply Kd.R_drewN | apply Kd.R_drew)); exact HO637.out)) k_ hk, IsS104.fresh (by repeat (first | (with_reducible first | exact HI0.out | apply IsS104.alloc | apply IsS104.drewN | apply IsS104.drew | apply IsS104.set_1 | apply IsS104.set_2) | exact HI0.out)) k_ hk⟩) _ (Nat.le_refl _)) (Below.refl _ _) (Nat.le_refl _) (by simp) ?_; (case hd => rfl); (case hg => rfl); (case hr => first | (go_simp; done) | (go_simp; rfl)); (case hp => exact (Reps.c2 (show Kd.FK k89 _ _ (⟨2, ([] : List Int)⟩ : S89) [.int .i64 2, .slice none 0 0] from (k89_mkF _ _ (⟨2, ([] : List Int)⟩ : S89) (Nat.le_refl _) (Kd.F_nil _ _ _))) (Reps.none _ _))); intro v649 w33 ho34 hb hg_ hnew_; clear hg_ hnew_; (first | rw [← Ny648.out] at ho34 | (simp only [Int.reduceToNat] at ho34; rw [← Ny648.out] at ho34)); have n0_ := Aside0.mk (Kd.R_below (by (with_reducible repeat (first | apply Kd.R_alloc | apply Kd.R_drewN | apply Kd.R_drew)); exact HO637.out) hb); have n1_ := Aside0.mk (Kd.N_lower ho34 (keep_size (w := w) (g := g) (row := none) (by repeat (first | (with_reducible first | exact HK.out | apply KeepBut.set_ | apply keep_drewN | apply keep_drew | apply keep_alloc) | exact HK.out)))); have n2_ := Aside0.mk (IsS104.below (by repeat (first | (with_reducible first | exact HI0.out | apply IsS104.alloc | apply IsS104.drewN | apply IsS104.drew | apply IsS104.set_1 | apply IsS104.set_2) | exact HI0.out)) hb); have n3_ := Aside0.mk (KeepBut.trans (by repeat (first | (with_reducible first | exact HK.out | apply KeepBut.set_ | apply keep_drewN | apply keep_drew | apply keep_alloc) | exact HK.out)) (KeepBut.of_below hb g none) (.inl rfl)); have n4_ := Aside0.mk (below_step (by repeat (first | (with_reducible first | exact HB.out | apply below_alloc | apply pw_below_drewN | apply below_drew1 | refine below_set ?_ (IsS104.ge HI0.out)) | exact HB.out)) hb); clear HO637; clear HI0; clear HK; clear HB; have HO637 := n0_; have HO650 := n1_; have HI0 := n2_; have HK := n3_; have HB := n4_; clear n0_ n1_ n2_ n3_ n4_; clear hb ho34))
       go_ret
       exact ⟨_, by first | rfl | (simp [errW_none, errW_some] <;> rfl) | (simp [*, errW_none, errW_some] <;> rfl), by (with_reducible repeat (first | apply Kd.N_alloc | apply Kd.N_drewN | apply Kd.N_drew)); exact Kd.N_mono HO650.out (fun _ hk => hk.1), by repeat (first | (with_reducible first | exact HI0.out | apply IsS104.alloc | apply IsS104.drewN | apply IsS104.drew | apply IsS104.set_1 | apply IsS104.set_2) | exact HI0.out), by repeat (first | (with_reducible first | exact HB.out | apply below_alloc | apply pw_below_drewN | apply below_drew1 | refine below_set ?_ (IsS104.ge HI0.out)) | exact HB.out), by repeat (first | (with_reducible first | exact HK.out | apply KeepBut.set_ | apply keep_drewN | apply keep_drew | apply keep_alloc) | exact HK.out)⟩
     ·rw [if_neg c14] at H
      have c14b0 : (t629 == 1) = false := beq_eq_false_iff_ne.mpr c14
      have c14b1 : (t629 != 1) = true := bne_iff_ne.mpr c14
      by_cases c35 : t629 = 2
      ·rw [if_pos c35] at H
       have c35b0 : (t629 == 2) = true := beq_iff_eq.mpr c35
       have c35b1 : (t629 != 2) = false := bne_eq_false_iff_eq.mpr c35
       clear c35
       obtain ⟨y651, hy651⟩ : ∃ y_ : List Int, y_ = (([0, 1114111] : List Int)) := ⟨_, rfl⟩
       replace H : (some ((([(⟨2, y651⟩ : S89)] : List (S89))), t630, t631)) = some (r1, r2, r3) := by rw [hy651]; exact H
       have Ny651 := Aside0.mk hy651
       clear hy651
       obtain ⟨y654, hy654⟩ : ∃ y_ : List (S89), y_ = (([(⟨2, y651⟩ : S89)] : List (S89))) := ⟨_, rfl⟩
       replace H : (some (y654, t630, t631)) = some (r1, r2, r3) := by rw [hy654]; exact H
       have Ny654 := Aside0.mk hy654
       clear hy654
       simp only [Option.some.injEq, Prod.mk.injEq] at H
       obtain ⟨rfl, rfl, rfl⟩ := H
       go_wp2_with (first | ((with_reducible refine gate_callee (f := 78) rfl ?_); refine goesL_ (some 18) rfl rfl Try.func78 (by kernel_rfl) rfl #[.pointer (some ⟨g, 0, none⟩), .int .i64 8] rfl (by simp only [List.map_toArray, List.map_cons, List.map_nil] <;> rfl) ?_; (with_reducible refine (spec_l1Cur_pick.calls g s0_0 x1001_3 x1002_3 8 t629 t630 t631 w0 _ ?side1 ?side2 A9.out).mono ?_); (case side1 => exact HI0.out); (case side2 => exact HB.out); rintro e w36 ⟨rfl, hi, hb, hk⟩; refine ⟨_, rfl, ?_⟩; have n0_ := Aside0.mk (KeepBut.trans HK.out hk (.inl rfl)); have n1_ := Aside0.mk (hb); have n2_ := Aside0.mk (hi); clear HK; clear HB; clear HI0; have HK := n0_; have HB := n1_; have HI0 := n2_; clear n0_ n1_ n2_) | ((with_reducible refine gate_dst (N := 40) rfl ?_); refine Kd.R_lit (Kd.int .i64) _ 3 ?hg (N := 40) ?hd (xs := ([0, 1114111] : List Int)) (inner := [.int .i64 0, .int .i64 1114111]) (ok := fun _ => True) (okp := fun _ => True) ?hr ?hp (fun _ hk => hk) trivial (Below.refl _ _) (Nat.le_refl _) (by simp) ?_; (case hd => rfl); (case hg => rfl); (case hr => go_simp <;> rfl); (case hp => exact (Reps.one (show Kd.M (Kd.int .i64) _ _ _ 0 [.int .i64 0] from rfl) (Reps.one (show Kd.M (Kd.int .i64) _ _ _ 1114111 [.int .i64 1114111] from rfl) (Reps.none _ _)))); intro v652 w37 ho38 hb hg_ hnew_; clear hg_ hnew_; (first | rw [← Ny651.out] at ho38 | (simp only [Int.reduceToNat] at ho38; rw [← Ny651.out] at ho38)); have n0_ := Aside0.mk (Kd.R_lower (Kd.R_newM (M := fun k_ => (w.heap.size ≤ k_)) ho38 (keep_size (w := w) (g := g) (row := none) HK.out) (fun k_ h_ => h_)) (keep_size (w := w) (g := g) (row := none) HK.out)); have n1_ := Aside0.mk (IsS104.below HI0.out hb); have n2_ := Aside0.mk (KeepBut.trans HK.out (KeepBut.of_below hb g none) (.inl rfl)); have n3_ := Aside0.mk (below_step HB.out hb); clear HI0; clear HK; clear HB; have HO653 := n0_; have HI0 := n1_; have HK := n2_; have HB := n3_; clear n0_ n1_ n2_ n3_; clear hb ho38; obtain ⟨Ao39, co39, eo39⟩ := Kd.R_slice HO653.out; subst eo39) | ((with_reducible refine gate_dst (N := 42) rfl ?_); refine Kd.N_lit k89 _ 89 ?hg (N' := 42) ?hd (xs := ([(⟨2, y651⟩ : S89)] : List (S89))) (inner := [.int .i64 2, .slice Ao39 y651.length co39]) (ok := (fun k_ => (w.heap.size ≤ k_) ∧ k_ ≠ g)) (okp := (fun k_ => (w.heap.size ≤ k_) ∧ k_ ≠ g)) ?hr ?hp (fun _ hk => hk) ((show ∀ k_, w37.heap.size ≤ k_ → (fun k_ => (w.heap.size ≤ k_) ∧ k_ ≠ g) k_ from fun k_ hk => ⟨(Nat.le_trans (keep_size (w := w) (g := g) (row := none) HK.out) hk), IsS104.fresh HI0.out k_ hk⟩) _ (Nat.le_refl _)) (Below.refl _ _) (Nat.le_refl _) (by simp) ?_; (case hd => rfl); (case hg => rfl); (case hr => go_simp <;> rfl); (case hp => exact (Reps.c2 (show Kd.FK k89 _ _ (⟨2, y651⟩ : S89) [.int .i64 2, .slice Ao39 y651.length co39] from (k89_mkF _ _ (⟨2, y651⟩ : S89) (Kd.R_reads' (Kd.R_mono (ok' := (fun k_ => (w.heap.size ≤ k_) ∧ k_ ≠ g)) (IsS104.apart HI0.out (HO653.out) (by decide)) (fun k_ hk => ⟨hk.1.1, hk.2⟩))).2.1 (Kd.R_F (Kd.R_mono (ok' := (fun k_ => (w.heap.size ≤ k_) ∧ k_ ≠ g)) (IsS104.apart HI0.out (HO653.out) (by decide)) (fun k_ hk => ⟨hk.1.1, hk.2⟩))))) (Reps.none _ _))); intro v655 w40 ho41 hb hg_ hnew_; clear hg_ hnew_; (first | rw [← Ny654.out] at ho41 | (simp only [Int.reduceToNat] at ho41; rw [← Ny654.out] at ho41)); have n0_ := Aside0.mk (Kd.N_lower ho41 (keep_size (w := w) (g := g) (row := none) HK.out)); have n1_ := Aside0.mk (IsS104.below HI0.out hb); have n2_ := Aside0.mk (KeepBut.trans HK.out (KeepBut.of_below hb g none) (.inl rfl)); have n3_ := Aside0.mk (below_step HB.out hb); clear HI0; clear HK; clear HB; clear HO653; have HO656 := n0_; have HI0 := n1_; have HK := n2_; have HB := n3_; clear n0_ n1_ n2_ n3_; clear hb ho41))
       go_ret
       exact ⟨_, by first | rfl | (simp [errW_none, errW_some] <;> rfl) | (simp [*, errW_none, errW_some] <;> rfl), by (with_reducible repeat (first | apply Kd.N_alloc | apply Kd.N_drewN | apply Kd.N_drew)); exact Kd.N_mono HO656.out (fun _ hk => hk.1), HI0.out, HB.out, HK.out⟩
      ·rw [if_neg c35] at H
       have c35b0 : (t629 == 2) = false := beq_eq_false_iff_ne.mpr c35
       have c35b1 : (t629 != 2) = true := bne_iff_ne.mpr c35
       obtain ⟨y657, hy657⟩ : ∃ y_ : List Int, y_ = (([97, 97, 98, 99, 65, 12354, 42, 45] : List Int)) := ⟨_, rfl⟩
       replace H : ((spec_l1Cur_among.f s0_0 t630 t631 y657).bind fun bt660 => (some ((([(⟨2, (([bt660.1, bt660.1] : List Int))⟩ : S89)] : List (S89))), bt660.2.1, bt660.2.2))) = some (r1, r2, r3) := by rw [hy657]; exact H
       have Ny657 := Aside0.mk hy657
       clear hy657
       replace H := Option.bind_eq_some_iff.mp H
       obtain ⟨⟨t660, t661, t662⟩, A420, H⟩ := H
       replace H : (some ((([(⟨2, (([t660, t660] : List Int))⟩ : S89)] : List (S89))), t661, t662)) = some (r1, r2, r3) := H
       have A42 := Aside0.mk A420
       clear A420
       obtain ⟨y663, hy663⟩ : ∃ y_ : List Int, y_ = (([t660, t660] : List Int)) := ⟨_, rfl⟩
       replace H : (some ((([(⟨2, y663⟩ : S89)] : List (S89))), t661, t662)) = some (r1, r2, r3) := by rw [hy663]; exact H
       have Ny663 := Aside0.mk hy663
       clear hy663
       obtain ⟨y666, hy666⟩ : ∃ y_ : List (S89), y_ = (([(⟨2, y663⟩ : S89)] : List (S89))) := ⟨_, rfl⟩
       replace H : (some (y666, t661, t662)) = some (r1, r2, r3) := by rw [hy666]; exact H
       have Ny666 := Aside0.mk hy666
       clear hy666
       simp only [Option.some.injEq, Prod.mk.injEq] at H
       obtain ⟨rfl, rfl, rfl⟩ := H
       go_wp2_with (first | ((with_reducible refine gate_callee (f := 78) rfl ?_); refine goesL_ (some 18) rfl rfl Try.func78 (by kernel_rfl) rfl #[.pointer (some ⟨g, 0, none⟩), .int .i64 8] rfl (by simp only [List.map_toArray, List.map_cons, List.map_nil] <;> rfl) ?_; (with_reducible refine (spec_l1Cur_pick.calls g s0_0 x1001_3 x1002_3 8 t629 t630 t631 w0 _ ?side1 ?side2 A9.out).mono ?_); (case side1 => exact HI0.out); (case side2 => exact HB.out); rintro e w43 ⟨rfl, hi, hb, hk⟩; refine ⟨_, rfl, ?_⟩; have n0_ := Aside0.mk (KeepBut.trans HK.out hk (.inl rfl)); have n1_ := Aside0.mk (hb); have n2_ := Aside0.mk (hi); clear HK; clear HB; clear HI0; have HK := n0_; have HB := n1_; have HI0 := n2_; clear n0_ n1_ n2_) | ((with_reducible refine gate_dst (N := 44) rfl ?_); refine Kd.R_lit (Kd.int .i64) _ 3 ?hg (N := 44) ?hd (xs := ([97, 97, 98, 99, 65, 12354, 42, 45] : List Int)) (inner := [.int .i64 97, .int .i64 97, .int .i64 98, .int .i64 99, .int .i64 65, .int .i64 12354, .int .i64 42, .int .i64 45]) (ok := fun _ => True) (okp := fun _ => True) ?hr ?hp (fun _ hk => hk) trivial (Below.refl _ _) (Nat.le_refl _) (by simp) ?_; (case hd => rfl); (case hg => rfl); (case hr => go_simp <;> rfl); (case hp => exact (Reps.one (show Kd.M (Kd.int .i64) _ _ _ 97 [.int .i64 97] from rfl) (Reps.one (show Kd.M (Kd.int .i64) _ _ _ 97 [.int .i64 97] from rfl) (Reps.one (show Kd.M (Kd.int .i64) _ _ _ 98 [.int .i64 98] from rfl) (Reps.one (show Kd.M (Kd.int .i64) _ _ _ 99 [.int .i64 99] from rfl) (Reps.one (show Kd.M (Kd.int .i64) _ _ _ 65 [.int .i64 65] from rfl) (Reps.one (show Kd.M (Kd.int .i64) _ _ _ 12354 [.int .i64 12354] from rfl) (Reps.one (show Kd.M (Kd.int .i64) _ _ _ 42 [.int .i64 42] from rfl) (Reps.one (show Kd.M (Kd.int .i64) _ _ _ 45 [.int .i64 45] from rfl) (Reps.none _ _)))))))))); intro v658 w44 ho45 hb hg_ hnew_; clear hg_ hnew_; (first | rw [← Ny657.out] at ho45 | (simp only [Int.reduceToNat] at ho45; rw [← Ny657.out] at ho45)); have n0_ := Aside0.mk (Kd.R_lower (Kd.R_newM (M := fun k_ => (w.heap.size ≤ k_)) ho45 (keep_size (w := w) (g := g) (row := none) HK.out) (fun k_ h_ => h_)) (keep_size (w := w) (g := g) (row := none) HK.out)); have n1_ := Aside0.mk (IsS104.below HI0.out hb); have n2_ := Aside0.mk (KeepBut.trans HK.out (KeepBut.of_below hb g none) (.inl rfl)); have n3_ := Aside0.mk (below_step HB.out hb); clear HI0; clear HK; clear HB; have HO659 := n0_; have HI0 := n1_; have HK := n2_; have HB := n3_; clear n0_ n1_ n2_ n3_; clear hb ho45; obtain ⟨Ao46, co46, eo46⟩ := Kd.R_slice HO659.out; subst eo46) | ((with_reducible refine gate_callee (f := 125) rfl ?_); refine goesL_ (some 45) rfl rfl Try.func125 (by kernel_rfl) rfl #[.pointer (some ⟨g, 0, none⟩), .slice Ao46 y657.length co46] rfl (by simp only [List.map_toArray, List.map_cons, List.map_nil] <;> rfl) ?_; (with_reducible refine (spec_l1Cur_among.calls g s0_0 t630 t631 _ _ y657 t660 t661 t662 w0 _ ?side1 ?side2 ?side3 ?side4 ?side5 A42.out).mono ?_); (case side1 => exact HI0.out); (case side2 => exact HB.out); (case side3 => repeat (first | exact (Kd.R_reads' HO659.out).2.2 | (with_reducible refine Kd.C_alloc ?_ _) | (with_reducible refine Kd.C_drewN ?_ _) | (with_reducible refine Kd.C_drew ?_))); (case side4 => exact (Kd.R_reads' HO659.out).2.1); (case side5 => exact far_slice (IsS104.own_ne HI0.out HO659.out (by decide))); rintro e w47 ⟨rfl, hi, hb, hk⟩; refine ⟨_, rfl, ?_⟩; have n0_ := Aside0.mk (Kd.R_mono (Kd.R_keep (IsS104.apart (show IsS104 w0 _ g s0_0 t630 t631 from by repeat (first | (with_reducible first | exact HI0.out | apply IsS104.alloc | apply IsS104.drewN | apply IsS104.drew | apply IsS104.set_1 | apply IsS104.set_2) | exact HI0.out)) HO659.out (by decide)) hk (fun _ h => h.2)) (fun _ h => h.1)); have n1_ := Aside0.mk (KeepBut.trans HK.out hk (.inl rfl)); have n2_ := Aside0.mk (hb); have n3_ := Aside0.mk (hi); clear HO659; clear HK; clear HB; clear HI0; have HO659 := n0_; have HK := n1_; have HB := n2_; have HI0 := n3_; clear n0_ n1_ n2_ n3_) | ((with_reducible refine gate_dst (N := 48) rfl ?_); refine Kd.R_lit (Kd.int .i64) _ 3 ?hg (N := 48) ?hd (xs := ([t660, t660] : List Int)) (inner := [.int .i64 t660, .int .i64 t660]) (ok := fun _ => True) (okp := fun _ => True) ?hr ?hp (fun _ hk => hk) trivial (Below.refl _ _) (Nat.le_refl _) (by simp) ?_; (case hd => rfl); (case hg => rfl); (case hr => go_simp <;> rfl); (case hp => exact (Reps.one (show Kd.M (Kd.int .i64) _ _ _ t660 [.int .i64 t660] from rfl) (Reps.one (show Kd.M (Kd.int .i64) _ _ _ t660 [.int .i64 t660] from rfl) (Reps.none _ _)))); intro v664 w48 ho49 hb hg_ hnew_; clear hg_ hnew_; (first | rw [← Ny663.out] at ho49 | (simp only [Int.reduceToNat] at ho49; rw [← Ny663.out] at ho49)); have n0_ := Aside0.mk (Kd.R_elder' HO659.out (Kd.R_base ho49) hb); have n1_ := Aside0.mk (Kd.R_lower (Kd.R_new' (Kd.R_newM (M := fun k_ => (w.heap.size ≤ k_)) ho49 (keep_size (w := w) (g := g) (row := none) HK.out) (fun k_ h_ => h_)) (Kd.R_lt HO659.out)) (keep_size (w := w) (g := g) (row := none) HK.out)); have n2_ := Aside0.mk (IsS104.below HI0.out hb); have n3_ := Aside0.mk (KeepBut.trans HK.out (KeepBut.of_below hb g none) (.inl rfl)); have n4_ := Aside0.mk (below_step HB.out hb); clear HO659; clear HI0; clear HK; clear HB; have HO659 := n0_; have HO665 := n1_; have HI0 := n2_; have HK := n3_; have HB := n4_; clear n0_ n1_ n2_ n3_ n4_; clear hb ho49; obtain ⟨Ao50, co50, eo50⟩ := Kd.R_slice HO665.out; subst eo50) | ((with_reducible refine gate_dst (N := 50) rfl ?_); refine Kd.N_lit k89 _ 89 ?hg (N' := 50) ?hd (xs := ([(⟨2, y663⟩ : S89)] : List (S89))) (inner := [.int .i64 2, .slice Ao50 y663.length co50]) (ok := (fun k_ => (w.heap.size ≤ k_) ∧ some k_ ≠ (.slice Ao46 y657.length co46 : Value).ownBlock ∧ k_ ≠ g)) (okp := (fun k_ => (w.heap.size ≤ k_) ∧ some k_ ≠ (.slice Ao46 y657.length co46 : Value).ownBlock ∧ k_ ≠ g)) ?hr ?hp (fun _ hk => hk) ((show ∀ k_, w48.heap.size ≤ k_ → (fun k_ => (w.heap.size ≤ k_) ∧ some k_ ≠ (.slice Ao46 y657.length co46 : Value).ownBlock ∧ k_ ≠ g) k_ from fun k_ hk => ⟨(Nat.le_trans (keep_size (w := w) (g := g) (row := none) HK.out) hk), Kd.fresh' (Kd.R_lt HO659.out) k_ hk, IsS104.fresh HI0.out k_ hk⟩) _ (Nat.le_refl _)) (Below.refl _ _) (Nat.le_refl _) (by simp) ?_; (case hd => rfl); (case hg => rfl); (case hr => go_simp <;> rfl); (case hp => exact (Reps.c2 (show Kd.FK k89 _ _ (⟨2, y663⟩ : S89) [.int .i64 2, .slice Ao50 y663.length co50] from (k89_mkF _ _ (⟨2, y663⟩ : S89) (Kd.R_reads' (Kd.R_mono (ok' := (fun k_ => (w.heap.size ≤ k_) ∧ some k_ ≠ (.slice Ao46 y657.length co46 : Value).ownBlock ∧ k_ ≠ g)) (IsS104.apart HI0.out (HO665.out) (by decide)) (fun k_ hk => ⟨hk.1.1.1, ⟨hk.1.2, hk.2⟩⟩))).2.1 (Kd.R_F (Kd.R_mono (ok' := (fun k_ => (w.heap.size ≤ k_) ∧ some k_ ≠ (.slice Ao46 y657.length co46 : Value).ownBlock ∧ k_ ≠ g)) (IsS104.apart HI0.out (HO665.out) (by decide)) (fun k_ hk => ⟨hk.1.1.1, ⟨hk.1.2, hk.2⟩⟩))))) (Reps.none _ _))); intro v667 w51 ho52 hb hg_ hnew_; clear hg_ hnew_; (first | rw [← Ny666.out] at ho52 | (simp only [Int.reduceToNat] at ho52; rw [← Ny666.out] at ho52)); have n0_ := Aside0.mk (Kd.R_below HO659.out hb); have n1_ := Aside0.mk (Kd.N_lower ho52 (keep_size (w := w) (g := g) (row := none) HK.out)); have n2_ := Aside0.mk (IsS104.below HI0.out hb); have n3_ := Aside0.mk (KeepBut.trans HK.out (KeepBut.of_below hb g none) (.inl rfl)); have n4_ := Aside0.mk (below_step HB.out hb); clear HO659; clear HI0; clear HK; clear HB; clear HO665; have HO659 := n0_; have HO668 := n1_; have HI0 := n2_; have HK := n3_; have HB := n4_; clear n0_ n1_ n2_ n3_ n4_; clear hb ho52))
       go_ret
       exact ⟨_, by first | rfl | (simp [errW_none, errW_some] <;> rfl) | (simp [*, errW_none, errW_some] <;> rfl), by (with_reducible repeat (first | apply Kd.N_alloc | apply Kd.N_drewN | apply Kd.N_drew)); exact Kd.N_mono HO668.out (fun _ hk => hk.1), HI0.out, HB.out, HK.out⟩
   ·replace c8 := Bool.eq_false_iff.mpr c8
    subst c8
    have H1 : ((spec_l1Cur_among.f s0_0 x1001_3 x1002_3 (([3, 3, 4, 4, 6, 6, 5, 7] : List Int))).bind fun bt672 => (if a2 = true then (if bt672.1 = 5 then (spec_l1Cur_re.j1 kj3 a1 a2 bt672.1 true s0_0 bt672.2.1 bt672.2.2) else (spec_l1Cur_re.j1 kj3 a1 a2 bt672.1 (bt672.1 == 7) s0_0 bt672.2.1 bt672.2.2)) else (spec_l1Cur_re.j1 kj3 a1 a2 bt672.1 false s0_0 bt672.2.1 bt672.2.2))) = some (r1, r2, r3) := by rw [if_neg (show ¬ (false = true) by decide)] at H; exact H
    clear H
    have H := H1
    clear H1
    obtain ⟨y669, hy669⟩ : ∃ y_ : List Int, y_ = (([3, 3, 4, 4, 6, 6, 5, 7] : List Int)) := ⟨_, rfl⟩
    replace H : ((spec_l1Cur_among.f s0_0 x1001_3 x1002_3 y669).bind fun bt672 => (if a2 = true then (if bt672.1 = 5 then (spec_l1Cur_re.j1 kj3 a1 a2 bt672.1 true s0_0 bt672.2.1 bt672.2.2) else (spec_l1Cur_re.j1 kj3 a1 a2 bt672.1 (bt672.1 == 7) s0_0 bt672.2.1 bt672.2.2)) else (spec_l1Cur_re.j1 kj3 a1 a2 bt672.1 false s0_0 bt672.2.1 bt672.2.2))) = some (r1, r2, r3) := by rw [hy669]; exact H
    have Ny669 := Aside0.mk hy669
    clear hy669
    replace H := Option.bind_eq_some_iff.mp H
    obtain ⟨⟨t672, t673, t674⟩, A530, H⟩ := H
    replace H : (if a2 = true then (if t672 = 5 then (spec_l1Cur_re.j1 kj3 a1 a2 t672 true s0_0 t673 t674) else (spec_l1Cur_re.j1 kj3 a1 a2 t672 (t672 == 7) s0_0 t673 t674)) else (spec_l1Cur_re.j1 kj3 a1 a2 t672 false s0_0 t673 t674)) = some (r1, r2, r3) := H
    have A53 := Aside0.mk A530
    clear A530
    have HC54 := Aside0.mk H
    clear H
    go_upto_region 15 with (first | ((with_reducible refine gate_dst (N := 52) rfl ?_); refine Kd.R_lit (Kd.int .i64) _ 3 ?hg (N := 52) ?hd (xs := ([3, 3, 4, 4, 6, 6, 5, 7] : List Int)) (inner := [.int .i64 3, .int .i64 3, .int .i64 4, .int .i64 4, .int .i64 6, .int .i64 6, .int .i64 5, .int .i64 7]) (ok := fun _ => True) (okp := fun _ => True) ?hr ?hp (fun _ hk => hk) trivial (Below.refl _ _) (Nat.le_refl _) (by simp) ?_; (case hd => rfl); (case hg => rfl); (case hr => go_simp <;> rfl); (case hp => exact (Reps.one (show Kd.M (Kd.int .i64) _ _ _ 3 [.int .i64 3] from rfl) (Reps.one (show Kd.M (Kd.int .i64) _ _ _ 3 [.int .i64 3] from rfl) (Reps.one (show Kd.M (Kd.int .i64) _ _ _ 4 [.int .i64 4] from rfl) (Reps.one (show Kd.M (Kd.int .i64) _ _ _ 4 [.int .i64 4] from rfl) (Reps.one (show Kd.M (Kd.int .i64) _ _ _ 6 [.int .i64 6] from rfl) (Reps.one (show Kd.M (Kd.int .i64) _ _ _ 6 [.int .i64 6] from rfl) (Reps.one (show Kd.M (Kd.int .i64) _ _ _ 5 [.int .i64 5] from rfl) (Reps.one (show Kd.M (Kd.int .i64) _ _ _ 7 [.int .i64 7] from rfl) (Reps.none _ _)))))))))); intro v670 w55 ho56 hb hg_ hnew_; clear hg_ hnew_; (first | rw [← Ny669.out] at ho56 | (simp only [Int.reduceToNat] at ho56; rw [← Ny669.out] at ho56)); have n0_ := Aside0.mk (Kd.R_lower (Kd.R_newM (M := fun k_ => (w.heap.size ≤ k_)) ho56 (keep_size (w := w) (g := g) (row := none) HK.out) (fun k_ h_ => h_)) (keep_size (w := w) (g := g) (row := none) HK.out)); have n1_ := Aside0.mk (IsS104.below HI0.out hb); have n2_ := Aside0.mk (KeepBut.trans HK.out (KeepBut.of_below hb g none) (.inl rfl)); have n3_ := Aside0.mk (below_step HB.out hb); clear HI0; clear HK; clear HB; have HO671 := n0_; have HI0 := n1_; have HK := n2_; have HB := n3_; clear n0_ n1_ n2_ n3_; clear hb ho56; obtain ⟨Ao57, co57, eo57⟩ := Kd.R_slice HO671.out; subst eo57) | ((with_reducible refine gate_callee (f := 125) rfl ?_); refine goesL_ (some 53) rfl rfl Try.func125 (by kernel_rfl) rfl #[.pointer (some ⟨g, 0, none⟩), .slice Ao57 y669.length co57] rfl (by simp only [List.map_toArray, List.map_cons, List.map_nil] <;> rfl) ?_; (with_reducible refine (spec_l1Cur_among.calls g s0_0 x1001_3 x1002_3 _ _ y669 t672 t673 t674 w0 _ ?side1 ?side2 ?side3 ?side4 ?side5 A53.out).mono ?_); (case side1 => exact HI0.out); (case side2 => exact HB.out); (case side3 => repeat (first | exact (Kd.R_reads' HO671.out).2.2 | (with_reducible refine Kd.C_alloc ?_ _) | (with_reducible refine Kd.C_drewN ?_ _) | (with_reducible refine Kd.C_drew ?_))); (case side4 => exact (Kd.R_reads' HO671.out).2.1); (case side5 => exact far_slice (IsS104.own_ne HI0.out HO671.out (by decide))); rintro e w58 ⟨rfl, hi, hb, hk⟩; refine ⟨_, rfl, ?_⟩; have n0_ := Aside0.mk (Kd.R_mono (Kd.R_keep (IsS104.apart (show IsS104 w0 _ g s0_0 x1001_3 x1002_3 from by repeat (first | (with_reducible first | exact HI0.out | apply IsS104.alloc | apply IsS104.drewN | apply IsS104.drew | apply IsS104.set_1 | apply IsS104.set_2) | exact HI0.out)) HO671.out (by decide)) hk (fun _ h => h.2)) (fun _ h => h.1)); have n1_ := Aside0.mk (KeepBut.trans HK.out hk (.inl rfl)); have n2_ := Aside0.mk (hb); have n3_ := Aside0.mk (hi); clear HO671; clear HK; clear HB; clear HI0; have HO671 := n0_; have HK := n1_; have HB := n2_; have HI0 := n3_; clear n0_ n1_ n2_ n3_))
    (try simp only [Act.put, List.setIfInBounds_toArray, List.set_cons_zero, List.set_cons_succ])
    go_cut [62] (fun v62 wc => ∃ (kq : Nat) (x62_53 : Bool), v62 = .bool x62_53 ∧ Aside0 (spec_l1Cur_re.j1 kq a1 a2 t672 x62_53 s0_0 t673 t674 = some (r1, r2, r3)) ∧ Aside0 (kq ≤ kj3) ∧ Aside0 (IsS104 w0 wc g s0_0 t673 t674) ∧ Aside0 (KeepBut w wc g none) ∧ Aside0 (Below w0.heap.size w0 wc))
    case first =>
     have H := HC54.out
     clear HC54
     by_cases c59 : a2 = true
     ·subst c59
      have H1 : (if t672 = 5 then (spec_l1Cur_re.j1 kj3 a1 true t672 true s0_0 t673 t674) else (spec_l1Cur_re.j1 kj3 a1 true t672 (t672 == 7) s0_0 t673 t674)) = some (r1, r2, r3) := by rw [if_pos rfl] at H; exact H
      clear H
      have H := H1
      clear H1
      by_cases c60 : t672 = 5
      ·rw [if_pos c60] at H
       have c60b0 : (t672 == 5) = true := beq_iff_eq.mpr c60
       have c60b1 : (t672 != 5) = false := bne_eq_false_iff_eq.mpr c60
       clear c60
       (first | rw [c60b0] | (simp only [i64_w, i32_w]; rw [c60b0]) | skip)
       have H' := Aside0.mk H
       clear H
       go_wp2
       go_meet
       case rel => exact ⟨_, (true), (by first | rfl | (simp; done) | (simp [*]; done)), H', ⟨by have := HJ3.out; first | omega | exact Nat.le_refl _⟩, ⟨HI0.out⟩, ⟨HK.out⟩, ⟨HB.out⟩⟩
      ·rw [if_neg c60] at H
       have c60b0 : (t672 == 5) = false := beq_eq_false_iff_ne.mpr c60
       have c60b1 : (t672 != 5) = true := bne_iff_ne.mpr c60
       (first | rw [c60b0] | (simp only [i64_w, i32_w]; rw [c60b0]) | skip)
       have H' := Aside0.mk H
       clear H
       go_wp2
       go_meet
       case rel => exact ⟨_, ((t672 == 7)), (by first | rfl | (simp; done) | (simp [*]; done)), H', ⟨by have := HJ3.out; first | omega | exact Nat.le_refl _⟩, ⟨HI0.out⟩, ⟨HK.out⟩, ⟨HB.out⟩⟩
     ·replace c59 := Bool.eq_false_iff.mpr c59
      subst c59
      have H1 : (spec_l1Cur_re.j1 kj3 a1 false t672 false s0_0 t673 t674) = some (r1, r2, r3) := by rw [if_neg (show ¬ (false = true) by decide)] at H; exact H
      clear H
      have H := H1
      clear H1
      have H' := Aside0.mk H
      clear H
      go_wp2
      go_meet
      case rel => exact ⟨_, (false), (by first | rfl | (simp; done) | (simp [*]; done)), H', ⟨by have := HJ3.out; first | omega | exact Nat.le_refl _⟩, ⟨HI0.out⟩, ⟨HK.out⟩, ⟨HB.out⟩⟩
    case rest =>
     clear HC54
     try clear c1
     try clear c2
     try clear p2
     try clear c3
     try clear c5
     try clear c5b0
     try clear c5b1
     try clear c6
     try clear c7
     try clear c8
     try clear c9
     try clear c10
     try clear c10b0
     try clear c10b1
     try clear c12
     try clear c14
     try clear c14b0
     try clear c14b1
     try clear c17
     try clear c19
     try clear c35
     try clear c35b0
     try clear c35b1
     try clear c59
     try clear c60
     try clear c60b0
     try clear c60b1
     try clear p2
     obtain ⟨kq, x62_53, rfl, HA, HJ53, HI0, HK, HB⟩ := hcut
     cases kq with
     | zero => exact absurd HA.out (by simp [spec_l1Cur_re.j1])
     | succ kj53 =>
      have H := HA.out
      clear HA
      simp only [spec_l1Cur_re.j1] at H
      have HC61 := Aside0.mk H
      clear H
      go_upto_if 62 with (fail)
      go_cut [9] (fun v9 wc => ∃ (kq : Nat) (x9_60 : Int), v9 = .int .i64 x9_60 ∧ Aside0 (spec_l1Cur_re.j2 kq a1 a2 x9_60 s0_0 t673 t674 = some (r1, r2, r3)) ∧ Aside0 (kq ≤ kj53) ∧ Aside0 (IsS104 w0 wc g s0_0 t673 t674) ∧ Aside0 (KeepBut w wc g none) ∧ Aside0 (Below w0.heap.size w0 wc))
      case first =>
       have H := HC61.out
       clear HC61
       by_cases c62 : x62_53 = true
       ·subst c62
        have H1 : (spec_l1Cur_re.j2 kj53 a1 a2 3 s0_0 t673 t674) = some (r1, r2, r3) := by rw [if_pos rfl] at H; exact H
        clear H
        have H := H1
        clear H1
        have H' := Aside0.mk H
        clear H
        go_wp2
        go_meet
        case rel => exact ⟨_, (3), (by first | rfl | (simp; done) | (simp [*]; done)), H', ⟨by have := HJ3.out; have := HJ53.out; first | omega | exact Nat.le_refl _⟩, ⟨HI0.out⟩, ⟨HK.out⟩, ⟨HB.out⟩⟩
       ·replace c62 := Bool.eq_false_iff.mpr c62
        subst c62
        have H1 : (spec_l1Cur_re.j2 kj53 a1 a2 t672 s0_0 t673 t674) = some (r1, r2, r3) := by rw [if_neg (show ¬ (false = true) by decide)] at H; exact H
        clear H
        have H := H1
        clear H1
        have H' := Aside0.mk H
        clear H
        go_wp2
        go_meet
        case rel => exact ⟨_, (t672), (by first | rfl | (simp; done) | (simp [*]; done)), H', ⟨by have := HJ3.out; have := HJ53.out; first | omega | exact Nat.le_refl _⟩, ⟨HI0.out⟩, ⟨HK.out⟩, ⟨HB.out⟩⟩
      case rest =>
       clear HC61
       try clear c1
       try clear c2
       try clear p2
       try clear c3
       try clear c5
       try clear c5b0
       try clear c5b1
       try clear c6
       try clear c7
       try clear c8
       try clear c9
       try clear c10
       try clear c10b0
       try clear c10b1
       try clear c12
       try clear c14
       try clear c14b0
       try clear c14b1
       try clear c17
       try clear c19
       try clear c35
       try clear c35b0
       try clear c35b1
       try clear c59
       try clear c60
       try clear c60b0
       try clear c60b1
       try clear c62
       try clear p2
       obtain ⟨kq, x9_60, rfl, HA, HJ60, HI0, HK, HB⟩ := hcut
       cases kq with
       | zero => exact absurd HA.out (by simp [spec_l1Cur_re.j2])
       | succ kj60 =>
        have H := HA.out
        clear HA
        simp only [spec_l1Cur_re.j2] at H
        replace H := Option.bind_eq_some_iff.mp H
        obtain ⟨⟨t675, t678, t679⟩, A630, H⟩ := H
        replace H : ((spec_l5Arity.f kj60 x9_60).bind fun t680 => (if t680 = 2 then ((spec_l1Cur_re.f kj60 s0_0 t678 t679 (wrap64 (a1 - 1)) a2).bind fun bt681 => (if t675.length + bt681.1.length < 4398046511104 then ((some (t675 ++ bt681.1 : List (S89))).bind fun y686 => (if y686.length < 4398046511104 then (some ((y686 ++ [(⟨x9_60, ([] : List Int)⟩ : S89)]), bt681.2.1, bt681.2.2)) else (none))) else (none))) else (if t675.length < 4398046511104 then (some ((t675 ++ [(⟨x9_60, ([] : List Int)⟩ : S89)]), t678, t679)) else (none)))) = some (r1, r2, r3) := H
        have A63 := Aside0.mk A630
        clear A630
        replace H := Option.bind_eq_some_iff.mp H
        obtain ⟨t680, A640, H⟩ := H
        replace H : (if t680 = 2 then ((spec_l1Cur_re.f kj60 s0_0 t678 t679 (wrap64 (a1 - 1)) a2).bind fun bt681 => (if t675.length + bt681.1.length < 4398046511104 then ((some (t675 ++ bt681.1 : List (S89))).bind fun y686 => (if y686.length < 4398046511104 then (some ((y686 ++ [(⟨x9_60, ([] : List Int)⟩ : S89)]), bt681.2.1, bt681.2.2)) else (none))) else (none))) else (if t675.length < 4398046511104 then (some ((t675 ++ [(⟨x9_60, ([] : List Int)⟩ : S89)]), t678, t679)) else (none))) = some (r1, r2, r3) := H
        have A64 := Aside0.mk A640
        clear A640
        by_cases c65 : t680 = 2
        ·rw [if_pos c65] at H
         have c65b0 : (t680 == 2) = true := beq_iff_eq.mpr c65
         have c65b1 : (t680 != 2) = false := bne_eq_false_iff_eq.mpr c65
         clear c65
         replace H := Option.bind_eq_some_iff.mp H
         obtain ⟨⟨t681, t684, t685⟩, A660, H⟩ := H
         replace H : (if t675.length + t681.length < 4398046511104 then ((some (t675 ++ t681 : List (S89))).bind fun y686 => (if y686.length < 4398046511104 then (some ((y686 ++ [(⟨x9_60, ([] : List Int)⟩ : S89)]), t684, t685)) else (none))) else (none)) = some (r1, r2, r3) := H
         have A66 := Aside0.mk A660
         clear A660
         by_cases c67 : t675.length + t681.length < 4398046511104
         ·rw [if_pos c67] at H
          have LMc67 := Aside0.mk c67
          clear c67
          obtain ⟨y686, hy686⟩ : ∃ y_ : List (S89), y_ = (t675 ++ t681) := ⟨_, rfl⟩
          replace H : (if y686.length < 4398046511104 then (some ((y686 ++ [(⟨x9_60, ([] : List Int)⟩ : S89)]), t684, t685)) else (none)) = some (r1, r2, r3) := by rw [hy686]; exact H
          have Ny686 := Aside0.mk hy686
          clear hy686
          by_cases c68 : y686.length < 4398046511104
          ·rw [if_pos c68] at H
           have LMc68 := Aside0.mk c68
           clear c68
           obtain ⟨y689, hy689⟩ : ∃ y_ : List (S89), y_ = (y686 ++ [(⟨x9_60, ([] : List Int)⟩ : S89)]) := ⟨_, rfl⟩
           replace H : (some (y689, t684, t685)) = some (r1, r2, r3) := by rw [hy689]; exact H
           have Ny689 := Aside0.mk hy689
           clear hy689
           simp only [Option.some.injEq, Prod.mk.injEq] at H
           obtain ⟨rfl, rfl, rfl⟩ := H
           go_wp2_with (first | ((with_reducible refine gate_callee (f := 79) rfl ?_); refine goesL_ (some 67) rfl rfl Try.func79 (by kernel_rfl) rfl #[.pointer (some ⟨g, 0, none⟩), .int .i64 (wrap64 (a1 - 1)), .bool a2] rfl (by simp only [List.map_toArray, List.map_cons, List.map_nil] <;> rfl) ?_; (with_reducible refine (ih kj60 (by have := HJ3.out; have := HJ53.out; have := HJ60.out; omega) g s0_0 t673 t674 (wrap64 (a1 - 1)) a2 t675 t678 t679 w0 _ ?side1 ?side2 A63.out).mono ?_); (case side1 => repeat (first | (with_reducible first | exact HI0.out | apply IsS104.alloc | apply IsS104.drewN | apply IsS104.drew | apply IsS104.set_1 | apply IsS104.set_2) | exact HI0.out)); (case side2 => repeat (first | (with_reducible first | exact HB.out | apply below_alloc | apply pw_below_drewN | apply below_drew1 | refine below_set ?_ (IsS104.ge HI0.out)) | exact HB.out)); rintro e w69 ⟨v676, rfl, ho0, hi, hb, hk⟩; refine ⟨_, rfl, ?_⟩; have n0_ := Aside0.mk (Kd.N_lower (Kd.N_mono (ok' := fun k_ => (w.heap.size ≤ k_) ∧ k_ ≠ g) ho0 (fun k_ hk_ => ⟨(Nat.le_trans (keep_size (w := w) (g := g) (row := none) (by repeat (first | (with_reducible first | exact HK.out | apply KeepBut.set_ | apply keep_drewN | apply keep_drew | apply keep_alloc) | exact HK.out))) hk_), (IsS104.fresh (by repeat (first | (with_reducible first | exact HI0.out | apply IsS104.alloc | apply IsS104.drewN | apply IsS104.drew | apply IsS104.set_1 | apply IsS104.set_2) | exact HI0.out)) k_ hk_)⟩)) (keep_size (w := w) (g := g) (row := none) (by repeat (first | (with_reducible first | exact HK.out | apply KeepBut.set_ | apply keep_drewN | apply keep_drew | apply keep_alloc) | exact HK.out)))); have n1_ := Aside0.mk (KeepBut.trans (by repeat (first | (with_reducible first | exact HK.out | apply KeepBut.set_ | apply keep_drewN | apply keep_drew | apply keep_alloc) | exact HK.out)) hk (.inl rfl)); have n2_ := Aside0.mk (hb); have n3_ := Aside0.mk (hi); clear HK; clear HB; clear HI0; have HO677 := n0_; have HK := n1_; have HB := n2_; have HI0 := n3_; clear n0_ n1_ n2_ n3_) | ((with_reducible refine gate_callee (f := 126) rfl ?_); refine goesL_ (some 69) rfl rfl Try.func126 (by kernel_rfl) rfl #[.int .i64 x9_60] rfl (by simp only [List.map_toArray, List.map_cons, List.map_nil] <;> rfl) ?_; (with_reducible refine (spec_l5Arity.calls kj60 x9_60 t680 _ A64.out).mono ?_); rintro e w' ⟨rfl, ⟨nd, rfl⟩⟩; refine ⟨_, rfl, ?_⟩) | ((with_reducible refine gate_callee (f := 79) rfl ?_); refine goesL_ (some 76) rfl rfl Try.func79 (by kernel_rfl) rfl #[.pointer (some ⟨g, 0, none⟩), .int .i64 (wrap64 (a1 - 1)), .bool a2] rfl (by simp only [List.map_toArray, List.map_cons, List.map_nil] <;> rfl) ?_; (with_reducible refine (ih kj60 (by have := HJ3.out; have := HJ53.out; have := HJ60.out; omega) g s0_0 t678 t679 (wrap64 (a1 - 1)) a2 t681 t684 t685 w0 _ ?side1 ?side2 A66.out).mono ?_); (case side1 => repeat (first | (with_reducible first | exact HI0.out | apply IsS104.alloc | apply IsS104.drewN | apply IsS104.drew | apply IsS104.set_1 | apply IsS104.set_2) | exact HI0.out)); (case side2 => repeat (first | (with_reducible first | exact HB.out | apply below_alloc | apply pw_below_drewN | apply below_drew1 | refine below_set ?_ (IsS104.ge HI0.out)) | exact HB.out)); rintro e w70 ⟨v682, rfl, ho0, hi, hb, hk⟩; refine ⟨_, rfl, ?_⟩; have n0_ := Aside0.mk (Kd.N_mono (Kd.N_told (Kd.N_oldK (Kd.N_mono (ok := fun k_ => (((w.heap.size ≤ k_)) ∧ k_ ≠ g)) HO677.out (fun k_ hk_ => (⟨hk_, hk_.2⟩ : _ ∧ k_ ≠ g))) hk) (Kd.N_base ho0)) (fun _ h_ => h_.1)); have n1_ := Aside0.mk (Kd.N_lower (Kd.N_mono (ok' := fun k_ => (w.heap.size ≤ k_) ∧ some k_ ≠ (v676 : Value).ownBlock ∧ k_ ≠ g) ho0 (fun k_ hk_ => ⟨(Nat.le_trans (keep_size (w := w) (g := g) (row := none) (by repeat (first | (with_reducible first | exact HK.out | apply KeepBut.set_ | apply keep_drewN | apply keep_drew | apply keep_alloc) | exact HK.out))) hk_), (Kd.fresh' (Kd.N_lt HO677.out) k_ hk_), (IsS104.fresh (by repeat (first | (with_reducible first | exact HI0.out | apply IsS104.alloc | apply IsS104.drewN | apply IsS104.drew | apply IsS104.set_1 | apply IsS104.set_2) | exact HI0.out)) k_ hk_)⟩)) (keep_size (w := w) (g := g) (row := none) (by repeat (first | (with_reducible first | exact HK.out | apply KeepBut.set_ | apply keep_drewN | apply keep_drew | apply keep_alloc) | exact HK.out)))); have n2_ := Aside0.mk (KeepBut.trans (by repeat (first | (with_reducible first | exact HK.out | apply KeepBut.set_ | apply keep_drewN | apply keep_drew | apply keep_alloc) | exact HK.out)) hk (.inl rfl)); have n3_ := Aside0.mk (hb); have n4_ := Aside0.mk (hi); clear HO677; clear HK; clear HB; clear HI0; have HO677 := n0_; have HO683 := n1_; have HK := n2_; have HB := n3_; have HI0 := n4_; clear n0_ n1_ n2_ n3_ n4_; obtain ⟨Ao72, co72, eo72⟩ := Kd.N_slice HO683.out; subst eo72) | ((with_reducible refine gate_builtin (b := .append) (xs := #[.tmp 71, .tmp 76]) rfl ?_); at_builtin; refine Kd.N_append_rows k89 w.heap.size rfl (.tmp 71) (.tmp 76) 27 89 (.agg #[(.int .i64 0), (.slice none 0 0)]) 32 rfl Try.underlying27 info89 rfl (by decide) (by omega) v676 t675 t681 _ _ _ (fun k_ => (w.heap.size ≤ k_) ∧ k_ ≠ g) (fun k_ => ((fun k_ => (w.heap.size ≤ k_) ∧ k_ ≠ g)) k_ ∧ some k_ ≠ (v676 : Value).ownBlock) rfl rfl ?aO ?aR (fun _ hk => hk) ?aF (Below.refl _ _) ?aS ?aL ?_; (case aR => exact (by skip; exact Kd.N_F (Kd.N_mono (ok' := (fun k_ => ((fun k_ => (w.heap.size ≤ k_) ∧ k_ ≠ g)) k_ ∧ some k_ ≠ (v676 : Value).ownBlock)) (HO683.out) (fun k_ hk => ⟨⟨hk.1, hk.2.2⟩, hk.2.1⟩)))); (case aF => exact (fun k_ hk => ⟨(Nat.le_trans (keep_size (w := w) (g := g) (row := none) (by repeat (first | (with_reducible first | exact HK.out | apply KeepBut.set_ | apply keep_drewN | apply keep_drew | apply keep_alloc) | exact HK.out))) hk), IsS104.fresh (by repeat (first | (with_reducible first | exact HI0.out | apply IsS104.alloc | apply IsS104.drewN | apply IsS104.drew | apply IsS104.set_1 | apply IsS104.set_2) | exact HI0.out)) k_ hk⟩)); (case aO => exact (by (with_reducible repeat (first | apply Kd.N_alloc | apply Kd.N_drewN | apply Kd.N_drew)); exact Kd.N_mono HO677.out (fun _ hk => ⟨hk.1.1, hk.1.2⟩))); (case aS => exact (keep_size (w := w) (g := g) (row := none) (by repeat (first | (with_reducible first | exact HK.out | apply KeepBut.set_ | apply keep_drewN | apply keep_drew | apply keep_alloc) | exact HK.out)))); (case aL => have := LMc67.out; omega); intro v687 w71 ho hb hg hat; rw [← Ny686.out] at ho; have n0_ := Aside0.mk (IsS104.grown (by repeat (first | (with_reducible first | exact HI0.out | apply IsS104.alloc | apply IsS104.drewN | apply IsS104.drew | apply IsS104.set_1 | apply IsS104.set_2) | exact HI0.out)) hg (IsS104.own_neN HI0.out HO677.out (by decide))); have n1_ := Aside0.mk (Kd.N_afterv (ok := (fun k_ => (w.heap.size ≤ k_) ∧ k_ ≠ g)) (by (with_reducible repeat (first | apply Kd.N_alloc | apply Kd.N_drewN | apply Kd.N_drew)); exact Kd.N_mono HO683.out (fun _ hk => ⟨⟨hk.1, hk.2.2⟩, hk.2.1⟩)) hg hat); have n2_ := Aside0.mk (below_weaken (by repeat (first | (with_reducible first | exact HB.out | apply below_alloc | apply pw_below_drewN | apply below_drew1 | refine below_set ?_ (IsS104.ge HI0.out)) | exact HB.out)) HL.out hb); have n3_ := Aside0.mk (KeepBut.trans (by repeat (first | (with_reducible first | exact HK.out | apply KeepBut.set_ | apply keep_drewN | apply keep_drew | apply keep_alloc) | exact HK.out)) (KeepBut.of_grown hg g) (Kd.N_base2 HO677.out)); have n4_ := Aside0.mk (ho); clear HI0; clear HO683; clear HB; clear HK; clear HO677; have HI0 := n0_; have HO683 := n1_; have HB := n2_; have HK := n3_; have HO688 := n4_; clear n0_ n1_ n2_ n3_ n4_; clear ho hb hg hat) | ((with_reducible refine gate_builtin (b := .append) (xs := #[.tmp 78, .tmp 81]) rfl ?_); at_builtin; refine Kd.N_append k89 w.heap.size rfl (.tmp 78) (.tmp 81) 27 89 (.agg #[(.int .i64 0), (.slice none 0 0)]) 32 rfl Try.underlying27 info89 rfl (by decide) (by omega) v687 y686 (⟨x9_60, ([] : List Int)⟩ : S89) [.int .i64 x9_60, .slice none 0 0] (fun k_ => (w.heap.size ≤ k_) ∧ k_ ≠ g) (fun k_ => ((fun k_ => (w.heap.size ≤ k_) ∧ k_ ≠ g)) k_ ∧ some k_ ≠ (v687 : Value).ownBlock) rfl rfl ?aP (fun _ hk => hk) ?aF ?aO (Below.refl _ _) ?aS ?aL ?_; (case aP => exact (k89_mkF _ _ (⟨x9_60, ([] : List Int)⟩ : S89) (Nat.le_refl _) (Kd.F_nil _ _ _))); (case aF => exact (fun k_ hk => ⟨(Nat.le_trans (keep_size (w := w) (g := g) (row := none) (by repeat (first | (with_reducible first | exact HK.out | apply KeepBut.set_ | apply keep_drewN | apply keep_drew | apply keep_alloc) | exact HK.out))) hk), IsS104.fresh (by repeat (first | (with_reducible first | exact HI0.out | apply IsS104.alloc | apply IsS104.drewN | apply IsS104.drew | apply IsS104.set_1 | apply IsS104.set_2) | exact HI0.out)) k_ hk⟩)); (case aO => exact HO688.out); (case aS => exact (keep_size (w := w) (g := g) (row := none) (by repeat (first | (with_reducible first | exact HK.out | apply KeepBut.set_ | apply keep_drewN | apply keep_drew | apply keep_alloc) | exact HK.out)))); (case aL => have := LMc68.out; omega); intro v690 w73 ho hb hg hat; rw [← Ny689.out] at ho; have n0_ := Aside0.mk (IsS104.grown (by repeat (first | (with_reducible first | exact HI0.out | apply IsS104.alloc | apply IsS104.drewN | apply IsS104.drew | apply IsS104.set_1 | apply IsS104.set_2) | exact HI0.out)) hg (IsS104.own_neN HI0.out HO688.out (by decide))); have n1_ := Aside0.mk (Kd.N_afterv (ok := (fun k_ => (w.heap.size ≤ k_) ∧ k_ ≠ g)) HO683.out hg hat); have n2_ := Aside0.mk (below_weaken (by repeat (first | (with_reducible first | exact HB.out | apply below_alloc | apply pw_below_drewN | apply below_drew1 | refine below_set ?_ (IsS104.ge HI0.out)) | exact HB.out)) HL.out hb); have n3_ := Aside0.mk (KeepBut.trans (by repeat (first | (with_reducible first | exact HK.out | apply KeepBut.set_ | apply keep_drewN | apply keep_drew | apply keep_alloc) | exact HK.out)) (KeepBut.of_grown hg g) (Kd.N_base2 HO688.out)); have n4_ := Aside0.mk (ho); clear HI0; clear HO683; clear HB; clear HK; clear HO688; have HI0 := n0_; have HO683 := n1_; have HB := n2_; have HK := n3_; have HO691 := n4_; clear n0_ n1_ n2_ n3_ n4_; clear ho hb hg hat))
           go_ret
           exact ⟨_, by first | rfl | (simp [errW_none, errW_some] <;> rfl) | (simp [*, errW_none, errW_some] <;> rfl), by (with_reducible repeat (first | apply Kd.N_alloc | apply Kd.N_drewN | apply Kd.N_drew)); exact Kd.N_mono HO691.out (fun _ hk => hk.1), HI0.out, HB.out, HK.out⟩
          ·rw [if_neg c68] at H
           exact absurd H (by simp)
         ·rw [if_neg c67] at H
          exact absurd H (by simp)
        ·rw [if_neg c65] at H
         have c65b0 : (t680 == 2) = false := beq_eq_false_iff_ne.mpr c65
         have c65b1 : (t680 != 2) = true := bne_iff_ne.mpr c65
         by_cases c74 : t675.length < 4398046511104
         ·rw [if_pos c74] at H
          have LMc74 := Aside0.mk c74
          clear c74
          obtain ⟨y692, hy692⟩ : ∃ y_ : List (S89), y_ = (t675 ++ [(⟨x9_60, ([] : List Int)⟩ : S89)]) := ⟨_, rfl⟩
          replace H : (some (y692, t678, t679)) = some (r1, r2, r3) := by rw [hy692]; exact H
          have Ny692 := Aside0.mk hy692
          clear hy692
          simp only [Option.some.injEq, Prod.mk.injEq] at H
          obtain ⟨rfl, rfl, rfl⟩ := H
          go_wp2_with (first | ((with_reducible refine gate_callee (f := 79) rfl ?_); refine goesL_ (some 67) rfl rfl Try.func79 (by kernel_rfl) rfl #[.pointer (some ⟨g, 0, none⟩), .int .i64 (wrap64 (a1 - 1)), .bool a2] rfl (by simp only [List.map_toArray, List.map_cons, List.map_nil] <;> rfl) ?_; (with_reducible refine (ih kj60 (by have := HJ3.out; have := HJ53.out; have := HJ60.out; omega) g s0_0 t673 t674 (wrap64 (a1 - 1)) a2 t675 t678 t679 w0 _ ?side1 ?side2 A63.out).mono ?_); (case side1 => repeat (first | (with_reducible first | exact HI0.out | apply IsS104.alloc | apply IsS104.drewN | apply IsS104.drew | apply IsS104.set_1 | apply IsS104.set_2) | exact HI0.out)); (case side2 => repeat (first | (with_reducible first | exact HB.out | apply below_alloc | apply pw_below_drewN | apply below_drew1 | refine below_set ?_ (IsS104.ge HI0.out)) | exact HB.out)); rintro e w75 ⟨v676, rfl, ho0, hi, hb, hk⟩; refine ⟨_, rfl, ?_⟩; have n0_ := Aside0.mk (Kd.N_lower (Kd.N_mono (ok' := fun k_ => (w.heap.size ≤ k_) ∧ k_ ≠ g) ho0 (fun k_ hk_ => ⟨(Nat.le_trans (keep_size (w := w) (g := g) (row := none) (by repeat (first | (with_reducible first | exact HK.out | apply KeepBut.set_ | apply keep_drewN | apply keep_drew | apply keep_alloc) | exact HK.out))) hk_), (IsS104.fresh (by repeat (first | (with_reducible first | exact HI0.out | apply IsS104.alloc | apply IsS104.drewN | apply IsS104.drew | apply IsS104.set_1 | apply IsS104.set_2) | exact HI0.out)) k_ hk_)⟩)) (keep_size (w := w) (g := g) (row := none) (by repeat (first | (with_reducible first | exact HK.out | apply KeepBut.set_ | apply keep_drewN | apply keep_drew | apply keep_alloc) | exact HK.out)))); have n1_ := Aside0.mk (KeepBut.trans (by repeat (first | (with_reducible first | exact HK.out | apply KeepBut.set_ | apply keep_drewN | apply keep_drew | apply keep_alloc) | exact HK.out)) hk (.inl rfl)); have n2_ := Aside0.mk (hb); have n3_ := Aside0.mk (hi); clear HK; clear HB; clear HI0; have HO677 := n0_; have HK := n1_; have HB := n2_; have HI0 := n3_; clear n0_ n1_ n2_ n3_) | ((with_reducible refine gate_callee (f := 126) rfl ?_); refine goesL_ (some 69) rfl rfl Try.func126 (by kernel_rfl) rfl #[.int .i64 x9_60] rfl (by simp only [List.map_toArray, List.map_cons, List.map_nil] <;> rfl) ?_; (with_reducible refine (spec_l5Arity.calls kj60 x9_60 t680 _ A64.out).mono ?_); rintro e w' ⟨rfl, ⟨nd, rfl⟩⟩; refine ⟨_, rfl, ?_⟩) | ((with_reducible refine gate_builtin (b := .append) (xs := #[.tmp 78, .tmp 81]) rfl ?_); at_builtin; refine Kd.N_append k89 w.heap.size rfl (.tmp 78) (.tmp 81) 27 89 (.agg #[(.int .i64 0), (.slice none 0 0)]) 32 rfl Try.underlying27 info89 rfl (by decide) (by omega) v676 t675 (⟨x9_60, ([] : List Int)⟩ : S89) [.int .i64 x9_60, .slice none 0 0] (fun k_ => (w.heap.size ≤ k_) ∧ k_ ≠ g) (fun k_ => ((fun k_ => (w.heap.size ≤ k_) ∧ k_ ≠ g)) k_ ∧ some k_ ≠ (v676 : Value).ownBlock) rfl rfl ?aP (fun _ hk => hk) ?aF ?aO (Below.refl _ _) ?aS ?aL ?_; (case aP => exact (k89_mkF _ _ (⟨x9_60, ([] : List Int)⟩ : S89) (Nat.le_refl _) (Kd.F_nil _ _ _))); (case aF => exact (fun k_ hk => ⟨(Nat.le_trans (keep_size (w := w) (g := g) (row := none) (by repeat (first | (with_reducible first | exact HK.out | apply KeepBut.set_ | apply keep_drewN | apply keep_drew | apply keep_alloc) | exact HK.out))) hk), IsS104.fresh (by repeat (first | (with_reducible first | exact HI0.out | apply IsS104.alloc | apply IsS104.drewN | apply IsS104.drew | apply IsS104.set_1 | apply IsS104.set_2) | exact HI0.out)) k_ hk⟩)); (case aO => exact HO677.out); (case aS => exact (keep_size (w := w) (g := g) (row := none) (by repeat (first | (with_reducible first | exact HK.out | apply KeepBut.set_ | apply keep_drewN | apply keep_drew | apply keep_alloc) | exact HK.out)))); (case aL => have := LMc74.out; omega); intro v693 w76 ho hb hg hat; rw [← Ny692.out] at ho; have n0_ := Aside0.mk (IsS104.grown (by repeat (first | (with_reducible first | exact HI0.out | apply IsS104.alloc | apply IsS104.drewN | apply IsS104.drew | apply IsS104.set_1 | apply IsS104.set_2) | exact HI0.out)) hg (IsS104.own_neN HI0.out HO677.out (by decide))); have n1_ := Aside0.mk (below_weaken (by repeat (first | (with_reducible first | exact HB.out | apply below_alloc | apply pw_below_drewN | apply below_drew1 | refine below_set ?_ (IsS104.ge HI0.out)) | exact HB.out)) HL.out hb); have n2_ := Aside0.mk (KeepBut.trans (by repeat (first | (with_reducible first | exact HK.out | apply KeepBut.set_ | apply keep_drewN | apply keep_drew | apply keep_alloc) | exact HK.out)) (KeepBut.of_grown hg g) (Kd.N_base2 HO677.out)); have n3_ := Aside0.mk (ho); clear HI0; clear HB; clear HK; clear HO677; have HI0 := n0_; have HB := n1_; have HK := n2_; have HO694 := n3_; clear n0_ n1_ n2_ n3_; clear ho hb hg hat))
          go_ret
          exact ⟨_, by first | rfl | (simp [errW_none, errW_some] <;> rfl) | (simp [*, errW_none, errW_some] <;> rfl), by (with_reducible repeat (first | apply Kd.N_alloc | apply Kd.N_drewN | apply Kd.N_drew)); exact Kd.N_mono HO694.out (fun _ hk => hk.1), HI0.out, HB.out, HK.out⟩
         ·rw [if_neg c74] at H
          exact absurd H (by simp)


end Go.Proofs.Ytkpeihdlmjdejaa.P
