import Derived.Test.YtkpeihdlmjdejaaCP0
import Derived.Test.YtkpeihdlmjdejaaC0
import Derived.Test.YtkpeihdlmjdejaaC2
namespace Go.Proofs.Ytkpeihdlmjdejaa.P
open Go.RowKit Go.Proofs.YtkpeihdlmjdejaaW.PrintWords Go.Proofs.YtkpeihdlmjdejaaW.PrintLast Go.Proofs.YtkpeihdlmjdejaaW.PrintMore
attribute [local go_sem] max2_int min2_int max_two min_two max_three min_three max_four min_four   -- for this text's walks alone
set_option linter.unusedVariables false
set_option linter.unusedSimpArgs false

attribute [local go_sem high] eqA40
def laws_szIns.f (k : Nat) (a0_0 : Int) (a0_1 : Int) (a0_2 : Int) (a0_3 : Int) (l0_4 : List Int) (l0_5 : List (S176)) (l0_6 : List Int) (a1 : Int) : Option (Int) := (laws_szIntS.f l0_4 a1).bind fun t818 => (if t818 < 0 then (some (-1)) else ((laws_szClauseS.f k l0_5 t818).bind fun t819 => (if t819 < 0 then (some (-1)) else ((laws_szIntS.f l0_6 t819).bind fun t820 => (if t820 < 0 then (some (-1)) else (some t820))))))
theorem laws_szIns.mono : ∀ a0 a1 a2 a3 a4 a5 a6 a7 k, LeO (laws_szIns.f k a0 a1 a2 a3 a4 a5 a6 a7) (laws_szIns.f (k + 1) a0 a1 a2 a3 a4 a5 a6 a7) := by
 intro a0 a1 a2 a3 a4 a5 a6 a7 k
 unfold laws_szIns.f
 repeat' first
   | (with_reducible exact laws_szClauseS.mono _ _ _)
   | (with_reducible exact LeO.refl _)
   | (with_reducible exact LeO.none _)
   | (with_reducible refine LeO.ite ?_ ?_)
   | (with_reducible refine LeO.bind ?_ (fun _ => ?_))
   | exact laws_szClauseS.mono _ _ _
   | exact LeO.none _
   | refine LeO.ite ?_ ?_
   | refine LeO.bind ?_ (fun _ => ?_)
set_option maxHeartbeats 8000000 in
set_option maxRecDepth 100000 in
theorem laws_szIns.calls (k : Nat) (a0_0 : Int) (a0_1 : Int) (a0_2 : Int) (a0_3 : Int) (A0_4 : Option Addr) (c0_4 : Nat) (l0_4 : List Int) (A0_5 : Option Addr) (c0_5 : Nat) (l0_5 : List (S176)) (A0_6 : Option Addr) (c0_6 : Nat) (l0_6 : List Int) (a1 : Int) (r : Int) (w : World) (hr0_4 : Kd.C (Kd.int .i64) w A0_4 l0_4.length l0_4) (hc0_4 : l0_4.length ≤ c0_4) (hr0_5 : Kd.C k176 w A0_5 l0_5.length l0_5) (hc0_5 : l0_5.length ≤ c0_5) (hr0_6 : Kd.C (Kd.int .i64) w A0_6 l0_6.length l0_6) (hc0_6 : l0_6.length ≤ c0_6) (h : laws_szIns.f k a0_0 a0_1 a0_2 a0_3 l0_4 l0_5 l0_6 a1 = some r) :
  Calls Try.prog 83 #[.agg #[.int .i64 a0_0, .int .i64 a0_1, .int .i64 a0_2, .int .i64 a0_3, .slice A0_4 l0_4.length c0_4, .slice A0_5 l0_5.length c0_5, .slice A0_6 l0_6.length c0_6], .int .i64 a1] w fun e w' => e = .returned (.int .i64 r) ∧ Below w.heap.size w w' := by
 have hu112 := Try.underlying112
 have HR0_4 := Aside0.mk hr0_4
 have HC0_4 := Aside0.mk hc0_4
 clear hr0_4 hc0_4
 have HR0_5 := Aside0.mk hr0_5
 have HC0_5 := Aside0.mk hc0_5
 clear hr0_5 hc0_5
 have HR0_6 := Aside0.mk hr0_6
 have HC0_6 := Aside0.mk hc0_6
 clear hr0_6 hc0_6
 have HB := Aside0.mk (Below.refl w.heap.size w)
 have H : ((laws_szIntS.f l0_4 a1).bind fun t818 => (if t818 < 0 then (some (-1)) else ((laws_szClauseS.f k l0_5 t818).bind fun t819 => (if t819 < 0 then (some (-1)) else ((laws_szIntS.f l0_6 t819).bind fun t820 => (if t820 < 0 then (some (-1)) else (some t820))))))) = some r := h
 clear h
 replace H := Option.bind_eq_some_iff.mp H
 obtain ⟨t818, A30, H⟩ := H
 replace H : (if t818 < 0 then (some (-1)) else ((laws_szClauseS.f k l0_5 t818).bind fun t819 => (if t819 < 0 then (some (-1)) else ((laws_szIntS.f l0_6 t819).bind fun t820 => (if t820 < 0 then (some (-1)) else (some t820)))))) = some r := H
 have A3 := Aside0.mk A30
 clear A30
 by_cases c4 : t818 < 0
 ·rw [if_pos c4] at H
  have c4b0 : decide (t818 < 0) = true := decide_eq_true c4
  clear c4
  obtain rfl := Option.some.inj H
  go_enter Try.func83, Try.ntmps83
  go_wp2_with (first | ((with_reducible refine gate_dst (N := 2) rfl ?_); refine box_event ?hg (N := 2) ?hd (cs := #[.int .i64 a0_0, .int .i64 a0_1, .int .i64 a0_2, .int .i64 a0_3, .slice A0_4 l0_4.length c0_4, .slice A0_5 l0_5.length c0_5, .slice A0_6 l0_6.length c0_6]) (t := 112) ?hr ?_; (case hd => rfl); (case hg => rfl); (case hr => first | (go_simp; done) | (go_simp; rfl)); intro gb817 hg w5 hbox hb; have n0_ := Aside0.mk (below_step (by repeat (first | (with_reducible first | exact HB.out | apply below_alloc | apply pw_below_drewN | apply below_drew1) | exact HB.out)) hb); have n1_ := Aside0.mk (hbox); have n2_ := Aside0.mk ((by rw [hg]; exact (below_size (by repeat (first | (with_reducible first | exact HB.out | apply below_alloc | apply pw_below_drewN | apply below_drew1) | exact HB.out))) : w.heap.size ≤ gb817)); have n3_ := Aside0.mk ((by rw [hg]; exact (below_size (by repeat (first | (with_reducible first | exact HB.out | apply below_alloc | apply pw_below_drewN | apply below_drew1) | exact HB.out))) : w.heap.size ≤ gb817)); clear HB; have HB := n0_; have BK817 := n1_; have GW817 := n2_; have GE817 := n3_; clear n0_ n1_ n2_ n3_; clear hb hbox hg; have hcz6_0 : w5.cell? ⟨gb817, 0, none⟩ = some (.int .i64 a0_0) := (blk_cell BK817.out 0).trans rfl; have hcz6_1 : w5.cell? ⟨gb817, 1, none⟩ = some (.int .i64 a0_1) := (blk_cell BK817.out 1).trans rfl; have hcz6_2 : w5.cell? ⟨gb817, 2, none⟩ = some (.int .i64 a0_2) := (blk_cell BK817.out 2).trans rfl; have hcz6_3 : w5.cell? ⟨gb817, 3, none⟩ = some (.int .i64 a0_3) := (blk_cell BK817.out 3).trans rfl; have hcz6_4 : w5.cell? ⟨gb817, 4, none⟩ = some (.slice A0_4 l0_4.length c0_4) := (blk_cell BK817.out 4).trans rfl; have hcz6_5 : w5.cell? ⟨gb817, 5, none⟩ = some (.slice A0_5 l0_5.length c0_5) := (blk_cell BK817.out 5).trans rfl; have hcz6_6 : w5.cell? ⟨gb817, 6, none⟩ = some (.slice A0_6 l0_6.length c0_6) := (blk_cell BK817.out 6).trans rfl; have hfz6_0 := blk_frozen BK817.out 0; have hfz6_1 := blk_frozen BK817.out 1; have hfz6_2 := blk_frozen BK817.out 2; have hfz6_3 := blk_frozen BK817.out 3; have hfz6_4 := blk_frozen BK817.out 4; have hfz6_5 := blk_frozen BK817.out 5; have hfz6_6 := blk_frozen BK817.out 6) | ((with_reducible refine gate_callee (f := 91) rfl ?_); refine goesL_ (some 8) rfl rfl Try.func91 (by kernel_rfl) rfl #[.slice A0_4 l0_4.length c0_4, .int .i64 a1] rfl (by (try simp only [List.map_toArray, List.map_cons, List.map_nil]); first | done | rfl | (simp only [List.length_drop, List.length_take]; rfl)) ?_; (with_reducible refine (laws_szIntS.calls _ _ l0_4 a1 t818 _ ?side1 ?side2 A3.out).mono ?_); (case side1 => repeat (first | exact (Kd.C_below HR0_4.out HB.out) | (with_reducible refine Kd.C_alloc ?_ _) | (with_reducible refine Kd.C_drewN ?_ _) | (with_reducible refine Kd.C_drew ?_))); (case side2 => exact HC0_4.out); rintro e w' ⟨rfl, ⟨nd, rfl⟩⟩; refine ⟨_, rfl, ?_⟩))
  go_ret
  exact ⟨by first | rfl | (simp [errW_none, errW_some] <;> rfl) | (simp [*, errW_none, errW_some] <;> rfl), by repeat (first | (with_reducible first | exact HB.out | apply below_alloc | apply pw_below_drewN | apply below_drew1 | refine below_set ?_ GE817.out) | exact HB.out)⟩
 ·rw [if_neg c4] at H
  have c4b0 : decide (t818 < 0) = false := decide_eq_false c4
  clear c4
  replace H := Option.bind_eq_some_iff.mp H
  obtain ⟨t819, A70, H⟩ := H
  replace H : (if t819 < 0 then (some (-1)) else ((laws_szIntS.f l0_6 t819).bind fun t820 => (if t820 < 0 then (some (-1)) else (some t820)))) = some r := H
  have A7 := Aside0.mk A70
  clear A70
  by_cases c8 : t819 < 0
  ·rw [if_pos c8] at H
   have c8b0 : decide (t819 < 0) = true := decide_eq_true c8
   clear c8
   obtain rfl := Option.some.inj H
   go_enter Try.func83, Try.ntmps83
   go_wp2_with (first | ((with_reducible refine gate_dst (N := 2) rfl ?_); refine box_event ?hg (N := 2) ?hd (cs := #[.int .i64 a0_0, .int .i64 a0_1, .int .i64 a0_2, .int .i64 a0_3, .slice A0_4 l0_4.length c0_4, .slice A0_5 l0_5.length c0_5, .slice A0_6 l0_6.length c0_6]) (t := 112) ?hr ?_; (case hd => rfl); (case hg => rfl); (case hr => first | (go_simp; done) | (go_simp; rfl)); intro gb817 hg w9 hbox hb; have n0_ := Aside0.mk (below_step (by repeat (first | (with_reducible first | exact HB.out | apply below_alloc | apply pw_below_drewN | apply below_drew1) | exact HB.out)) hb); have n1_ := Aside0.mk (hbox); have n2_ := Aside0.mk ((by rw [hg]; exact (below_size (by repeat (first | (with_reducible first | exact HB.out | apply below_alloc | apply pw_below_drewN | apply below_drew1) | exact HB.out))) : w.heap.size ≤ gb817)); have n3_ := Aside0.mk ((by rw [hg]; exact (below_size (by repeat (first | (with_reducible first | exact HB.out | apply below_alloc | apply pw_below_drewN | apply below_drew1) | exact HB.out))) : w.heap.size ≤ gb817)); clear HB; have HB := n0_; have BK817 := n1_; have GW817 := n2_; have GE817 := n3_; clear n0_ n1_ n2_ n3_; clear hb hbox hg; have hcz10_0 : w9.cell? ⟨gb817, 0, none⟩ = some (.int .i64 a0_0) := (blk_cell BK817.out 0).trans rfl; have hcz10_1 : w9.cell? ⟨gb817, 1, none⟩ = some (.int .i64 a0_1) := (blk_cell BK817.out 1).trans rfl; have hcz10_2 : w9.cell? ⟨gb817, 2, none⟩ = some (.int .i64 a0_2) := (blk_cell BK817.out 2).trans rfl; have hcz10_3 : w9.cell? ⟨gb817, 3, none⟩ = some (.int .i64 a0_3) := (blk_cell BK817.out 3).trans rfl; have hcz10_4 : w9.cell? ⟨gb817, 4, none⟩ = some (.slice A0_4 l0_4.length c0_4) := (blk_cell BK817.out 4).trans rfl; have hcz10_5 : w9.cell? ⟨gb817, 5, none⟩ = some (.slice A0_5 l0_5.length c0_5) := (blk_cell BK817.out 5).trans rfl; have hcz10_6 : w9.cell? ⟨gb817, 6, none⟩ = some (.slice A0_6 l0_6.length c0_6) := (blk_cell BK817.out 6).trans rfl; have hfz10_0 := blk_frozen BK817.out 0; have hfz10_1 := blk_frozen BK817.out 1; have hfz10_2 := blk_frozen BK817.out 2; have hfz10_3 := blk_frozen BK817.out 3; have hfz10_4 := blk_frozen BK817.out 4; have hfz10_5 := blk_frozen BK817.out 5; have hfz10_6 := blk_frozen BK817.out 6) | ((with_reducible refine gate_callee (f := 91) rfl ?_); refine goesL_ (some 8) rfl rfl Try.func91 (by kernel_rfl) rfl #[.slice A0_4 l0_4.length c0_4, .int .i64 a1] rfl (by (try simp only [List.map_toArray, List.map_cons, List.map_nil]); first | done | rfl | (simp only [List.length_drop, List.length_take]; rfl)) ?_; (with_reducible refine (laws_szIntS.calls _ _ l0_4 a1 t818 _ ?side1 ?side2 A3.out).mono ?_); (case side1 => repeat (first | exact (Kd.C_below HR0_4.out HB.out) | (with_reducible refine Kd.C_alloc ?_ _) | (with_reducible refine Kd.C_drewN ?_ _) | (with_reducible refine Kd.C_drew ?_))); (case side2 => exact HC0_4.out); rintro e w' ⟨rfl, ⟨nd, rfl⟩⟩; refine ⟨_, rfl, ?_⟩) | ((with_reducible refine gate_callee (f := 128) rfl ?_); refine goesL_ (some 14) rfl rfl Try.func128 (by kernel_rfl) rfl #[.slice A0_5 l0_5.length c0_5, .int .i64 t818] rfl (by (try simp only [List.map_toArray, List.map_cons, List.map_nil]); first | done | rfl | (simp only [List.length_drop, List.length_take]; rfl)) ?_; (with_reducible refine (laws_szClauseS.calls k _ _ l0_5 t818 t819 _ ?side1 ?side2 A7.out).mono ?_); (case side1 => repeat (first | exact (Kd.C_below HR0_5.out (by repeat (first | (with_reducible first | exact HB.out | apply below_alloc | apply pw_below_drewN | apply below_drew1 | refine below_set ?_ GE817.out) | exact HB.out))) | (with_reducible refine Kd.C_alloc ?_ _) | (with_reducible refine Kd.C_drewN ?_ _) | (with_reducible refine Kd.C_drew ?_))); (case side2 => exact HC0_5.out); rintro e w11 ⟨rfl, hb⟩; refine ⟨_, rfl, ?_⟩; have n0_ := Aside0.mk (blk_below (g := gb817) (o := .cells #[.int .i64 a0_0, .int .i64 a0_1, .int .i64 a0_2, .int .i64 a0_3, .slice A0_4 l0_4.length c0_4, .slice A0_5 l0_5.length c0_5, .slice A0_6 l0_6.length c0_6] 112 (0, 0)) (by (with_reducible repeat (first | refine blk_drewN ?_ _ | refine blk_drew ?_ | refine blk_alloc ?_ _)); exact BK817.out) hb); have n1_ := Aside0.mk (below_step (by repeat (first | (with_reducible first | exact HB.out | apply below_alloc | apply pw_below_drewN | apply below_drew1 | refine below_set ?_ GE817.out) | exact HB.out)) hb); clear BK817; clear HB; have BK817 := n0_; have HB := n1_; clear n0_ n1_; (try clear hb); (try clear hb2); (try clear hk); (try clear hi)))
   go_ret
   exact ⟨by first | rfl | (simp [errW_none, errW_some] <;> rfl) | (simp [*, errW_none, errW_some] <;> rfl), by repeat (first | (with_reducible first | exact HB.out | apply below_alloc | apply pw_below_drewN | apply below_drew1 | refine below_set ?_ GE817.out) | exact HB.out)⟩
  ·rw [if_neg c8] at H
   have c8b0 : decide (t819 < 0) = false := decide_eq_false c8
   clear c8
   replace H := Option.bind_eq_some_iff.mp H
   obtain ⟨t820, A120, H⟩ := H
   replace H : (if t820 < 0 then (some (-1)) else (some t820)) = some r := H
   have A12 := Aside0.mk A120
   clear A120
   by_cases c13 : t820 < 0
   ·rw [if_pos c13] at H
    have c13b0 : decide (t820 < 0) = true := decide_eq_true c13
    clear c13
    obtain rfl := Option.some.inj H
    go_enter Try.func83, Try.ntmps83
    go_wp2_with (first | ((with_reducible refine gate_dst (N := 2) rfl ?_); refine box_event ?hg (N := 2) ?hd (cs := #[.int .i64 a0_0, .int .i64 a0_1, .int .i64 a0_2, .int .i64 a0_3, .slice A0_4 l0_4.length c0_4, .slice A0_5 l0_5.length c0_5, .slice A0_6 l0_6.length c0_6]) (t := 112) ?hr ?_; (case hd => rfl); (case hg => rfl); (case hr => first | (go_simp; done) | (go_simp; rfl)); intro gb817 hg w14 hbox hb; have n0_ := Aside0.mk (below_step (by repeat (first | (with_reducible first | exact HB.out | apply below_alloc | apply pw_below_drewN | apply below_drew1) | exact HB.out)) hb); have n1_ := Aside0.mk (hbox); have n2_ := Aside0.mk ((by rw [hg]; exact (below_size (by repeat (first | (with_reducible first | exact HB.out | apply below_alloc | apply pw_below_drewN | apply below_drew1) | exact HB.out))) : w.heap.size ≤ gb817)); have n3_ := Aside0.mk ((by rw [hg]; exact (below_size (by repeat (first | (with_reducible first | exact HB.out | apply below_alloc | apply pw_below_drewN | apply below_drew1) | exact HB.out))) : w.heap.size ≤ gb817)); clear HB; have HB := n0_; have BK817 := n1_; have GW817 := n2_; have GE817 := n3_; clear n0_ n1_ n2_ n3_; clear hb hbox hg; have hcz15_0 : w14.cell? ⟨gb817, 0, none⟩ = some (.int .i64 a0_0) := (blk_cell BK817.out 0).trans rfl; have hcz15_1 : w14.cell? ⟨gb817, 1, none⟩ = some (.int .i64 a0_1) := (blk_cell BK817.out 1).trans rfl; have hcz15_2 : w14.cell? ⟨gb817, 2, none⟩ = some (.int .i64 a0_2) := (blk_cell BK817.out 2).trans rfl; have hcz15_3 : w14.cell? ⟨gb817, 3, none⟩ = some (.int .i64 a0_3) := (blk_cell BK817.out 3).trans rfl; have hcz15_4 : w14.cell? ⟨gb817, 4, none⟩ = some (.slice A0_4 l0_4.length c0_4) := (blk_cell BK817.out 4).trans rfl; have hcz15_5 : w14.cell? ⟨gb817, 5, none⟩ = some (.slice A0_5 l0_5.length c0_5) := (blk_cell BK817.out 5).trans rfl; have hcz15_6 : w14.cell? ⟨gb817, 6, none⟩ = some (.slice A0_6 l0_6.length c0_6) := (blk_cell BK817.out 6).trans rfl; have hfz15_0 := blk_frozen BK817.out 0; have hfz15_1 := blk_frozen BK817.out 1; have hfz15_2 := blk_frozen BK817.out 2; have hfz15_3 := blk_frozen BK817.out 3; have hfz15_4 := blk_frozen BK817.out 4; have hfz15_5 := blk_frozen BK817.out 5; have hfz15_6 := blk_frozen BK817.out 6) | ((with_reducible refine gate_callee (f := 91) rfl ?_); refine goesL_ (some 8) rfl rfl Try.func91 (by kernel_rfl) rfl #[.slice A0_4 l0_4.length c0_4, .int .i64 a1] rfl (by (try simp only [List.map_toArray, List.map_cons, List.map_nil]); first | done | rfl | (simp only [List.length_drop, List.length_take]; rfl)) ?_; (with_reducible refine (laws_szIntS.calls _ _ l0_4 a1 t818 _ ?side1 ?side2 A3.out).mono ?_); (case side1 => repeat (first | exact (Kd.C_below HR0_4.out HB.out) | (with_reducible refine Kd.C_alloc ?_ _) | (with_reducible refine Kd.C_drewN ?_ _) | (with_reducible refine Kd.C_drew ?_))); (case side2 => exact HC0_4.out); rintro e w' ⟨rfl, ⟨nd, rfl⟩⟩; refine ⟨_, rfl, ?_⟩) | ((with_reducible refine gate_callee (f := 128) rfl ?_); refine goesL_ (some 14) rfl rfl Try.func128 (by kernel_rfl) rfl #[.slice A0_5 l0_5.length c0_5, .int .i64 t818] rfl (by (try simp only [List.map_toArray, List.map_cons, List.map_nil]); first | done | rfl | (simp only [List.length_drop, List.length_take]; rfl)) ?_; (with_reducible refine (laws_szClauseS.calls k _ _ l0_5 t818 t819 _ ?side1 ?side2 A7.out).mono ?_); (case side1 => repeat (first | exact (Kd.C_below HR0_5.out (by repeat (first | (with_reducible first | exact HB.out | apply below_alloc | apply pw_below_drewN | apply below_drew1 | refine below_set ?_ GE817.out) | exact HB.out))) | (with_reducible refine Kd.C_alloc ?_ _) | (with_reducible refine Kd.C_drewN ?_ _) | (with_reducible refine Kd.C_drew ?_))); (case side2 => exact HC0_5.out); rintro e w16 ⟨rfl, hb⟩; refine ⟨_, rfl, ?_⟩; have n0_ := Aside0.mk (blk_below (g := gb817) (o := .cells #[.int .i64 a0_0, .int .i64 a0_1, .int .i64 a0_2, .int .i64 a0_3, .slice A0_4 l0_4.length c0_4, .slice A0_5 l0_5.length c0_5, .slice A0_6 l0_6.length c0_6] 112 (0, 0)) (by (with_reducible repeat (first | refine blk_drewN ?_ _ | refine blk_drew ?_ | refine blk_alloc ?_ _)); exact BK817.out) hb); have n1_ := Aside0.mk (below_step (by repeat (first | (with_reducible first | exact HB.out | apply below_alloc | apply pw_below_drewN | apply below_drew1 | refine below_set ?_ GE817.out) | exact HB.out)) hb); clear BK817; clear HB; have BK817 := n0_; have HB := n1_; clear n0_ n1_; (try clear hb); (try clear hb2); (try clear hk); (try clear hi); have hcz17_0 : w16.cell? ⟨gb817, 0, none⟩ = some (.int .i64 a0_0) := (blk_cell BK817.out 0).trans rfl; have hcz17_1 : w16.cell? ⟨gb817, 1, none⟩ = some (.int .i64 a0_1) := (blk_cell BK817.out 1).trans rfl; have hcz17_2 : w16.cell? ⟨gb817, 2, none⟩ = some (.int .i64 a0_2) := (blk_cell BK817.out 2).trans rfl; have hcz17_3 : w16.cell? ⟨gb817, 3, none⟩ = some (.int .i64 a0_3) := (blk_cell BK817.out 3).trans rfl; have hcz17_4 : w16.cell? ⟨gb817, 4, none⟩ = some (.slice A0_4 l0_4.length c0_4) := (blk_cell BK817.out 4).trans rfl; have hcz17_5 : w16.cell? ⟨gb817, 5, none⟩ = some (.slice A0_5 l0_5.length c0_5) := (blk_cell BK817.out 5).trans rfl; have hcz17_6 : w16.cell? ⟨gb817, 6, none⟩ = some (.slice A0_6 l0_6.length c0_6) := (blk_cell BK817.out 6).trans rfl; have hfz17_0 := blk_frozen BK817.out 0; have hfz17_1 := blk_frozen BK817.out 1; have hfz17_2 := blk_frozen BK817.out 2; have hfz17_3 := blk_frozen BK817.out 3; have hfz17_4 := blk_frozen BK817.out 4; have hfz17_5 := blk_frozen BK817.out 5; have hfz17_6 := blk_frozen BK817.out 6) | ((with_reducible refine gate_callee (f := 91) rfl ?_); refine goesL_ (some 20) rfl rfl Try.func91 (by kernel_rfl) rfl #[.slice A0_6 l0_6.length c0_6, .int .i64 t819] rfl (by (try simp only [List.map_toArray, List.map_cons, List.map_nil]); first | done | rfl | (simp only [List.length_drop, List.length_take]; rfl)) ?_; (with_reducible refine (laws_szIntS.calls _ _ l0_6 t819 t820 _ ?side1 ?side2 A12.out).mono ?_); (case side1 => repeat (first | exact (Kd.C_below HR0_6.out HB.out) | (with_reducible refine Kd.C_alloc ?_ _) | (with_reducible refine Kd.C_drewN ?_ _) | (with_reducible refine Kd.C_drew ?_))); (case side2 => exact HC0_6.out); rintro e w' ⟨rfl, ⟨nd, rfl⟩⟩; refine ⟨_, rfl, ?_⟩))
    go_ret
    exact ⟨by first | rfl | (simp [errW_none, errW_some] <;> rfl) | (simp [*, errW_none, errW_some] <;> rfl), by repeat (first | (with_reducible first | exact HB.out | apply below_alloc | apply pw_below_drewN | apply below_drew1 | refine below_set ?_ GE817.out) | exact HB.out)⟩
   ·rw [if_neg c13] at H
    have c13b0 : decide (t820 < 0) = false := decide_eq_false c13
    clear c13
    obtain rfl := Option.some.inj H
    go_enter Try.func83, Try.ntmps83
    go_wp2_with (first | ((with_reducible refine gate_dst (N := 2) rfl ?_); refine box_event ?hg (N := 2) ?hd (cs := #[.int .i64 a0_0, .int .i64 a0_1, .int .i64 a0_2, .int .i64 a0_3, .slice A0_4 l0_4.length c0_4, .slice A0_5 l0_5.length c0_5, .slice A0_6 l0_6.length c0_6]) (t := 112) ?hr ?_; (case hd => rfl); (case hg => rfl); (case hr => first | (go_simp; done) | (go_simp; rfl)); intro gb817 hg w18 hbox hb; have n0_ := Aside0.mk (below_step (by repeat (first | (with_reducible first | exact HB.out | apply below_alloc | apply pw_below_drewN | apply below_drew1) | exact HB.out)) hb); have n1_ := Aside0.mk (hbox); have n2_ := Aside0.mk ((by rw [hg]; exact (below_size (by repeat (first | (with_reducible first | exact HB.out | apply below_alloc | apply pw_below_drewN | apply below_drew1) | exact HB.out))) : w.heap.size ≤ gb817)); have n3_ := Aside0.mk ((by rw [hg]; exact (below_size (by repeat (first | (with_reducible first | exact HB.out | apply below_alloc | apply pw_below_drewN | apply below_drew1) | exact HB.out))) : w.heap.size ≤ gb817)); clear HB; have HB := n0_; have BK817 := n1_; have GW817 := n2_; have GE817 := n3_; clear n0_ n1_ n2_ n3_; clear hb hbox hg; have hcz19_0 : w18.cell? ⟨gb817, 0, none⟩ = some (.int .i64 a0_0) := (blk_cell BK817.out 0).trans rfl; have hcz19_1 : w18.cell? ⟨gb817, 1, none⟩ = some (.int .i64 a0_1) := (blk_cell BK817.out 1).trans rfl; have hcz19_2 : w18.cell? ⟨gb817, 2, none⟩ = some (.int .i64 a0_2) := (blk_cell BK817.out 2).trans rfl; have hcz19_3 : w18.cell? ⟨gb817, 3, none⟩ = some (.int .i64 a0_3) := (blk_cell BK817.out 3).trans rfl; have hcz19_4 : w18.cell? ⟨gb817, 4, none⟩ = some (.slice A0_4 l0_4.length c0_4) := (blk_cell BK817.out 4).trans rfl; have hcz19_5 : w18.cell? ⟨gb817, 5, none⟩ = some (.slice A0_5 l0_5.length c0_5) := (blk_cell BK817.out 5).trans rfl; have hcz19_6 : w18.cell? ⟨gb817, 6, none⟩ = some (.slice A0_6 l0_6.length c0_6) := (blk_cell BK817.out 6).trans rfl; have hfz19_0 := blk_frozen BK817.out 0; have hfz19_1 := blk_frozen BK817.out 1; have hfz19_2 := blk_frozen BK817.out 2; have hfz19_3 := blk_frozen BK817.out 3; have hfz19_4 := blk_frozen BK817.out 4; have hfz19_5 := blk_frozen BK817.out 5; have hfz19_6 := blk_frozen BK817.out 6) | ((with_reducible refine gate_callee (f := 91) rfl ?_); refine goesL_ (some 8) rfl rfl Try.func91 (by kernel_rfl) rfl #[.slice A0_4 l0_4.length c0_4, .int .i64 a1] rfl (by (try simp only [List.map_toArray, List.map_cons, List.map_nil]); first | done | rfl | (simp only [List.length_drop, List.length_take]; rfl)) ?_; (with_reducible refine (laws_szIntS.calls _ _ l0_4 a1 t818 _ ?side1 ?side2 A3.out).mono ?_); (case side1 => repeat (first | exact (Kd.C_below HR0_4.out HB.out) | (with_reducible refine Kd.C_alloc ?_ _) | (with_reducible refine Kd.C_drewN ?_ _) | (with_reducible refine Kd.C_drew ?_))); (case side2 => exact HC0_4.out); rintro e w' ⟨rfl, ⟨nd, rfl⟩⟩; refine ⟨_, rfl, ?_⟩) | ((with_reducible refine gate_callee (f := 128) rfl ?_); refine goesL_ (some 14) rfl rfl Try.func128 (by kernel_rfl) rfl #[.slice A0_5 l0_5.length c0_5, .int .i64 t818] rfl (by (try simp only [List.map_toArray, List.map_cons, List.map_nil]); first | done | rfl | (simp only [List.length_drop, List.length_take]; rfl)) ?_; (with_reducible refine (laws_szClauseS.calls k _ _ l0_5 t818 t819 _ ?side1 ?side2 A7.out).mono ?_); (case side1 => repeat (first | exact (Kd.C_below HR0_5.out (by repeat (first | (with_reducible first | exact HB.out | apply below_alloc | apply pw_below_drewN | apply below_drew1 | refine below_set ?_ GE817.out) | exact HB.out))) | (with_reducible refine Kd.C_alloc ?_ _) | (with_reducible refine Kd.C_drewN ?_ _) | (with_reducible refine Kd.C_drew ?_))); (case side2 => exact HC0_5.out); rintro e w20 ⟨rfl, hb⟩; refine ⟨_, rfl, ?_⟩; have n0_ := Aside0.mk (blk_below (g := gb817) (o := .cells #[.int .i64 a0_0, .int .i64 a0_1, .int .i64 a0_2, .int .i64 a0_3, .slice A0_4 l0_4.length c0_4, .slice A0_5 l0_5.length c0_5, .slice A0_6 l0_6.length c0_6] 112 (0, 0)) (by (with_reducible repeat (first | refine blk_drewN ?_ _ | refine blk_drew ?_ | refine blk_alloc ?_ _)); exact BK817.out) hb); have n1_ := Aside0.mk (below_step (by repeat (first | (with_reducible first | exact HB.out | apply below_alloc | apply pw_below_drewN | apply below_drew1 | refine below_set ?_ GE817.out) | exact HB.out)) hb); clear BK817; clear HB; have BK817 := n0_; have HB := n1_; clear n0_ n1_; (try clear hb); (try clear hb2); (try clear hk); (try clear hi); have hcz21_0 : w20.cell? ⟨gb817, 0, none⟩ = some (.int .i64 a0_0) := (blk_cell BK817.out 0).trans rfl; have hcz21_1 : w20.cell? ⟨gb817, 1, none⟩ = some (.int .i64 a0_1) := (blk_cell BK817.out 1).trans rfl; have hcz21_2 : w20.cell? ⟨gb817, 2, none⟩ = some (.int .i64 a0_2) := (blk_cell BK817.out 2).trans rfl; have hcz21_3 : w20.cell? ⟨gb817, 3, none⟩ = some (.int .i64 a0_3) := (blk_cell BK817.out 3).trans rfl; have hcz21_4 : w20.cell? ⟨gb817, 4, none⟩ = some (.slice A0_4 l0_4.length c0_4) := (blk_cell BK817.out 4).trans rfl; have hcz21_5 : w20.cell? ⟨gb817, 5, none⟩ = some (.slice A0_5 l0_5.length c0_5) := (blk_cell BK817.out 5).trans rfl; have hcz21_6 : w20.cell? ⟨gb817, 6, none⟩ = some (.slice A0_6 l0_6.length c0_6) := (blk_cell BK817.out 6).trans rfl; have hfz21_0 := blk_frozen BK817.out 0; have hfz21_1 := blk_frozen BK817.out 1; have hfz21_2 := blk_frozen BK817.out 2; have hfz21_3 := blk_frozen BK817.out 3; have hfz21_4 := blk_frozen BK817.out 4; have hfz21_5 := blk_frozen BK817.out 5; have hfz21_6 := blk_frozen BK817.out 6) | ((with_reducible refine gate_callee (f := 91) rfl ?_); refine goesL_ (some 20) rfl rfl Try.func91 (by kernel_rfl) rfl #[.slice A0_6 l0_6.length c0_6, .int .i64 t819] rfl (by (try simp only [List.map_toArray, List.map_cons, List.map_nil]); first | done | rfl | (simp only [List.length_drop, List.length_take]; rfl)) ?_; (with_reducible refine (laws_szIntS.calls _ _ l0_6 t819 t820 _ ?side1 ?side2 A12.out).mono ?_); (case side1 => repeat (first | exact (Kd.C_below HR0_6.out HB.out) | (with_reducible refine Kd.C_alloc ?_ _) | (with_reducible refine Kd.C_drewN ?_ _) | (with_reducible refine Kd.C_drew ?_))); (case side2 => exact HC0_6.out); rintro e w' ⟨rfl, ⟨nd, rfl⟩⟩; refine ⟨_, rfl, ?_⟩))
    go_ret
    exact ⟨by first | rfl | (simp [errW_none, errW_some] <;> rfl) | (simp [*, errW_none, errW_some] <;> rfl), by repeat (first | (with_reducible first | exact HB.out | apply below_alloc | apply pw_below_drewN | apply below_drew1 | refine below_set ?_ GE817.out) | exact HB.out)⟩

def laws_szInsS.l0 : Nat → List (S112) → Int → Int → Option (Int)
 | 0, _, _, _ => none
 | k + 1, x0, x1, x5 => if x5 < (x0.length : Int) then (if 0 ≤ x5 then ((laws_szIns.f k ((rd_T112 x0 x5).f0) ((rd_T112 x0 x5).f1) ((rd_T112 x0 x5).f2) ((rd_T112 x0 x5).f3) ((rd_T112 x0 x5).f4) ((rd_T112 x0 x5).f5) ((rd_T112 x0 x5).f6) x1).bind fun t822 => (if t822 < 0 then (some (-1)) else (laws_szInsS.l0 k x0 t822 (wrap64 (x5 + 1))))) else (none)) else (some x1)
def laws_szInsS.f (k : Nat) (l0 : List (S112)) (a1 : Int) : Option (Int) := if (wrap64 (a1 - (l0.length : Int))) < 0 then (some (-1)) else (laws_szInsS.l0 k l0 (wrap64 (a1 - (l0.length : Int))) 0)
theorem laws_szInsS.mono_l : ∀ k, (∀ y0 y1 y2, LeO (laws_szInsS.l0 k y0 y1 y2) (laws_szInsS.l0 (k + 1) y0 y1 y2))
 | 0 => fun _ _ _ r h => by simp [laws_szInsS.l0] at h
 | k + 1 => by
  have ih0 := laws_szInsS.mono_l k
  ·intro y0 y1 y2
   unfold laws_szInsS.l0
   repeat' first
   | (with_reducible exact ih0 _ _ _)
   | (with_reducible exact laws_szIns.mono _ _ _ _ _ _ _ _ _)
   | (with_reducible exact LeO.refl _)
   | (with_reducible exact LeO.none _)
   | (with_reducible refine LeO.ite ?_ ?_)
   | (with_reducible refine LeO.bind ?_ (fun _ => ?_))
   | exact ih0 _ _ _
   | exact laws_szIns.mono _ _ _ _ _ _ _ _ _
   | exact LeO.none _
   | refine LeO.ite ?_ ?_
   | refine LeO.bind ?_ (fun _ => ?_)
theorem laws_szInsS.mono : ∀ a0 a1 k, LeO (laws_szInsS.f k a0 a1) (laws_szInsS.f (k + 1) a0 a1) := by
 intro a0 a1 k
 have ih0 := laws_szInsS.mono_l k
 unfold laws_szInsS.f
 repeat' first
   | (with_reducible exact ih0 _ _ _)
   | (with_reducible exact laws_szIns.mono _ _ _ _ _ _ _ _ _)
   | (with_reducible exact LeO.refl _)
   | (with_reducible exact LeO.none _)
   | (with_reducible refine LeO.ite ?_ ?_)
   | (with_reducible refine LeO.bind ?_ (fun _ => ?_))
   | exact ih0 _ _ _
   | exact laws_szIns.mono _ _ _ _ _ _ _ _ _
   | exact LeO.none _
   | refine LeO.ite ?_ ?_
   | refine LeO.bind ?_ (fun _ => ?_)
set_option maxHeartbeats 8000000 in
set_option maxRecDepth 100000 in
theorem laws_szInsS.calls (k : Nat) (A0 : Option Addr) (c0 : Nat) (l0 : List (S112)) (a1 : Int) (r : Int) (w : World) (hr0 : Kd.C k112 w A0 l0.length l0) (hc0 : l0.length ≤ c0) (h : laws_szInsS.f k l0 a1 = some r) :
  Calls Try.prog 44 #[.slice A0 l0.length c0, .int .i64 a1] w fun e w' => e = .returned (.int .i64 r) ∧ Below w.heap.size w w' := by
 have hu112 := Try.underlying112
 have HR0 := Aside0.mk hr0
 have HC0 := Aside0.mk hc0
 clear hr0 hc0
 have HB := Aside0.mk (Below.refl w.heap.size w)
 have H : (if (wrap64 (a1 - (l0.length : Int))) < 0 then (some (-1)) else (laws_szInsS.l0 k l0 (wrap64 (a1 - (l0.length : Int))) 0)) = some r := h
 clear h
 by_cases c3 : (wrap64 (a1 - (l0.length : Int))) < 0
 ·rw [if_pos c3] at H
  have c3b0 : decide ((wrap64 (a1 - (l0.length : Int))) < 0) = true := decide_eq_true c3
  clear c3
  obtain rfl := Option.some.inj H
  go_enter Try.func44, Try.ntmps44
  go_wp2
  go_ret
  exact ⟨by first | rfl | (simp [errW_none, errW_some] <;> rfl) | (simp [*, errW_none, errW_some] <;> rfl), by repeat (first | (with_reducible first | exact HB.out | apply below_alloc | apply pw_below_drewN | apply below_drew1) | exact HB.out)⟩
 ·rw [if_neg c3] at H
  have c3b0 : decide ((wrap64 (a1 - (l0.length : Int))) < 0) = false := decide_eq_false c3
  clear c3
  have H' := Aside0.mk H
  clear H
  go_enter Try.func44, Try.ntmps44
  go_wp2
  go_loopg [1, 5] k (fun kq v1 v5 w' => ∃ (x1_1 : Int) (x5_1 : Int), v1 = .int .i64 x1_1 ∧ v5 = .int .i64 x5_1 ∧ Aside0 (laws_szInsS.l0 kq l0 x1_1 x5_1 = some r) ∧ Aside0 (kq ≤ k) ∧ Aside0 (Below w.heap.size w w'))
  case atStart => exact ⟨(wrap64 (a1 - (l0.length : Int))), (0), (by first | rfl | (simp; done) | (simp [*]; done)), (by first | rfl | (simp; done) | (simp [*]; done)), H', ⟨Nat.le_refl _⟩, ⟨by repeat (first | (with_reducible first | exact HB.out | apply below_alloc | apply pw_below_drewN | apply below_drew1) | exact HB.out)⟩⟩
  case round =>
   clear H'
   try clear p2
   try clear c3
   try clear c3b0
   obtain ⟨x1_1, x5_1, rfl, rfl, HA, HK1, HB⟩ := hrel
   cases gk with
   | zero => exact absurd HA.out (by simp [laws_szInsS.l0])
   | succ k1 =>
    have H := HA.out
    clear HA
    simp only [laws_szInsS.l0] at H
    by_cases c4 : x5_1 < (l0.length : Int)
    ·rw [if_pos c4] at H
     have c4b0 : decide (x5_1 < (l0.length : Int)) = true := decide_eq_true c4
     clear c4
     by_cases c5 : 0 ≤ x5_1
     ·rw [if_pos c5] at H
      have c5b0 : decide (0 ≤ x5_1) = true := decide_eq_true c5
      clear c5
      replace H := Option.bind_eq_some_iff.mp H
      obtain ⟨t822, A60, H⟩ := H
      replace H : (if t822 < 0 then (some (-1)) else (laws_szInsS.l0 k1 l0 t822 (wrap64 (x5_1 + 1)))) = some r := H
      have A6 := Aside0.mk A60
      clear A60
      by_cases c7 : t822 < 0
      ·rw [if_pos c7] at H
       have c7b0 : decide (t822 < 0) = true := decide_eq_true c7
       clear c7
       obtain rfl := Option.some.inj H
       have p821 : 0 ≤ (x5_1 : Int) := of_decide_eq_true (by first | (with_reducible assumption) | assumption)
       have q821 : x5_1 < (l0.length : Int) := of_decide_eq_true (by first | (with_reducible assumption) | assumption)
       obtain ⟨ad821, A821_4, c821_4, A821_5, c821_5, A821_6, c821_6, e821, hx821_0, hx821_1, hx821_2, hx821_3, hx821_4, hx821_5, hx821_6, hl821_4, hi821_4, hl821_5, hi821_5, hl821_6, hi821_6⟩ := at_T112 HR0.out x5_1 p821 q821
       cases e821
       replace hx821_0 := (HB.out.cell (World.block_lt_of_cell? w _ hx821_0)).trans hx821_0
       replace hx821_1 := (HB.out.cell (World.block_lt_of_cell? w _ hx821_1)).trans hx821_1
       replace hx821_2 := (HB.out.cell (World.block_lt_of_cell? w _ hx821_2)).trans hx821_2
       replace hx821_3 := (HB.out.cell (World.block_lt_of_cell? w _ hx821_3)).trans hx821_3
       replace hx821_4 := (HB.out.cell (World.block_lt_of_cell? w _ hx821_4)).trans hx821_4
       replace hx821_5 := (HB.out.cell (World.block_lt_of_cell? w _ hx821_5)).trans hx821_5
       replace hx821_6 := (HB.out.cell (World.block_lt_of_cell? w _ hx821_6)).trans hx821_6
       have HR821_4 := Aside0.mk hi821_4
       have HC821_4 := Aside0.mk hl821_4
       clear hi821_4 hl821_4
       have HR821_5 := Aside0.mk hi821_5
       have HC821_5 := Aside0.mk hl821_5
       clear hi821_5 hl821_5
       have HR821_6 := Aside0.mk hi821_6
       have HC821_6 := Aside0.mk hl821_6
       clear hi821_6 hl821_6
       replace p821 := eq_true p821
       replace q821 := eq_true q821
       go_wp2_with (first | ((with_reducible refine gate_callee (f := 83) rfl ?_); refine goesL_ (some 23) rfl rfl Try.func83 (by kernel_rfl) rfl #[.agg #[.int .i64 ((rd_T112 l0 x5_1).f0), .int .i64 ((rd_T112 l0 x5_1).f1), .int .i64 ((rd_T112 l0 x5_1).f2), .int .i64 ((rd_T112 l0 x5_1).f3), .slice A821_4 ((rd_T112 l0 x5_1).f4).length c821_4, .slice A821_5 ((rd_T112 l0 x5_1).f5).length c821_5, .slice A821_6 ((rd_T112 l0 x5_1).f6).length c821_6], .int .i64 x1_1] rfl (by (try simp only [List.map_toArray, List.map_cons, List.map_nil]); first | done | rfl | (simp only [List.length_drop, List.length_take]; rfl)) ?_; (with_reducible refine (laws_szIns.calls k1 ((rd_T112 l0 x5_1).f0) ((rd_T112 l0 x5_1).f1) ((rd_T112 l0 x5_1).f2) ((rd_T112 l0 x5_1).f3) _ _ ((rd_T112 l0 x5_1).f4) _ _ ((rd_T112 l0 x5_1).f5) _ _ ((rd_T112 l0 x5_1).f6) x1_1 t822 _ ?side1 ?side2 ?side3 ?side4 ?side5 ?side6 A6.out).mono ?_); (case side1 => repeat (first | exact (Kd.C_below HR821_4.out HB.out) | (with_reducible refine Kd.C_alloc ?_ _) | (with_reducible refine Kd.C_drewN ?_ _) | (with_reducible refine Kd.C_drew ?_))); (case side2 => exact HC821_4.out); (case side3 => repeat (first | exact (Kd.C_below HR821_5.out HB.out) | (with_reducible refine Kd.C_alloc ?_ _) | (with_reducible refine Kd.C_drewN ?_ _) | (with_reducible refine Kd.C_drew ?_))); (case side4 => exact HC821_5.out); (case side5 => repeat (first | exact (Kd.C_below HR821_6.out HB.out) | (with_reducible refine Kd.C_alloc ?_ _) | (with_reducible refine Kd.C_drewN ?_ _) | (with_reducible refine Kd.C_drew ?_))); (case side6 => exact HC821_6.out); rintro e w8 ⟨rfl, hb⟩; refine ⟨_, rfl, ?_⟩; have n0_ := Aside0.mk (below_step (by repeat (first | (with_reducible first | exact HB.out | apply below_alloc | apply pw_below_drewN | apply below_drew1) | exact HB.out)) hb); clear HB; have HB := n0_; clear n0_; (try clear hb); (try clear hb2); (try clear hk); (try clear hi)))
       go_ret
       exact ⟨by first | rfl | (simp [errW_none, errW_some] <;> rfl) | (simp [*, errW_none, errW_some] <;> rfl), by repeat (first | (with_reducible first | exact HB.out | apply below_alloc | apply pw_below_drewN | apply below_drew1) | exact HB.out)⟩
      ·rw [if_neg c7] at H
       have c7b0 : decide (t822 < 0) = false := decide_eq_false c7
       clear c7
       have H' := Aside0.mk H
       clear H
       have p821 : 0 ≤ (x5_1 : Int) := of_decide_eq_true (by first | (with_reducible assumption) | assumption)
       have q821 : x5_1 < (l0.length : Int) := of_decide_eq_true (by first | (with_reducible assumption) | assumption)
       obtain ⟨ad821, A821_4, c821_4, A821_5, c821_5, A821_6, c821_6, e821, hx821_0, hx821_1, hx821_2, hx821_3, hx821_4, hx821_5, hx821_6, hl821_4, hi821_4, hl821_5, hi821_5, hl821_6, hi821_6⟩ := at_T112 HR0.out x5_1 p821 q821
       cases e821
       replace hx821_0 := (HB.out.cell (World.block_lt_of_cell? w _ hx821_0)).trans hx821_0
       replace hx821_1 := (HB.out.cell (World.block_lt_of_cell? w _ hx821_1)).trans hx821_1
       replace hx821_2 := (HB.out.cell (World.block_lt_of_cell? w _ hx821_2)).trans hx821_2
       replace hx821_3 := (HB.out.cell (World.block_lt_of_cell? w _ hx821_3)).trans hx821_3
       replace hx821_4 := (HB.out.cell (World.block_lt_of_cell? w _ hx821_4)).trans hx821_4
       replace hx821_5 := (HB.out.cell (World.block_lt_of_cell? w _ hx821_5)).trans hx821_5
       replace hx821_6 := (HB.out.cell (World.block_lt_of_cell? w _ hx821_6)).trans hx821_6
       have HR821_4 := Aside0.mk hi821_4
       have HC821_4 := Aside0.mk hl821_4
       clear hi821_4 hl821_4
       have HR821_5 := Aside0.mk hi821_5
       have HC821_5 := Aside0.mk hl821_5
       clear hi821_5 hl821_5
       have HR821_6 := Aside0.mk hi821_6
       have HC821_6 := Aside0.mk hl821_6
       clear hi821_6 hl821_6
       replace p821 := eq_true p821
       replace q821 := eq_true q821
       go_wp2_with (first | ((with_reducible refine gate_callee (f := 83) rfl ?_); refine goesL_ (some 23) rfl rfl Try.func83 (by kernel_rfl) rfl #[.agg #[.int .i64 ((rd_T112 l0 x5_1).f0), .int .i64 ((rd_T112 l0 x5_1).f1), .int .i64 ((rd_T112 l0 x5_1).f2), .int .i64 ((rd_T112 l0 x5_1).f3), .slice A821_4 ((rd_T112 l0 x5_1).f4).length c821_4, .slice A821_5 ((rd_T112 l0 x5_1).f5).length c821_5, .slice A821_6 ((rd_T112 l0 x5_1).f6).length c821_6], .int .i64 x1_1] rfl (by (try simp only [List.map_toArray, List.map_cons, List.map_nil]); first | done | rfl | (simp only [List.length_drop, List.length_take]; rfl)) ?_; (with_reducible refine (laws_szIns.calls k1 ((rd_T112 l0 x5_1).f0) ((rd_T112 l0 x5_1).f1) ((rd_T112 l0 x5_1).f2) ((rd_T112 l0 x5_1).f3) _ _ ((rd_T112 l0 x5_1).f4) _ _ ((rd_T112 l0 x5_1).f5) _ _ ((rd_T112 l0 x5_1).f6) x1_1 t822 _ ?side1 ?side2 ?side3 ?side4 ?side5 ?side6 A6.out).mono ?_); (case side1 => repeat (first | exact (Kd.C_below HR821_4.out HB.out) | (with_reducible refine Kd.C_alloc ?_ _) | (with_reducible refine Kd.C_drewN ?_ _) | (with_reducible refine Kd.C_drew ?_))); (case side2 => exact HC821_4.out); (case side3 => repeat (first | exact (Kd.C_below HR821_5.out HB.out) | (with_reducible refine Kd.C_alloc ?_ _) | (with_reducible refine Kd.C_drewN ?_ _) | (with_reducible refine Kd.C_drew ?_))); (case side4 => exact HC821_5.out); (case side5 => repeat (first | exact (Kd.C_below HR821_6.out HB.out) | (with_reducible refine Kd.C_alloc ?_ _) | (with_reducible refine Kd.C_drewN ?_ _) | (with_reducible refine Kd.C_drew ?_))); (case side6 => exact HC821_6.out); rintro e w9 ⟨rfl, hb⟩; refine ⟨_, rfl, ?_⟩; have n0_ := Aside0.mk (below_step (by repeat (first | (with_reducible first | exact HB.out | apply below_alloc | apply pw_below_drewN | apply below_drew1) | exact HB.out)) hb); clear HB; have HB := n0_; clear n0_; (try clear hb); (try clear hb2); (try clear hk); (try clear hi)))
       go_roundg k1
       case measure => have := HK1.out; omega
       case rel => exact ⟨(t822), (wrap64 (x5_1 + 1)), (by first | rfl | (simp; done) | (simp [*]; done)), (by first | rfl | (simp; done) | (simp [*]; done)), H', ⟨by have := HK1.out; omega⟩, ⟨by repeat (first | (with_reducible first | exact HB.out | apply below_alloc | apply pw_below_drewN | apply below_drew1) | exact HB.out)⟩⟩
     ·rw [if_neg c5] at H
      exact absurd H (by simp)
    ·rw [if_neg c4] at H
     have c4b0 : decide (x5_1 < (l0.length : Int)) = false := decide_eq_false c4
     clear c4
     obtain rfl := Option.some.inj H
     go_wp2
     go_ret
     exact ⟨by first | rfl | (simp [errW_none, errW_some] <;> rfl) | (simp [*, errW_none, errW_some] <;> rfl), by repeat (first | (with_reducible first | exact HB.out | apply below_alloc | apply pw_below_drewN | apply below_drew1) | exact HB.out)⟩

mutual
def spec_l10Clauses.l0 : Nat → List (S178) → List (S178) → Int → Int → Option (Bool)
 | 0, _, _, _, _ => none
 | k + 1, x0, x5, x6, x7 => if x7 < x6 then (if 0 ≤ x7 then (if x7 < (x5.length : Int) then (if ((rd_T178 x5 x7).f0) = 1 then ((spec_GoodRe.f k ((rd_T178 x5 x7).f1)).bind fun t825 => (if t825 = true then (spec_l10Clauses.l0 k x0 x5 x6 (wrap64 (x7 + 1))) else (some false))) else (if ((rd_T178 x5 x7).f0) = 2 then (spec_l10Clauses.j1 k x0 x5 x6 x7 (((rd_T178 x5 x7).f0) == 2) ((rd_T178 x5 x7).f0) ((rd_T178 x5 x7).f1)) else (spec_l10Clauses.j1 k x0 x5 x6 x7 (((rd_T178 x5 x7).f0) == 3) ((rd_T178 x5 x7).f0) ((rd_T178 x5 x7).f1)))) else (none)) else (none)) else (some (decide ((x0.length : Int) ≤ 8)))
def spec_l10Clauses.j1 : Nat → List (S178) → List (S178) → Int → Int → Bool → Int → List (S89) → Option (Bool)
 | 0, _, _, _, _, _, _, _ => none
 | k + 1, x0, x5, x6, x7, x19, x825000, x825001 => if x19 = true then (if (x825001.length : Int) > 0 then (some false) else (spec_l10Clauses.l0 k x0 x5 x6 (wrap64 (x7 + 1)))) else (some false)
end
def spec_l10Clauses.f (k : Nat) (l0 : List (S178)) : Option (Bool) := spec_l10Clauses.l0 k l0 l0 (l0.length : Int) 0
theorem spec_l10Clauses.mono_l : ∀ k, (∀ y0 y1 y2 y3, LeO (spec_l10Clauses.l0 k y0 y1 y2 y3) (spec_l10Clauses.l0 (k + 1) y0 y1 y2 y3)) ∧ (∀ y0 y1 y2 y3 y4 y5 y6, LeO (spec_l10Clauses.j1 k y0 y1 y2 y3 y4 y5 y6) (spec_l10Clauses.j1 (k + 1) y0 y1 y2 y3 y4 y5 y6))
 | 0 => ⟨fun _ _ _ _ r h => by simp [spec_l10Clauses.l0] at h, fun _ _ _ _ _ _ _ r h => by simp [spec_l10Clauses.j1] at h⟩
 | k + 1 => by
  obtain ⟨ih0, ih1⟩ := spec_l10Clauses.mono_l k
  refine ⟨?_, ?_⟩
  ·intro y0 y1 y2 y3
   unfold spec_l10Clauses.l0
   repeat' first
   | (with_reducible exact ih0 _ _ _ _)
   | (with_reducible exact ih1 _ _ _ _ _ _ _)
   | (with_reducible exact spec_GoodRe.mono _ _)
   | (with_reducible exact LeO.refl _)
   | (with_reducible exact LeO.none _)
   | (with_reducible refine LeO.ite ?_ ?_)
   | (with_reducible refine LeO.bind ?_ (fun _ => ?_))
   | exact ih0 _ _ _ _
   | exact ih1 _ _ _ _ _ _ _
   | exact spec_GoodRe.mono _ _
   | exact LeO.none _
   | refine LeO.ite ?_ ?_
   | refine LeO.bind ?_ (fun _ => ?_)
  ·intro y0 y1 y2 y3 y4 y5 y6
   unfold spec_l10Clauses.j1
   repeat' first
   | (with_reducible exact ih0 _ _ _ _)
   | (with_reducible exact ih1 _ _ _ _ _ _ _)
   | (with_reducible exact spec_GoodRe.mono _ _)
   | (with_reducible exact LeO.refl _)
   | (with_reducible exact LeO.none _)
   | (with_reducible refine LeO.ite ?_ ?_)
   | (with_reducible refine LeO.bind ?_ (fun _ => ?_))
   | exact ih0 _ _ _ _
   | exact ih1 _ _ _ _ _ _ _
   | exact spec_GoodRe.mono _ _
   | exact LeO.none _
   | refine LeO.ite ?_ ?_
   | refine LeO.bind ?_ (fun _ => ?_)
theorem spec_l10Clauses.mono : ∀ a0 k, LeO (spec_l10Clauses.f k a0) (spec_l10Clauses.f (k + 1) a0) := by
 intro a0 k
 obtain ⟨ih0, ih1⟩ := spec_l10Clauses.mono_l k
 unfold spec_l10Clauses.f
 repeat' first
   | (with_reducible exact ih0 _ _ _ _)
   | (with_reducible exact ih1 _ _ _ _ _ _ _)
   | (with_reducible exact spec_GoodRe.mono _ _)
   | (with_reducible exact LeO.refl _)
   | (with_reducible exact LeO.none _)
   | (with_reducible refine LeO.ite ?_ ?_)
   | (with_reducible refine LeO.bind ?_ (fun _ => ?_))
   | exact ih0 _ _ _ _
   | exact ih1 _ _ _ _ _ _ _
   | exact spec_GoodRe.mono _ _
   | exact LeO.none _
   | refine LeO.ite ?_ ?_
   | refine LeO.bind ?_ (fun _ => ?_)
set_option maxHeartbeats 8000000 in
set_option maxRecDepth 100000 in
theorem spec_l10Clauses.calls (k : Nat) (A0 : Option Addr) (c0 : Nat) (l0 : List (S178)) (r : Bool) (w : World) (hr0 : Kd.C k178 w A0 l0.length l0) (hc0 : l0.length ≤ c0) (h : spec_l10Clauses.f k l0 = some r) :
  Calls Try.prog 129 #[.slice A0 l0.length c0] w fun e w' => e = .returned (.bool r) ∧ Below w.heap.size w w' := by
 have hu178 := Try.underlying178
 have HR0 := Aside0.mk hr0
 have HC0 := Aside0.mk hc0
 clear hr0 hc0
 have HB := Aside0.mk (Below.refl w.heap.size w)
 have H : (spec_l10Clauses.l0 k l0 l0 (l0.length : Int) 0) = some r := h
 clear h
 have H' := Aside0.mk H
 clear H
 go_enter Try.func129, Try.ntmps129
 go_wp2
 go_loopg [7] k (fun kq v7 w' => ∃ (x7_1 : Int), v7 = .int .i64 x7_1 ∧ Aside0 (spec_l10Clauses.l0 kq l0 l0 (l0.length : Int) x7_1 = some r) ∧ Aside0 (kq ≤ k) ∧ Aside0 (Below w.heap.size w w'))
 case atStart => exact ⟨(0), (by first | rfl | (simp; done) | (simp [*]; done)), H', ⟨Nat.le_refl _⟩, ⟨by repeat (first | (with_reducible first | exact HB.out | apply below_alloc | apply pw_below_drewN | apply below_drew1) | exact HB.out)⟩⟩
 case round =>
  clear H'
  try clear c1
  obtain ⟨x7_1, rfl, HA, HK1, HB⟩ := hrel
  cases gk with
  | zero => exact absurd HA.out (by simp [spec_l10Clauses.l0])
  | succ k1 =>
   have H := HA.out
   clear HA
   simp only [spec_l10Clauses.l0] at H
   by_cases c2 : x7_1 < (l0.length : Int)
   ·rw [if_pos c2] at H
    have c2b0 : decide (x7_1 < (l0.length : Int)) = true := decide_eq_true c2
    clear c2
    by_cases c3 : 0 ≤ x7_1
    ·rw [if_pos c3] at H
     have c3b0 : decide (0 ≤ x7_1) = true := decide_eq_true c3
     clear c3
     by_cases c4 : x7_1 < (l0.length : Int)
     ·rw [if_pos c4] at H
      have c4b0 : decide (x7_1 < (l0.length : Int)) = true := decide_eq_true c4
      clear c4
      by_cases c5 : ((rd_T178 l0 x7_1).f0) = 1
      ·rw [if_pos c5] at H
       have c5b0 : (((rd_T178 l0 x7_1).f0) == 1) = true := beq_iff_eq.mpr c5
       have c5b1 : (((rd_T178 l0 x7_1).f0) != 1) = false := bne_eq_false_iff_eq.mpr c5
       clear c5
       replace H := Option.bind_eq_some_iff.mp H
       obtain ⟨t825, A60, H⟩ := H
       replace H : (if t825 = true then (spec_l10Clauses.l0 k1 l0 l0 (l0.length : Int) (wrap64 (x7_1 + 1))) else (some false)) = some r := H
       have A6 := Aside0.mk A60
       clear A60
       by_cases c7 : t825 = true
       ·subst c7
        have H1 : (spec_l10Clauses.l0 k1 l0 l0 (l0.length : Int) (wrap64 (x7_1 + 1))) = some r := by rw [if_pos rfl] at H; exact H
        clear H
        have H := H1
        clear H1
        have H' := Aside0.mk H
        clear H
        have p823 : 0 ≤ (x7_1 : Int) := of_decide_eq_true (by first | (with_reducible assumption) | assumption)
        have q823 : x7_1 < (l0.length : Int) := of_decide_eq_true (by first | (with_reducible assumption) | assumption)
        obtain ⟨ad823, A823_1, c823_1, e823, hx823_0, hx823_1, hl823_1, hi823_1⟩ := at_T178 HR0.out x7_1 p823 q823
        cases e823
        replace hx823_0 := (HB.out.cell (World.block_lt_of_cell? w _ hx823_0)).trans hx823_0
        replace hx823_1 := (HB.out.cell (World.block_lt_of_cell? w _ hx823_1)).trans hx823_1
        have HR823_1 := Aside0.mk hi823_1
        have HC823_1 := Aside0.mk hl823_1
        clear hi823_1 hl823_1
        replace p823 := eq_true p823
        replace q823 := eq_true q823
        go_wp2_with (first | ((with_reducible refine gate_dst (N := 4) rfl ?_); refine box_event ?hg (N := 4) ?hd (cs := #[.int .i64 0, .slice none 0 0]) (t := 178) ?hr ?_; (case hd => rfl); (case hg => rfl); (case hr => first | (go_simp; done) | (go_simp; rfl)); intro gb824 hg w8 hbox hb; have n0_ := Aside0.mk (below_step (by repeat (first | (with_reducible first | exact HB.out | apply below_alloc | apply pw_below_drewN | apply below_drew1) | exact HB.out)) hb); have n1_ := Aside0.mk (hbox); have n2_ := Aside0.mk ((by rw [hg]; exact (below_size (by repeat (first | (with_reducible first | exact HB.out | apply below_alloc | apply pw_below_drewN | apply below_drew1) | exact HB.out))) : w.heap.size ≤ gb824)); have n3_ := Aside0.mk ((by rw [hg]; exact (below_size (by repeat (first | (with_reducible first | exact HB.out | apply below_alloc | apply pw_below_drewN | apply below_drew1) | exact HB.out))) : w.heap.size ≤ gb824)); clear HB; have HB := n0_; have BK824 := n1_; have GW824 := n2_; have GE824 := n3_; clear n0_ n1_ n2_ n3_; clear hb hbox hg; have hcz9_0 : w8.cell? ⟨gb824, 0, none⟩ = some (.int .i64 0) := (blk_cell BK824.out 0).trans rfl; have hcz9_1 : w8.cell? ⟨gb824, 1, none⟩ = some (.slice none 0 0) := (blk_cell BK824.out 1).trans rfl; have hfz9_0 := blk_frozen BK824.out 0; have hfz9_1 := blk_frozen BK824.out 1) | ((with_reducible refine gate_callee (f := 108) rfl ?_); refine goesL_ (some 17) rfl rfl Try.func108 (by kernel_rfl) rfl #[.slice A823_1 ((rd_T178 l0 x7_1).f1).length c823_1] rfl (by (try simp only [List.map_toArray, List.map_cons, List.map_nil]); first | done | rfl | (simp only [List.length_drop, List.length_take]; rfl)) ?_; (with_reducible refine (spec_GoodRe.calls k1 _ _ ((rd_T178 l0 x7_1).f1) true _ ?side1 ?side2 A6.out).mono ?_); (case side1 => exact Kd.C_below HR823_1.out (by repeat (first | (with_reducible first | exact HB.out | apply below_alloc | apply pw_below_drewN | apply below_drew1 | refine below_set ?_ GE824.out) | exact HB.out))); (case side2 => exact HC823_1.out); rintro e w10 ⟨rfl, hb⟩; refine ⟨_, rfl, ?_⟩; have n0_ := Aside0.mk (blk_below (g := gb824) (o := .cells #[.int .i64 ((rd_T178 l0 x7_1).f0), .slice A823_1 ((rd_T178 l0 x7_1).f1).length c823_1] 178 (0, 0)) (by (with_reducible repeat (first | refine blk_drewN ?_ _ | refine blk_drew ?_ | refine blk_alloc ?_ _)); refine blk_put (cs := #[.int .i64 ((rd_T178 l0 x7_1).f0), .slice none 0 0]) ?_ 1 _ rfl; (with_reducible repeat (first | refine blk_drewN ?_ _ | refine blk_drew ?_ | refine blk_alloc ?_ _)); refine blk_put (cs := #[.int .i64 0, .slice none 0 0]) ?_ 0 _ rfl; (with_reducible repeat (first | refine blk_drewN ?_ _ | refine blk_drew ?_ | refine blk_alloc ?_ _)); exact BK824.out) hb); have n1_ := Aside0.mk (below_step (by repeat (first | (with_reducible first | exact HB.out | apply below_alloc | apply pw_below_drewN | apply below_drew1 | refine below_set ?_ GE824.out) | exact HB.out)) hb); clear BK824; clear HB; have BK824 := n0_; have HB := n1_; clear n0_ n1_; (try clear hb); (try clear hb2); (try clear hk); (try clear hi)))
        go_roundg k1
        case measure => have := HK1.out; omega
        case rel => exact ⟨(wrap64 (x7_1 + 1)), (by first | rfl | (simp; done) | (simp [*]; done)), H', ⟨by have := HK1.out; omega⟩, ⟨by repeat (first | (with_reducible first | exact HB.out | apply below_alloc | apply pw_below_drewN | apply below_drew1 | refine below_set ?_ GE824.out) | exact HB.out)⟩⟩
       ·replace c7 := Bool.eq_false_iff.mpr c7
        subst c7
        have H1 : (some false) = some r := by rw [if_neg (show ¬ (false = true) by decide)] at H; exact H
        clear H
        have H := H1
        clear H1
        obtain rfl := Option.some.inj H
        have p823 : 0 ≤ (x7_1 : Int) := of_decide_eq_true (by first | (with_reducible assumption) | assumption)
        have q823 : x7_1 < (l0.length : Int) := of_decide_eq_true (by first | (with_reducible assumption) | assumption)
        obtain ⟨ad823, A823_1, c823_1, e823, hx823_0, hx823_1, hl823_1, hi823_1⟩ := at_T178 HR0.out x7_1 p823 q823
        cases e823
        replace hx823_0 := (HB.out.cell (World.block_lt_of_cell? w _ hx823_0)).trans hx823_0
        replace hx823_1 := (HB.out.cell (World.block_lt_of_cell? w _ hx823_1)).trans hx823_1
        have HR823_1 := Aside0.mk hi823_1
        have HC823_1 := Aside0.mk hl823_1
        clear hi823_1 hl823_1
        replace p823 := eq_true p823
        replace q823 := eq_true q823
        go_wp2_with (first | ((with_reducible refine gate_dst (N := 4) rfl ?_); refine box_event ?hg (N := 4) ?hd (cs := #[.int .i64 0, .slice none 0 0]) (t := 178) ?hr ?_; (case hd => rfl); (case hg => rfl); (case hr => first | (go_simp; done) | (go_simp; rfl)); intro gb824 hg w11 hbox hb; have n0_ := Aside0.mk (below_step (by repeat (first | (with_reducible first | exact HB.out | apply below_alloc | apply pw_below_drewN | apply below_drew1) | exact HB.out)) hb); have n1_ := Aside0.mk (hbox); have n2_ := Aside0.mk ((by rw [hg]; exact (below_size (by repeat (first | (with_reducible first | exact HB.out | apply below_alloc | apply pw_below_drewN | apply below_drew1) | exact HB.out))) : w.heap.size ≤ gb824)); have n3_ := Aside0.mk ((by rw [hg]; exact (below_size (by repeat (first | (with_reducible first | exact HB.out | apply below_alloc | apply pw_below_drewN | apply below_drew1) | exact HB.out))) : w.heap.size ≤ gb824)); clear HB; have HB := n0_; have BK824 := n1_; have GW824 := n2_; have GE824 := n3_; clear n0_ n1_ n2_ n3_; clear hb hbox hg; have hcz12_0 : w11.cell? ⟨gb824, 0, none⟩ = some (.int .i64 0) := (blk_cell BK824.out 0).trans rfl; have hcz12_1 : w11.cell? ⟨gb824, 1, none⟩ = some (.slice none 0 0) := (blk_cell BK824.out 1).trans rfl; have hfz12_0 := blk_frozen BK824.out 0; have hfz12_1 := blk_frozen BK824.out 1) | ((with_reducible refine gate_callee (f := 108) rfl ?_); refine goesL_ (some 17) rfl rfl Try.func108 (by kernel_rfl) rfl #[.slice A823_1 ((rd_T178 l0 x7_1).f1).length c823_1] rfl (by (try simp only [List.map_toArray, List.map_cons, List.map_nil]); first | done | rfl | (simp only [List.length_drop, List.length_take]; rfl)) ?_; (with_reducible refine (spec_GoodRe.calls k1 _ _ ((rd_T178 l0 x7_1).f1) false _ ?side1 ?side2 A6.out).mono ?_); (case side1 => exact Kd.C_below HR823_1.out (by repeat (first | (with_reducible first | exact HB.out | apply below_alloc | apply pw_below_drewN | apply below_drew1 | refine below_set ?_ GE824.out) | exact HB.out))); (case side2 => exact HC823_1.out); rintro e w13 ⟨rfl, hb⟩; refine ⟨_, rfl, ?_⟩; have n0_ := Aside0.mk (blk_below (g := gb824) (o := .cells #[.int .i64 ((rd_T178 l0 x7_1).f0), .slice A823_1 ((rd_T178 l0 x7_1).f1).length c823_1] 178 (0, 0)) (by (with_reducible repeat (first | refine blk_drewN ?_ _ | refine blk_drew ?_ | refine blk_alloc ?_ _)); refine blk_put (cs := #[.int .i64 ((rd_T178 l0 x7_1).f0), .slice none 0 0]) ?_ 1 _ rfl; (with_reducible repeat (first | refine blk_drewN ?_ _ | refine blk_drew ?_ | refine blk_alloc ?_ _)); refine blk_put (cs := #[.int .i64 0, .slice none 0 0]) ?_ 0 _ rfl; (with_reducible repeat (first | refine blk_drewN ?_ _ | refine blk_drew ?_ | refine blk_alloc ?_ _)); exact BK824.out) hb); have n1_ := Aside0.mk (below_step (by repeat (first | (with_reducible first | exact HB.out | apply below_alloc | apply pw_below_drewN | apply below_drew1 | refine below_set ?_ GE824.out) | exact HB.out)) hb); clear BK824; clear HB; have BK824 := n0_; have HB := n1_; clear n0_ n1_; (try clear hb); (try clear hb2); (try clear hk); (try clear hi)))
        go_ret
        exact ⟨by first | rfl | (simp [errW_none, errW_some] <;> rfl) | (simp [*, errW_none, errW_some] <;> rfl), by repeat (first | (with_reducible first | exact HB.out | apply below_alloc | apply pw_below_drewN | apply below_drew1 | refine below_set ?_ GE824.out) | exact HB.out)⟩
      ·rw [if_neg c5] at H
       have c5b0 : (((rd_T178 l0 x7_1).f0) == 1) = false := beq_eq_false_iff_ne.mpr c5
       have c5b1 : (((rd_T178 l0 x7_1).f0) != 1) = true := bne_iff_ne.mpr c5
       have HC14 := Aside0.mk H
       clear H
       have p823 : 0 ≤ (x7_1 : Int) := of_decide_eq_true (by first | (with_reducible assumption) | assumption)
       have q823 : x7_1 < (l0.length : Int) := of_decide_eq_true (by first | (with_reducible assumption) | assumption)
       obtain ⟨ad823, A823_1, c823_1, e823, hx823_0, hx823_1, hl823_1, hi823_1⟩ := at_T178 HR0.out x7_1 p823 q823
       cases e823
       replace hx823_0 := (HB.out.cell (World.block_lt_of_cell? w _ hx823_0)).trans hx823_0
       replace hx823_1 := (HB.out.cell (World.block_lt_of_cell? w _ hx823_1)).trans hx823_1
       have HR823_1 := Aside0.mk hi823_1
       have HC823_1 := Aside0.mk hl823_1
       clear hi823_1 hl823_1
       replace p823 := eq_true p823
       replace q823 := eq_true q823
       go_upto_if 19 with (first | ((with_reducible refine gate_dst (N := 4) rfl ?_); refine box_event ?hg (N := 4) ?hd (cs := #[.int .i64 0, .slice none 0 0]) (t := 178) ?hr ?_; (case hd => rfl); (case hg => rfl); (case hr => first | (go_simp; done) | (go_simp; rfl)); intro gb824 hg w15 hbox hb; have n0_ := Aside0.mk (below_step (by repeat (first | (with_reducible first | exact HB.out | apply below_alloc | apply pw_below_drewN | apply below_drew1) | exact HB.out)) hb); have n1_ := Aside0.mk (hbox); have n2_ := Aside0.mk ((by rw [hg]; exact (below_size (by repeat (first | (with_reducible first | exact HB.out | apply below_alloc | apply pw_below_drewN | apply below_drew1) | exact HB.out))) : w.heap.size ≤ gb824)); have n3_ := Aside0.mk ((by rw [hg]; exact (below_size (by repeat (first | (with_reducible first | exact HB.out | apply below_alloc | apply pw_below_drewN | apply below_drew1) | exact HB.out))) : w.heap.size ≤ gb824)); clear HB; have HB := n0_; have BK824 := n1_; have GW824 := n2_; have GE824 := n3_; clear n0_ n1_ n2_ n3_; clear hb hbox hg; have hcz16_0 : w15.cell? ⟨gb824, 0, none⟩ = some (.int .i64 0) := (blk_cell BK824.out 0).trans rfl; have hcz16_1 : w15.cell? ⟨gb824, 1, none⟩ = some (.slice none 0 0) := (blk_cell BK824.out 1).trans rfl; have hfz16_0 := blk_frozen BK824.out 0; have hfz16_1 := blk_frozen BK824.out 1))
       (try simp only [Act.put, List.setIfInBounds_toArray, List.set_cons_zero, List.set_cons_succ])
       go_cut [19] (fun v19 wc => ∃ (kq : Nat) (x19_13 : Bool), v19 = .bool x19_13 ∧ Aside0 (spec_l10Clauses.j1 kq l0 l0 (l0.length : Int) x7_1 x19_13 ((rd_T178 l0 x7_1).f0) ((rd_T178 l0 x7_1).f1) = some r) ∧ Aside0 (kq ≤ k1) ∧ Aside0 (wc.heap[gb824]? = some (.cells #[.int .i64 ((rd_T178 l0 x7_1).f0), (.slice A823_1 ((rd_T178 l0 x7_1).f1).length c823_1)] 178 (0, 0))) ∧ Aside0 (Below w.heap.size w wc))
       case first =>
        have H := HC14.out
        clear HC14
        by_cases c17 : ((rd_T178 l0 x7_1).f0) = 2
        ·rw [if_pos c17] at H
         have c17b0 : (((rd_T178 l0 x7_1).f0) == 2) = true := beq_iff_eq.mpr c17
         have c17b1 : (((rd_T178 l0 x7_1).f0) != 2) = false := bne_eq_false_iff_eq.mpr c17
         clear c17
         (first | rw [c17b0] | (simp only [i64_w, i32_w]; rw [c17b0]) | skip)
         have H' := Aside0.mk H
         clear H
         go_wp2
         go_meet
         case rel => exact ⟨_, ((((rd_T178 l0 x7_1).f0) == 2)), (by first | rfl | (simp; done) | (simp [*]; done)), H', ⟨by have := HK1.out; first | omega | exact Nat.le_refl _⟩, ⟨by (with_reducible repeat (first | refine blk_drewN ?_ _ | refine blk_drew ?_ | refine blk_alloc ?_ _)); refine blk_put (cs := #[.int .i64 ((rd_T178 l0 x7_1).f0), .slice none 0 0]) ?_ 1 _ rfl; (with_reducible repeat (first | refine blk_drewN ?_ _ | refine blk_drew ?_ | refine blk_alloc ?_ _)); refine blk_put (cs := #[.int .i64 0, .slice none 0 0]) ?_ 0 _ rfl; (with_reducible repeat (first | refine blk_drewN ?_ _ | refine blk_drew ?_ | refine blk_alloc ?_ _)); exact BK824.out⟩, ⟨by repeat (first | (with_reducible first | exact HB.out | apply below_alloc | apply pw_below_drewN | apply below_drew1 | refine below_set ?_ GE824.out) | exact HB.out)⟩⟩
        ·rw [if_neg c17] at H
         have c17b0 : (((rd_T178 l0 x7_1).f0) == 2) = false := beq_eq_false_iff_ne.mpr c17
         have c17b1 : (((rd_T178 l0 x7_1).f0) != 2) = true := bne_iff_ne.mpr c17
         (first | rw [c17b0] | (simp only [i64_w, i32_w]; rw [c17b0]) | skip)
         have H' := Aside0.mk H
         clear H
         go_wp2
         go_meet
         case rel => exact ⟨_, ((((rd_T178 l0 x7_1).f0) == 3)), (by first | rfl | (simp; done) | (simp [*]; done)), H', ⟨by have := HK1.out; first | omega | exact Nat.le_refl _⟩, ⟨by (with_reducible repeat (first | refine blk_drewN ?_ _ | refine blk_drew ?_ | refine blk_alloc ?_ _)); refine blk_put (cs := #[.int .i64 ((rd_T178 l0 x7_1).f0), .slice none 0 0]) ?_ 1 _ rfl; (with_reducible repeat (first | refine blk_drewN ?_ _ | refine blk_drew ?_ | refine blk_alloc ?_ _)); refine blk_put (cs := #[.int .i64 0, .slice none 0 0]) ?_ 0 _ rfl; (with_reducible repeat (first | refine blk_drewN ?_ _ | refine blk_drew ?_ | refine blk_alloc ?_ _)); exact BK824.out⟩, ⟨by repeat (first | (with_reducible first | exact HB.out | apply below_alloc | apply pw_below_drewN | apply below_drew1 | refine below_set ?_ GE824.out) | exact HB.out)⟩⟩
       case rest =>
        clear HC14
        try clear c1
        try clear c2
        try clear c2b0
        try clear p2
        try clear c3
        try clear c3b0
        try clear c4
        try clear c4b0
        try clear c5
        try clear c5b0
        try clear c5b1
        try clear p6
        try clear c7
        try clear c8
        try clear p8
        try clear q8
        try clear hx8
        try clear c10
        try clear c12
        try clear c17
        try clear c17b0
        try clear c17b1
        try clear hcz12_0
        try clear hcz12_1
        try clear hcz16_0
        try clear hcz16_1
        try clear hcz9_0
        try clear hcz9_1
        try clear hfz12_0
        try clear hfz12_1
        try clear hfz16_0
        try clear hfz16_1
        try clear hfz9_0
        try clear hfz9_1
        try clear hx823_0
        try clear hx823_1
        try clear p823
        try clear q823
        obtain ⟨kq, x19_13, rfl, HA, HJ13, BK824, HB⟩ := hcut
        cases kq with
        | zero => exact absurd HA.out (by simp [spec_l10Clauses.j1])
        | succ kj13 =>
         have H := HA.out
         clear HA
         simp only [spec_l10Clauses.j1] at H
         by_cases c18 : x19_13 = true
         ·subst c18
          have H1 : (if (((rd_T178 l0 x7_1).f1).length : Int) > 0 then (some false) else (spec_l10Clauses.l0 kj13 l0 l0 (l0.length : Int) (wrap64 (x7_1 + 1)))) = some r := by rw [if_pos rfl] at H; exact H
          clear H
          have H := H1
          clear H1
          by_cases c19 : (((rd_T178 l0 x7_1).f1).length : Int) > 0
          ·rw [if_pos c19] at H
           have c19b0 : decide (0 < (((rd_T178 l0 x7_1).f1).length : Int)) = true := decide_eq_true c19
           have c19b1 : decide (0 < ((rd_T178 l0 x7_1).f1).length) = true := decide_eq_true (by omega)
           clear c19
           obtain rfl := Option.some.inj H
           have hcz20_0 : wc.cell? ⟨gb824, 0, none⟩ = some (.int .i64 ((rd_T178 l0 x7_1).f0)) := (blk_cell BK824.out 0).trans rfl
           have hcz20_1 : wc.cell? ⟨gb824, 1, none⟩ = some (.slice A823_1 ((rd_T178 l0 x7_1).f1).length c823_1) := (blk_cell BK824.out 1).trans rfl
           have hfz20_0 := blk_frozen BK824.out 0
           have hfz20_1 := blk_frozen BK824.out 1
           go_wp2
           go_ret
           exact ⟨by first | rfl | (simp [errW_none, errW_some] <;> rfl) | (simp [*, errW_none, errW_some] <;> rfl), by repeat (first | (with_reducible first | exact HB.out | apply below_alloc | apply pw_below_drewN | apply below_drew1 | refine below_set ?_ GE824.out) | exact HB.out)⟩
          ·rw [if_neg c19] at H
           have c19b0 : decide (0 < (((rd_T178 l0 x7_1).f1).length : Int)) = false := decide_eq_false c19
           have c19b1 : decide (0 < ((rd_T178 l0 x7_1).f1).length) = false := decide_eq_false (by omega)
           clear c19
           have H' := Aside0.mk H
           clear H
           have hcz21_0 : wc.cell? ⟨gb824, 0, none⟩ = some (.int .i64 ((rd_T178 l0 x7_1).f0)) := (blk_cell BK824.out 0).trans rfl
           have hcz21_1 : wc.cell? ⟨gb824, 1, none⟩ = some (.slice A823_1 ((rd_T178 l0 x7_1).f1).length c823_1) := (blk_cell BK824.out 1).trans rfl
           have hfz21_0 := blk_frozen BK824.out 0
           have hfz21_1 := blk_frozen BK824.out 1
           go_wp2
           go_roundg kj13
           case measure => have := HK1.out; have := HJ13.out; omega
           case rel => exact ⟨(wrap64 (x7_1 + 1)), (by first | rfl | (simp; done) | (simp [*]; done)), H', ⟨by have := HK1.out; have := HJ13.out; omega⟩, ⟨by repeat (first | (with_reducible first | exact HB.out | apply below_alloc | apply pw_below_drewN | apply below_drew1 | refine below_set ?_ GE824.out) | exact HB.out)⟩⟩
         ·replace c18 := Bool.eq_false_iff.mpr c18
          subst c18
          have H1 : (some false) = some r := by rw [if_neg (show ¬ (false = true) by decide)] at H; exact H
          clear H
          have H := H1
          clear H1
          obtain rfl := Option.some.inj H
          go_wp2
          go_ret
          exact ⟨by first | rfl | (simp [errW_none, errW_some] <;> rfl) | (simp [*, errW_none, errW_some] <;> rfl), by repeat (first | (with_reducible first | exact HB.out | apply below_alloc | apply pw_below_drewN | apply below_drew1 | refine below_set ?_ GE824.out) | exact HB.out)⟩
     ·rw [if_neg c4] at H
      exact absurd H (by simp)
    ·rw [if_neg c3] at H
     exact absurd H (by simp)
   ·rw [if_neg c2] at H
    have c2b0 : decide (x7_1 < (l0.length : Int)) = false := decide_eq_false c2
    clear c2
    obtain rfl := Option.some.inj H
    go_wp2
    go_ret
    exact ⟨by first | rfl | (simp [errW_none, errW_some] <;> rfl) | (simp [*, errW_none, errW_some] <;> rfl), by repeat (first | (with_reducible first | exact HB.out | apply below_alloc | apply pw_below_drewN | apply below_drew1) | exact HB.out)⟩

mutual
def spec_l11Ins.j0 : Nat → Int → Int → Bool → Int → Int → Int → Int → List Int → List (S178) → List Int → Int → Int → Int → Int → Option (Bool)
 | 0, _, _, _, _, _, _, _, _, _, _, _, _, _, _ => none
 | k + 1, x6, x13, x92, x827000, x827001, x827002, x827003, x827004, x827005, x827006, x828000, x828001, x828002, x828003 => if x92 = true then (if x827000 = 5 then (spec_l11Ins.j1 k x6 x827000 x827001 x827002 x827003 x827004 x827005 x827006 x828000 x827001 x827002 x827003) else (spec_l11Ins.j1 k x6 x827000 x827001 x827002 x827003 x827004 x827005 x827006 x828000 x827001 x827002 x828003)) else (if x13 = 6 then (if x827001 = x828001 then (if x827002 = x828002 then (if x827003 = x827003 then ((spec_l1In.f x827003 0 x6).bind fun t836 => (if t836 = true then (some ((wrap64 ((wrap64 ((x827004.length : Int) + (x827005.length : Int))) + (x827006.length : Int))) == 0)) else (some false))) else (some false)) else (some false)) else (some false)) else (if x13 = 7 then (if x827001 = x828001 then (if x827002 = x828002 then (if x827003 = x828003 then ((spec_l1In.f x827003 0 x6).bind fun t837 => (if t837 = true then (some ((wrap64 ((wrap64 ((x827004.length : Int) + (x827005.length : Int))) + (x827006.length : Int))) == 0)) else (some false))) else (some false)) else (some false)) else (some false)) else (some false)))
def spec_l11Ins.j1 : Nat → Int → Int → Int → Int → Int → List Int → List (S178) → List Int → Int → Int → Int → Int → Option (Bool)
 | 0, _, _, _, _, _, _, _, _, _, _, _, _ => none
 | k + 1, x6, x827000, x827001, x827002, x827003, x827004, x827005, x827006, x828000, x828001, x828002, x828003 => (spec_l1In.f x827001 0 3).bind fun t833 => (if t833 = true then ((spec_l1In.f x827002 (-1000) 1000).bind fun t834 => (if t834 = true then (if x827001 = x828001 then (if x827002 = x828002 then (if x827003 = x828003 then ((spec_l1In.f x827003 0 x6).bind fun t835 => (if t835 = true then (some ((wrap64 ((wrap64 ((x827004.length : Int) + (x827005.length : Int))) + (x827006.length : Int))) == 0)) else (some false))) else (some false)) else (some false)) else (some false)) else (some false))) else (some false))
end
def spec_l11Ins.f (k : Nat) (l0 : List (S115)) (a1_0 : Int) (a1_1 : Int) (a1_2 : Int) (a1_3 : Int) (l1_4 : List Int) (l1_5 : List (S178)) (l1_6 : List Int) : Option (Bool) := if a1_0 = 1 then (if a1_1 = 0 then (if a1_2 = 0 then (if a1_3 = 0 then ((spec_l1AllRunes.f k l1_4).bind fun t828 => (if t828 = true then (if (l1_4.length : Int) ≤ 40 then (some ((wrap64 ((l1_5.length : Int) + (l1_6.length : Int))) == 0)) else (some false)) else (some false))) else (some false)) else (some false)) else (some false)) else (if a1_0 = 2 then (if a1_2 = 0 then (if (l1_4.length : Int) = 0 then ((spec_l10Clauses.f k l1_5).bind fun t829 => (if t829 = true then (if (l1_6.length : Int) = (l1_5.length : Int) then ((spec_l1All.f k l1_6 0 (l0.length : Int)).bind fun t830 => (if t830 = true then ((spec_l1In.f a1_1 0 1000).bind fun t831 => (if t831 = true then ((spec_l1In.f a1_3 0 (l0.length : Int)).bind fun t832 => (some t832)) else (some false))) else (some false))) else (some false)) else (some false))) else (some false)) else (some false)) else (if a1_0 = 3 then (spec_l11Ins.j0 k (l0.length : Int) a1_0 (a1_0 == 3) a1_0 a1_1 a1_2 a1_3 l1_4 l1_5 l1_6 a1_0 0 0 0) else (if a1_0 = 4 then (spec_l11Ins.j0 k (l0.length : Int) a1_0 (a1_0 == 4) a1_0 a1_1 a1_2 a1_3 l1_4 l1_5 l1_6 a1_0 0 0 0) else (spec_l11Ins.j0 k (l0.length : Int) a1_0 (a1_0 == 5) a1_0 a1_1 a1_2 a1_3 l1_4 l1_5 l1_6 a1_0 0 0 0))))
theorem spec_l11Ins.mono_l : ∀ k, (∀ y0 y1 y2 y3 y4 y5 y6 y7 y8 y9 y10 y11 y12 y13, LeO (spec_l11Ins.j0 k y0 y1 y2 y3 y4 y5 y6 y7 y8 y9 y10 y11 y12 y13) (spec_l11Ins.j0 (k + 1) y0 y1 y2 y3 y4 y5 y6 y7 y8 y9 y10 y11 y12 y13)) ∧ (∀ y0 y1 y2 y3 y4 y5 y6 y7 y8 y9 y10 y11, LeO (spec_l11Ins.j1 k y0 y1 y2 y3 y4 y5 y6 y7 y8 y9 y10 y11) (spec_l11Ins.j1 (k + 1) y0 y1 y2 y3 y4 y5 y6 y7 y8 y9 y10 y11))
 | 0 => ⟨fun _ _ _ _ _ _ _ _ _ _ _ _ _ _ r h => by simp [spec_l11Ins.j0] at h, fun _ _ _ _ _ _ _ _ _ _ _ _ r h => by simp [spec_l11Ins.j1] at h⟩
 | k + 1 => by
  obtain ⟨ih0, ih1⟩ := spec_l11Ins.mono_l k
  refine ⟨?_, ?_⟩
  ·intro y0 y1 y2 y3 y4 y5 y6 y7 y8 y9 y10 y11 y12 y13
   unfold spec_l11Ins.j0
   repeat' first
   | (with_reducible exact ih0 _ _ _ _ _ _ _ _ _ _ _ _ _ _)
   | (with_reducible exact ih1 _ _ _ _ _ _ _ _ _ _ _ _)
   | (with_reducible exact spec_l10Clauses.mono _ _)
   | (with_reducible exact spec_l1All.mono _ _ _ _)
   | (with_reducible exact spec_l1AllRunes.mono _ _)
   | (with_reducible exact LeO.refl _)
   | (with_reducible exact LeO.none _)
   | (with_reducible refine LeO.ite ?_ ?_)
   | (with_reducible refine LeO.bind ?_ (fun _ => ?_))
   | exact ih0 _ _ _ _ _ _ _ _ _ _ _ _ _ _
   | exact ih1 _ _ _ _ _ _ _ _ _ _ _ _
   | exact spec_l10Clauses.mono _ _
   | exact spec_l1All.mono _ _ _ _
   | exact spec_l1AllRunes.mono _ _
   | exact LeO.none _
   | refine LeO.ite ?_ ?_
   | refine LeO.bind ?_ (fun _ => ?_)
  ·intro y0 y1 y2 y3 y4 y5 y6 y7 y8 y9 y10 y11
   unfold spec_l11Ins.j1
   repeat' first
   | (with_reducible exact ih0 _ _ _ _ _ _ _ _ _ _ _ _ _ _)
   | (with_reducible exact ih1 _ _ _ _ _ _ _ _ _ _ _ _)
   | (with_reducible exact spec_l10Clauses.mono _ _)
   | (with_reducible exact spec_l1All.mono _ _ _ _)
   | (with_reducible exact spec_l1AllRunes.mono _ _)
   | (with_reducible exact LeO.refl _)
   | (with_reducible exact LeO.none _)
   | (with_reducible refine LeO.ite ?_ ?_)
   | (with_reducible refine LeO.bind ?_ (fun _ => ?_))
   | exact ih0 _ _ _ _ _ _ _ _ _ _ _ _ _ _
   | exact ih1 _ _ _ _ _ _ _ _ _ _ _ _
   | exact spec_l10Clauses.mono _ _
   | exact spec_l1All.mono _ _ _ _
   | exact spec_l1AllRunes.mono _ _
   | exact LeO.none _
   | refine LeO.ite ?_ ?_
   | refine LeO.bind ?_ (fun _ => ?_)
theorem spec_l11Ins.mono : ∀ a0 a1 a2 a3 a4 a5 a6 a7 k, LeO (spec_l11Ins.f k a0 a1 a2 a3 a4 a5 a6 a7) (spec_l11Ins.f (k + 1) a0 a1 a2 a3 a4 a5 a6 a7) := by
 intro a0 a1 a2 a3 a4 a5 a6 a7 k
 obtain ⟨ih0, ih1⟩ := spec_l11Ins.mono_l k
 unfold spec_l11Ins.f
 repeat' first
   | (with_reducible exact ih0 _ _ _ _ _ _ _ _ _ _ _ _ _ _)
   | (with_reducible exact ih1 _ _ _ _ _ _ _ _ _ _ _ _)
   | (with_reducible exact spec_l10Clauses.mono _ _)
   | (with_reducible exact spec_l1All.mono _ _ _ _)
   | (with_reducible exact spec_l1AllRunes.mono _ _)
   | (with_reducible exact LeO.refl _)
   | (with_reducible exact LeO.none _)
   | (with_reducible refine LeO.ite ?_ ?_)
   | (with_reducible refine LeO.bind ?_ (fun _ => ?_))
   | exact ih0 _ _ _ _ _ _ _ _ _ _ _ _ _ _
   | exact ih1 _ _ _ _ _ _ _ _ _ _ _ _
   | exact spec_l10Clauses.mono _ _
   | exact spec_l1All.mono _ _ _ _
   | exact spec_l1AllRunes.mono _ _
   | exact LeO.none _
   | refine LeO.ite ?_ ?_
   | refine LeO.bind ?_ (fun _ => ?_)
set_option maxHeartbeats 8000000 in
set_option maxRecDepth 100000 in
theorem spec_l11Ins.calls (k : Nat) (A0 : Option Addr) (c0 : Nat) (l0 : List (S115)) (a1_0 : Int) (a1_1 : Int) (a1_2 : Int) (a1_3 : Int) (A1_4 : Option Addr) (c1_4 : Nat) (l1_4 : List Int) (A1_5 : Option Addr) (c1_5 : Nat) (l1_5 : List (S178)) (A1_6 : Option Addr) (c1_6 : Nat) (l1_6 : List Int) (r : Bool) (w : World) (hr0 : Kd.C k115 w A0 l0.length l0) (hc0 : l0.length ≤ c0) (hr1_4 : Kd.C (Kd.int .i64) w A1_4 l1_4.length l1_4) (hc1_4 : l1_4.length ≤ c1_4) (hr1_5 : Kd.C k178 w A1_5 l1_5.length l1_5) (hc1_5 : l1_5.length ≤ c1_5) (hr1_6 : Kd.C (Kd.int .i64) w A1_6 l1_6.length l1_6) (hc1_6 : l1_6.length ≤ c1_6) (h : spec_l11Ins.f k l0 a1_0 a1_1 a1_2 a1_3 l1_4 l1_5 l1_6 = some r) :
  Calls Try.prog 84 #[.slice A0 l0.length c0, .agg #[.int .i64 a1_0, .int .i64 a1_1, .int .i64 a1_2, .int .i64 a1_3, .slice A1_4 l1_4.length c1_4, .slice A1_5 l1_5.length c1_5, .slice A1_6 l1_6.length c1_6]] w fun e w' => e = .returned (.bool r) ∧ Below w.heap.size w w' := by
 have hu115 := Try.underlying115
 have HR0 := Aside0.mk hr0
 have HC0 := Aside0.mk hc0
 clear hr0 hc0
 have HR1_4 := Aside0.mk hr1_4
 have HC1_4 := Aside0.mk hc1_4
 clear hr1_4 hc1_4
 have HR1_5 := Aside0.mk hr1_5
 have HC1_5 := Aside0.mk hc1_5
 clear hr1_5 hc1_5
 have HR1_6 := Aside0.mk hr1_6
 have HC1_6 := Aside0.mk hc1_6
 clear hr1_6 hc1_6
 have HB := Aside0.mk (Below.refl w.heap.size w)
 have H : (if a1_0 = 1 then (if a1_1 = 0 then (if a1_2 = 0 then (if a1_3 = 0 then ((spec_l1AllRunes.f k l1_4).bind fun t828 => (if t828 = true then (if (l1_4.length : Int) ≤ 40 then (some ((wrap64 ((l1_5.length : Int) + (l1_6.length : Int))) == 0)) else (some false)) else (some false))) else (some false)) else (some false)) else (some false)) else (if a1_0 = 2 then (if a1_2 = 0 then (if (l1_4.length : Int) = 0 then ((spec_l10Clauses.f k l1_5).bind fun t829 => (if t829 = true then (if (l1_6.length : Int) = (l1_5.length : Int) then ((spec_l1All.f k l1_6 0 (l0.length : Int)).bind fun t830 => (if t830 = true then ((spec_l1In.f a1_1 0 1000).bind fun t831 => (if t831 = true then ((spec_l1In.f a1_3 0 (l0.length : Int)).bind fun t832 => (some t832)) else (some false))) else (some false))) else (some false)) else (some false))) else (some false)) else (some false)) else (if a1_0 = 3 then (spec_l11Ins.j0 k (l0.length : Int) a1_0 (a1_0 == 3) a1_0 a1_1 a1_2 a1_3 l1_4 l1_5 l1_6 a1_0 0 0 0) else (if a1_0 = 4 then (spec_l11Ins.j0 k (l0.length : Int) a1_0 (a1_0 == 4) a1_0 a1_1 a1_2 a1_3 l1_4 l1_5 l1_6 a1_0 0 0 0) else (spec_l11Ins.j0 k (l0.length : Int) a1_0 (a1_0 == 5) a1_0 a1_1 a1_2 a1_3 l1_4 l1_5 l1_6 a1_0 0 0 0))))) = some r := h
 clear h
 by_cases c3 : a1_0 = 1
 ·rw [if_pos c3] at H
  have c3b0 : (a1_0 == 1) = true := beq_iff_eq.mpr c3
  have c3b1 : (a1_0 != 1) = false := bne_eq_false_iff_eq.mpr c3
  clear c3
  by_cases c4 : a1_1 = 0
  ·rw [if_pos c4] at H
   have c4b0 : (a1_1 == 0) = true := beq_iff_eq.mpr c4
   have c4b1 : (a1_1 != 0) = false := bne_eq_false_iff_eq.mpr c4
   clear c4
   by_cases c5 : a1_2 = 0
   ·rw [if_pos c5] at H
    have c5b0 : (a1_2 == 0) = true := beq_iff_eq.mpr c5
    have c5b1 : (a1_2 != 0) = false := bne_eq_false_iff_eq.mpr c5
    clear c5
    by_cases c6 : a1_3 = 0
    ·rw [if_pos c6] at H
     have c6b0 : (a1_3 == 0) = true := beq_iff_eq.mpr c6
     have c6b1 : (a1_3 != 0) = false := bne_eq_false_iff_eq.mpr c6
     clear c6
     replace H := Option.bind_eq_some_iff.mp H
     obtain ⟨t828, A70, H⟩ := H
     replace H : (if t828 = true then (if (l1_4.length : Int) ≤ 40 then (some ((wrap64 ((l1_5.length : Int) + (l1_6.length : Int))) == 0)) else (some false)) else (some false)) = some r := H
     have A7 := Aside0.mk A70
     clear A70
     by_cases c8 : t828 = true
     ·subst c8
      have H1 : (if (l1_4.length : Int) ≤ 40 then (some ((wrap64 ((l1_5.length : Int) + (l1_6.length : Int))) == 0)) else (some false)) = some r := by rw [if_pos rfl] at H; exact H
      clear H
      have H := H1
      clear H1
      by_cases c9 : (l1_4.length : Int) ≤ 40
      ·rw [if_pos c9] at H
       have c9b0 : decide ((l1_4.length : Int) ≤ 40) = true := decide_eq_true c9
       have c9b1 : decide (l1_4.length ≤ 40) = true := decide_eq_true (by omega)
       clear c9
       obtain rfl := Option.some.inj H
       go_enter Try.func84, Try.ntmps84
       go_wp2_with (first | ((with_reducible refine gate_dst (N := 3) rfl ?_); (try (refine gate_guard (by rfl) ?_; dsimp only)); refine box_event ?hg (N := 3) ?hd (cs := #[.int .i64 a1_0, .int .i64 a1_1, .int .i64 a1_2, .int .i64 a1_3, .slice A1_4 l1_4.length c1_4, .slice A1_5 l1_5.length c1_5, .slice A1_6 l1_6.length c1_6]) (t := 115) ?hr ?_; (case hd => rfl); (case hg => rfl); (case hr => first | (go_simp; done) | (go_simp; rfl)); intro gb826 hg w10 hbox hb; have n0_ := Aside0.mk (below_step (by repeat (first | (with_reducible first | exact HB.out | apply below_alloc | apply pw_below_drewN | apply below_drew1) | exact HB.out)) hb); have n1_ := Aside0.mk (hbox); have n2_ := Aside0.mk ((by rw [hg]; exact (below_size (by repeat (first | (with_reducible first | exact HB.out | apply below_alloc | apply pw_below_drewN | apply below_drew1) | exact HB.out))) : w.heap.size ≤ gb826)); have n3_ := Aside0.mk ((by rw [hg]; exact (below_size (by repeat (first | (with_reducible first | exact HB.out | apply below_alloc | apply pw_below_drewN | apply below_drew1) | exact HB.out))) : w.heap.size ≤ gb826)); clear HB; have HB := n0_; have BK826 := n1_; have GW826 := n2_; have GE826 := n3_; clear n0_ n1_ n2_ n3_; clear hb hbox hg; have hcz11_0 := bc0 BK826.out; have hcz11_1 := bc1 BK826.out; have hcz11_2 := bc2 BK826.out; have hcz11_3 := bc3 BK826.out; have hcz11_4 := bc4 BK826.out; have hcz11_5 := bc5 BK826.out; have hcz11_6 := bc6 BK826.out; have hfz11_0 := blk_frozen BK826.out 0; have hfz11_1 := blk_frozen BK826.out 1; have hfz11_2 := blk_frozen BK826.out 2; have hfz11_3 := blk_frozen BK826.out 3; have hfz11_4 := blk_frozen BK826.out 4; have hfz11_5 := blk_frozen BK826.out 5; have hfz11_6 := blk_frozen BK826.out 6) | ((with_reducible refine gate_dst (N := 5) rfl ?_); (try (refine gate_guard (by rfl) ?_; dsimp only)); refine box_event ?hg (N := 5) ?hd (cs := #[.int .i64 0, .int .i64 0, .int .i64 0, .int .i64 0, .slice none 0 0, .slice none 0 0, .slice none 0 0]) (t := 115) ?hr ?_; (case hd => rfl); (case hg => rfl); (case hr => first | (go_simp; done) | (go_simp; rfl)); intro gb827 hg w12 hbox hb; have n0_ := Aside0.mk (blk_below (g := gb826) (o := .cells #[.int .i64 a1_0, .int .i64 a1_1, .int .i64 a1_2, .int .i64 a1_3, .slice A1_4 l1_4.length c1_4, .slice A1_5 l1_5.length c1_5, .slice A1_6 l1_6.length c1_6] 115 (0, 0)) (by (with_reducible repeat (first | refine blk_drewN ?_ _ | refine blk_drew ?_ | refine blk_alloc ?_ _)); exact BK826.out) hb); have n1_ := Aside0.mk (below_step (by repeat (first | (with_reducible first | exact HB.out | apply below_alloc | apply pw_below_drewN | apply below_drew1 | refine below_set ?_ GE826.out) | exact HB.out)) hb); have n2_ := Aside0.mk (hbox); have n3_ := Aside0.mk ((by rw [hg]; exact (below_size (by repeat (first | (with_reducible first | exact HB.out | apply below_alloc | apply pw_below_drewN | apply below_drew1 | refine below_set ?_ GE826.out) | exact HB.out))) : w.heap.size ≤ gb827)); have n4_ := Aside0.mk ((by rw [hg]; exact (below_size (by repeat (first | (with_reducible first | exact HB.out | apply below_alloc | apply pw_below_drewN | apply below_drew1 | refine below_set ?_ GE826.out) | exact HB.out))) : w.heap.size ≤ gb827)); have n5_ := Aside0.mk ((by rw [hg]; exact Nat.ne_of_lt (blk_lt (g := gb826) (o := .cells #[.int .i64 a1_0, .int .i64 a1_1, .int .i64 a1_2, .int .i64 a1_3, .slice A1_4 l1_4.length c1_4, .slice A1_5 l1_5.length c1_5, .slice A1_6 l1_6.length c1_6] 115 (0, 0)) (by (with_reducible repeat (first | refine blk_drewN ?_ _ | refine blk_drew ?_ | refine blk_alloc ?_ _)); exact BK826.out)) : gb826 ≠ gb827)); have n6_ := Aside0.mk ((by rw [hg]; exact Nat.ne_of_gt (blk_lt (g := gb826) (o := .cells #[.int .i64 a1_0, .int .i64 a1_1, .int .i64 a1_2, .int .i64 a1_3, .slice A1_4 l1_4.length c1_4, .slice A1_5 l1_5.length c1_5, .slice A1_6 l1_6.length c1_6] 115 (0, 0)) (by (with_reducible repeat (first | refine blk_drewN ?_ _ | refine blk_drew ?_ | refine blk_alloc ?_ _)); exact BK826.out)) : gb827 ≠ gb826)); clear BK826; clear HB; have BK826 := n0_; have HB := n1_; have BK827 := n2_; have GW827 := n3_; have GE827 := n4_; have NB826_827 := n5_; have NB827_826 := n6_; clear n0_ n1_ n2_ n3_ n4_ n5_ n6_; clear hb hbox hg; have hnb13 := NB827_826.out; have hnc13 := NB826_827.out; have hcz14_0 := bc0 BK827.out; have hcz14_1 := bc1 BK827.out; have hcz14_2 := bc2 BK827.out; have hcz14_3 := bc3 BK827.out; have hcz14_4 := bc4 BK827.out; have hcz14_5 := bc5 BK827.out; have hcz14_6 := bc6 BK827.out; have hfz14_0 := blk_frozen BK827.out 0; have hfz14_1 := blk_frozen BK827.out 1; have hfz14_2 := blk_frozen BK827.out 2; have hfz14_3 := blk_frozen BK827.out 3; have hfz14_4 := blk_frozen BK827.out 4; have hfz14_5 := blk_frozen BK827.out 5; have hfz14_6 := blk_frozen BK827.out 6; have hcz15_0 := bc0 BK826.out; have hcz15_1 := bc1 BK826.out; have hcz15_2 := bc2 BK826.out; have hcz15_3 := bc3 BK826.out; have hcz15_4 := bc4 BK826.out; have hcz15_5 := bc5 BK826.out; have hcz15_6 := bc6 BK826.out; have hfz15_0 := blk_frozen BK826.out 0; have hfz15_1 := blk_frozen BK826.out 1; have hfz15_2 := blk_frozen BK826.out 2; have hfz15_3 := blk_frozen BK826.out 3; have hfz15_4 := blk_frozen BK826.out 4; have hfz15_5 := blk_frozen BK826.out 5; have hfz15_6 := blk_frozen BK826.out 6) | (go_at_call 93; (with_reducible refine (spec_l1AllRunes.calls k _ _ l1_4 true _ ?side1 ?side2 A7.out).mono ?_); (case side1 => exact Kd.C_below HR1_4.out (by repeat (first | (with_reducible first | exact HB.out | apply below_alloc | apply pw_below_drewN | apply below_drew1 | refine below_set ?_ GE826.out | refine below_set ?_ GE827.out) | exact HB.out))); (case side2 => exact HC1_4.out); rintro e w' ⟨rfl, ⟨nd, rfl⟩⟩))
       go_ret
       exact ⟨by first | rfl | (simp [errW_none, errW_some] <;> rfl) | (simp [*, errW_none, errW_some] <;> rfl), by repeat (first | (with_reducible first | exact HB.out | apply below_alloc | apply pw_below_drewN | apply below_drew1 | refine below_set ?_ GE826.out | refine below_set ?_ GE827.out) | exact HB.out)⟩
      ·rw [if_neg c9] at H
       have c9b0 : decide ((l1_4.length : Int) ≤ 40) = false := decide_eq_false c9
       have c9b1 : decide (l1_4.length ≤ 40) = false := decide_eq_false (by omega)
       clear c9
       obtain rfl := Option.some.inj H
       go_enter Try.func84, Try.ntmps84
       go_wp2_with (first | ((with_reducible refine gate_dst (N := 3) rfl ?_); (try (refine gate_guard (by rfl) ?_; dsimp only)); refine box_event ?hg (N := 3) ?hd (cs := #[.int .i64 a1_0, .int .i64 a1_1, .int .i64 a1_2, .int .i64 a1_3, .slice A1_4 l1_4.length c1_4, .slice A1_5 l1_5.length c1_5, .slice A1_6 l1_6.length c1_6]) (t := 115) ?hr ?_; (case hd => rfl); (case hg => rfl); (case hr => first | (go_simp; done) | (go_simp; rfl)); intro gb826 hg w16 hbox hb; have n0_ := Aside0.mk (below_step (by repeat (first | (with_reducible first | exact HB.out | apply below_alloc | apply pw_below_drewN | apply below_drew1) | exact HB.out)) hb); have n1_ := Aside0.mk (hbox); have n2_ := Aside0.mk ((by rw [hg]; exact (below_size (by repeat (first | (with_reducible first | exact HB.out | apply below_alloc | apply pw_below_drewN | apply below_drew1) | exact HB.out))) : w.heap.size ≤ gb826)); have n3_ := Aside0.mk ((by rw [hg]; exact (below_size (by repeat (first | (with_reducible first | exact HB.out | apply below_alloc | apply pw_below_drewN | apply below_drew1) | exact HB.out))) : w.heap.size ≤ gb826)); clear HB; have HB := n0_; have BK826 := n1_; have GW826 := n2_; have GE826 := n3_; clear n0_ n1_ n2_ n3_; clear hb hbox hg; have hcz17_0 := bc0 BK826.out; have hcz17_1 := bc1 BK826.out; have hcz17_2 := bc2 BK826.out; have hcz17_3 := bc3 BK826.out; have hcz17_4 := bc4 BK826.out; have hcz17_5 := bc5 BK826.out; have hcz17_6 := bc6 BK826.out; have hfz17_0 := blk_frozen BK826.out 0; have hfz17_1 := blk_frozen BK826.out 1; have hfz17_2 := blk_frozen BK826.out 2; have hfz17_3 := blk_frozen BK826.out 3; have hfz17_4 := blk_frozen BK826.out 4; have hfz17_5 := blk_frozen BK826.out 5; have hfz17_6 := blk_frozen BK826.out 6) | ((with_reducible refine gate_dst (N := 5) rfl ?_); (try (refine gate_guard (by rfl) ?_; dsimp only)); refine box_event ?hg (N := 5) ?hd (cs := #[.int .i64 0, .int .i64 0, .int .i64 0, .int .i64 0, .slice none 0 0, .slice none 0 0, .slice none 0 0]) (t := 115) ?hr ?_; (case hd => rfl); (case hg => rfl); (case hr => first | (go_simp; done) | (go_simp; rfl)); intro gb827 hg w18 hbox hb; have n0_ := Aside0.mk (blk_below (g := gb826) (o := .cells #[.int .i64 a1_0, .int .i64 a1_1, .int .i64 a1_2, .int .i64 a1_3, .slice A1_4 l1_4.length c1_4, .slice A1_5 l1_5.length c1_5, .slice A1_6 l1_6.length c1_6] 115 (0, 0)) (by (with_reducible repeat (first | refine blk_drewN ?_ _ | refine blk_drew ?_ | refine blk_alloc ?_ _)); exact BK826.out) hb); have n1_ := Aside0.mk (below_step (by repeat (first | (with_reducible first | exact HB.out | apply below_alloc | apply pw_below_drewN | apply below_drew1 | refine below_set ?_ GE826.out) | exact HB.out)) hb); have n2_ := Aside0.mk (hbox); have n3_ := Aside0.mk ((by rw [hg]; exact (below_size (by repeat (first | (with_reducible first | exact HB.out | apply below_alloc | apply pw_below_drewN | apply below_drew1 | refine below_set ?_ GE826.out) | exact HB.out))) : w.heap.size ≤ gb827)); have n4_ := Aside0.mk ((by rw [hg]; exact (below_size (by repeat (first | (with_reducible first | exact HB.out | apply below_alloc | apply pw_below_drewN | apply below_drew1 | refine below_set ?_ GE826.out) | exact HB.out))) : w.heap.size ≤ gb827)); have n5_ := Aside0.mk ((by rw [hg]; exact Nat.ne_of_lt (blk_lt (g := gb826) (o := .cells #[.int .i64 a1_0, .int .i64 a1_1, .int .i64 a1_2, .int .i64 a1_3, .slice A1_4 l1_4.length c1_4, .slice A1_5 l1_5.length c1_5, .slice A1_6 l1_6.length c1_6] 115 (0, 0)) (by (with_reducible repeat (first | refine blk_drewN ?_ _ | refine blk_drew ?_ | refine blk_alloc ?_ _)); exact BK826.out)) : gb826 ≠ gb827)); have n6_ := Aside0.mk ((by rw [hg]; exact Nat.ne_of_gt (blk_lt (g := gb826) (o := .cells #[.int .i64 a1_0, .int .i64 a1_1, .int .i64 a1_2, .int .i64 a1_3, .slice A1_4 l1_4.length c1_4, .slice A1_5 l1_5.length c1_5, .slice A1_6 l1_6.length c1_6] 115 (0, 0)) (by (with_reducible repeat (first | refine blk_drewN ?_ _ | refine blk_drew ?_ | refine blk_alloc ?_ _)); exact BK826.out)) : gb827 ≠ gb826)); clear BK826; clear HB; have BK826 := n0_; have HB := n1_; have BK827 := n2_; have GW827 := n3_; have GE827 := n4_; have NB826_827 := n5_; have NB827_826 := n6_; clear n0_ n1_ n2_ n3_ n4_ n5_ n6_; clear hb hbox hg; have hnb19 := NB827_826.out; have hnc19 := NB826_827.out; have hcz20_0 := bc0 BK827.out; have hcz20_1 := bc1 BK827.out; have hcz20_2 := bc2 BK827.out; have hcz20_3 := bc3 BK827.out; have hcz20_4 := bc4 BK827.out; have hcz20_5 := bc5 BK827.out; have hcz20_6 := bc6 BK827.out; have hfz20_0 := blk_frozen BK827.out 0; have hfz20_1 := blk_frozen BK827.out 1; have hfz20_2 := blk_frozen BK827.out 2; have hfz20_3 := blk_frozen BK827.out 3; have hfz20_4 := blk_frozen BK827.out 4; have hfz20_5 := blk_frozen BK827.out 5; have hfz20_6 := blk_frozen BK827.out 6; have hcz21_0 := bc0 BK826.out; have hcz21_1 := bc1 BK826.out; have hcz21_2 := bc2 BK826.out; have hcz21_3 := bc3 BK826.out; have hcz21_4 := bc4 BK826.out; have hcz21_5 := bc5 BK826.out; have hcz21_6 := bc6 BK826.out; have hfz21_0 := blk_frozen BK826.out 0; have hfz21_1 := blk_frozen BK826.out 1; have hfz21_2 := blk_frozen BK826.out 2; have hfz21_3 := blk_frozen BK826.out 3; have hfz21_4 := blk_frozen BK826.out 4; have hfz21_5 := blk_frozen BK826.out 5; have hfz21_6 := blk_frozen BK826.out 6) | (go_at_call 93; (with_reducible refine (spec_l1AllRunes.calls k _ _ l1_4 true _ ?side1 ?side2 A7.out).mono ?_); (case side1 => exact Kd.C_below HR1_4.out (by repeat (first | (with_reducible first | exact HB.out | apply below_alloc | apply pw_below_drewN | apply below_drew1 | refine below_set ?_ GE826.out | refine below_set ?_ GE827.out) | exact HB.out))); (case side2 => exact HC1_4.out); rintro e w' ⟨rfl, ⟨nd, rfl⟩⟩))
       go_ret
       exact ⟨by first | rfl | (simp [errW_none, errW_some] <;> rfl) | (simp [*, errW_none, errW_some] <;> rfl), by repeat (first | (with_reducible first | exact HB.out | apply below_alloc | apply pw_below_drewN | apply below_drew1 | refine below_set ?_ GE826.out | refine below_set ?_ GE827.out) | exact HB.out)⟩
     ·replace c8 := Bool.eq_false_iff.mpr c8
      subst c8
      have H1 : (some false) = some r := by rw [if_neg (show ¬ (false = true) by decide)] at H; exact H
      clear H
      have H := H1
      clear H1
      obtain rfl := Option.some.inj H
      go_enter Try.func84, Try.ntmps84
      go_wp2_with (first | ((with_reducible refine gate_dst (N := 3) rfl ?_); (try (refine gate_guard (by rfl) ?_; dsimp only)); refine box_event ?hg (N := 3) ?hd (cs := #[.int .i64 a1_0, .int .i64 a1_1, .int .i64 a1_2, .int .i64 a1_3, .slice A1_4 l1_4.length c1_4, .slice A1_5 l1_5.length c1_5, .slice A1_6 l1_6.length c1_6]) (t := 115) ?hr ?_; (case hd => rfl); (case hg => rfl); (case hr => first | (go_simp; done) | (go_simp; rfl)); intro gb826 hg w22 hbox hb; have n0_ := Aside0.mk (below_step (by repeat (first | (with_reducible first | exact HB.out | apply below_alloc | apply pw_below_drewN | apply below_drew1) | exact HB.out)) hb); have n1_ := Aside0.mk (hbox); have n2_ := Aside0.mk ((by rw [hg]; exact (below_size (by repeat (first | (with_reducible first | exact HB.out | apply below_alloc | apply pw_below_drewN | apply below_drew1) | exact HB.out))) : w.heap.size ≤ gb826)); have n3_ := Aside0.mk ((by rw [hg]; exact (below_size (by repeat (first | (with_reducible first | exact HB.out | apply below_alloc | apply pw_below_drewN | apply below_drew1) | exact HB.out))) : w.heap.size ≤ gb826)); clear HB; have HB := n0_; have BK826 := n1_; have GW826 := n2_; have GE826 := n3_; clear n0_ n1_ n2_ n3_; clear hb hbox hg; have hcz23_0 := bc0 BK826.out; have hcz23_1 := bc1 BK826.out; have hcz23_2 := bc2 BK826.out; have hcz23_3 := bc3 BK826.out; have hcz23_4 := bc4 BK826.out; have hcz23_5 := bc5 BK826.out; have hcz23_6 := bc6 BK826.out; have hfz23_0 := blk_frozen BK826.out 0; have hfz23_1 := blk_frozen BK826.out 1; have hfz23_2 := blk_frozen BK826.out 2; have hfz23_3 := blk_frozen BK826.out 3; have hfz23_4 := blk_frozen BK826.out 4; have hfz23_5 := blk_frozen BK826.out 5; have hfz23_6 := blk_frozen BK826.out 6) | ((with_reducible refine gate_dst (N := 5) rfl ?_); (try (refine gate_guard (by rfl) ?_; dsimp only)); refine box_event ?hg (N := 5) ?hd (cs := #[.int .i64 0, .int .i64 0, .int .i64 0, .int .i64 0, .slice none 0 0, .slice none 0 0, .slice none 0 0]) (t := 115) ?hr ?_; (case hd => rfl); (case hg => rfl); (case hr => first | (go_simp; done) | (go_simp; rfl)); intro gb827 hg w24 hbox hb; have n0_ := Aside0.mk (blk_below (g := gb826) (o := .cells #[.int .i64 a1_0, .int .i64 a1_1, .int .i64 a1_2, .int .i64 a1_3, .slice A1_4 l1_4.length c1_4, .slice A1_5 l1_5.length c1_5, .slice A1_6 l1_6.length c1_6] 115 (0, 0)) (by (with_reducible repeat (first | refine blk_drewN ?_ _ | refine blk_drew ?_ | refine blk_alloc ?_ _)); exact BK826.out) hb); have n1_ := Aside0.mk (below_step (by repeat (first | (with_reducible first | exact HB.out | apply below_alloc | apply pw_below_drewN | apply below_drew1 | refine below_set ?_ GE826.out) | exact HB.out)) hb); have n2_ := Aside0.mk (hbox); have n3_ := Aside0.mk ((by rw [hg]; exact (below_size (by repeat (first | (with_reducible first | exact HB.out | apply below_alloc | apply pw_below_drewN | apply below_drew1 | refine below_set ?_ GE826.out) | exact HB.out))) : w.heap.size ≤ gb827)); have n4_ := Aside0.mk ((by rw [hg]; exact (below_size (by repeat (first | (with_reducible first | exact HB.out | apply below_alloc | apply pw_below_drewN | apply below_drew1 | refine below_set ?_ GE826.out) | exact HB.out))) : w.heap.size ≤ gb827)); have n5_ := Aside0.mk ((by rw [hg]; exact Nat.ne_of_lt (blk_lt (g := gb826) (o := .cells #[.int .i64 a1_0, .int .i64 a1_1, .int .i64 a1_2, .int .i64 a1_3, .slice A1_4 l1_4.length c1_4, .slice A1_5 l1_5.length c1_5, .slice A1_6 l1_6.length c1_6] 115 (0, 0)) (by (with_reducible repeat (first | refine blk_drewN ?_ _ | refine blk_drew ?_ | refine blk_alloc ?_ _)); exact BK826.out)) : gb826 ≠ gb827)); have n6_ := Aside0.mk ((by rw [hg]; exact Nat.ne_of_gt (blk_lt (g := gb826) (o := .cells #[.int .i64 a1_0, .int .i64 a1_1, .int .i64 a1_2, .int .i64 a1_3, .slice A1_4 l1_4.length c1_4, .slice A1_5 l1_5.length c1_5, .slice A1_6 l1_6.length c1_6] 115 (0, 0)) (by (with_reducible repeat (first | refine blk_drewN ?_ _ | refine blk_drew ?_ | refine blk_alloc ?_ _)); exact BK826.out)) : gb827 ≠ gb826)); clear BK826; clear HB; have BK826 := n0_; have HB := n1_; have BK827 := n2_; have GW827 := n3_; have GE827 := n4_; have NB826_827 := n5_; have NB827_826 := n6_; clear n0_ n1_ n2_ n3_ n4_ n5_ n6_; clear hb hbox hg; have hnb25 := NB827_826.out; have hnc25 := NB826_827.out; have hcz26_0 := bc0 BK827.out; have hcz26_1 := bc1 BK827.out; have hcz26_2 := bc2 BK827.out; have hcz26_3 := bc3 BK827.out; have hcz26_4 := bc4 BK827.out; have hcz26_5 := bc5 BK827.out; have hcz26_6 := bc6 BK827.out; have hfz26_0 := blk_frozen BK827.out 0; have hfz26_1 := blk_frozen BK827.out 1; have hfz26_2 := blk_frozen BK827.out 2; have hfz26_3 := blk_frozen BK827.out 3; have hfz26_4 := blk_frozen BK827.out 4; have hfz26_5 := blk_frozen BK827.out 5; have hfz26_6 := blk_frozen BK827.out 6; have hcz27_0 := bc0 BK826.out; have hcz27_1 := bc1 BK826.out; have hcz27_2 := bc2 BK826.out; have hcz27_3 := bc3 BK826.out; have hcz27_4 := bc4 BK826.out; have hcz27_5 := bc5 BK826.out; have hcz27_6 := bc6 BK826.out; have hfz27_0 := blk_frozen BK826.out 0; have hfz27_1 := blk_frozen BK826.out 1; have hfz27_2 := blk_frozen BK826.out 2; have hfz27_3 := blk_frozen BK826.out 3; have hfz27_4 := blk_frozen BK826.out 4; have hfz27_5 := blk_frozen BK826.out 5; have hfz27_6 := blk_frozen BK826.out 6) | (go_at_call 93; (with_reducible refine (spec_l1AllRunes.calls k _ _ l1_4 false _ ?side1 ?side2 A7.out).mono ?_); (case side1 => exact Kd.C_below HR1_4.out (by repeat (first | (with_reducible first | exact HB.out | apply below_alloc | apply pw_below_drewN | apply below_drew1 | refine below_set ?_ GE826.out | refine below_set ?_ GE827.out) | exact HB.out))); (case side2 => exact HC1_4.out); rintro e w' ⟨rfl, ⟨nd, rfl⟩⟩))
      go_ret
      exact ⟨by first | rfl | (simp [errW_none, errW_some] <;> rfl) | (simp [*, errW_none, errW_some] <;> rfl), by repeat (first | (with_reducible first | exact HB.out | apply below_alloc | apply pw_below_drewN | apply below_drew1 | refine below_set ?_ GE826.out | refine below_set ?_ GE827.out) | exact HB.out)⟩
    ·rw [if_neg c6] at H
     have c6b0 : (a1_3 == 0) = false := beq_eq_false_iff_ne.mpr c6
     have c6b1 : (a1_3 != 0) = true := bne_iff_ne.mpr c6
     obtain rfl := Option.some.inj H
     go_enter Try.func84, Try.ntmps84
     go_wp2_with (first | ((with_reducible refine gate_dst (N := 3) rfl ?_); (try (refine gate_guard (by rfl) ?_; dsimp only)); refine box_event ?hg (N := 3) ?hd (cs := #[.int .i64 a1_0, .int .i64 a1_1, .int .i64 a1_2, .int .i64 a1_3, .slice A1_4 l1_4.length c1_4, .slice A1_5 l1_5.length c1_5, .slice A1_6 l1_6.length c1_6]) (t := 115) ?hr ?_; (case hd => rfl); (case hg => rfl); (case hr => first | (go_simp; done) | (go_simp; rfl)); intro gb826 hg w28 hbox hb; have n0_ := Aside0.mk (below_step (by repeat (first | (with_reducible first | exact HB.out | apply below_alloc | apply pw_below_drewN | apply below_drew1) | exact HB.out)) hb); have n1_ := Aside0.mk (hbox); have n2_ := Aside0.mk ((by rw [hg]; exact (below_size (by repeat (first | (with_reducible first | exact HB.out | apply below_alloc | apply pw_below_drewN | apply below_drew1) | exact HB.out))) : w.heap.size ≤ gb826)); have n3_ := Aside0.mk ((by rw [hg]; exact (below_size (by repeat (first | (with_reducible first | exact HB.out | apply below_alloc | apply pw_below_drewN | apply below_drew1) | exact HB.out))) : w.heap.size ≤ gb826)); clear HB; have HB := n0_; have BK826 := n1_; have GW826 := n2_; have GE826 := n3_; clear n0_ n1_ n2_ n3_; clear hb hbox hg; have hcz29_0 := bc0 BK826.out; have hcz29_1 := bc1 BK826.out; have hcz29_2 := bc2 BK826.out; have hcz29_3 := bc3 BK826.out; have hcz29_4 := bc4 BK826.out; have hcz29_5 := bc5 BK826.out; have hcz29_6 := bc6 BK826.out; have hfz29_0 := blk_frozen BK826.out 0; have hfz29_1 := blk_frozen BK826.out 1; have hfz29_2 := blk_frozen BK826.out 2; have hfz29_3 := blk_frozen BK826.out 3; have hfz29_4 := blk_frozen BK826.out 4; have hfz29_5 := blk_frozen BK826.out 5; have hfz29_6 := blk_frozen BK826.out 6) | ((with_reducible refine gate_dst (N := 5) rfl ?_); (try (refine gate_guard (by rfl) ?_; dsimp only)); refine box_event ?hg (N := 5) ?hd (cs := #[.int .i64 0, .int .i64 0, .int .i64 0, .int .i64 0, .slice none 0 0, .slice none 0 0, .slice none 0 0]) (t := 115) ?hr ?_; (case hd => rfl); (case hg => rfl); (case hr => first | (go_simp; done) | (go_simp; rfl)); intro gb827 hg w30 hbox hb; have n0_ := Aside0.mk (blk_below (g := gb826) (o := .cells #[.int .i64 a1_0, .int .i64 a1_1, .int .i64 a1_2, .int .i64 a1_3, .slice A1_4 l1_4.length c1_4, .slice A1_5 l1_5.length c1_5, .slice A1_6 l1_6.length c1_6] 115 (0, 0)) (by (with_reducible repeat (first | refine blk_drewN ?_ _ | refine blk_drew ?_ | refine blk_alloc ?_ _)); exact BK826.out) hb); have n1_ := Aside0.mk (below_step (by repeat (first | (with_reducible first | exact HB.out | apply below_alloc | apply pw_below_drewN | apply below_drew1 | refine below_set ?_ GE826.out) | exact HB.out)) hb); have n2_ := Aside0.mk (hbox); have n3_ := Aside0.mk ((by rw [hg]; exact (below_size (by repeat (first | (with_reducible first | exact HB.out | apply below_alloc | apply pw_below_drewN | apply below_drew1 | refine below_set ?_ GE826.out) | exact HB.out))) : w.heap.size ≤ gb827)); have n4_ := Aside0.mk ((by rw [hg]; exact (below_size (by repeat (first | (with_reducible first | exact HB.out | apply below_alloc | apply pw_below_drewN | apply below_drew1 | refine below_set ?_ GE826.out) | exact HB.out))) : w.heap.size ≤ gb827)); have n5_ := Aside0.mk ((by rw [hg]; exact Nat.ne_of_lt (blk_lt (g := gb826) (o := .cells #[.int .i64 a1_0, .int .i64 a1_1, .int .i64 a1_2, .int .i64 a1_3, .slice A1_4 l1_4.length c1_4, .slice A1_5 l1_5.length c1_5, .slice A1_6 l1_6.length c1_6] 115 (0, 0)) (by (with_reducible repeat (first | refine blk_drewN ?_ _ | refine blk_drew ?_ | refine blk_alloc ?_ _)); exact BK826.out)) : gb826 ≠ gb827)); have n6_ := Aside0.mk ((by rw [hg]; exact Nat.ne_of_gt (blk_lt (g := gb826) (o := .cells #[.int .i64 a1_0, .int .i64 a1_1, .int .i64 a1_2, .int .i64 a1_3, .slice A1_4 l1_4.length c1_4, .slice A1_5 l1_5.length c1_5, .slice A1_6 l1_6.length c1_6] 115 (0, 0)) (by (with_reducible repeat (first | refine blk_drewN ?_ _ | refine blk_drew ?_ | refine blk_alloc ?_ _)); exact BK826.out)) : gb827 ≠ gb826)); clear BK826; clear HB; have BK826 := n0_; have HB := n1_; have BK827 := n2_; have GW827 := n3_; have GE827 := n4_; have NB826_827 := n5_; have NB827_826 := n6_; clear n0_ n1_ n2_ n3_ n4_ n5_ n6_; clear hb hbox hg; have hnb31 := NB827_826.out; have hnc31 := NB826_827.out; have hcz32_0 := bc0 BK827.out; have hcz32_1 := bc1 BK827.out; have hcz32_2 := bc2 BK827.out; have hcz32_3 := bc3 BK827.out; have hcz32_4 := bc4 BK827.out; have hcz32_5 := bc5 BK827.out; have hcz32_6 := bc6 BK827.out; have hfz32_0 := blk_frozen BK827.out 0; have hfz32_1 := blk_frozen BK827.out 1; have hfz32_2 := blk_frozen BK827.out 2; have hfz32_3 := blk_frozen BK827.out 3; have hfz32_4 := blk_frozen BK827.out 4; have hfz32_5 := blk_frozen BK827.out 5; have hfz32_6 := blk_frozen BK827.out 6; have hcz33_0 := bc0 BK826.out; have hcz33_1 := bc1 BK826.out; have hcz33_2 := bc2 BK826.out; have hcz33_3 := bc3 BK826.out; have hcz33_4 := bc4 BK826.out; have hcz33_5 := bc5 BK826.out; have hcz33_6 := bc6 BK826.out; have hfz33_0 := blk_frozen BK826.out 0; have hfz33_1 := blk_frozen BK826.out 1; have hfz33_2 := blk_frozen BK826.out 2; have hfz33_3 := blk_frozen BK826.out 3; have hfz33_4 := blk_frozen BK826.out 4; have hfz33_5 := blk_frozen BK826.out 5; have hfz33_6 := blk_frozen BK826.out 6))
     go_ret
     exact ⟨by first | rfl | (simp [errW_none, errW_some] <;> rfl) | (simp [*, errW_none, errW_some] <;> rfl), by repeat (first | (with_reducible first | exact HB.out | apply below_alloc | apply pw_below_drewN | apply below_drew1 | refine below_set ?_ GE826.out | refine below_set ?_ GE827.out) | exact HB.out)⟩
   ·rw [if_neg c5] at H
    have c5b0 : (a1_2 == 0) = false := beq_eq_false_iff_ne.mpr c5
    have c5b1 : (a1_2 != 0) = true := bne_iff_ne.mpr c5
    obtain rfl := Option.some.inj H
    go_enter Try.func84, Try.ntmps84
    go_wp2_with (first | ((with_reducible refine gate_dst (N := 3) rfl ?_); (try (refine gate_guard (by rfl) ?_; dsimp only)); refine box_event ?hg (N := 3) ?hd (cs := #[.int .i64 a1_0, .int .i64 a1_1, .int .i64 a1_2, .int .i64 a1_3, .slice A1_4 l1_4.length c1_4, .slice A1_5 l1_5.length c1_5, .slice A1_6 l1_6.length c1_6]) (t := 115) ?hr ?_; (case hd => rfl); (case hg => rfl); (case hr => first | (go_simp; done) | (go_simp; rfl)); intro gb826 hg w34 hbox hb; have n0_ := Aside0.mk (below_step (by repeat (first | (with_reducible first | exact HB.out | apply below_alloc | apply pw_below_drewN | apply below_drew1) | exact HB.out)) hb); have n1_ := Aside0.mk (hbox); have n2_ := Aside0.mk ((by rw [hg]; exact (below_size (by repeat (first | (with_reducible first | exact HB.out | apply below_alloc | apply pw_below_drewN | apply below_drew1) | exact HB.out))) : w.heap.size ≤ gb826)); have n3_ := Aside0.mk ((by rw [hg]; exact (below_size (by repeat (first | (with_reducible first | exact HB.out | apply below_alloc | apply pw_below_drewN | apply below_drew1) | exact HB.out))) : w.heap.size ≤ gb826)); clear HB; have HB := n0_; have BK826 := n1_; have GW826 := n2_; have GE826 := n3_; clear n0_ n1_ n2_ n3_; clear hb hbox hg; have hcz35_0 := bc0 BK826.out; have hcz35_1 := bc1 BK826.out; have hcz35_2 := bc2 BK826.out; have hcz35_3 := bc3 BK826.out; have hcz35_4 := bc4 BK826.out; have hcz35_5 := bc5 BK826.out; have hcz35_6 := bc6 BK826.out; have hfz35_0 := blk_frozen BK826.out 0; have hfz35_1 := blk_frozen BK826.out 1; have hfz35_2 := blk_frozen BK826.out 2; have hfz35_3 := blk_frozen BK826.out 3; have hfz35_4 := blk_frozen BK826.out 4; have hfz35_5 := blk_frozen BK826.out 5; have hfz35_6 := blk_frozen BK826.out 6) | ((with_reducible refine gate_dst (N := 5) rfl ?_); (try (refine gate_guard (by rfl) ?_; dsimp only)); refine box_event ?hg (N := 5) ?hd (cs := #[.int .i64 0, .int .i64 0, .int .i64 0, .int .i64 0, .slice none 0 0, .slice none 0 0, .slice none 0 0]) (t := 115) ?hr ?_; (case hd => rfl); (case hg => rfl); (case hr => first | (go_simp; done) | (go_simp; rfl)); intro gb827 hg w36 hbox hb; have n0_ := Aside0.mk (blk_below (g := gb826) (o := .cells #[.int .i64 a1_0, .int .i64 a1_1, .int .i64 a1_2, .int .i64 a1_3, .slice A1_4 l1_4.length c1_4, .slice A1_5 l1_5.length c1_5, .slice A1_6 l1_6.length c1_6] 115 (0, 0)) (by (with_reducible repeat (first | refine blk_drewN ?_ _ | refine blk_drew ?_ | refine blk_alloc ?_ _)); exact BK826.out) hb); have n1_ := Aside0.mk (below_step (by repeat (first | (with_reducible first | exact HB.out | apply below_alloc | apply pw_below_drewN | apply below_drew1 | refine below_set ?_ GE826.out) | exact HB.out)) hb); have n2_ := Aside0.mk (hbox); have n3_ := Aside0.mk ((by rw [hg]; exact (below_size (by repeat (first | (with_reducible first | exact HB.out | apply below_alloc | apply pw_below_drewN | apply below_drew1 | refine below_set ?_ GE826.out) | exact HB.out))) : w.heap.size ≤ gb827)); have n4_ := Aside0.mk ((by rw [hg]; exact (below_size (by repeat (first | (with_reducible first | exact HB.out | apply below_alloc | apply pw_below_drewN | apply below_drew1 | refine below_set ?_ GE826.out) | exact HB.out))) : w.heap.size ≤ gb827)); have n5_ := Aside0.mk ((by rw [hg]; exact Nat.ne_of_lt (blk_lt (g := gb826) (o := .cells #[.int .i64 a1_0, .int .i64 a1_1, .int .i64 a1_2, .int .i64 a1_3, .slice A1_4 l1_4.length c1_4, .slice A1_5 l1_5.length c1_5, .slice A1_6 l1_6.length c1_6] 115 (0, 0)) (by (with_reducible repeat (first | refine blk_drewN ?_ _ | refine blk_drew ?_ | refine blk_alloc ?_ _)); exact BK826.out)) : gb826 ≠ gb827)); have n6_ := Aside0.mk ((by rw [hg]; exact Nat.ne_of_gt (blk_lt (g := gb826) (o := .cells #[.int .i64 a1_0, .int .i64 a1_1, .int .i64 a1_2, .int .i64 a1_3, .slice A1_4 l1_4.length c1_4, .slice A1_5 l1_5.length c1_5, .slice A1_6 l1_6.length c1_6] 115 (0, 0)) (by (with_reducible repeat (first | refine blk_drewN ?_ _ | refine blk_drew ?_ | refine blk_alloc ?_ _)); exact BK826.out)) : gb827 ≠ gb826)); clear BK826; clear HB; have BK826 := n0_; have HB := n1_; have BK827 := n2_; have GW827 := n3_; have GE827 := n4_; have NB826_827 := n5_; have NB827_826 := n6_; clear n0_ n1_ n2_ n3_ n4_ n5_ n6_; clear hb hbox hg; have hnb37 := NB827_826.out; have hnc37 := NB826_827.out; have hcz38_0 := bc0 BK827.out; have hcz38_1 := bc1 BK827.out; have hcz38_2 := bc2 BK827.out; have hcz38_3 := bc3 BK827.out; have hcz38_4 := bc4 BK827.out; have hcz38_5 := bc5 BK827.out; have hcz38_6 := bc6 BK827.out; have hfz38_0 := blk_frozen BK827.out 0; have hfz38_1 := blk_frozen BK827.out 1; have hfz38_2 := blk_frozen BK827.out 2; have hfz38_3 := blk_frozen BK827.out 3; have hfz38_4 := blk_frozen BK827.out 4; have hfz38_5 := blk_frozen BK827.out 5; have hfz38_6 := blk_frozen BK827.out 6; have hcz39_0 := bc0 BK826.out; have hcz39_1 := bc1 BK826.out; have hcz39_2 := bc2 BK826.out; have hcz39_3 := bc3 BK826.out; have hcz39_4 := bc4 BK826.out; have hcz39_5 := bc5 BK826.out; have hcz39_6 := bc6 BK826.out; have hfz39_0 := blk_frozen BK826.out 0; have hfz39_1 := blk_frozen BK826.out 1; have hfz39_2 := blk_frozen BK826.out 2; have hfz39_3 := blk_frozen BK826.out 3; have hfz39_4 := blk_frozen BK826.out 4; have hfz39_5 := blk_frozen BK826.out 5; have hfz39_6 := blk_frozen BK826.out 6))
    go_ret
    exact ⟨by first | rfl | (simp [errW_none, errW_some] <;> rfl) | (simp [*, errW_none, errW_some] <;> rfl), by repeat (first | (with_reducible first | exact HB.out | apply below_alloc | apply pw_below_drewN | apply below_drew1 | refine below_set ?_ GE826.out | refine below_set ?_ GE827.out) | exact HB.out)⟩
  ·rw [if_neg c4] at H
   have c4b0 : (a1_1 == 0) = false := beq_eq_false_iff_ne.mpr c4
   have c4b1 : (a1_1 != 0) = true := bne_iff_ne.mpr c4
   obtain rfl := Option.some.inj H
   go_enter Try.func84, Try.ntmps84
   go_wp2_with (first | ((with_reducible refine gate_dst (N := 3) rfl ?_); (try (refine gate_guard (by rfl) ?_; dsimp only)); refine box_event ?hg (N := 3) ?hd (cs := #[.int .i64 a1_0, .int .i64 a1_1, .int .i64 a1_2, .int .i64 a1_3, .slice A1_4 l1_4.length c1_4, .slice A1_5 l1_5.length c1_5, .slice A1_6 l1_6.length c1_6]) (t := 115) ?hr ?_; (case hd => rfl); (case hg => rfl); (case hr => first | (go_simp; done) | (go_simp; rfl)); intro gb826 hg w40 hbox hb; have n0_ := Aside0.mk (below_step (by repeat (first | (with_reducible first | exact HB.out | apply below_alloc | apply pw_below_drewN | apply below_drew1) | exact HB.out)) hb); have n1_ := Aside0.mk (hbox); have n2_ := Aside0.mk ((by rw [hg]; exact (below_size (by repeat (first | (with_reducible first | exact HB.out | apply below_alloc | apply pw_below_drewN | apply below_drew1) | exact HB.out))) : w.heap.size ≤ gb826)); have n3_ := Aside0.mk ((by rw [hg]; exact (below_size (by repeat (first | (with_reducible first | exact HB.out | apply below_alloc | apply pw_below_drewN | apply below_drew1) | exact HB.out))) : w.heap.size ≤ gb826)); clear HB; have HB := n0_; have BK826 := n1_; have GW826 := n2_; have GE826 := n3_; clear n0_ n1_ n2_ n3_; clear hb hbox hg; have hcz41_0 := bc0 BK826.out; have hcz41_1 := bc1 BK826.out; have hcz41_2 := bc2 BK826.out; have hcz41_3 := bc3 BK826.out; have hcz41_4 := bc4 BK826.out; have hcz41_5 := bc5 BK826.out; have hcz41_6 := bc6 BK826.out; have hfz41_0 := blk_frozen BK826.out 0; have hfz41_1 := blk_frozen BK826.out 1; have hfz41_2 := blk_frozen BK826.out 2; have hfz41_3 := blk_frozen BK826.out 3; have hfz41_4 := blk_frozen BK826.out 4; have hfz41_5 := blk_frozen BK826.out 5; have hfz41_6 := blk_frozen BK826.out 6) | ((with_reducible refine gate_dst (N := 5) rfl ?_); (try (refine gate_guard (by rfl) ?_; dsimp only)); refine box_event ?hg (N := 5) ?hd (cs := #[.int .i64 0, .int .i64 0, .int .i64 0, .int .i64 0, .slice none 0 0, .slice none 0 0, .slice none 0 0]) (t := 115) ?hr ?_; (case hd => rfl); (case hg => rfl); (case hr => first | (go_simp; done) | (go_simp; rfl)); intro gb827 hg w42 hbox hb; have n0_ := Aside0.mk (blk_below (g := gb826) (o := .cells #[.int .i64 a1_0, .int .i64 a1_1, .int .i64 a1_2, .int .i64 a1_3, .slice A1_4 l1_4.length c1_4, .slice A1_5 l1_5.length c1_5, .slice A1_6 l1_6.length c1_6] 115 (0, 0)) (by (with_reducible repeat (first | refine blk_drewN ?_ _ | refine blk_drew ?_ | refine blk_alloc ?_ _)); exact BK826.out) hb); have n1_ := Aside0.mk (below_step (by repeat (first | (with_reducible first | exact HB.out | apply below_alloc | apply pw_below_drewN | apply below_drew1 | refine below_set ?_ GE826.out) | exact HB.out)) hb); have n2_ := Aside0.mk (hbox); have n3_ := Aside0.mk ((by rw [hg]; exact (below_size (by repeat (first | (with_reducible first | exact HB.out | apply below_alloc | apply pw_below_drewN | apply below_drew1 | refine below_set ?_ GE826.out) | exact HB.out))) : w.heap.size ≤ gb827)); have n4_ := Aside0.mk ((by rw [hg]; exact (below_size (by repeat (first | (with_reducible first | exact HB.out | apply below_alloc | apply pw_below_drewN | apply below_drew1 | refine below_set ?_ GE826.out) | exact HB.out))) : w.heap.size ≤ gb827)); have n5_ := Aside0.mk ((by rw [hg]; exact Nat.ne_of_lt (blk_lt (g := gb826) (o := .cells #[.int .i64 a1_0, .int .i64 a1_1, .int .i64 a1_2, .int .i64 a1_3, .slice A1_4 l1_4.length c1_4, .slice A1_5 l1_5.length c1_5, .slice A1_6 l1_6.length c1_6] 115 (0, 0)) (by (with_reducible repeat (first | refine blk_drewN ?_ _ | refine blk_drew ?_ | refine blk_alloc ?_ _)); exact BK826.out)) : gb826 ≠ gb827)); have n6_ := Aside0.mk ((by rw [hg]; exact Nat.ne_of_gt (blk_lt (g := gb826) (o := .cells #[.int .i64 a1_0, .int .i64 a1_1, .int .i64 a1_2, .int .i64 a1_3, .slice A1_4 l1_4.length c1_4, .slice A1_5 l1_5.length c1_5, .slice A1_6 l1_6.length c1_6] 115 (0, 0)) (by (with_reducible repeat (first | refine blk_drewN ?_ _ | refine blk_drew ?_ | refine blk_alloc ?_ _)); exact BK826.out)) : gb827 ≠ gb826)); clear BK826; clear HB; have BK826 := n0_; have HB := n1_; have BK827 := n2_; have GW827 := n3_; have GE827 := n4_; have NB826_827 := n5_; have NB827_826 := n6_; clear n0_ n1_ n2_ n3_ n4_ n5_ n6_; clear hb hbox hg; have hnb43 := NB827_826.out; have hnc43 := NB826_827.out; have hcz44_0 := bc0 BK827.out; have hcz44_1 := bc1 BK827.out; have hcz44_2 := bc2 BK827.out; have hcz44_3 := bc3 BK827.out; have hcz44_4 := bc4 BK827.out; have hcz44_5 := bc5 BK827.out; have hcz44_6 := bc6 BK827.out; have hfz44_0 := blk_frozen BK827.out 0; have hfz44_1 := blk_frozen BK827.out 1; have hfz44_2 := blk_frozen BK827.out 2; have hfz44_3 := blk_frozen BK827.out 3; have hfz44_4 := blk_frozen BK827.out 4; have hfz44_5 := blk_frozen BK827.out 5; have hfz44_6 := blk_frozen BK827.out 6; have hcz45_0 := bc0 BK826.out; have hcz45_1 := bc1 BK826.out; have hcz45_2 := bc2 BK826.out; have hcz45_3 := bc3 BK826.out; have hcz45_4 := bc4 BK826.out; have hcz45_5 := bc5 BK826.out; have hcz45_6 := bc6 BK826.out; have hfz45_0 := blk_frozen BK826.out 0; have hfz45_1 := blk_frozen BK826.out 1; have hfz45_2 := blk_frozen BK826.out 2; have hfz45_3 := blk_frozen BK826.out 3; have hfz45_4 := blk_frozen BK826.out 4; have hfz45_5 := blk_frozen BK826.out 5; have hfz45_6 := blk_frozen BK826.out 6))
   go_ret
   exact ⟨by first | rfl | (simp [errW_none, errW_some] <;> rfl) | (simp [*, errW_none, errW_some] <;> rfl), by repeat (first | (with_reducible first | exact HB.out | apply below_alloc | apply pw_below_drewN | apply below_drew1 | refine below_set ?_ GE826.out | refine below_set ?_ GE827.out) | exact HB.out)⟩
 ·rw [if_neg c3] at H
  have c3b0 : (a1_0 == 1) = false := beq_eq_false_iff_ne.mpr c3
  have c3b1 : (a1_0 != 1) = true := bne_iff_ne.mpr c3
  by_cases c46 : a1_0 = 2
  ·rw [if_pos c46] at H
   have c46b0 : (a1_0 == 2) = true := beq_iff_eq.mpr c46
   have c46b1 : (a1_0 != 2) = false := bne_eq_false_iff_eq.mpr c46
   clear c46
   by_cases c47 : a1_2 = 0
   ·rw [if_pos c47] at H
    have c47b0 : (a1_2 == 0) = true := beq_iff_eq.mpr c47
    have c47b1 : (a1_2 != 0) = false := bne_eq_false_iff_eq.mpr c47
    clear c47
    by_cases c48 : (l1_4.length : Int) = 0
    ·rw [if_pos c48] at H
     have c48b0 : ((l1_4.length : Int) == 0) = true := beq_iff_eq.mpr c48
     have c48b1 : ((l1_4.length : Int) != 0) = false := bne_eq_false_iff_eq.mpr c48
     clear c48
     replace H := Option.bind_eq_some_iff.mp H
     obtain ⟨t829, A490, H⟩ := H
     replace H : (if t829 = true then (if (l1_6.length : Int) = (l1_5.length : Int) then ((spec_l1All.f k l1_6 0 (l0.length : Int)).bind fun t830 => (if t830 = true then ((spec_l1In.f a1_1 0 1000).bind fun t831 => (if t831 = true then ((spec_l1In.f a1_3 0 (l0.length : Int)).bind fun t832 => (some t832)) else (some false))) else (some false))) else (some false)) else (some false)) = some r := H
     have A49 := Aside0.mk A490
     clear A490
     by_cases c50 : t829 = true
     ·subst c50
      have H1 : (if (l1_6.length : Int) = (l1_5.length : Int) then ((spec_l1All.f k l1_6 0 (l0.length : Int)).bind fun t830 => (if t830 = true then ((spec_l1In.f a1_1 0 1000).bind fun t831 => (if t831 = true then ((spec_l1In.f a1_3 0 (l0.length : Int)).bind fun t832 => (some t832)) else (some false))) else (some false))) else (some false)) = some r := by rw [if_pos rfl] at H; exact H
      clear H
      have H := H1
      clear H1
      by_cases c51 : (l1_6.length : Int) = (l1_5.length : Int)
      ·rw [if_pos c51] at H
       have c51b0 : ((l1_6.length : Int) == (l1_5.length : Int)) = true := beq_iff_eq.mpr c51
       have c51b1 : ((l1_6.length : Int) != (l1_5.length : Int)) = false := bne_eq_false_iff_eq.mpr c51
       have c51b2 : (l1_6.length == l1_5.length) = true := by first | simpa using c51 | (simp at c51 ⊢; omega)
       clear c51
       replace H := Option.bind_eq_some_iff.mp H
       obtain ⟨t830, A520, H⟩ := H
       replace H : (if t830 = true then ((spec_l1In.f a1_1 0 1000).bind fun t831 => (if t831 = true then ((spec_l1In.f a1_3 0 (l0.length : Int)).bind fun t832 => (some t832)) else (some false))) else (some false)) = some r := H
       have A52 := Aside0.mk A520
       clear A520
       by_cases c53 : t830 = true
       ·subst c53
        have H1 : ((spec_l1In.f a1_1 0 1000).bind fun t831 => (if t831 = true then ((spec_l1In.f a1_3 0 (l0.length : Int)).bind fun t832 => (some t832)) else (some false))) = some r := by rw [if_pos rfl] at H; exact H
        clear H
        have H := H1
        clear H1
        replace H := Option.bind_eq_some_iff.mp H
        obtain ⟨t831, A540, H⟩ := H
        replace H : (if t831 = true then ((spec_l1In.f a1_3 0 (l0.length : Int)).bind fun t832 => (some t832)) else (some false)) = some r := H
        have A54 := Aside0.mk A540
        clear A540
        by_cases c55 : t831 = true
        ·subst c55
         have H1 : ((spec_l1In.f a1_3 0 (l0.length : Int)).bind fun t832 => (some t832)) = some r := by rw [if_pos rfl] at H; exact H
         clear H
         have H := H1
         clear H1
         replace H := Option.bind_eq_some_iff.mp H
         obtain ⟨t832, A560, H⟩ := H
         replace H : (some t832) = some r := H
         have A56 := Aside0.mk A560
         clear A560
         obtain rfl := Option.some.inj H
         go_enter Try.func84, Try.ntmps84
         go_wp2_with (first | ((with_reducible refine gate_dst (N := 3) rfl ?_); (try (refine gate_guard (by rfl) ?_; dsimp only)); refine box_event ?hg (N := 3) ?hd (cs := #[.int .i64 a1_0, .int .i64 a1_1, .int .i64 a1_2, .int .i64 a1_3, .slice A1_4 l1_4.length c1_4, .slice A1_5 l1_5.length c1_5, .slice A1_6 l1_6.length c1_6]) (t := 115) ?hr ?_; (case hd => rfl); (case hg => rfl); (case hr => first | (go_simp; done) | (go_simp; rfl)); intro gb826 hg w57 hbox hb; have n0_ := Aside0.mk (below_step (by repeat (first | (with_reducible first | exact HB.out | apply below_alloc | apply pw_below_drewN | apply below_drew1) | exact HB.out)) hb); have n1_ := Aside0.mk (hbox); have n2_ := Aside0.mk ((by rw [hg]; exact (below_size (by repeat (first | (with_reducible first | exact HB.out | apply below_alloc | apply pw_below_drewN | apply below_drew1) | exact HB.out))) : w.heap.size ≤ gb826)); have n3_ := Aside0.mk ((by rw [hg]; exact (below_size (by repeat (first | (with_reducible first | exact HB.out | apply below_alloc | apply pw_below_drewN | apply below_drew1) | exact HB.out))) : w.heap.size ≤ gb826)); clear HB; have HB := n0_; have BK826 := n1_; have GW826 := n2_; have GE826 := n3_; clear n0_ n1_ n2_ n3_; clear hb hbox hg; have hcz58_0 := bc0 BK826.out; have hcz58_1 := bc1 BK826.out; have hcz58_2 := bc2 BK826.out; have hcz58_3 := bc3 BK826.out; have hcz58_4 := bc4 BK826.out; have hcz58_5 := bc5 BK826.out; have hcz58_6 := bc6 BK826.out; have hfz58_0 := blk_frozen BK826.out 0; have hfz58_1 := blk_frozen BK826.out 1; have hfz58_2 := blk_frozen BK826.out 2; have hfz58_3 := blk_frozen BK826.out 3; have hfz58_4 := blk_frozen BK826.out 4; have hfz58_5 := blk_frozen BK826.out 5; have hfz58_6 := blk_frozen BK826.out 6) | ((with_reducible refine gate_dst (N := 5) rfl ?_); (try (refine gate_guard (by rfl) ?_; dsimp only)); refine box_event ?hg (N := 5) ?hd (cs := #[.int .i64 0, .int .i64 0, .int .i64 0, .int .i64 0, .slice none 0 0, .slice none 0 0, .slice none 0 0]) (t := 115) ?hr ?_; (case hd => rfl); (case hg => rfl); (case hr => first | (go_simp; done) | (go_simp; rfl)); intro gb827 hg w59 hbox hb; have n0_ := Aside0.mk (blk_below (g := gb826) (o := .cells #[.int .i64 a1_0, .int .i64 a1_1, .int .i64 a1_2, .int .i64 a1_3, .slice A1_4 l1_4.length c1_4, .slice A1_5 l1_5.length c1_5, .slice A1_6 l1_6.length c1_6] 115 (0, 0)) (by (with_reducible repeat (first | refine blk_drewN ?_ _ | refine blk_drew ?_ | refine blk_alloc ?_ _)); exact BK826.out) hb); have n1_ := Aside0.mk (below_step (by repeat (first | (with_reducible first | exact HB.out | apply below_alloc | apply pw_below_drewN | apply below_drew1 | refine below_set ?_ GE826.out) | exact HB.out)) hb); have n2_ := Aside0.mk (hbox); have n3_ := Aside0.mk ((by rw [hg]; exact (below_size (by repeat (first | (with_reducible first | exact HB.out | apply below_alloc | apply pw_below_drewN | apply below_drew1 | refine below_set ?_ GE826.out) | exact HB.out))) : w.heap.size ≤ gb827)); have n4_ := Aside0.mk ((by rw [hg]; exact (below_size (by repeat (first | (with_reducible first | exact HB.out | apply below_alloc | apply pw_below_drewN | apply below_drew1 | refine below_set ?_ GE826.out) | exact HB.out))) : w.heap.size ≤ gb827)); have n5_ := Aside0.mk ((by rw [hg]; exact Nat.ne_of_lt (blk_lt (g := gb826) (o := .cells #[.int .i64 a1_0, .int .i64 a1_1, .int .i64 a1_2, .int .i64 a1_3, .slice A1_4 l1_4.length c1_4, .slice A1_5 l1_5.length c1_5, .slice A1_6 l1_6.length c1_6] 115 (0, 0)) (by (with_reducible repeat (first | refine blk_drewN ?_ _ | refine blk_drew ?_ | refine blk_alloc ?_ _)); exact BK826.out)) : gb826 ≠ gb827)); have n6_ := Aside0.mk ((by rw [hg]; exact Nat.ne_of_gt (blk_lt (g := gb826) (o := .cells #[.int .i64 a1_0, .int .i64 a1_1, .int .i64 a1_2, .int .i64 a1_3, .slice A1_4 l1_4.length c1_4, .slice A1_5 l1_5.length c1_5, .slice A1_6 l1_6.length c1_6] 115 (0, 0)) (by (with_reducible repeat (first | refine blk_drewN ?_ _ | refine blk_drew ?_ | refine blk_alloc ?_ _)); exact BK826.out)) : gb827 ≠ gb826)); clear BK826; clear HB; have BK826 := n0_; have HB := n1_; have BK827 := n2_; have GW827 := n3_; have GE827 := n4_; have NB826_827 := n5_; have NB827_826 := n6_; clear n0_ n1_ n2_ n3_ n4_ n5_ n6_; clear hb hbox hg; have hnb60 := NB827_826.out; have hnc60 := NB826_827.out; have hcz61_0 := bc0 BK827.out; have hcz61_1 := bc1 BK827.out; have hcz61_2 := bc2 BK827.out; have hcz61_3 := bc3 BK827.out; have hcz61_4 := bc4 BK827.out; have hcz61_5 := bc5 BK827.out; have hcz61_6 := bc6 BK827.out; have hfz61_0 := blk_frozen BK827.out 0; have hfz61_1 := blk_frozen BK827.out 1; have hfz61_2 := blk_frozen BK827.out 2; have hfz61_3 := blk_frozen BK827.out 3; have hfz61_4 := blk_frozen BK827.out 4; have hfz61_5 := blk_frozen BK827.out 5; have hfz61_6 := blk_frozen BK827.out 6; have hcz62_0 := bc0 BK826.out; have hcz62_1 := bc1 BK826.out; have hcz62_2 := bc2 BK826.out; have hcz62_3 := bc3 BK826.out; have hcz62_4 := bc4 BK826.out; have hcz62_5 := bc5 BK826.out; have hcz62_6 := bc6 BK826.out; have hfz62_0 := blk_frozen BK826.out 0; have hfz62_1 := blk_frozen BK826.out 1; have hfz62_2 := blk_frozen BK826.out 2; have hfz62_3 := blk_frozen BK826.out 3; have hfz62_4 := blk_frozen BK826.out 4; have hfz62_5 := blk_frozen BK826.out 5; have hfz62_6 := blk_frozen BK826.out 6) | (go_at_call 129; (with_reducible refine (spec_l10Clauses.calls k _ _ l1_5 true _ ?side1 ?side2 A49.out).mono ?_); (case side1 => exact Kd.C_below HR1_5.out (by repeat (first | (with_reducible first | exact HB.out | apply below_alloc | apply pw_below_drewN | apply below_drew1 | refine below_set ?_ GE826.out | refine below_set ?_ GE827.out) | exact HB.out))); (case side2 => exact HC1_5.out); rintro e w63 ⟨rfl, hb⟩; have n0_ := Aside0.mk (blk_below (g := gb826) (o := .cells #[.int .i64 a1_0, .int .i64 a1_1, .int .i64 a1_2, .int .i64 a1_3, .slice A1_4 l1_4.length c1_4, .slice A1_5 l1_5.length c1_5, .slice A1_6 l1_6.length c1_6] 115 (0, 0)) (by (iterate 7 ((with_reducible repeat (first | refine blk_drewN ?_ _ | refine blk_drew ?_ | refine blk_alloc ?_ _)); refine blk_far ?_ NB826_827.out _)); (with_reducible repeat (first | refine blk_drewN ?_ _ | refine blk_drew ?_ | refine blk_alloc ?_ _)); exact BK826.out) hb); have n1_ := Aside0.mk (blk_below (g := gb827) (o := .cells #[.int .i64 a1_0, .int .i64 0, .int .i64 0, .int .i64 0, .slice none 0 0, .slice none 0 0, .slice none 0 0] 115 (0, 0)) (by (with_reducible repeat (first | refine blk_drewN ?_ _ | refine blk_drew ?_ | refine blk_alloc ?_ _)); refine blk_put (cs := #[.int .i64 a1_0, .int .i64 0, .int .i64 0, .int .i64 0, .slice none 0 0, .slice none 0 0, .slice none 0 0]) ?_ 6 _ rfl; (with_reducible repeat (first | refine blk_drewN ?_ _ | refine blk_drew ?_ | refine blk_alloc ?_ _)); refine blk_put (cs := #[.int .i64 a1_0, .int .i64 0, .int .i64 0, .int .i64 0, .slice none 0 0, .slice none 0 0, .slice none 0 0]) ?_ 5 _ rfl; (with_reducible repeat (first | refine blk_drewN ?_ _ | refine blk_drew ?_ | refine blk_alloc ?_ _)); refine blk_put (cs := #[.int .i64 a1_0, .int .i64 0, .int .i64 0, .int .i64 0, .slice none 0 0, .slice none 0 0, .slice none 0 0]) ?_ 4 _ rfl; (with_reducible repeat (first | refine blk_drewN ?_ _ | refine blk_drew ?_ | refine blk_alloc ?_ _)); refine blk_put (cs := #[.int .i64 a1_0, .int .i64 0, .int .i64 0, .int .i64 0, .slice none 0 0, .slice none 0 0, .slice none 0 0]) ?_ 3 _ rfl; (with_reducible repeat (first | refine blk_drewN ?_ _ | refine blk_drew ?_ | refine blk_alloc ?_ _)); refine blk_put (cs := #[.int .i64 a1_0, .int .i64 0, .int .i64 0, .int .i64 0, .slice none 0 0, .slice none 0 0, .slice none 0 0]) ?_ 2 _ rfl; (with_reducible repeat (first | refine blk_drewN ?_ _ | refine blk_drew ?_ | refine blk_alloc ?_ _)); refine blk_put (cs := #[.int .i64 a1_0, .int .i64 0, .int .i64 0, .int .i64 0, .slice none 0 0, .slice none 0 0, .slice none 0 0]) ?_ 1 _ rfl; (with_reducible repeat (first | refine blk_drewN ?_ _ | refine blk_drew ?_ | refine blk_alloc ?_ _)); refine blk_put (cs := #[.int .i64 0, .int .i64 0, .int .i64 0, .int .i64 0, .slice none 0 0, .slice none 0 0, .slice none 0 0]) ?_ 0 _ rfl; (with_reducible repeat (first | refine blk_drewN ?_ _ | refine blk_drew ?_ | refine blk_alloc ?_ _)); exact BK827.out) hb); have n2_ := Aside0.mk (below_step (by repeat (first | (with_reducible first | exact HB.out | apply below_alloc | apply pw_below_drewN | apply below_drew1 | refine below_set ?_ GE826.out | refine below_set ?_ GE827.out) | exact HB.out)) hb); clear BK826; clear BK827; clear HB; have BK826 := n0_; have BK827 := n1_; have HB := n2_; clear n0_ n1_ n2_; (try clear hb); (try clear hb2); (try clear hk); (try clear hi); have hcz64_0 := bc0 BK826.out; have hcz64_1 := bc1 BK826.out; have hcz64_2 := bc2 BK826.out; have hcz64_3 := bc3 BK826.out; have hcz64_4 := bc4 BK826.out; have hcz64_5 := bc5 BK826.out; have hcz64_6 := bc6 BK826.out; have hfz64_0 := blk_frozen BK826.out 0; have hfz64_1 := blk_frozen BK826.out 1; have hfz64_2 := blk_frozen BK826.out 2; have hfz64_3 := blk_frozen BK826.out 3; have hfz64_4 := blk_frozen BK826.out 4; have hfz64_5 := blk_frozen BK826.out 5; have hfz64_6 := blk_frozen BK826.out 6) | (go_at_call 130; (with_reducible refine (spec_l1All.calls k _ _ l1_6 0 (l0.length : Int) true _ ?side1 ?side2 A52.out).mono ?_); (case side1 => repeat (first | exact (Kd.C_below HR1_6.out HB.out) | (with_reducible refine Kd.C_alloc ?_ _) | (with_reducible refine Kd.C_drewN ?_ _) | (with_reducible refine Kd.C_drew ?_))); (case side2 => exact HC1_6.out); rintro e w' ⟨rfl, ⟨nd, rfl⟩⟩) | (go_at_call 66; (with_reducible refine (spec_l1In.calls a1_1 0 1000 true _ A54.out).mono ?_); rintro e w' ⟨rfl, ⟨nd, rfl⟩⟩) | (go_at_call 66; (with_reducible refine (spec_l1In.calls a1_3 0 (l0.length : Int) t832 _ A56.out).mono ?_); rintro e w' ⟨rfl, ⟨nd, rfl⟩⟩))
         go_ret
         exact ⟨by first | rfl | (simp [errW_none, errW_some] <;> rfl) | (simp [*, errW_none, errW_some] <;> rfl), by repeat (first | (with_reducible first | exact HB.out | apply below_alloc | apply pw_below_drewN | apply below_drew1 | refine below_set ?_ GE826.out | refine below_set ?_ GE827.out) | exact HB.out)⟩
        ·replace c55 := Bool.eq_false_iff.mpr c55
         subst c55
         have H1 : (some false) = some r := by rw [if_neg (show ¬ (false = true) by decide)] at H; exact H
         clear H
         have H := H1
         clear H1
         obtain rfl := Option.some.inj H
         go_enter Try.func84, Try.ntmps84
         go_wp2_with (first | ((with_reducible refine gate_dst (N := 3) rfl ?_); (try (refine gate_guard (by rfl) ?_; dsimp only)); refine box_event ?hg (N := 3) ?hd (cs := #[.int .i64 a1_0, .int .i64 a1_1, .int .i64 a1_2, .int .i64 a1_3, .slice A1_4 l1_4.length c1_4, .slice A1_5 l1_5.length c1_5, .slice A1_6 l1_6.length c1_6]) (t := 115) ?hr ?_; (case hd => rfl); (case hg => rfl); (case hr => first | (go_simp; done) | (go_simp; rfl)); intro gb826 hg w65 hbox hb; have n0_ := Aside0.mk (below_step (by repeat (first | (with_reducible first | exact HB.out | apply below_alloc | apply pw_below_drewN | apply below_drew1) | exact HB.out)) hb); have n1_ := Aside0.mk (hbox); have n2_ := Aside0.mk ((by rw [hg]; exact (below_size (by repeat (first | (with_reducible first | exact HB.out | apply below_alloc | apply pw_below_drewN | apply below_drew1) | exact HB.out))) : w.heap.size ≤ gb826)); have n3_ := Aside0.mk ((by rw [hg]; exact (below_size (by repeat (first | (with_reducible first | exact HB.out | apply below_alloc | apply pw_below_drewN | apply below_drew1) | exact HB.out))) : w.heap.size ≤ gb826)); clear HB; have HB := n0_; have BK826 := n1_; have GW826 := n2_; have GE826 := n3_; clear n0_ n1_ n2_ n3_; clear hb hbox hg; have hcz66_0 := bc0 BK826.out; have hcz66_1 := bc1 BK826.out; have hcz66_2 := bc2 BK826.out; have hcz66_3 := bc3 BK826.out; have hcz66_4 := bc4 BK826.out; have hcz66_5 := bc5 BK826.out; have hcz66_6 := bc6 BK826.out; have hfz66_0 := blk_frozen BK826.out 0; have hfz66_1 := blk_frozen BK826.out 1; have hfz66_2 := blk_frozen BK826.out 2; have hfz66_3 := blk_frozen BK826.out 3; have hfz66_4 := blk_frozen BK826.out 4; have hfz66_5 := blk_frozen BK826.out 5; have hfz66_6 := blk_frozen BK826.out 6) | ((with_reducible refine gate_dst (N := 5) rfl ?_); (try (refine gate_guard (by rfl) ?_; dsimp only)); refine box_event ?hg (N := 5) ?hd (cs := #[.int .i64 0, .int .i64 0, .int .i64 0, .int .i64 0, .slice none 0 0, .slice none 0 0, .slice none 0 0]) (t := 115) ?hr ?_; (case hd => rfl); (case hg => rfl); (case hr => first | (go_simp; done) | (go_simp; rfl)); intro gb827 hg w67 hbox hb; have n0_ := Aside0.mk (blk_below (g := gb826) (o := .cells #[.int .i64 a1_0, .int .i64 a1_1, .int .i64 a1_2, .int .i64 a1_3, .slice A1_4 l1_4.length c1_4, .slice A1_5 l1_5.length c1_5, .slice A1_6 l1_6.length c1_6] 115 (0, 0)) (by (with_reducible repeat (first | refine blk_drewN ?_ _ | refine blk_drew ?_ | refine blk_alloc ?_ _)); exact BK826.out) hb); have n1_ := Aside0.mk (below_step (by repeat (first | (with_reducible first | exact HB.out | apply below_alloc | apply pw_below_drewN | apply below_drew1 | refine below_set ?_ GE826.out) | exact HB.out)) hb); have n2_ := Aside0.mk (hbox); have n3_ := Aside0.mk ((by rw [hg]; exact (below_size (by repeat (first | (with_reducible first | exact HB.out | apply below_alloc | apply pw_below_drewN | apply below_drew1 | refine below_set ?_ GE826.out) | exact HB.out))) : w.heap.size ≤ gb827)); have n4_ := Aside0.mk ((by rw [hg]; exact (below_size (by repeat (first | (with_reducible first | exact HB.out | apply below_alloc | apply pw_below_drewN | apply below_drew1 | refine below_set ?_ GE826.out) | exact HB.out))) : w.heap.size ≤ gb827)); have n5_ := Aside0.mk ((by rw [hg]; exact Nat.ne_of_lt (blk_lt (g := gb826) (o := .cells #[.int .i64 a1_0, .int .i64 a1_1, .int .i64 a1_2, .int .i64 a1_3, .slice A1_4 l1_4.length c1_4, .slice A1_5 l1_5.length c1_5, .slice A1_6 l1_6.length c1_6] 115 (0, 0)) (by (with_reducible repeat (first | refine blk_drewN ?_ _ | refine blk_drew ?_ | refine blk_alloc ?_ _)); exact BK826.out)) : gb826 ≠ gb827)); have n6_ := Aside0.mk ((by rw [hg]; exact Nat.ne_of_gt (blk_lt (g := gb826) (o := .cells #[.int .i64 a1_0, .int .i64 a1_1, .int .i64 a1_2, .int .i64 a1_3, .slice A1_4 l1_4.length c1_4, .slice A1_5 l1_5.length c1_5, .slice A1_6 l1_6.length c1_6] 115 (0, 0)) (by (with_reducible repeat (first | refine blk_drewN ?_ _ | refine blk_drew ?_ | refine blk_alloc ?_ _)); exact BK826.out)) : gb827 ≠ gb826)); clear BK826; clear HB; have BK826 := n0_; have HB := n1_; have BK827 := n2_; have GW827 := n3_; have GE827 := n4_; have NB826_827 := n5_; have NB827_826 := n6_; clear n0_ n1_ n2_ n3_ n4_ n5_ n6_; clear hb hbox hg; have hnb68 := NB827_826.out; have hnc68 := NB826_827.out; have hcz69_0 := bc0 BK827.out; have hcz69_1 := bc1 BK827.out; have hcz69_2 := bc2 BK827.out; have hcz69_3 := bc3 BK827.out; have hcz69_4 := bc4 BK827.out; have hcz69_5 := bc5 BK827.out; have hcz69_6 := bc6 BK827.out; have hfz69_0 := blk_frozen BK827.out 0; have hfz69_1 := blk_frozen BK827.out 1; have hfz69_2 := blk_frozen BK827.out 2; have hfz69_3 := blk_frozen BK827.out 3; have hfz69_4 := blk_frozen BK827.out 4; have hfz69_5 := blk_frozen BK827.out 5; have hfz69_6 := blk_frozen BK827.out 6; have hcz70_0 := bc0 BK826.out; have hcz70_1 := bc1 BK826.out; have hcz70_2 := bc2 BK826.out; have hcz70_3 := bc3 BK826.out; have hcz70_4 := bc4 BK826.out; have hcz70_5 := bc5 BK826.out; have hcz70_6 := bc6 BK826.out; have hfz70_0 := blk_frozen BK826.out 0; have hfz70_1 := blk_frozen BK826.out 1; have hfz70_2 := blk_frozen BK826.out 2; have hfz70_3 := blk_frozen BK826.out 3; have hfz70_4 := blk_frozen BK826.out 4; have hfz70_5 := blk_frozen BK826.out 5; have hfz70_6 := blk_frozen BK826.out 6) | (go_at_call 129; (with_reducible refine (spec_l10Clauses.calls k _ _ l1_5 true _ ?side1 ?side2 A49.out).mono ?_); (case side1 => exact Kd.C_below HR1_5.out (by repeat (first | (with_reducible first | exact HB.out | apply below_alloc | apply pw_below_drewN | apply below_drew1 | refine below_set ?_ GE826.out | refine below_set ?_ GE827.out) | exact HB.out))); (case side2 => exact HC1_5.out); rintro e w71 ⟨rfl, hb⟩; have n0_ := Aside0.mk (blk_below (g := gb826) (o := .cells #[.int .i64 a1_0, .int .i64 a1_1, .int .i64 a1_2, .int .i64 a1_3, .slice A1_4 l1_4.length c1_4, .slice A1_5 l1_5.length c1_5, .slice A1_6 l1_6.length c1_6] 115 (0, 0)) (by (iterate 7 ((with_reducible repeat (first | refine blk_drewN ?_ _ | refine blk_drew ?_ | refine blk_alloc ?_ _)); refine blk_far ?_ NB826_827.out _)); (with_reducible repeat (first | refine blk_drewN ?_ _ | refine blk_drew ?_ | refine blk_alloc ?_ _)); exact BK826.out) hb); have n1_ := Aside0.mk (blk_below (g := gb827) (o := .cells #[.int .i64 a1_0, .int .i64 0, .int .i64 0, .int .i64 0, .slice none 0 0, .slice none 0 0, .slice none 0 0] 115 (0, 0)) (by (with_reducible repeat (first | refine blk_drewN ?_ _ | refine blk_drew ?_ | refine blk_alloc ?_ _)); refine blk_put (cs := #[.int .i64 a1_0, .int .i64 0, .int .i64 0, .int .i64 0, .slice none 0 0, .slice none 0 0, .slice none 0 0]) ?_ 6 _ rfl; (with_reducible repeat (first | refine blk_drewN ?_ _ | refine blk_drew ?_ | refine blk_alloc ?_ _)); refine blk_put (cs := #[.int .i64 a1_0, .int .i64 0, .int .i64 0, .int .i64 0, .slice none 0 0, .slice none 0 0, .slice none 0 0]) ?_ 5 _ rfl; (with_reducible repeat (first | refine blk_drewN ?_ _ | refine blk_drew ?_ | refine blk_alloc ?_ _)); refine blk_put (cs := #[.int .i64 a1_0, .int .i64 0, .int .i64 0, .int .i64 0, .slice none 0 0, .slice none 0 0, .slice none 0 0]) ?_ 4 _ rfl; (with_reducible repeat (first | refine blk_drewN ?_ _ | refine blk_drew ?_ | refine blk_alloc ?_ _)); refine blk_put (cs := #[.int .i64 a1_0, .int .i64 0, .int .i64 0, .int .i64 0, .slice none 0 0, .slice none 0 0, .slice none 0 0]) ?_ 3 _ rfl; (with_reducible repeat (first | refine blk_drewN ?_ _ | refine blk_drew ?_ | refine blk_alloc ?_ _)); refine blk_put (cs := #[.int .i64 a1_0, .int .i64 0, .int .i64 0, .int .i64 0, .slice none 0 0, .slice none 0 0, .slice none 0 0]) ?_ 2 _ rfl; (with_reducible repeat (first | refine blk_drewN ?_ _ | refine blk_drew ?_ | refine blk_alloc ?_ _)); refine blk_put (cs := #[.int .i64 a1_0, .int .i64 0, .int .i64 0, .int .i64 0, .slice none 0 0, .slice none 0 0, .slice none 0 0]) ?_ 1 _ rfl; (with_reducible repeat (first | refine blk_drewN ?_ _ | refine blk_drew ?_ | refine blk_alloc ?_ _)); refine blk_put (cs := #[.int .i64 0, .int .i64 0, .int .i64 0, .int .i64 0, .slice none 0 0, .slice none 0 0, .slice none 0 0]) ?_ 0 _ rfl; (with_reducible repeat (first | refine blk_drewN ?_ _ | refine blk_drew ?_ | refine blk_alloc ?_ _)); exact BK827.out) hb); have n2_ := Aside0.mk (below_step (by repeat (first | (with_reducible first | exact HB.out | apply below_alloc | apply pw_below_drewN | apply below_drew1 | refine below_set ?_ GE826.out | refine below_set ?_ GE827.out) | exact HB.out)) hb); clear BK826; clear BK827; clear HB; have BK826 := n0_; have BK827 := n1_; have HB := n2_; clear n0_ n1_ n2_; (try clear hb); (try clear hb2); (try clear hk); (try clear hi); have hcz72_0 := bc0 BK826.out; have hcz72_1 := bc1 BK826.out; have hcz72_2 := bc2 BK826.out; have hcz72_3 := bc3 BK826.out; have hcz72_4 := bc4 BK826.out; have hcz72_5 := bc5 BK826.out; have hcz72_6 := bc6 BK826.out; have hfz72_0 := blk_frozen BK826.out 0; have hfz72_1 := blk_frozen BK826.out 1; have hfz72_2 := blk_frozen BK826.out 2; have hfz72_3 := blk_frozen BK826.out 3; have hfz72_4 := blk_frozen BK826.out 4; have hfz72_5 := blk_frozen BK826.out 5; have hfz72_6 := blk_frozen BK826.out 6) | (go_at_call 130; (with_reducible refine (spec_l1All.calls k _ _ l1_6 0 (l0.length : Int) true _ ?side1 ?side2 A52.out).mono ?_); (case side1 => repeat (first | exact (Kd.C_below HR1_6.out HB.out) | (with_reducible refine Kd.C_alloc ?_ _) | (with_reducible refine Kd.C_drewN ?_ _) | (with_reducible refine Kd.C_drew ?_))); (case side2 => exact HC1_6.out); rintro e w' ⟨rfl, ⟨nd, rfl⟩⟩) | (go_at_call 66; (with_reducible refine (spec_l1In.calls a1_1 0 1000 false _ A54.out).mono ?_); rintro e w' ⟨rfl, ⟨nd, rfl⟩⟩))
         go_ret
         exact ⟨by first | rfl | (simp [errW_none, errW_some] <;> rfl) | (simp [*, errW_none, errW_some] <;> rfl), by repeat (first | (with_reducible first | exact HB.out | apply below_alloc | apply pw_below_drewN | apply below_drew1 | refine below_set ?_ GE826.out | refine below_set ?_ GE827.out) | exact HB.out)⟩
       ·replace c53 := Bool.eq_false_iff.mpr c53
        subst c53
        have H1 : (some false) = some r := by rw [if_neg (show ¬ (false = true) by decide)] at H; exact H
        clear H
        have H := H1
        clear H1
        obtain rfl := Option.some.inj H
        go_enter Try.func84, Try.ntmps84
        go_wp2_with (first | ((with_reducible refine gate_dst (N := 3) rfl ?_); (try (refine gate_guard (by rfl) ?_; dsimp only)); refine box_event ?hg (N := 3) ?hd (cs := #[.int .i64 a1_0, .int .i64 a1_1, .int .i64 a1_2, .int .i64 a1_3, .slice A1_4 l1_4.length c1_4, .slice A1_5 l1_5.length c1_5, .slice A1_6 l1_6.length c1_6]) (t := 115) ?hr ?_; (case hd => rfl); (case hg => rfl); (case hr => first | (go_simp; done) | (go_simp; rfl)); intro gb826 hg w73 hbox hb; have n0_ := Aside0.mk (below_step (by repeat (first | (with_reducible first | exact HB.out | apply below_alloc | apply pw_below_drewN | apply below_drew1) | exact HB.out)) hb); have n1_ := Aside0.mk (hbox); have n2_ := Aside0.mk ((by rw [hg]; exact (below_size (by repeat (first | (with_reducible first | exact HB.out | apply below_alloc | apply pw_below_drewN | apply below_drew1) | exact HB.out))) : w.heap.size ≤ gb826)); have n3_ := Aside0.mk ((by rw [hg]; exact (below_size (by repeat (first | (with_reducible first | exact HB.out | apply below_alloc | apply pw_below_drewN | apply below_drew1) | exact HB.out))) : w.heap.size ≤ gb826)); clear HB; have HB := n0_; have BK826 := n1_; have GW826 := n2_; have GE826 := n3_; clear n0_ n1_ n2_ n3_; clear hb hbox hg; have hcz74_0 := bc0 BK826.out; have hcz74_1 := bc1 BK826.out; have hcz74_2 := bc2 BK826.out; have hcz74_3 := bc3 BK826.out; have hcz74_4 := bc4 BK826.out; have hcz74_5 := bc5 BK826.out; have hcz74_6 := bc6 BK826.out; have hfz74_0 := blk_frozen BK826.out 0; have hfz74_1 := blk_frozen BK826.out 1; have hfz74_2 := blk_frozen BK826.out 2; have hfz74_3 := blk_frozen BK826.out 3; have hfz74_4 := blk_frozen BK826.out 4; have hfz74_5 := blk_frozen BK826.out 5; have hfz74_6 := blk_frozen BK826.out 6) | ((with_reducible refine gate_dst (N := 5) rfl ?_); (try (refine gate_guard (by rfl) ?_; dsimp only)); refine box_event ?hg (N := 5) ?hd (cs := #[.int .i64 0, .int .i64 0, .int .i64 0, .int .i64 0, .slice none 0 0, .slice none 0 0, .slice none 0 0]) (t := 115) ?hr ?_; (case hd => rfl); (case hg => rfl); (case hr => first | (go_simp; done) | (go_simp; rfl)); intro gb827 hg w75 hbox hb; have n0_ := Aside0.mk (blk_below (g := gb826) (o := .cells #[.int .i64 a1_0, .int .i64 a1_1, .int .i64 a1_2, .int .i64 a1_3, .slice A1_4 l1_4.length c1_4, .slice A1_5 l1_5.length c1_5, .slice A1_6 l1_6.length c1_6] 115 (0, 0)) (by (with_reducible repeat (first | refine blk_drewN ?_ _ | refine blk_drew ?_ | refine blk_alloc ?_ _)); exact BK826.out) hb); have n1_ := Aside0.mk (below_step (by repeat (first | (with_reducible first | exact HB.out | apply below_alloc | apply pw_below_drewN | apply below_drew1 | refine below_set ?_ GE826.out) | exact HB.out)) hb); have n2_ := Aside0.mk (hbox); have n3_ := Aside0.mk ((by rw [hg]; exact (below_size (by repeat (first | (with_reducible first | exact HB.out | apply below_alloc | apply pw_below_drewN | apply below_drew1 | refine below_set ?_ GE826.out) | exact HB.out))) : w.heap.size ≤ gb827)); have n4_ := Aside0.mk ((by rw [hg]; exact (below_size (by repeat (first | (with_reducible first | exact HB.out | apply below_alloc | apply pw_below_drewN | apply below_drew1 | refine below_set ?_ GE826.out) | exact HB.out))) : w.heap.size ≤ gb827)); have n5_ := Aside0.mk ((by rw [hg]; exact Nat.ne_of_lt (blk_lt (g := gb826) (o := .cells #[.int .i64 a1_0, .int .i64 a1_1, .int .i64 a1_2, .int .i64 a1_3, .slice A1_4 l1_4.length c1_4, .slice A1_5 l1_5.length c1_5, .slice A1_6 l1_6.length c1_6] 115 (0, 0)) (by (with_reducible repeat (first | refine blk_drewN ?_ _ | refine blk_drew ?_ | refine blk_alloc ?_ _)); exact BK826.out)) : gb826 ≠ gb827)); have n6_ := Aside0.mk ((by rw [hg]; exact Nat.ne_of_gt (blk_lt (g := gb826) (o := .cells #[.int .i64 a1_0, .int .i64 a1_1, .int .i64 a1_2, .int .i64 a1_3, .slice A1_4 l1_4.length c1_4, .slice A1_5 l1_5.length c1_5, .slice A1_6 l1_6.length c1_6] 115 (0, 0)) (by (with_reducible repeat (first | refine blk_drewN ?_ _ | refine blk_drew ?_ | refine blk_alloc ?_ _)); exact BK826.out)) : gb827 ≠ gb826)); clear BK826; clear HB; have BK826 := n0_; have HB := n1_; have BK827 := n2_; have GW827 := n3_; have GE827 := n4_; have NB826_827 := n5_; have NB827_826 := n6_; clear n0_ n1_ n2_ n3_ n4_ n5_ n6_; clear hb hbox hg; have hnb76 := NB827_826.out; have hnc76 := NB826_827.out; have hcz77_0 := bc0 BK827.out; have hcz77_1 := bc1 BK827.out; have hcz77_2 := bc2 BK827.out; have hcz77_3 := bc3 BK827.out; have hcz77_4 := bc4 BK827.out; have hcz77_5 := bc5 BK827.out; have hcz77_6 := bc6 BK827.out; have hfz77_0 := blk_frozen BK827.out 0; have hfz77_1 := blk_frozen BK827.out 1; have hfz77_2 := blk_frozen BK827.out 2; have hfz77_3 := blk_frozen BK827.out 3; have hfz77_4 := blk_frozen BK827.out 4; have hfz77_5 := blk_frozen BK827.out 5; have hfz77_6 := blk_frozen BK827.out 6; have hcz78_0 := bc0 BK826.out; have hcz78_1 := bc1 BK826.out; have hcz78_2 := bc2 BK826.out; have hcz78_3 := bc3 BK826.out; have hcz78_4 := bc4 BK826.out; have hcz78_5 := bc5 BK826.out; have hcz78_6 := bc6 BK826.out; have hfz78_0 := blk_frozen BK826.out 0; have hfz78_1 := blk_frozen BK826.out 1; have hfz78_2 := blk_frozen BK826.out 2; have hfz78_3 := blk_frozen BK826.out 3; have hfz78_4 := blk_frozen BK826.out 4; have hfz78_5 := blk_frozen BK826.out 5; have hfz78_6 := blk_frozen BK826.out 6) | (go_at_call 129; (with_reducible refine (spec_l10Clauses.calls k _ _ l1_5 true _ ?side1 ?side2 A49.out).mono ?_); (case side1 => exact Kd.C_below HR1_5.out (by repeat (first | (with_reducible first | exact HB.out | apply below_alloc | apply pw_below_drewN | apply below_drew1 | refine below_set ?_ GE826.out | refine below_set ?_ GE827.out) | exact HB.out))); (case side2 => exact HC1_5.out); rintro e w79 ⟨rfl, hb⟩; have n0_ := Aside0.mk (blk_below (g := gb826) (o := .cells #[.int .i64 a1_0, .int .i64 a1_1, .int .i64 a1_2, .int .i64 a1_3, .slice A1_4 l1_4.length c1_4, .slice A1_5 l1_5.length c1_5, .slice A1_6 l1_6.length c1_6] 115 (0, 0)) (by (iterate 7 ((with_reducible repeat (first | refine blk_drewN ?_ _ | refine blk_drew ?_ | refine blk_alloc ?_ _)); refine blk_far ?_ NB826_827.out _)); (with_reducible repeat (first | refine blk_drewN ?_ _ | refine blk_drew ?_ | refine blk_alloc ?_ _)); exact BK826.out) hb); have n1_ := Aside0.mk (blk_below (g := gb827) (o := .cells #[.int .i64 a1_0, .int .i64 0, .int .i64 0, .int .i64 0, .slice none 0 0, .slice none 0 0, .slice none 0 0] 115 (0, 0)) (by (with_reducible repeat (first | refine blk_drewN ?_ _ | refine blk_drew ?_ | refine blk_alloc ?_ _)); refine blk_put (cs := #[.int .i64 a1_0, .int .i64 0, .int .i64 0, .int .i64 0, .slice none 0 0, .slice none 0 0, .slice none 0 0]) ?_ 6 _ rfl; (with_reducible repeat (first | refine blk_drewN ?_ _ | refine blk_drew ?_ | refine blk_alloc ?_ _)); refine blk_put (cs := #[.int .i64 a1_0, .int .i64 0, .int .i64 0, .int .i64 0, .slice none 0 0, .slice none 0 0, .slice none 0 0]) ?_ 5 _ rfl; (with_reducible repeat (first | refine blk_drewN ?_ _ | refine blk_drew ?_ | refine blk_alloc ?_ _)); refine blk_put (cs := #[.int .i64 a1_0, .int .i64 0, .int .i64 0, .int .i64 0, .slice none 0 0, .slice none 0 0, .slice none 0 0]) ?_ 4 _ rfl; (with_reducible repeat (first | refine blk_drewN ?_ _ | refine blk_drew ?_ | refine blk_alloc ?_ _)); refine blk_put (cs := #[.int .i64 a1_0, .int .i64 0, .int .i64 0, .int .i64 0, .slice none 0 0, .slice none 0 0, .slice none 0 0]) ?_ 3 _ rfl; (with_reducible repeat (first | refine blk_drewN ?_ _ | refine blk_drew ?_ | refine blk_alloc ?_ _)); refine blk_put (cs := #[.int .i64 a1_0, .int .i64 0, .int .i64 0, .int .i64 0, .slice none 0 0, .slice none 0 0, .slice none 0 0]) ?_ 2 _ rfl; (with_reducible repeat (first | refine blk_drewN ?_ _ | refine blk_drew ?_ | refine blk_alloc ?_ _)); refine blk_put (cs := #[.int .i64 a1_0, .int .i64 0, .int .i64 0, .int .i64 0, .slice none 0 0, .slice none 0 0, .slice none 0 0]) ?_ 1 _ rfl; (with_reducible repeat (first | refine blk_drewN ?_ _ | refine blk_drew ?_ | refine blk_alloc ?_ _)); refine blk_put (cs := #[.int .i64 0, .int .i64 0, .int .i64 0, .int .i64 0, .slice none 0 0, .slice none 0 0, .slice none 0 0]) ?_ 0 _ rfl; (with_reducible repeat (first | refine blk_drewN ?_ _ | refine blk_drew ?_ | refine blk_alloc ?_ _)); exact BK827.out) hb); have n2_ := Aside0.mk (below_step (by repeat (first | (with_reducible first | exact HB.out | apply below_alloc | apply pw_below_drewN | apply below_drew1 | refine below_set ?_ GE826.out | refine below_set ?_ GE827.out) | exact HB.out)) hb); clear BK826; clear BK827; clear HB; have BK826 := n0_; have BK827 := n1_; have HB := n2_; clear n0_ n1_ n2_; (try clear hb); (try clear hb2); (try clear hk); (try clear hi); have hcz80_0 := bc0 BK826.out; have hcz80_1 := bc1 BK826.out; have hcz80_2 := bc2 BK826.out; have hcz80_3 := bc3 BK826.out; have hcz80_4 := bc4 BK826.out; have hcz80_5 := bc5 BK826.out; have hcz80_6 := bc6 BK826.out; have hfz80_0 := blk_frozen BK826.out 0; have hfz80_1 := blk_frozen BK826.out 1; have hfz80_2 := blk_frozen BK826.out 2; have hfz80_3 := blk_frozen BK826.out 3; have hfz80_4 := blk_frozen BK826.out 4; have hfz80_5 := blk_frozen BK826.out 5; have hfz80_6 := blk_frozen BK826.out 6) | (go_at_call 130; (with_reducible refine (spec_l1All.calls k _ _ l1_6 0 (l0.length : Int) false _ ?side1 ?side2 A52.out).mono ?_); (case side1 => repeat (first | exact (Kd.C_below HR1_6.out HB.out) | (with_reducible refine Kd.C_alloc ?_ _) | (with_reducible refine Kd.C_drewN ?_ _) | (with_reducible refine Kd.C_drew ?_))); (case side2 => exact HC1_6.out); rintro e w' ⟨rfl, ⟨nd, rfl⟩⟩))
        go_ret
        exact ⟨by first | rfl | (simp [errW_none, errW_some] <;> rfl) | (simp [*, errW_none, errW_some] <;> rfl), by repeat (first | (with_reducible first | exact HB.out | apply below_alloc | apply pw_below_drewN | apply below_drew1 | refine below_set ?_ GE826.out | refine below_set ?_ GE827.out) | exact HB.out)⟩
      ·rw [if_neg c51] at H
       have c51b0 : ((l1_6.length : Int) == (l1_5.length : Int)) = false := beq_eq_false_iff_ne.mpr c51
       have c51b1 : ((l1_6.length : Int) != (l1_5.length : Int)) = true := bne_iff_ne.mpr c51
       have c51b2 : (l1_6.length == l1_5.length) = false := by first | simpa using c51 | (simp at c51 ⊢; omega)
       obtain rfl := Option.some.inj H
       go_enter Try.func84, Try.ntmps84
       go_wp2_with (first | ((with_reducible refine gate_dst (N := 3) rfl ?_); (try (refine gate_guard (by rfl) ?_; dsimp only)); refine box_event ?hg (N := 3) ?hd (cs := #[.int .i64 a1_0, .int .i64 a1_1, .int .i64 a1_2, .int .i64 a1_3, .slice A1_4 l1_4.length c1_4, .slice A1_5 l1_5.length c1_5, .slice A1_6 l1_6.length c1_6]) (t := 115) ?hr ?_; (case hd => rfl); (case hg => rfl); (case hr => first | (go_simp; done) | (go_simp; rfl)); intro gb826 hg w81 hbox hb; have n0_ := Aside0.mk (below_step (by repeat (first | (with_reducible first | exact HB.out | apply below_alloc | apply pw_below_drewN | apply below_drew1) | exact HB.out)) hb); have n1_ := Aside0.mk (hbox); have n2_ := Aside0.mk ((by rw [hg]; exact (below_size (by repeat (first | (with_reducible first | exact HB.out | apply below_alloc | apply pw_below_drewN | apply below_drew1) | exact HB.out))) : w.heap.size ≤ gb826)); have n3_ := Aside0.mk ((by rw [hg]; exact (below_size (by repeat (first | (with_reducible first | exact HB.out | apply below_alloc | apply pw_below_drewN | apply below_drew1) | exact HB.out))) : w.heap.size ≤ gb826)); clear HB; have HB := n0_; have BK826 := n1_; have GW826 := n2_; have GE826 := n3_; clear n0_ n1_ n2_ n3_; clear hb hbox hg; have hcz82_0 := bc0 BK826.out; have hcz82_1 := bc1 BK826.out; have hcz82_2 := bc2 BK826.out; have hcz82_3 := bc3 BK826.out; have hcz82_4 := bc4 BK826.out; have hcz82_5 := bc5 BK826.out; have hcz82_6 := bc6 BK826.out; have hfz82_0 := blk_frozen BK826.out 0; have hfz82_1 := blk_frozen BK826.out 1; have hfz82_2 := blk_frozen BK826.out 2; have hfz82_3 := blk_frozen BK826.out 3; have hfz82_4 := blk_frozen BK826.out 4; have hfz82_5 := blk_frozen BK826.out 5; have hfz82_6 := blk_frozen BK826.out 6) | ((with_reducible refine gate_dst (N := 5) rfl ?_); (try (refine gate_guard (by rfl) ?_; dsimp only)); refine box_event ?hg (N := 5) ?hd (cs := #[.int .i64 0, .int .i64 0, .int .i64 0, .int .i64 0, .slice none 0 0, .slice none 0 0, .slice none 0 0]) (t := 115) ?hr ?_; (case hd => rfl); (case hg => rfl); (case hr => first | (go_simp; done) | (go_simp; rfl)); intro gb827 hg w83 hbox hb; have n0_ := Aside0.mk (blk_below (g := gb826) (o := .cells #[.int .i64 a1_0, .int .i64 a1_1, .int .i64 a1_2, .int .i64 a1_3, .slice A1_4 l1_4.length c1_4, .slice A1_5 l1_5.length c1_5, .slice A1_6 l1_6.length c1_6] 115 (0, 0)) (by (with_reducible repeat (first | refine blk_drewN ?_ _ | refine blk_drew ?_ | refine blk_alloc ?_ _)); exact BK826.out) hb); have n1_ := Aside0.mk (below_step (by repeat (first | (with_reducible first | exact HB.out | apply below_alloc | apply pw_below_drewN | apply below_drew1 | refine below_set ?_ GE826.out) | exact HB.out)) hb); have n2_ := Aside0.mk (hbox); have n3_ := Aside0.mk ((by rw [hg]; exact (below_size (by repeat (first | (with_reducible first | exact HB.out | apply below_alloc | apply pw_below_drewN | apply below_drew1 | refine below_set ?_ GE826.out) | exact HB.out))) : w.heap.size ≤ gb827)); have n4_ := Aside0.mk ((by rw [hg]; exact (below_size (by repeat (first | (with_reducible first | exact HB.out | apply below_alloc | apply pw_below_drewN | apply below_drew1 | refine below_set ?_ GE826.out) | exact HB.out))) : w.heap.size ≤ gb827)); have n5_ := Aside0.mk ((by rw [hg]; exact Nat.ne_of_lt (blk_lt (g := gb826) (o := .cells #[.int .i64 a1_0, .int .i64 a1_1, .int .i64 a1_2, .int .i64 a1_3, .slice A1_4 l1_4.length c1_4, .slice A1_5 l1_5.length c1_5, .slice A1_6 l1_6.length c1_6] 115 (0, 0)) (by (with_reducible repeat (first | refine blk_drewN ?_ _ | refine blk_drew ?_ | refine blk_alloc ?_ _)); exact BK826.out)) : gb826 ≠ gb827)); have n6_ := Aside0.mk ((by rw [hg]; exact Nat.ne_of_gt (blk_lt (g := gb826) (o := .cells #[.int .i64 a1_0, .int .i64 a1_1, .int .i64 a1_2, .int .i64 a1_3, .slice A1_4 l1_4.length c1_4, .slice A1_5 l1_5.length c1_5, .slice A1_6 l1_6.length c1_6] 115 (0, 0)) (by (with_reducible repeat (first | refine blk_drewN ?_ _ | refine blk_drew ?_ | refine blk_alloc ?_ _)); exact BK826.out)) : gb827 ≠ gb826)); clear BK826; clear HB; have BK826 := n0_; have HB := n1_; have BK827 := n2_; have GW827 := n3_; have GE827 := n4_; have NB826_827 := n5_; have NB827_826 := n6_; clear n0_ n1_ n2_ n3_ n4_ n5_ n6_; clear hb hbox hg; have hnb84 := NB827_826.out; have hnc84 := NB826_827.out; have hcz85_0 := bc0 BK827.out; have hcz85_1 := bc1 BK827.out; have hcz85_2 := bc2 BK827.out; have hcz85_3 := bc3 BK827.out; have hcz85_4 := bc4 BK827.out; have hcz85_5 := bc5 BK827.out; have hcz85_6 := bc6 BK827.out; have hfz85_0 := blk_frozen BK827.out 0; have hfz85_1 := blk_frozen BK827.out 1; have hfz85_2 := blk_frozen BK827.out 2; have hfz85_3 := blk_frozen BK827.out 3; have hfz85_4 := blk_frozen BK827.out 4; have hfz85_5 := blk_frozen BK827.out 5; have hfz85_6 := blk_frozen BK827.out 6; have hcz86_0 := bc0 BK826.out; have hcz86_1 := bc1 BK826.out; have hcz86_2 := bc2 BK826.out; have hcz86_3 := bc3 BK826.out; have hcz86_4 := bc4 BK826.out; have hcz86_5 := bc5 BK826.out; have hcz86_6 := bc6 BK826.out; have hfz86_0 := blk_frozen BK826.out 0; have hfz86_1 := blk_frozen BK826.out 1; have hfz86_2 := blk_frozen BK826.out 2; have hfz86_3 := blk_frozen BK826.out 3; have hfz86_4 := blk_frozen BK826.out 4; have hfz86_5 := blk_frozen BK826.out 5; have hfz86_6 := blk_frozen BK826.out 6) | (go_at_call 129; (with_reducible refine (spec_l10Clauses.calls k _ _ l1_5 true _ ?side1 ?side2 A49.out).mono ?_); (case side1 => exact Kd.C_below HR1_5.out (by repeat (first | (with_reducible first | exact HB.out | apply below_alloc | apply pw_below_drewN | apply below_drew1 | refine below_set ?_ GE826.out | refine below_set ?_ GE827.out) | exact HB.out))); (case side2 => exact HC1_5.out); rintro e w87 ⟨rfl, hb⟩; have n0_ := Aside0.mk (blk_below (g := gb826) (o := .cells #[.int .i64 a1_0, .int .i64 a1_1, .int .i64 a1_2, .int .i64 a1_3, .slice A1_4 l1_4.length c1_4, .slice A1_5 l1_5.length c1_5, .slice A1_6 l1_6.length c1_6] 115 (0, 0)) (by (iterate 7 ((with_reducible repeat (first | refine blk_drewN ?_ _ | refine blk_drew ?_ | refine blk_alloc ?_ _)); refine blk_far ?_ NB826_827.out _)); (with_reducible repeat (first | refine blk_drewN ?_ _ | refine blk_drew ?_ | refine blk_alloc ?_ _)); exact BK826.out) hb); have n1_ := Aside0.mk (blk_below (g := gb827) (o := .cells #[.int .i64 a1_0, .int .i64 0, .int .i64 0, .int .i64 0, .slice none 0 0, .slice none 0 0, .slice none 0 0] 115 (0, 0)) (by (with_reducible repeat (first | refine blk_drewN ?_ _ | refine blk_drew ?_ | refine blk_alloc ?_ _)); refine blk_put (cs := #[.int .i64 a1_0, .int .i64 0, .int .i64 0, .int .i64 0, .slice none 0 0, .slice none 0 0, .slice none 0 0]) ?_ 6 _ rfl; (with_reducible repeat (first | refine blk_drewN ?_ _ | refine blk_drew ?_ | refine blk_alloc ?_ _)); refine blk_put (cs := #[.int .i64 a1_0, .int .i64 0, .int .i64 0, .int .i64 0, .slice none 0 0, .slice none 0 0, .slice none 0 0]) ?_ 5 _ rfl; (with_reducible repeat (first | refine blk_drewN ?_ _ | refine blk_drew ?_ | refine blk_alloc ?_ _)); refine blk_put (cs := #[.int .i64 a1_0, .int .i64 0, .int .i64 0, .int .i64 0, .slice none 0 0, .slice none 0 0, .slice none 0 0]) ?_ 4 _ rfl; (with_reducible repeat (first | refine blk_drewN ?_ _ | refine blk_drew ?_ | refine blk_alloc ?_ _)); refine blk_put (cs := #[.int .i64 a1_0, .int .i64 0, .int .i64 0, .int .i64 0, .slice none 0 0, .slice none 0 0, .slice none 0 0]) ?_ 3 _ rfl; (with_reducible repeat (first | refine blk_drewN ?_ _ | refine blk_drew ?_ | refine blk_alloc ?_ _)); refine blk_put (cs := #[.int .i64 a1_0, .int .i64 0, .int .i64 0, .int .i64 0, .slice none 0 0, .slice none 0 0, .slice none 0 0]) ?_ 2 _ rfl; (with_reducible repeat (first | refine blk_drewN ?_ _ | refine blk_drew ?_ | refine blk_alloc ?_ _)); refine blk_put (cs := #[.int .i64 a1_0, .int .i64 0, .int .i64 0, .int .i64 0, .slice none 0 0, .slice none 0 0, .slice none 0 0]) ?_ 1 _ rfl; (with_reducible repeat (first | refine blk_drewN ?_ _ | refine blk_drew ?_ | refine blk_alloc ?_ _)); refine blk_put (cs := #[.int .i64 0, .int .i64 0, .int .i64 0, .int .i64 0, .slice none 0 0, .slice none 0 0, .slice none 0 0]) ?_ 0 _ rfl; (with_reducible repeat (first | refine blk_drewN ?_ _ | refine blk_drew ?_ | refine blk_alloc ?_ _)); exact BK827.out) hb); have n2_ := Aside0.mk (below_step (by repeat (first | (with_reducible first | exact HB.out | apply below_alloc | apply pw_below_drewN | apply below_drew1 | refine below_set ?_ GE826.out | refine below_set ?_ GE827.out) | exact HB.out)) hb); clear BK826; clear BK827; clear HB; have BK826 := n0_; have BK827 := n1_; have HB := n2_; clear n0_ n1_ n2_; (try clear hb); (try clear hb2); (try clear hk); (try clear hi); have hcz88_0 := bc0 BK826.out; have hcz88_1 := bc1 BK826.out; have hcz88_2 := bc2 BK826.out; have hcz88_3 := bc3 BK826.out; have hcz88_4 := bc4 BK826.out; have hcz88_5 := bc5 BK826.out; have hcz88_6 := bc6 BK826.out; have hfz88_0 := blk_frozen BK826.out 0; have hfz88_1 := blk_frozen BK826.out 1; have hfz88_2 := blk_frozen BK826.out 2; have hfz88_3 := blk_frozen BK826.out 3; have hfz88_4 := blk_frozen BK826.out 4; have hfz88_5 := blk_frozen BK826.out 5; have hfz88_6 := blk_frozen BK826.out 6))
       go_ret
       exact ⟨by first | rfl | (simp [errW_none, errW_some] <;> rfl) | (simp [*, errW_none, errW_some] <;> rfl), by repeat (first | (with_reducible first | exact HB.out | apply below_alloc | apply pw_below_drewN | apply below_drew1 | refine below_set ?_ GE826.out | refine below_set ?_ GE827.out) | exact HB.out)⟩
     ·replace c50 := Bool.eq_false_iff.mpr c50
      subst c50
      have H1 : (some false) = some r := by rw [if_neg (show ¬ (false = true) by decide)] at H; exact H
      clear H
      have H := H1
      clear H1
      obtain rfl := Option.some.inj H
      go_enter Try.func84, Try.ntmps84
      go_wp2_with (first | ((with_reducible refine gate_dst (N := 3) rfl ?_); (try (refine gate_guard (by rfl) ?_; dsimp only)); refine box_event ?hg (N := 3) ?hd (cs := #[.int .i64 a1_0, .int .i64 a1_1, .int .i64 a1_2, .int .i64 a1_3, .slice A1_4 l1_4.length c1_4, .slice A1_5 l1_5.length c1_5, .slice A1_6 l1_6.length c1_6]) (t := 115) ?hr ?_; (case hd => rfl); (case hg => rfl); (case hr => first | (go_simp; done) | (go_simp; rfl)); intro gb826 hg w89 hbox hb; have n0_ := Aside0.mk (below_step (by repeat (first | (with_reducible first | exact HB.out | apply below_alloc | apply pw_below_drewN | apply below_drew1) | exact HB.out)) hb); have n1_ := Aside0.mk (hbox); have n2_ := Aside0.mk ((by rw [hg]; exact (below_size (by repeat (first | (with_reducible first | exact HB.out | apply below_alloc | apply pw_below_drewN | apply below_drew1) | exact HB.out))) : w.heap.size ≤ gb826)); have n3_ := Aside0.mk ((by rw [hg]; exact (below_size (by repeat (first | (with_reducible first | exact HB.out | apply below_alloc | apply pw_below_drewN | apply below_drew1) | exact HB.out))) : w.heap.size ≤ gb826)); clear HB; have HB := n0_; have BK826 := n1_; have GW826 := n2_; have GE826 := n3_; clear n0_ n1_ n2_ n3_; clear hb hbox hg; have hcz90_0 := bc0 BK826.out; have hcz90_1 := bc1 BK826.out; have hcz90_2 := bc2 BK826.out; have hcz90_3 := bc3 BK826.out; have hcz90_4 := bc4 BK826.out; have hcz90_5 := bc5 BK826.out; have hcz90_6 := bc6 BK826.out; have hfz90_0 := blk_frozen BK826.out 0; have hfz90_1 := blk_frozen BK826.out 1; have hfz90_2 := blk_frozen BK826.out 2; have hfz90_3 := blk_frozen BK826.out 3; have hfz90_4 := blk_frozen BK826.out 4; have hfz90_5 := blk_frozen BK826.out 5; have hfz90_6 := blk_frozen BK826.out 6) | ((with_reducible refine gate_dst (N := 5) rfl ?_); (try (refine gate_guard (by rfl) ?_; dsimp only)); refine box_event ?hg (N := 5) ?hd (cs := #[.int .i64 0, .int .i64 0, .int .i64 0, .int .i64 0, .slice none 0 0, .slice none 0 0, .slice none 0 0]) (t := 115) ?hr ?_; (case hd => rfl); (case hg => rfl); (case hr => first | (go_simp; done) | (go_simp; rfl)); intro gb827 hg w91 hbox hb; have n0_ := Aside0.mk (blk_below (g := gb826) (o := .cells #[.int .i64 a1_0, .int .i64 a1_1, .int .i64 a1_2, .int .i64 a1_3, .slice A1_4 l1_4.length c1_4, .slice A1_5 l1_5.length c1_5, .slice A1_6 l1_6.length c1_6] 115 (0, 0)) (by (with_reducible repeat (first | refine blk_drewN ?_ _ | refine blk_drew ?_ | refine blk_alloc ?_ _)); exact BK826.out) hb); have n1_ := Aside0.mk (below_step (by repeat (first | (with_reducible first | exact HB.out | apply below_alloc | apply pw_below_drewN | apply below_drew1 | refine below_set ?_ GE826.out) | exact HB.out)) hb); have n2_ := Aside0.mk (hbox); have n3_ := Aside0.mk ((by rw [hg]; exact (below_size (by repeat (first | (with_reducible first | exact HB.out | apply below_alloc | apply pw_below_drewN | apply below_drew1 | refine below_set ?_ GE826.out) | exact HB.out))) : w.heap.size ≤ gb827)); have n4_ := Aside0.mk ((by rw [hg]; exact (below_size (by repeat (first | (with_reducible first | exact HB.out | apply below_alloc | apply pw_below_drewN | apply below_drew1 | refine below_set ?_ GE826.out) | exact HB.out))) : w.heap.size ≤ gb827)); have n5_ := Aside0.mk ((by rw [hg]; exact Nat.ne_of_lt (blk_lt (g := gb826) (o := .cells #[.int .i64 a1_0, .int .i64 a1_1, .int .i64 a1_2, .int .i64 a1_3, .slice A1_4 l1_4.length c1_4, .slice A1_5 l1_5.length c1_5, .slice A1_6 l1_6.length c1_6] 115 (0, 0)) (by (with_reducible repeat (first | refine blk_drewN ?_ _ | refine blk_drew ?_ | refine blk_alloc ?_ _)); exact BK826.out)) : gb826 ≠ gb827)); have n6_ := Aside0.mk ((by rw [hg]; exact Nat.ne_of_gt (blk_lt (g := gb826) (o := .cells #[.int .i64 a1_0, .int .i64 a1_1, .int .i64 a1_2, .int .i64 a1_3, .slice A1_4 l1_4.length c1_4, .slice A1_5 l1_5.length c1_5, .slice A1_6 l1_6.length c1_6] 115 (0, 0)) (by (with_reducible repeat (first | refine blk_drewN ?_ _ | refine blk_drew ?_ | refine blk_alloc ?_ _)); exact BK826.out)) : gb827 ≠ gb826)); clear BK826; clear HB; have BK826 := n0_; have HB := n1_; have BK827 := n2_; have GW827 := n3_; have GE827 := n4_; have NB826_827 := n5_; have NB827_826 := n6_; clear n0_ n1_ n2_ n3_ n4_ n5_ n6_; clear hb hbox hg; have hnb92 := NB827_826.out; have hnc92 := NB826_827.out; have hcz93_0 := bc0 BK827.out; have hcz93_1 := bc1 BK827.out; have hcz93_2 := bc2 BK827.out; have hcz93_3 := bc3 BK827.out; have hcz93_4 := bc4 BK827.out; have hcz93_5 := bc5 BK827.out; have hcz93_6 := bc6 BK827.out; have hfz93_0 := blk_frozen BK827.out 0; have hfz93_1 := blk_frozen BK827.out 1; have hfz93_2 := blk_frozen BK827.out 2; have hfz93_3 := blk_frozen BK827.out 3; have hfz93_4 := blk_frozen BK827.out 4; have hfz93_5 := blk_frozen BK827.out 5; have hfz93_6 := blk_frozen BK827.out 6; have hcz94_0 := bc0 BK826.out; have hcz94_1 := bc1 BK826.out; have hcz94_2 := bc2 BK826.out; have hcz94_3 := bc3 BK826.out; have hcz94_4 := bc4 BK826.out; have hcz94_5 := bc5 BK826.out; have hcz94_6 := bc6 BK826.out; have hfz94_0 := blk_frozen BK826.out 0; have hfz94_1 := blk_frozen BK826.out 1; have hfz94_2 := blk_frozen BK826.out 2; have hfz94_3 := blk_frozen BK826.out 3; have hfz94_4 := blk_frozen BK826.out 4; have hfz94_5 := blk_frozen BK826.out 5; have hfz94_6 := blk_frozen BK826.out 6) | (go_at_call 129; (with_reducible refine (spec_l10Clauses.calls k _ _ l1_5 false _ ?side1 ?side2 A49.out).mono ?_); (case side1 => exact Kd.C_below HR1_5.out (by repeat (first | (with_reducible first | exact HB.out | apply below_alloc | apply pw_below_drewN | apply below_drew1 | refine below_set ?_ GE826.out | refine below_set ?_ GE827.out) | exact HB.out))); (case side2 => exact HC1_5.out); rintro e w95 ⟨rfl, hb⟩; have n0_ := Aside0.mk (blk_below (g := gb826) (o := .cells #[.int .i64 a1_0, .int .i64 a1_1, .int .i64 a1_2, .int .i64 a1_3, .slice A1_4 l1_4.length c1_4, .slice A1_5 l1_5.length c1_5, .slice A1_6 l1_6.length c1_6] 115 (0, 0)) (by (iterate 7 ((with_reducible repeat (first | refine blk_drewN ?_ _ | refine blk_drew ?_ | refine blk_alloc ?_ _)); refine blk_far ?_ NB826_827.out _)); (with_reducible repeat (first | refine blk_drewN ?_ _ | refine blk_drew ?_ | refine blk_alloc ?_ _)); exact BK826.out) hb); have n1_ := Aside0.mk (blk_below (g := gb827) (o := .cells #[.int .i64 a1_0, .int .i64 0, .int .i64 0, .int .i64 0, .slice none 0 0, .slice none 0 0, .slice none 0 0] 115 (0, 0)) (by (with_reducible repeat (first | refine blk_drewN ?_ _ | refine blk_drew ?_ | refine blk_alloc ?_ _)); refine blk_put (cs := #[.int .i64 a1_0, .int .i64 0, .int .i64 0, .int .i64 0, .slice none 0 0, .slice none 0 0, .slice none 0 0]) ?_ 6 _ rfl; (with_reducible repeat (first | refine blk_drewN ?_ _ | refine blk_drew ?_ | refine blk_alloc ?_ _)); refine blk_put (cs := #[.int .i64 a1_0, .int .i64 0, .int .i64 0, .int .i64 0, .slice none 0 0, .slice none 0 0, .slice none 0 0]) ?_ 5 _ rfl; (with_reducible repeat (first | refine blk_drewN ?_ _ | refine blk_drew ?_ | refine blk_alloc ?_ _)); refine blk_put (cs := #[.int .i64 a1_0, .int .i64 0, .int .i64 0, .int .i64 0, .slice none 0 0, .slice none 0 0, .slice none 0 0]) ?_ 4 _ rfl; (with_reducible repeat (first | refine blk_drewN ?_ _ | refine blk_drew ?_ | refine blk_alloc ?_ _)); refine blk_put (cs := #[.int .i64 a1_0, .int .i64 0, .int .i64 0, .int .i64 0, .slice none 0 0, .slice none 0 0, .slice none 0 0]) ?_ 3 _ rfl; (with_reducible repeat (first | refine blk_drewN ?_ _ | refine blk_drew ?_ | refine blk_alloc ?_ _)); refine blk_put (cs := #[.int .i64 a1_0, .int .i64 0, .int .i64 0, .int .i64 0, .slice none 0 0, .slice none 0 0, .slice none 0 0]) ?_ 2 _ rfl; (with_reducible repeat (first | refine blk_drewN ?_ _ | refine blk_drew ?_ | refine blk_alloc ?_ _)); refine blk_put (cs := #[.int .i64 a1_0, .int .i64 0, .int .i64 0, .int .i64 0, .slice none 0 0, .slice none 0 0, .slice none 0 0]) ?_ 1 _ rfl; (with_reducible repeat (first | refine blk_drewN ?_ _ | refine blk_drew ?_ | refine blk_alloc ?_ _)); refine blk_put (cs := #[.int .i64 0, .int .i64 0, .int .i64 0, .int .i64 0, .slice none 0 0, .slice none 0 0, .slice none 0 0]) ?_ 0 _ rfl; (with_reducible repeat (first | refine blk_drewN ?_ _ | refine blk_drew ?_ | refine blk_alloc ?_ _)); exact BK827.out) hb); have n2_ := Aside0.mk (below_step (by repeat (first | (with_reducible first | exact HB.out | apply below_alloc | apply pw_below_drewN | apply below_drew1 | refine below_set ?_ GE826.out | refine below_set ?_ GE827.out) | exact HB.out)) hb); clear BK826; clear BK827; clear HB; have BK826 := n0_; have BK827 := n1_; have HB := n2_; clear n0_ n1_ n2_; (try clear hb); (try clear hb2); (try clear hk); (try clear hi)))
      go_ret
      exact ⟨by first | rfl | (simp [errW_none, errW_some] <;> rfl) | (simp [*, errW_none, errW_some] <;> rfl), by repeat (first | (with_reducible first | exact HB.out | apply below_alloc | apply pw_below_drewN | apply below_drew1 | refine below_set ?_ GE826.out | refine below_set ?_ GE827.out) | exact HB.out)⟩
    ·rw [if_neg c48] at H
     have c48b0 : ((l1_4.length : Int) == 0) = false := beq_eq_false_iff_ne.mpr c48
     have c48b1 : ((l1_4.length : Int) != 0) = true := bne_iff_ne.mpr c48
     have c48b2 : ¬ (l1_4 = []) := fun h_ => c48 (by rw [h_]; rfl)
     obtain rfl := Option.some.inj H
     go_enter Try.func84, Try.ntmps84
     go_wp2_with (first | ((with_reducible refine gate_dst (N := 3) rfl ?_); (try (refine gate_guard (by rfl) ?_; dsimp only)); refine box_event ?hg (N := 3) ?hd (cs := #[.int .i64 a1_0, .int .i64 a1_1, .int .i64 a1_2, .int .i64 a1_3, .slice A1_4 l1_4.length c1_4, .slice A1_5 l1_5.length c1_5, .slice A1_6 l1_6.length c1_6]) (t := 115) ?hr ?_; (case hd => rfl); (case hg => rfl); (case hr => first | (go_simp; done) | (go_simp; rfl)); intro gb826 hg w96 hbox hb; have n0_ := Aside0.mk (below_step (by repeat (first | (with_reducible first | exact HB.out | apply below_alloc | apply pw_below_drewN | apply below_drew1) | exact HB.out)) hb); have n1_ := Aside0.mk (hbox); have n2_ := Aside0.mk ((by rw [hg]; exact (below_size (by repeat (first | (with_reducible first | exact HB.out | apply below_alloc | apply pw_below_drewN | apply below_drew1) | exact HB.out))) : w.heap.size ≤ gb826)); have n3_ := Aside0.mk ((by rw [hg]; exact (below_size (by repeat (first | (with_reducible first | exact HB.out | apply below_alloc | apply pw_below_drewN | apply below_drew1) | exact HB.out))) : w.heap.size ≤ gb826)); clear HB; have HB := n0_; have BK826 := n1_; have GW826 := n2_; have GE826 := n3_; clear n0_ n1_ n2_ n3_; clear hb hbox hg; have hcz97_0 := bc0 BK826.out; have hcz97_1 := bc1 BK826.out; have hcz97_2 := bc2 BK826.out; have hcz97_3 := bc3 BK826.out; have hcz97_4 := bc4 BK826.out; have hcz97_5 := bc5 BK826.out; have hcz97_6 := bc6 BK826.out; have hfz97_0 := blk_frozen BK826.out 0; have hfz97_1 := blk_frozen BK826.out 1; have hfz97_2 := blk_frozen BK826.out 2; have hfz97_3 := blk_frozen BK826.out 3; have hfz97_4 := blk_frozen BK826.out 4; have hfz97_5 := blk_frozen BK826.out 5; have hfz97_6 := blk_frozen BK826.out 6) | ((with_reducible refine gate_dst (N := 5) rfl ?_); (try (refine gate_guard (by rfl) ?_; dsimp only)); refine box_event ?hg (N := 5) ?hd (cs := #[.int .i64 0, .int .i64 0, .int .i64 0, .int .i64 0, .slice none 0 0, .slice none 0 0, .slice none 0 0]) (t := 115) ?hr ?_; (case hd => rfl); (case hg => rfl); (case hr => first | (go_simp; done) | (go_simp; rfl)); intro gb827 hg w98 hbox hb; have n0_ := Aside0.mk (blk_below (g := gb826) (o := .cells #[.int .i64 a1_0, .int .i64 a1_1, .int .i64 a1_2, .int .i64 a1_3, .slice A1_4 l1_4.length c1_4, .slice A1_5 l1_5.length c1_5, .slice A1_6 l1_6.length c1_6] 115 (0, 0)) (by (with_reducible repeat (first | refine blk_drewN ?_ _ | refine blk_drew ?_ | refine blk_alloc ?_ _)); exact BK826.out) hb); have n1_ := Aside0.mk (below_step (by repeat (first | (with_reducible first | exact HB.out | apply below_alloc | apply pw_below_drewN | apply below_drew1 | refine below_set ?_ GE826.out) | exact HB.out)) hb); have n2_ := Aside0.mk (hbox); have n3_ := Aside0.mk ((by rw [hg]; exact (below_size (by repeat (first | (with_reducible first | exact HB.out | apply below_alloc | apply pw_below_drewN | apply below_drew1 | refine below_set ?_ GE826.out) | exact HB.out))) : w.heap.size ≤ gb827)); have n4_ := Aside0.mk ((by rw [hg]; exact (below_size (by repeat (first | (with_reducible first | exact HB.out | apply below_alloc | apply pw_below_drewN | apply below_drew1 | refine below_set ?_ GE826.out) | exact HB.out))) : w.heap.size ≤ gb827)); have n5_ := Aside0.mk ((by rw [hg]; exact Nat.ne_of_lt (blk_lt (g := gb826) (o := .cells #[.int .i64 a1_0, .int .i64 a1_1, .int .i64 a1_2, .int .i64 a1_3, .slice A1_4 l1_4.length c1_4, .slice A1_5 l1_5.length c1_5, .slice A1_6 l1_6.length c1_6] 115 (0, 0)) (by (with_reducible repeat (first | refine blk_drewN ?_ _ | refine blk_drew ?_ | refine blk_alloc ?_ _)); exact BK826.out)) : gb826 ≠ gb827)); have n6_ := Aside0.mk ((by rw [hg]; exact Nat.ne_of_gt (blk_lt (g := gb826) (o := .cells #[.int .i64 a1_0, .int .i64 a1_1, .int .i64 a1_2, .int .i64 a1_3, .slice A1_4 l1_4.length c1_4, .slice A1_5 l1_5.length c1_5, .slice A1_6 l1_6.length c1_6] 115 (0, 0)) (by (with_reducible repeat (first | refine blk_drewN ?_ _ | refine blk_drew ?_ | refine blk_alloc ?_ _)); exact BK826.out)) : gb827 ≠ gb826)); clear BK826; clear HB; have BK826 := n0_; have HB := n1_; have BK827 := n2_; have GW827 := n3_; have GE827 := n4_; have NB826_827 := n5_; have NB827_826 := n6_; clear n0_ n1_ n2_ n3_ n4_ n5_ n6_; clear hb hbox hg; have hnb99 := NB827_826.out; have hnc99 := NB826_827.out; have hcz100_0 := bc0 BK827.out; have hcz100_1 := bc1 BK827.out; have hcz100_2 := bc2 BK827.out; have hcz100_3 := bc3 BK827.out; have hcz100_4 := bc4 BK827.out; have hcz100_5 := bc5 BK827.out; have hcz100_6 := bc6 BK827.out; have hfz100_0 := blk_frozen BK827.out 0; have hfz100_1 := blk_frozen BK827.out 1; have hfz100_2 := blk_frozen BK827.out 2; have hfz100_3 := blk_frozen BK827.out 3; have hfz100_4 := blk_frozen BK827.out 4; have hfz100_5 := blk_frozen BK827.out 5; have hfz100_6 := blk_frozen BK827.out 6; have hcz101_0 := bc0 BK826.out; have hcz101_1 := bc1 BK826.out; have hcz101_2 := bc2 BK826.out; have hcz101_3 := bc3 BK826.out; have hcz101_4 := bc4 BK826.out; have hcz101_5 := bc5 BK826.out; have hcz101_6 := bc6 BK826.out; have hfz101_0 := blk_frozen BK826.out 0; have hfz101_1 := blk_frozen BK826.out 1; have hfz101_2 := blk_frozen BK826.out 2; have hfz101_3 := blk_frozen BK826.out 3; have hfz101_4 := blk_frozen BK826.out 4; have hfz101_5 := blk_frozen BK826.out 5; have hfz101_6 := blk_frozen BK826.out 6))
     go_ret
     exact ⟨by first | rfl | (simp [errW_none, errW_some] <;> rfl) | (simp [*, errW_none, errW_some] <;> rfl), by repeat (first | (with_reducible first | exact HB.out | apply below_alloc | apply pw_below_drewN | apply below_drew1 | refine below_set ?_ GE826.out | refine below_set ?_ GE827.out) | exact HB.out)⟩
   ·rw [if_neg c47] at H
    have c47b0 : (a1_2 == 0) = false := beq_eq_false_iff_ne.mpr c47
    have c47b1 : (a1_2 != 0) = true := bne_iff_ne.mpr c47
    obtain rfl := Option.some.inj H
    go_enter Try.func84, Try.ntmps84
    go_wp2_with (first | ((with_reducible refine gate_dst (N := 3) rfl ?_); (try (refine gate_guard (by rfl) ?_; dsimp only)); refine box_event ?hg (N := 3) ?hd (cs := #[.int .i64 a1_0, .int .i64 a1_1, .int .i64 a1_2, .int .i64 a1_3, .slice A1_4 l1_4.length c1_4, .slice A1_5 l1_5.length c1_5, .slice A1_6 l1_6.length c1_6]) (t := 115) ?hr ?_; (case hd => rfl); (case hg => rfl); (case hr => first | (go_simp; done) | (go_simp; rfl)); intro gb826 hg w102 hbox hb; have n0_ := Aside0.mk (below_step (by repeat (first | (with_reducible first | exact HB.out | apply below_alloc | apply pw_below_drewN | apply below_drew1) | exact HB.out)) hb); have n1_ := Aside0.mk (hbox); have n2_ := Aside0.mk ((by rw [hg]; exact (below_size (by repeat (first | (with_reducible first | exact HB.out | apply below_alloc | apply pw_below_drewN | apply below_drew1) | exact HB.out))) : w.heap.size ≤ gb826)); have n3_ := Aside0.mk ((by rw [hg]; exact (below_size (by repeat (first | (with_reducible first | exact HB.out | apply below_alloc | apply pw_below_drewN | apply below_drew1) | exact HB.out))) : w.heap.size ≤ gb826)); clear HB; have HB := n0_; have BK826 := n1_; have GW826 := n2_; have GE826 := n3_; clear n0_ n1_ n2_ n3_; clear hb hbox hg; have hcz103_0 := bc0 BK826.out; have hcz103_1 := bc1 BK826.out; have hcz103_2 := bc2 BK826.out; have hcz103_3 := bc3 BK826.out; have hcz103_4 := bc4 BK826.out; have hcz103_5 := bc5 BK826.out; have hcz103_6 := bc6 BK826.out; have hfz103_0 := blk_frozen BK826.out 0; have hfz103_1 := blk_frozen BK826.out 1; have hfz103_2 := blk_frozen BK826.out 2; have hfz103_3 := blk_frozen BK826.out 3; have hfz103_4 := blk_frozen BK826.out 4; have hfz103_5 := blk_frozen BK826.out 5; have hfz103_6 := blk_frozen BK826.out 6) | ((with_reducible refine gate_dst (N := 5) rfl ?_); (try (refine gate_guard (by rfl) ?_; dsimp only)); refine box_event ?hg (N := 5) ?hd (cs := #[.int .i64 0, .int .i64 0, .int .i64 0, .int .i64 0, .slice none 0 0, .slice none 0 0, .slice none 0 0]) (t := 115) ?hr ?_; (case hd => rfl); (case hg => rfl); (case hr => first | (go_simp; done) | (go_simp; rfl)); intro gb827 hg w104 hbox hb; have n0_ := Aside0.mk (blk_below (g := gb826) (o := .cells #[.int .i64 a1_0, .int .i64 a1_1, .int .i64 a1_2, .int .i64 a1_3, .slice A1_4 l1_4.length c1_4, .slice A1_5 l1_5.length c1_5, .slice A1_6 l1_6.length c1_6] 115 (0, 0)) (by (with_reducible repeat (first | refine blk_drewN ?_ _ | refine blk_drew ?_ | refine blk_alloc ?_ _)); exact BK826.out) hb); have n1_ := Aside0.mk (below_step (by repeat (first | (with_reducible first | exact HB.out | apply below_alloc | apply pw_below_drewN | apply below_drew1 | refine below_set ?_ GE826.out) | exact HB.out)) hb); have n2_ := Aside0.mk (hbox); have n3_ := Aside0.mk ((by rw [hg]; exact (below_size (by repeat (first | (with_reducible first | exact HB.out | apply below_alloc | apply pw_below_drewN | apply below_drew1 | refine below_set ?_ GE826.out) | exact HB.out))) : w.heap.size ≤ gb827)); have n4_ := Aside0.mk ((by rw [hg]; exact (below_size (by repeat (first | (with_reducible first | exact HB.out | apply below_alloc | apply pw_below_drewN | apply below_drew1 | refine below_set ?_ GE826.out) | exact HB.out))) : w.heap.size ≤ gb827)); have n5_ := Aside0.mk ((by rw [hg]; exact Nat.ne_of_lt (blk_lt (g := gb826) (o := .cells #[.int .i64 a1_0, .int .i64 a1_1, .int .i64 a1_2, .int .i64 a1_3, .slice A1_4 l1_4.length c1_4, .slice A1_5 l1_5.length c1_5, .slice A1_6 l1_6.length c1_6] 115 (0, 0)) (by (with_reducible repeat (first | refine blk_drewN ?_ _ | refine blk_drew ?_ | refine blk_alloc ?_ _)); exact BK826.out)) : gb826 ≠ gb827)); have n6_ := Aside0.mk ((by rw [hg]; exact Nat.ne_of_gt (blk_lt (g := gb826) (o := .cells #[.int .i64 a1_0, .int .i64 a1_1, .int .i64 a1_2, .int .i64 a1_3, .slice A1_4 l1_4.length c1_4, .slice A1_5 l1_5.length c1_5, .slice A1_6 l1_6.length c1_6] 115 (0, 0)) (by (with_reducible repeat (first | refine blk_drewN ?_ _ | refine blk_drew ?_ | refine blk_alloc ?_ _)); exact BK826.out)) : gb827 ≠ gb826)); clear BK826; clear HB; have BK826 := n0_; have HB := n1_; have BK827 := n2_; have GW827 := n3_; have GE827 := n4_; have NB826_827 := n5_; have NB827_826 := n6_; clear n0_ n1_ n2_ n3_ n4_ n5_ n6_; clear hb hbox hg; have hnb105 := NB827_826.out; have hnc105 := NB826_827.out; have hcz106_0 := bc0 BK827.out; have hcz106_1 := bc1 BK827.out; have hcz106_2 := bc2 BK827.out; have hcz106_3 := bc3 BK827.out; have hcz106_4 := bc4 BK827.out; have hcz106_5 := bc5 BK827.out; have hcz106_6 := bc6 BK827.out; have hfz106_0 := blk_frozen BK827.out 0; have hfz106_1 := blk_frozen BK827.out 1; have hfz106_2 := blk_frozen BK827.out 2; have hfz106_3 := blk_frozen BK827.out 3; have hfz106_4 := blk_frozen BK827.out 4; have hfz106_5 := blk_frozen BK827.out 5; have hfz106_6 := blk_frozen BK827.out 6; have hcz107_0 := bc0 BK826.out; have hcz107_1 := bc1 BK826.out; have hcz107_2 := bc2 BK826.out; have hcz107_3 := bc3 BK826.out; have hcz107_4 := bc4 BK826.out; have hcz107_5 := bc5 BK826.out; have hcz107_6 := bc6 BK826.out; have hfz107_0 := blk_frozen BK826.out 0; have hfz107_1 := blk_frozen BK826.out 1; have hfz107_2 := blk_frozen BK826.out 2; have hfz107_3 := blk_frozen BK826.out 3; have hfz107_4 := blk_frozen BK826.out 4; have hfz107_5 := blk_frozen BK826.out 5; have hfz107_6 := blk_frozen BK826.out 6))
    go_ret
    exact ⟨by first | rfl | (simp [errW_none, errW_some] <;> rfl) | (simp [*, errW_none, errW_some] <;> rfl), by repeat (first | (with_reducible first | exact HB.out | apply below_alloc | apply pw_below_drewN | apply below_drew1 | refine below_set ?_ GE826.out | refine below_set ?_ GE827.out) | exact HB.out)⟩
  ·rw [if_neg c46] at H
   have c46b0 : (a1_0 == 2) = false := beq_eq_false_iff_ne.mpr c46
   have c46b1 : (a1_0 != 2) = true := bne_iff_ne.mpr c46
   have HC108 := Aside0.mk H
   clear H
   go_enter Try.func84, Try.ntmps84
   go_upto_if 92 with (first | ((with_reducible refine gate_dst (N := 3) rfl ?_); (try (refine gate_guard (by rfl) ?_; dsimp only)); refine box_event ?hg (N := 3) ?hd (cs := #[.int .i64 a1_0, .int .i64 a1_1, .int .i64 a1_2, .int .i64 a1_3, .slice A1_4 l1_4.length c1_4, .slice A1_5 l1_5.length c1_5, .slice A1_6 l1_6.length c1_6]) (t := 115) ?hr ?_; (case hd => rfl); (case hg => rfl); (case hr => first | (go_simp; done) | (go_simp; rfl)); intro gb826 hg w109 hbox hb; have n0_ := Aside0.mk (below_step (by repeat (first | (with_reducible first | exact HB.out | apply below_alloc | apply pw_below_drewN | apply below_drew1) | exact HB.out)) hb); have n1_ := Aside0.mk (hbox); have n2_ := Aside0.mk ((by rw [hg]; exact (below_size (by repeat (first | (with_reducible first | exact HB.out | apply below_alloc | apply pw_below_drewN | apply below_drew1) | exact HB.out))) : w.heap.size ≤ gb826)); have n3_ := Aside0.mk ((by rw [hg]; exact (below_size (by repeat (first | (with_reducible first | exact HB.out | apply below_alloc | apply pw_below_drewN | apply below_drew1) | exact HB.out))) : w.heap.size ≤ gb826)); clear HB; have HB := n0_; have BK826 := n1_; have GW826 := n2_; have GE826 := n3_; clear n0_ n1_ n2_ n3_; clear hb hbox hg; have hcz110_0 := bc0 BK826.out; have hcz110_1 := bc1 BK826.out; have hcz110_2 := bc2 BK826.out; have hcz110_3 := bc3 BK826.out; have hcz110_4 := bc4 BK826.out; have hcz110_5 := bc5 BK826.out; have hcz110_6 := bc6 BK826.out; have hfz110_0 := blk_frozen BK826.out 0; have hfz110_1 := blk_frozen BK826.out 1; have hfz110_2 := blk_frozen BK826.out 2; have hfz110_3 := blk_frozen BK826.out 3; have hfz110_4 := blk_frozen BK826.out 4; have hfz110_5 := blk_frozen BK826.out 5; have hfz110_6 := blk_frozen BK826.out 6) | ((with_reducible refine gate_dst (N := 5) rfl ?_); (try (refine gate_guard (by rfl) ?_; dsimp only)); refine box_event ?hg (N := 5) ?hd (cs := #[.int .i64 0, .int .i64 0, .int .i64 0, .int .i64 0, .slice none 0 0, .slice none 0 0, .slice none 0 0]) (t := 115) ?hr ?_; (case hd => rfl); (case hg => rfl); (case hr => first | (go_simp; done) | (go_simp; rfl)); intro gb827 hg w111 hbox hb; have n0_ := Aside0.mk (blk_below (g := gb826) (o := .cells #[.int .i64 a1_0, .int .i64 a1_1, .int .i64 a1_2, .int .i64 a1_3, .slice A1_4 l1_4.length c1_4, .slice A1_5 l1_5.length c1_5, .slice A1_6 l1_6.length c1_6] 115 (0, 0)) (by (with_reducible repeat (first | refine blk_drewN ?_ _ | refine blk_drew ?_ | refine blk_alloc ?_ _)); exact BK826.out) hb); have n1_ := Aside0.mk (below_step (by repeat (first | (with_reducible first | exact HB.out | apply below_alloc | apply pw_below_drewN | apply below_drew1 | refine below_set ?_ GE826.out) | exact HB.out)) hb); have n2_ := Aside0.mk (hbox); have n3_ := Aside0.mk ((by rw [hg]; exact (below_size (by repeat (first | (with_reducible first | exact HB.out | apply below_alloc | apply pw_below_drewN | apply below_drew1 | refine below_set ?_ GE826.out) | exact HB.out))) : w.heap.size ≤ gb827)); have n4_ := Aside0.mk ((by rw [hg]; exact (below_size (by repeat (first | (with_reducible first | exact HB.out | apply below_alloc | apply pw_below_drewN | apply below_drew1 | refine below_set ?_ GE826.out) | exact HB.out))) : w.heap.size ≤ gb827)); have n5_ := Aside0.mk ((by rw [hg]; exact Nat.ne_of_lt (blk_lt (g := gb826) (o := .cells #[.int .i64 a1_0, .int .i64 a1_1, .int .i64 a1_2, .int .i64 a1_3, .slice A1_4 l1_4.length c1_4, .slice A1_5 l1_5.length c1_5, .slice A1_6 l1_6.length c1_6] 115 (0, 0)) (by (with_reducible repeat (first | refine blk_drewN ?_ _ | refine blk_drew ?_ | refine blk_alloc ?_ _)); exact BK826.out)) : gb826 ≠ gb827)); have n6_ := Aside0.mk ((by rw [hg]; exact Nat.ne_of_gt (blk_lt (g := gb826) (o := .cells #[.int .i64 a1_0, .int .i64 a1_1, .int .i64 a1_2, .int .i64 a1_3, .slice A1_4 l1_4.length c1_4, .slice A1_5 l1_5.length c1_5, .slice A1_6 l1_6.length c1_6] 115 (0, 0)) (by (with_reducible repeat (first | refine blk_drewN ?_ _ | refine blk_drew ?_ | refine blk_alloc ?_ _)); exact BK826.out)) : gb827 ≠ gb826)); clear BK826; clear HB; have BK826 := n0_; have HB := n1_; have BK827 := n2_; have GW827 := n3_; have GE827 := n4_; have NB826_827 := n5_; have NB827_826 := n6_; clear n0_ n1_ n2_ n3_ n4_ n5_ n6_; clear hb hbox hg; have hnb112 := NB827_826.out; have hnc112 := NB826_827.out; have hcz113_0 := bc0 BK827.out; have hcz113_1 := bc1 BK827.out; have hcz113_2 := bc2 BK827.out; have hcz113_3 := bc3 BK827.out; have hcz113_4 := bc4 BK827.out; have hcz113_5 := bc5 BK827.out; have hcz113_6 := bc6 BK827.out; have hfz113_0 := blk_frozen BK827.out 0; have hfz113_1 := blk_frozen BK827.out 1; have hfz113_2 := blk_frozen BK827.out 2; have hfz113_3 := blk_frozen BK827.out 3; have hfz113_4 := blk_frozen BK827.out 4; have hfz113_5 := blk_frozen BK827.out 5; have hfz113_6 := blk_frozen BK827.out 6; have hcz114_0 := bc0 BK826.out; have hcz114_1 := bc1 BK826.out; have hcz114_2 := bc2 BK826.out; have hcz114_3 := bc3 BK826.out; have hcz114_4 := bc4 BK826.out; have hcz114_5 := bc5 BK826.out; have hcz114_6 := bc6 BK826.out; have hfz114_0 := blk_frozen BK826.out 0; have hfz114_1 := blk_frozen BK826.out 1; have hfz114_2 := blk_frozen BK826.out 2; have hfz114_3 := blk_frozen BK826.out 3; have hfz114_4 := blk_frozen BK826.out 4; have hfz114_5 := blk_frozen BK826.out 5; have hfz114_6 := blk_frozen BK826.out 6))
   (try simp only [Act.put, List.setIfInBounds_toArray, List.set_cons_zero, List.set_cons_succ])
   go_cut [92] (fun v92 wc => ∃ (kq : Nat) (x92_107 : Bool), v92 = .bool x92_107 ∧ Aside0 (spec_l11Ins.j0 kq (l0.length : Int) a1_0 x92_107 a1_0 a1_1 a1_2 a1_3 l1_4 l1_5 l1_6 a1_0 0 0 0 = some r) ∧ Aside0 (kq ≤ k) ∧ Aside0 (wc.heap[gb826]? = some (.cells #[.int .i64 a1_0, .int .i64 a1_1, .int .i64 a1_2, .int .i64 a1_3, (.slice A1_4 l1_4.length c1_4), (.slice A1_5 l1_5.length c1_5), (.slice A1_6 l1_6.length c1_6)] 115 (0, 0))) ∧ Aside0 (wc.heap[gb827]? = some (.cells #[.int .i64 a1_0, .int .i64 0, .int .i64 0, .int .i64 0, (.slice none 0 0), (.slice none 0 0), (.slice none 0 0)] 115 (0, 0))) ∧ Aside0 (Below w.heap.size w wc))
   case first =>
    have H := HC108.out
    clear HC108
    by_cases c115 : a1_0 = 3
    ·rw [if_pos c115] at H
     have c115b0 : (a1_0 == 3) = true := beq_iff_eq.mpr c115
     have c115b1 : (a1_0 != 3) = false := bne_eq_false_iff_eq.mpr c115
     clear c115
     (first | rw [c115b0] | (simp only [i64_w, i32_w]; rw [c115b0]) | skip)
     have H' := Aside0.mk H
     clear H
     go_wp2
     go_meet
     case rel => exact ⟨_, ((a1_0 == 3)), (by first | rfl | (simp; done) | (simp [*]; done)), H', ⟨by first | omega | exact Nat.le_refl _⟩, ⟨by (iterate 7 ((with_reducible repeat (first | refine blk_drewN ?_ _ | refine blk_drew ?_ | refine blk_alloc ?_ _)); refine blk_far ?_ NB826_827.out _)); (with_reducible repeat (first | refine blk_drewN ?_ _ | refine blk_drew ?_ | refine blk_alloc ?_ _)); exact BK826.out⟩, ⟨by (with_reducible repeat (first | refine blk_drewN ?_ _ | refine blk_drew ?_ | refine blk_alloc ?_ _)); refine blk_put (cs := #[.int .i64 a1_0, .int .i64 0, .int .i64 0, .int .i64 0, .slice none 0 0, .slice none 0 0, .slice none 0 0]) ?_ 6 _ rfl; (with_reducible repeat (first | refine blk_drewN ?_ _ | refine blk_drew ?_ | refine blk_alloc ?_ _)); refine blk_put (cs := #[.int .i64 a1_0, .int .i64 0, .int .i64 0, .int .i64 0, .slice none 0 0, .slice none 0 0, .slice none 0 0]) ?_ 5 _ rfl; (with_reducible repeat (first | refine blk_drewN ?_ _ | refine blk_drew ?_ | refine blk_alloc ?_ _)); refine blk_put (cs := #[.int .i64 a1_0, .int .i64 0, .int .i64 0, .int .i64 0, .slice none 0 0, .slice none 0 0, .slice none 0 0]) ?_ 4 _ rfl; (with_reducible repeat (first | refine blk_drewN ?_ _ | refine blk_drew ?_ | refine blk_alloc ?_ _)); refine blk_put (cs := #[.int .i64 a1_0, .int .i64 0, .int .i64 0, .int .i64 0, .slice none 0 0, .slice none 0 0, .slice none 0 0]) ?_ 3 _ rfl; (with_reducible repeat (first | refine blk_drewN ?_ _ | refine blk_drew ?_ | refine blk_alloc ?_ _)); refine blk_put (cs := #[.int .i64 a1_0, .int .i64 0, .int .i64 0, .int .i64 0, .slice none 0 0, .slice none 0 0, .slice none 0 0]) ?_ 2 _ rfl; (with_reducible repeat (first | refine blk_drewN ?_ _ | refine blk_drew ?_ | refine blk_alloc ?_ _)); refine blk_put (cs := #[.int .i64 a1_0, .int .i64 0, .int .i64 0, .int .i64 0, .slice none 0 0, .slice none 0 0, .slice none 0 0]) ?_ 1 _ rfl; (with_reducible repeat (first | refine blk_drewN ?_ _ | refine blk_drew ?_ | refine blk_alloc ?_ _)); refine blk_put (cs := #[.int .i64 0, .int .i64 0, .int .i64 0, .int .i64 0, .slice none 0 0, .slice none 0 0, .slice none 0 0]) ?_ 0 _ rfl; (with_reducible repeat (first | refine blk_drewN ?_ _ | refine blk_drew ?_ | refine blk_alloc ?_ _)); exact BK827.out⟩, ⟨by repeat (first | (with_reducible first | exact HB.out | apply below_alloc | apply pw_below_drewN | apply below_drew1 | refine below_set ?_ GE826.out | refine below_set ?_ GE827.out) | exact HB.out)⟩⟩
    ·rw [if_neg c115] at H
     have c115b0 : (a1_0 == 3) = false := beq_eq_false_iff_ne.mpr c115
     have c115b1 : (a1_0 != 3) = true := bne_iff_ne.mpr c115
     (first | rw [c115b0] | (simp only [i64_w, i32_w]; rw [c115b0]) | skip)
     by_cases c116 : a1_0 = 4
     ·rw [if_pos c116] at H
      have c116b0 : (a1_0 == 4) = true := beq_iff_eq.mpr c116
      have c116b1 : (a1_0 != 4) = false := bne_eq_false_iff_eq.mpr c116
      clear c116
      have H' := Aside0.mk H
      clear H
      go_wp2
      go_meet
      case rel => exact ⟨_, ((a1_0 == 4)), (by first | rfl | (simp; done) | (simp [*]; done)), H', ⟨by first | omega | exact Nat.le_refl _⟩, ⟨by (iterate 7 ((with_reducible repeat (first | refine blk_drewN ?_ _ | refine blk_drew ?_ | refine blk_alloc ?_ _)); refine blk_far ?_ NB826_827.out _)); (with_reducible repeat (first | refine blk_drewN ?_ _ | refine blk_drew ?_ | refine blk_alloc ?_ _)); exact BK826.out⟩, ⟨by (with_reducible repeat (first | refine blk_drewN ?_ _ | refine blk_drew ?_ | refine blk_alloc ?_ _)); refine blk_put (cs := #[.int .i64 a1_0, .int .i64 0, .int .i64 0, .int .i64 0, .slice none 0 0, .slice none 0 0, .slice none 0 0]) ?_ 6 _ rfl; (with_reducible repeat (first | refine blk_drewN ?_ _ | refine blk_drew ?_ | refine blk_alloc ?_ _)); refine blk_put (cs := #[.int .i64 a1_0, .int .i64 0, .int .i64 0, .int .i64 0, .slice none 0 0, .slice none 0 0, .slice none 0 0]) ?_ 5 _ rfl; (with_reducible repeat (first | refine blk_drewN ?_ _ | refine blk_drew ?_ | refine blk_alloc ?_ _)); refine blk_put (cs := #[.int .i64 a1_0, .int .i64 0, .int .i64 0, .int .i64 0, .slice none 0 0, .slice none 0 0, .slice none 0 0]) ?_ 4 _ rfl; (with_reducible repeat (first | refine blk_drewN ?_ _ | refine blk_drew ?_ | refine blk_alloc ?_ _)); refine blk_put (cs := #[.int .i64 a1_0, .int .i64 0, .int .i64 0, .int .i64 0, .slice none 0 0, .slice none 0 0, .slice none 0 0]) ?_ 3 _ rfl; (with_reducible repeat (first | refine blk_drewN ?_ _ | refine blk_drew ?_ | refine blk_alloc ?_ _)); refine blk_put (cs := #[.int .i64 a1_0, .int .i64 0, .int .i64 0, .int .i64 0, .slice none 0 0, .slice none 0 0, .slice none 0 0]) ?_ 2 _ rfl; (with_reducible repeat (first | refine blk_drewN ?_ _ | refine blk_drew ?_ | refine blk_alloc ?_ _)); refine blk_put (cs := #[.int .i64 a1_0, .int .i64 0, .int .i64 0, .int .i64 0, .slice none 0 0, .slice none 0 0, .slice none 0 0]) ?_ 1 _ rfl; (with_reducible repeat (first | refine blk_drewN ?_ _ | refine blk_drew ?_ | refine blk_alloc ?_ _)); refine blk_put (cs := #[.int .i64 0, .int .i64 0, .int .i64 0, .int .i64 0, .slice none 0 0, .slice none 0 0, .slice none 0 0]) ?_ 0 _ rfl; (with_reducible repeat (first | refine blk_drewN ?_ _ | refine blk_drew ?_ | refine blk_alloc ?_ _)); exact BK827.out⟩, ⟨by repeat (first | (with_reducible first | exact HB.out | apply below_alloc | apply pw_below_drewN | apply below_drew1 | refine below_set ?_ GE826.out | refine below_set ?_ GE827.out) | exact HB.out)⟩⟩
     ·rw [if_neg c116] at H
      have c116b0 : (a1_0 == 4) = false := beq_eq_false_iff_ne.mpr c116
      have c116b1 : (a1_0 != 4) = true := bne_iff_ne.mpr c116
      have H' := Aside0.mk H
      clear H
      go_wp2
      go_meet
      case rel => exact ⟨_, ((a1_0 == 5)), (by first | rfl | (simp; done) | (simp [*]; done)), H', ⟨by first | omega | exact Nat.le_refl _⟩, ⟨by (iterate 7 ((with_reducible repeat (first | refine blk_drewN ?_ _ | refine blk_drew ?_ | refine blk_alloc ?_ _)); refine blk_far ?_ NB826_827.out _)); (with_reducible repeat (first | refine blk_drewN ?_ _ | refine blk_drew ?_ | refine blk_alloc ?_ _)); exact BK826.out⟩, ⟨by (with_reducible repeat (first | refine blk_drewN ?_ _ | refine blk_drew ?_ | refine blk_alloc ?_ _)); refine blk_put (cs := #[.int .i64 a1_0, .int .i64 0, .int .i64 0, .int .i64 0, .slice none 0 0, .slice none 0 0, .slice none 0 0]) ?_ 6 _ rfl; (with_reducible repeat (first | refine blk_drewN ?_ _ | refine blk_drew ?_ | refine blk_alloc ?_ _)); refine blk_put (cs := #[.int .i64 a1_0, .int .i64 0, .int .i64 0, .int .i64 0, .slice none 0 0, .slice none 0 0, .slice none 0 0]) ?_ 5 _ rfl; (with_reducible repeat (first | refine blk_drewN ?_ _ | refine blk_drew ?_ | refine blk_alloc ?_ _)); refine blk_put (cs := #[.int .i64 a1_0, .int .i64 0, .int .i64 0, .int .i64 0, .slice none 0 0, .slice none 0 0, .slice none 0 0]) ?_ 4 _ rfl; (with_reducible repeat (first | refine blk_drewN ?_ _ | refine blk_drew ?_ | refine blk_alloc ?_ _)); refine blk_put (cs := #[.int .i64 a1_0, .int .i64 0, .int .i64 0, .int .i64 0, .slice none 0 0, .slice none 0 0, .slice none 0 0]) ?_ 3 _ rfl; (with_reducible repeat (first | refine blk_drewN ?_ _ | refine blk_drew ?_ | refine blk_alloc ?_ _)); refine blk_put (cs := #[.int .i64 a1_0, .int .i64 0, .int .i64 0, .int .i64 0, .slice none 0 0, .slice none 0 0, .slice none 0 0]) ?_ 2 _ rfl; (with_reducible repeat (first | refine blk_drewN ?_ _ | refine blk_drew ?_ | refine blk_alloc ?_ _)); refine blk_put (cs := #[.int .i64 a1_0, .int .i64 0, .int .i64 0, .int .i64 0, .slice none 0 0, .slice none 0 0, .slice none 0 0]) ?_ 1 _ rfl; (with_reducible repeat (first | refine blk_drewN ?_ _ | refine blk_drew ?_ | refine blk_alloc ?_ _)); refine blk_put (cs := #[.int .i64 0, .int .i64 0, .int .i64 0, .int .i64 0, .slice none 0 0, .slice none 0 0, .slice none 0 0]) ?_ 0 _ rfl; (with_reducible repeat (first | refine blk_drewN ?_ _ | refine blk_drew ?_ | refine blk_alloc ?_ _)); exact BK827.out⟩, ⟨by repeat (first | (with_reducible first | exact HB.out | apply below_alloc | apply pw_below_drewN | apply below_drew1 | refine below_set ?_ GE826.out | refine below_set ?_ GE827.out) | exact HB.out)⟩⟩
   case rest =>
    clear HC108
    try clear c1
    try clear c2
    try clear p2
    try clear c3
    try clear c3b0
    try clear c3b1
    try clear c4
    try clear c4b0
    try clear c4b1
    try clear c5
    try clear c5b0
    try clear c5b1
    try clear c6
    try clear c6b0
    try clear c6b1
    try clear p6
    try clear c7
    try clear c8
    try clear c9
    try clear c9b0
    try clear c9b1
    try clear c10
    try clear c11
    try clear c13
    try clear c19
    try clear c25
    try clear c31
    try clear c37
    try clear c43
    try clear c46
    try clear c46b0
    try clear c46b1
    try clear c47
    try clear c47b0
    try clear c47b1
    try clear c48
    try clear c48b0
    try clear c48b1
    try clear c48b2
    try clear c50
    try clear c51
    try clear c51b0
    try clear c51b1
    try clear c51b2
    try clear c53
    try clear c55
    try clear c60
    try clear p64
    try clear c68
    try clear c76
    try clear c84
    try clear c92
    try clear c99
    try clear c105
    try clear c112
    try clear c115
    try clear c115b0
    try clear c115b1
    try clear c116
    try clear c116b0
    try clear c116b1
    try clear hcz100_0
    try clear hcz100_1
    try clear hcz100_2
    try clear hcz100_3
    try clear hcz100_4
    try clear hcz100_5
    try clear hcz100_6
    try clear hcz101_0
    try clear hcz101_1
    try clear hcz101_2
    try clear hcz101_3
    try clear hcz101_4
    try clear hcz101_5
    try clear hcz101_6
    try clear hcz103_0
    try clear hcz103_1
    try clear hcz103_2
    try clear hcz103_3
    try clear hcz103_4
    try clear hcz103_5
    try clear hcz103_6
    try clear hcz106_0
    try clear hcz106_1
    try clear hcz106_2
    try clear hcz106_3
    try clear hcz106_4
    try clear hcz106_5
    try clear hcz106_6
    try clear hcz107_0
    try clear hcz107_1
    try clear hcz107_2
    try clear hcz107_3
    try clear hcz107_4
    try clear hcz107_5
    try clear hcz107_6
    try clear hcz110_0
    try clear hcz110_1
    try clear hcz110_2
    try clear hcz110_3
    try clear hcz110_4
    try clear hcz110_5
    try clear hcz110_6
    try clear hcz113_0
    try clear hcz113_1
    try clear hcz113_2
    try clear hcz113_3
    try clear hcz113_4
    try clear hcz113_5
    try clear hcz113_6
    try clear hcz114_0
    try clear hcz114_1
    try clear hcz114_2
    try clear hcz114_3
    try clear hcz114_4
    try clear hcz114_5
    try clear hcz114_6
    try clear hcz11_0
    try clear hcz11_1
    try clear hcz11_2
    try clear hcz11_3
    try clear hcz11_4
    try clear hcz11_5
    try clear hcz11_6
    try clear hcz14_0
    try clear hcz14_1
    try clear hcz14_2
    try clear hcz14_3
    try clear hcz14_4
    try clear hcz14_5
    try clear hcz14_6
    try clear hcz15_0
    try clear hcz15_1
    try clear hcz15_2
    try clear hcz15_3
    try clear hcz15_4
    try clear hcz15_5
    try clear hcz15_6
    try clear hcz17_0
    try clear hcz17_1
    try clear hcz17_2
    try clear hcz17_3
    try clear hcz17_4
    try clear hcz17_5
    try clear hcz17_6
    try clear hcz20_0
    try clear hcz20_1
    try clear hcz20_2
    try clear hcz20_3
    try clear hcz20_4
    try clear hcz20_5
    try clear hcz20_6
    try clear hcz21_0
    try clear hcz21_1
    try clear hcz21_2
    try clear hcz21_3
    try clear hcz21_4
    try clear hcz21_5
    try clear hcz21_6
    try clear hcz23_0
    try clear hcz23_1
    try clear hcz23_2
    try clear hcz23_3
    try clear hcz23_4
    try clear hcz23_5
    try clear hcz23_6
    try clear hcz26_0
    try clear hcz26_1
    try clear hcz26_2
    try clear hcz26_3
    try clear hcz26_4
    try clear hcz26_5
    try clear hcz26_6
    try clear hcz27_0
    try clear hcz27_1
    try clear hcz27_2
    try clear hcz27_3
    try clear hcz27_4
    try clear hcz27_5
    try clear hcz27_6
    try clear hcz29_0
    try clear hcz29_1
    try clear hcz29_2
    try clear hcz29_3
    try clear hcz29_4
    try clear hcz29_5
    try clear hcz29_6
    try clear hcz32_0
    try clear hcz32_1
    try clear hcz32_2
    try clear hcz32_3
    try clear hcz32_4
    try clear hcz32_5
    try clear hcz32_6
    try clear hcz33_0
    try clear hcz33_1
    try clear hcz33_2
    try clear hcz33_3
    try clear hcz33_4
    try clear hcz33_5
    try clear hcz33_6
    try clear hcz35_0
    try clear hcz35_1
    try clear hcz35_2
    try clear hcz35_3
    try clear hcz35_4
    try clear hcz35_5
    try clear hcz35_6
    try clear hcz38_0
    try clear hcz38_1
    try clear hcz38_2
    try clear hcz38_3
    try clear hcz38_4
    try clear hcz38_5
    try clear hcz38_6
    try clear hcz39_0
    try clear hcz39_1
    try clear hcz39_2
    try clear hcz39_3
    try clear hcz39_4
    try clear hcz39_5
    try clear hcz39_6
    try clear hcz41_0
    try clear hcz41_1
    try clear hcz41_2
    try clear hcz41_3
    try clear hcz41_4
    try clear hcz41_5
    try clear hcz41_6
    try clear hcz44_0
    try clear hcz44_1
    try clear hcz44_2
    try clear hcz44_3
    try clear hcz44_4
    try clear hcz44_5
    try clear hcz44_6
    try clear hcz45_0
    try clear hcz45_1
    try clear hcz45_2
    try clear hcz45_3
    try clear hcz45_4
    try clear hcz45_5
    try clear hcz45_6
    try clear hcz58_0
    try clear hcz58_1
    try clear hcz58_2
    try clear hcz58_3
    try clear hcz58_4
    try clear hcz58_5
    try clear hcz58_6
    try clear hcz61_0
    try clear hcz61_1
    try clear hcz61_2
    try clear hcz61_3
    try clear hcz61_4
    try clear hcz61_5
    try clear hcz61_6
    try clear hcz62_0
    try clear hcz62_1
    try clear hcz62_2
    try clear hcz62_3
    try clear hcz62_4
    try clear hcz62_5
    try clear hcz62_6
    try clear hcz64_0
    try clear hcz64_1
    try clear hcz64_2
    try clear hcz64_3
    try clear hcz64_4
    try clear hcz64_5
    try clear hcz64_6
    try clear hcz66_0
    try clear hcz66_1
    try clear hcz66_2
    try clear hcz66_3
    try clear hcz66_4
    try clear hcz66_5
    try clear hcz66_6
    try clear hcz69_0
    try clear hcz69_1
    try clear hcz69_2
    try clear hcz69_3
    try clear hcz69_4
    try clear hcz69_5
    try clear hcz69_6
    try clear hcz70_0
    try clear hcz70_1
    try clear hcz70_2
    try clear hcz70_3
    try clear hcz70_4
    try clear hcz70_5
    try clear hcz70_6
    try clear hcz72_0
    try clear hcz72_1
    try clear hcz72_2
    try clear hcz72_3
    try clear hcz72_4
    try clear hcz72_5
    try clear hcz72_6
    try clear hcz74_0
    try clear hcz74_1
    try clear hcz74_2
    try clear hcz74_3
    try clear hcz74_4
    try clear hcz74_5
    try clear hcz74_6
    try clear hcz77_0
    try clear hcz77_1
    try clear hcz77_2
    try clear hcz77_3
    try clear hcz77_4
    try clear hcz77_5
    try clear hcz77_6
    try clear hcz78_0
    try clear hcz78_1
    try clear hcz78_2
    try clear hcz78_3
    try clear hcz78_4
    try clear hcz78_5
    try clear hcz78_6
    try clear hcz80_0
    try clear hcz80_1
    try clear hcz80_2
    try clear hcz80_3
    try clear hcz80_4
    try clear hcz80_5
    try clear hcz80_6
    try clear hcz82_0
    try clear hcz82_1
    try clear hcz82_2
    try clear hcz82_3
    try clear hcz82_4
    try clear hcz82_5
    try clear hcz82_6
    try clear hcz85_0
    try clear hcz85_1
    try clear hcz85_2
    try clear hcz85_3
    try clear hcz85_4
    try clear hcz85_5
    try clear hcz85_6
    try clear hcz86_0
    try clear hcz86_1
    try clear hcz86_2
    try clear hcz86_3
    try clear hcz86_4
    try clear hcz86_5
    try clear hcz86_6
    try clear hcz88_0
    try clear hcz88_1
    try clear hcz88_2
    try clear hcz88_3
    try clear hcz88_4
    try clear hcz88_5
    try clear hcz88_6
    try clear hcz90_0
    try clear hcz90_1
    try clear hcz90_2
    try clear hcz90_3
    try clear hcz90_4
    try clear hcz90_5
    try clear hcz90_6
    try clear hcz93_0
    try clear hcz93_1
    try clear hcz93_2
    try clear hcz93_3
    try clear hcz93_4
    try clear hcz93_5
    try clear hcz93_6
    try clear hcz94_0
    try clear hcz94_1
    try clear hcz94_2
    try clear hcz94_3
    try clear hcz94_4
    try clear hcz94_5
    try clear hcz94_6
    try clear hcz97_0
    try clear hcz97_1
    try clear hcz97_2
    try clear hcz97_3
    try clear hcz97_4
    try clear hcz97_5
    try clear hcz97_6
    try clear hfz100_0
    try clear hfz100_1
    try clear hfz100_2
    try clear hfz100_3
    try clear hfz100_4
    try clear hfz100_5
    try clear hfz100_6
    try clear hfz101_0
    try clear hfz101_1
    try clear hfz101_2
    try clear hfz101_3
    try clear hfz101_4
    try clear hfz101_5
    try clear hfz101_6
    try clear hfz103_0
    try clear hfz103_1
    try clear hfz103_2
    try clear hfz103_3
    try clear hfz103_4
    try clear hfz103_5
    try clear hfz103_6
    try clear hfz106_0
    try clear hfz106_1
    try clear hfz106_2
    try clear hfz106_3
    try clear hfz106_4
    try clear hfz106_5
    try clear hfz106_6
    try clear hfz107_0
    try clear hfz107_1
    try clear hfz107_2
    try clear hfz107_3
    try clear hfz107_4
    try clear hfz107_5
    try clear hfz107_6
    try clear hfz110_0
    try clear hfz110_1
    try clear hfz110_2
    try clear hfz110_3
    try clear hfz110_4
    try clear hfz110_5
    try clear hfz110_6
    try clear hfz113_0
    try clear hfz113_1
    try clear hfz113_2
    try clear hfz113_3
    try clear hfz113_4
    try clear hfz113_5
    try clear hfz113_6
    try clear hfz114_0
    try clear hfz114_1
    try clear hfz114_2
    try clear hfz114_3
    try clear hfz114_4
    try clear hfz114_5
    try clear hfz114_6
    try clear hfz11_0
    try clear hfz11_1
    try clear hfz11_2
    try clear hfz11_3
    try clear hfz11_4
    try clear hfz11_5
    try clear hfz11_6
    try clear hfz14_0
    try clear hfz14_1
    try clear hfz14_2
    try clear hfz14_3
    try clear hfz14_4
    try clear hfz14_5
    try clear hfz14_6
    try clear hfz15_0
    try clear hfz15_1
    try clear hfz15_2
    try clear hfz15_3
    try clear hfz15_4
    try clear hfz15_5
    try clear hfz15_6
    try clear hfz17_0
    try clear hfz17_1
    try clear hfz17_2
    try clear hfz17_3
    try clear hfz17_4
    try clear hfz17_5
    try clear hfz17_6
    try clear hfz20_0
    try clear hfz20_1
    try clear hfz20_2
    try clear hfz20_3
    try clear hfz20_4
    try clear hfz20_5
    try clear hfz20_6
    try clear hfz21_0
    try clear hfz21_1
    try clear hfz21_2
    try clear hfz21_3
    try clear hfz21_4
    try clear hfz21_5
    try clear hfz21_6
    try clear hfz23_0
    try clear hfz23_1
    try clear hfz23_2
    try clear hfz23_3
    try clear hfz23_4
    try clear hfz23_5
    try clear hfz23_6
    try clear hfz26_0
    try clear hfz26_1
    try clear hfz26_2
    try clear hfz26_3
    try clear hfz26_4
    try clear hfz26_5
    try clear hfz26_6
    try clear hfz27_0
    try clear hfz27_1
    try clear hfz27_2
    try clear hfz27_3
    try clear hfz27_4
    try clear hfz27_5
    try clear hfz27_6
    try clear hfz29_0
    try clear hfz29_1
    try clear hfz29_2
    try clear hfz29_3
    try clear hfz29_4
    try clear hfz29_5
    try clear hfz29_6
    try clear hfz32_0
    try clear hfz32_1
    try clear hfz32_2
    try clear hfz32_3
    try clear hfz32_4
    try clear hfz32_5
    try clear hfz32_6
    try clear hfz33_0
    try clear hfz33_1
    try clear hfz33_2
    try clear hfz33_3
    try clear hfz33_4
    try clear hfz33_5
    try clear hfz33_6
    try clear hfz35_0
    try clear hfz35_1
    try clear hfz35_2
    try clear hfz35_3
    try clear hfz35_4
    try clear hfz35_5
    try clear hfz35_6
    try clear hfz38_0
    try clear hfz38_1
    try clear hfz38_2
    try clear hfz38_3
    try clear hfz38_4
    try clear hfz38_5
    try clear hfz38_6
    try clear hfz39_0
    try clear hfz39_1
    try clear hfz39_2
    try clear hfz39_3
    try clear hfz39_4
    try clear hfz39_5
    try clear hfz39_6
    try clear hfz41_0
    try clear hfz41_1
    try clear hfz41_2
    try clear hfz41_3
    try clear hfz41_4
    try clear hfz41_5
    try clear hfz41_6
    try clear hfz44_0
    try clear hfz44_1
    try clear hfz44_2
    try clear hfz44_3
    try clear hfz44_4
    try clear hfz44_5
    try clear hfz44_6
    try clear hfz45_0
    try clear hfz45_1
    try clear hfz45_2
    try clear hfz45_3
    try clear hfz45_4
    try clear hfz45_5
    try clear hfz45_6
    try clear hfz58_0
    try clear hfz58_1
    try clear hfz58_2
    try clear hfz58_3
    try clear hfz58_4
    try clear hfz58_5
    try clear hfz58_6
    try clear hfz61_0
    try clear hfz61_1
    try clear hfz61_2
    try clear hfz61_3
    try clear hfz61_4
    try clear hfz61_5
    try clear hfz61_6
    try clear hfz62_0
    try clear hfz62_1
    try clear hfz62_2
    try clear hfz62_3
    try clear hfz62_4
    try clear hfz62_5
    try clear hfz62_6
    try clear hfz64_0
    try clear hfz64_1
    try clear hfz64_2
    try clear hfz64_3
    try clear hfz64_4
    try clear hfz64_5
    try clear hfz64_6
    try clear hfz66_0
    try clear hfz66_1
    try clear hfz66_2
    try clear hfz66_3
    try clear hfz66_4
    try clear hfz66_5
    try clear hfz66_6
    try clear hfz69_0
    try clear hfz69_1
    try clear hfz69_2
    try clear hfz69_3
    try clear hfz69_4
    try clear hfz69_5
    try clear hfz69_6
    try clear hfz70_0
    try clear hfz70_1
    try clear hfz70_2
    try clear hfz70_3
    try clear hfz70_4
    try clear hfz70_5
    try clear hfz70_6
    try clear hfz72_0
    try clear hfz72_1
    try clear hfz72_2
    try clear hfz72_3
    try clear hfz72_4
    try clear hfz72_5
    try clear hfz72_6
    try clear hfz74_0
    try clear hfz74_1
    try clear hfz74_2
    try clear hfz74_3
    try clear hfz74_4
    try clear hfz74_5
    try clear hfz74_6
    try clear hfz77_0
    try clear hfz77_1
    try clear hfz77_2
    try clear hfz77_3
    try clear hfz77_4
    try clear hfz77_5
    try clear hfz77_6
    try clear hfz78_0
    try clear hfz78_1
    try clear hfz78_2
    try clear hfz78_3
    try clear hfz78_4
    try clear hfz78_5
    try clear hfz78_6
    try clear hfz80_0
    try clear hfz80_1
    try clear hfz80_2
    try clear hfz80_3
    try clear hfz80_4
    try clear hfz80_5
    try clear hfz80_6
    try clear hfz82_0
    try clear hfz82_1
    try clear hfz82_2
    try clear hfz82_3
    try clear hfz82_4
    try clear hfz82_5
    try clear hfz82_6
    try clear hfz85_0
    try clear hfz85_1
    try clear hfz85_2
    try clear hfz85_3
    try clear hfz85_4
    try clear hfz85_5
    try clear hfz85_6
    try clear hfz86_0
    try clear hfz86_1
    try clear hfz86_2
    try clear hfz86_3
    try clear hfz86_4
    try clear hfz86_5
    try clear hfz86_6
    try clear hfz88_0
    try clear hfz88_1
    try clear hfz88_2
    try clear hfz88_3
    try clear hfz88_4
    try clear hfz88_5
    try clear hfz88_6
    try clear hfz90_0
    try clear hfz90_1
    try clear hfz90_2
    try clear hfz90_3
    try clear hfz90_4
    try clear hfz90_5
    try clear hfz90_6
    try clear hfz93_0
    try clear hfz93_1
    try clear hfz93_2
    try clear hfz93_3
    try clear hfz93_4
    try clear hfz93_5
    try clear hfz93_6
    try clear hfz94_0
    try clear hfz94_1
    try clear hfz94_2
    try clear hfz94_3
    try clear hfz94_4
    try clear hfz94_5
    try clear hfz94_6
    try clear hfz97_0
    try clear hfz97_1
    try clear hfz97_2
    try clear hfz97_3
    try clear hfz97_4
    try clear hfz97_5
    try clear hfz97_6
    obtain ⟨kq, x92_107, rfl, HA, HJ107, BK826, BK827, HB⟩ := hcut
    cases kq with
    | zero => exact absurd HA.out (by simp [spec_l11Ins.j0])
    | succ kj107 =>
     have H := HA.out
     clear HA
     simp only [spec_l11Ins.j0] at H
     by_cases c117 : x92_107 = true
     ·subst c117
      have H1 : (if a1_0 = 5 then (spec_l11Ins.j1 kj107 (l0.length : Int) a1_0 a1_1 a1_2 a1_3 l1_4 l1_5 l1_6 a1_0 a1_1 a1_2 a1_3) else (spec_l11Ins.j1 kj107 (l0.length : Int) a1_0 a1_1 a1_2 a1_3 l1_4 l1_5 l1_6 a1_0 a1_1 a1_2 0)) = some r := by rw [if_pos rfl] at H; exact H
      clear H
      have H := H1
      clear H1
      have HC118 := Aside0.mk H
      clear H
      have hnb119 := NB826_827.out
      have hnc119 := NB827_826.out
      have hcz120_0 := bc0 BK826.out
      have hcz120_1 := bc1 BK826.out
      have hcz120_2 := bc2 BK826.out
      have hcz120_3 := bc3 BK826.out
      have hcz120_4 := bc4 BK826.out
      have hcz120_5 := bc5 BK826.out
      have hcz120_6 := bc6 BK826.out
      have hfz120_0 := blk_frozen BK826.out 0
      have hfz120_1 := blk_frozen BK826.out 1
      have hfz120_2 := blk_frozen BK826.out 2
      have hfz120_3 := blk_frozen BK826.out 3
      have hfz120_4 := blk_frozen BK826.out 4
      have hfz120_5 := blk_frozen BK826.out 5
      have hfz120_6 := blk_frozen BK826.out 6
      have hcz121_0 := bc0 BK827.out
      have hcz121_1 := bc1 BK827.out
      have hcz121_2 := bc2 BK827.out
      have hcz121_3 := bc3 BK827.out
      have hcz121_4 := bc4 BK827.out
      have hcz121_5 := bc5 BK827.out
      have hcz121_6 := bc6 BK827.out
      have hfz121_0 := blk_frozen BK827.out 0
      have hfz121_1 := blk_frozen BK827.out 1
      have hfz121_2 := blk_frozen BK827.out 2
      have hfz121_3 := blk_frozen BK827.out 3
      have hfz121_4 := blk_frozen BK827.out 4
      have hfz121_5 := blk_frozen BK827.out 5
      have hfz121_6 := blk_frozen BK827.out 6
      go_upto_if 104 with (fail)
      go_cut [] (fun wc => ∃ (kq : Nat) (x828003_117 : Int), Aside0 (spec_l11Ins.j1 kq (l0.length : Int) a1_0 a1_1 a1_2 a1_3 l1_4 l1_5 l1_6 a1_0 a1_1 a1_2 x828003_117 = some r) ∧ Aside0 (kq ≤ kj107) ∧ Aside0 (wc.heap[gb826]? = some (.cells #[.int .i64 a1_0, .int .i64 a1_1, .int .i64 a1_2, .int .i64 a1_3, (.slice A1_4 l1_4.length c1_4), (.slice A1_5 l1_5.length c1_5), (.slice A1_6 l1_6.length c1_6)] 115 (0, 0))) ∧ Aside0 (wc.heap[gb827]? = some (.cells #[.int .i64 a1_0, .int .i64 a1_1, .int .i64 a1_2, .int .i64 x828003_117, (.slice none 0 0), (.slice none 0 0), (.slice none 0 0)] 115 (0, 0))) ∧ Aside0 (Below w.heap.size w wc))
      case first =>
       have H := HC118.out
       clear HC118
       by_cases c122 : a1_0 = 5
       ·rw [if_pos c122] at H
        have c122b0 : (a1_0 == 5) = true := beq_iff_eq.mpr c122
        have c122b1 : (a1_0 != 5) = false := bne_eq_false_iff_eq.mpr c122
        clear c122
        (first | rw [c122b0] | (simp only [i64_w, i32_w]; rw [c122b0]) | skip)
        have H' := Aside0.mk H
        clear H
        have hnb123 := NB826_827.out
        have hnc123 := NB827_826.out
        have hcz124_0 := bc0 BK826.out
        have hcz124_1 := bc1 BK826.out
        have hcz124_2 := bc2 BK826.out
        have hcz124_3 := bc3 BK826.out
        have hcz124_4 := bc4 BK826.out
        have hcz124_5 := bc5 BK826.out
        have hcz124_6 := bc6 BK826.out
        have hfz124_0 := blk_frozen BK826.out 0
        have hfz124_1 := blk_frozen BK826.out 1
        have hfz124_2 := blk_frozen BK826.out 2
        have hfz124_3 := blk_frozen BK826.out 3
        have hfz124_4 := blk_frozen BK826.out 4
        have hfz124_5 := blk_frozen BK826.out 5
        have hfz124_6 := blk_frozen BK826.out 6
        have hcz125_0 := bc0 BK827.out
        have hcz125_1 := bc1 BK827.out
        have hcz125_2 := bc2 BK827.out
        have hcz125_3 := bc3 BK827.out
        have hcz125_4 := bc4 BK827.out
        have hcz125_5 := bc5 BK827.out
        have hcz125_6 := bc6 BK827.out
        have hfz125_0 := blk_frozen BK827.out 0
        have hfz125_1 := blk_frozen BK827.out 1
        have hfz125_2 := blk_frozen BK827.out 2
        have hfz125_3 := blk_frozen BK827.out 3
        have hfz125_4 := blk_frozen BK827.out 4
        have hfz125_5 := blk_frozen BK827.out 5
        have hfz125_6 := blk_frozen BK827.out 6
        go_wp2
        go_meet
        case rel => exact ⟨_, (a1_3), H', ⟨by have := HJ107.out; first | omega | exact Nat.le_refl _⟩, ⟨by (iterate 3 ((with_reducible repeat (first | refine blk_drewN ?_ _ | refine blk_drew ?_ | refine blk_alloc ?_ _)); refine blk_far ?_ NB826_827.out _)); (with_reducible repeat (first | refine blk_drewN ?_ _ | refine blk_drew ?_ | refine blk_alloc ?_ _)); exact BK826.out⟩, ⟨by (with_reducible repeat (first | refine blk_drewN ?_ _ | refine blk_drew ?_ | refine blk_alloc ?_ _)); refine blk_put (cs := #[.int .i64 a1_0, .int .i64 a1_1, .int .i64 a1_2, .int .i64 0, .slice none 0 0, .slice none 0 0, .slice none 0 0]) ?_ 3 _ rfl; (with_reducible repeat (first | refine blk_drewN ?_ _ | refine blk_drew ?_ | refine blk_alloc ?_ _)); refine blk_put (cs := #[.int .i64 a1_0, .int .i64 a1_1, .int .i64 0, .int .i64 0, .slice none 0 0, .slice none 0 0, .slice none 0 0]) ?_ 2 _ rfl; (with_reducible repeat (first | refine blk_drewN ?_ _ | refine blk_drew ?_ | refine blk_alloc ?_ _)); refine blk_put (cs := #[.int .i64 a1_0, .int .i64 0, .int .i64 0, .int .i64 0, .slice none 0 0, .slice none 0 0, .slice none 0 0]) ?_ 1 _ rfl; (with_reducible repeat (first | refine blk_drewN ?_ _ | refine blk_drew ?_ | refine blk_alloc ?_ _)); exact BK827.out⟩, ⟨by repeat (first | (with_reducible first | exact HB.out | apply below_alloc | apply pw_below_drewN | apply below_drew1 | refine below_set ?_ GE826.out | refine below_set ?_ GE827.out) | exact HB.out)⟩⟩
       ·rw [if_neg c122] at H
        have c122b0 : (a1_0 == 5) = false := beq_eq_false_iff_ne.mpr c122
        have c122b1 : (a1_0 != 5) = true := bne_iff_ne.mpr c122
        (first | rw [c122b0] | (simp only [i64_w, i32_w]; rw [c122b0]) | skip)
        have H' := Aside0.mk H
        clear H
        go_wp2
        go_meet
        case rel => exact ⟨_, (0), H', ⟨by have := HJ107.out; first | omega | exact Nat.le_refl _⟩, ⟨by (iterate 2 ((with_reducible repeat (first | refine blk_drewN ?_ _ | refine blk_drew ?_ | refine blk_alloc ?_ _)); refine blk_far ?_ NB826_827.out _)); (with_reducible repeat (first | refine blk_drewN ?_ _ | refine blk_drew ?_ | refine blk_alloc ?_ _)); exact BK826.out⟩, ⟨by (with_reducible repeat (first | refine blk_drewN ?_ _ | refine blk_drew ?_ | refine blk_alloc ?_ _)); refine blk_put (cs := #[.int .i64 a1_0, .int .i64 a1_1, .int .i64 0, .int .i64 0, .slice none 0 0, .slice none 0 0, .slice none 0 0]) ?_ 2 _ rfl; (with_reducible repeat (first | refine blk_drewN ?_ _ | refine blk_drew ?_ | refine blk_alloc ?_ _)); refine blk_put (cs := #[.int .i64 a1_0, .int .i64 0, .int .i64 0, .int .i64 0, .slice none 0 0, .slice none 0 0, .slice none 0 0]) ?_ 1 _ rfl; (with_reducible repeat (first | refine blk_drewN ?_ _ | refine blk_drew ?_ | refine blk_alloc ?_ _)); exact BK827.out⟩, ⟨by repeat (first | (with_reducible first | exact HB.out | apply below_alloc | apply pw_below_drewN | apply below_drew1 | refine below_set ?_ GE826.out | refine below_set ?_ GE827.out) | exact HB.out)⟩⟩
      case rest =>
       clear HC118
       try clear c1
       try clear p2
       try clear c11
       try clear c12
       try clear c117
       try clear c119
       try clear c122
       try clear c122b0
       try clear c122b1
       try clear c123
       try clear hcz120_0
       try clear hcz120_1
       try clear hcz120_2
       try clear hcz120_3
       try clear hcz120_4
       try clear hcz120_5
       try clear hcz120_6
       try clear hcz121_0
       try clear hcz121_1
       try clear hcz121_2
       try clear hcz121_3
       try clear hcz121_4
       try clear hcz121_5
       try clear hcz121_6
       try clear hcz124_0
       try clear hcz124_1
       try clear hcz124_2
       try clear hcz124_3
       try clear hcz124_4
       try clear hcz124_5
       try clear hcz124_6
       try clear hcz125_0
       try clear hcz125_1
       try clear hcz125_2
       try clear hcz125_3
       try clear hcz125_4
       try clear hcz125_5
       try clear hcz125_6
       try clear hcz35_6
       try clear hcz38_0
       try clear hcz38_1
       try clear hcz38_2
       try clear hcz38_3
       try clear hcz38_4
       try clear hcz38_5
       try clear hcz38_6
       try clear hcz39_0
       try clear hcz39_1
       try clear hcz39_2
       try clear hcz39_3
       try clear hcz39_4
       try clear hcz39_5
       try clear hcz39_6
       try clear hcz41_0
       try clear hcz41_1
       try clear hcz41_2
       try clear hcz41_3
       try clear hcz41_4
       try clear hcz41_5
       try clear hcz41_6
       try clear hcz44_0
       try clear hcz44_1
       try clear hcz44_2
       try clear hcz44_3
       try clear hcz44_4
       try clear hcz44_5
       try clear hcz44_6
       try clear hcz45_0
       try clear hcz45_1
       try clear hcz45_2
       try clear hcz45_3
       try clear hcz45_4
       try clear hcz45_5
       try clear hcz45_6
       try clear hcz58_0
       try clear hcz58_1
       try clear hcz58_2
       try clear hcz58_3
       try clear hcz58_4
       try clear hcz58_5
       try clear hcz58_6
       try clear hcz61_0
       try clear hcz61_1
       try clear hcz61_2
       try clear hcz61_3
       try clear hcz61_4
       try clear hcz61_5
       try clear hcz61_6
       try clear hcz62_0
       try clear hcz62_1
       try clear hcz62_2
       try clear hcz62_3
       try clear hcz62_4
       try clear hcz62_5
       try clear hcz62_6
       try clear hcz64_0
       try clear hcz64_1
       try clear hcz64_2
       try clear hcz64_3
       try clear hcz64_4
       try clear hcz64_5
       try clear hcz64_6
       try clear hcz66_0
       try clear hcz66_1
       try clear hcz66_2
       try clear hcz66_3
       try clear hcz66_4
       try clear hcz66_5
       try clear hcz66_6
       try clear hcz69_0
       try clear hcz69_1
       try clear hcz69_2
       try clear hcz69_3
       try clear hcz69_4
       try clear hcz69_5
       try clear hcz69_6
       try clear hcz70_0
       try clear hcz70_1
       try clear hcz70_2
       try clear hcz70_3
       try clear hcz70_4
       try clear hcz70_5
       try clear hcz70_6
       try clear hcz72_0
       try clear hcz72_1
       try clear hcz72_2
       try clear hcz72_3
       try clear hcz72_4
       try clear hcz72_5
       try clear hcz72_6
       try clear hcz74_0
       try clear hcz74_1
       try clear hcz74_2
       try clear hcz74_3
       try clear hcz74_4
       try clear hcz74_5
       try clear hcz74_6
       try clear hcz77_0
       try clear hcz77_1
       try clear hcz77_2
       try clear hcz77_3
       try clear hcz77_4
       try clear hcz77_5
       try clear hcz77_6
       try clear hcz78_0
       try clear hcz78_1
       try clear hcz78_2
       try clear hcz78_3
       try clear hcz78_4
       try clear hcz78_5
       try clear hcz78_6
       try clear hcz80_0
       try clear hcz80_1
       try clear hcz80_2
       try clear hcz80_3
       try clear hcz80_4
       try clear hcz80_5
       try clear hcz80_6
       try clear hcz82_0
       try clear hcz82_1
       try clear hcz82_2
       try clear hcz82_3
       try clear hcz82_4
       try clear hcz82_5
       try clear hcz82_6
       try clear hcz85_0
       try clear hcz85_1
       try clear hcz85_2
       try clear hcz85_3
       try clear hcz85_4
       try clear hcz85_5
       try clear hcz85_6
       try clear hcz86_0
       try clear hcz86_1
       try clear hcz86_2
       try clear hcz86_3
       try clear hcz86_4
       try clear hcz86_5
       try clear hcz86_6
       try clear hcz88_0
       try clear hcz88_1
       try clear hcz88_2
       try clear hcz88_3
       try clear hcz88_4
       try clear hcz88_5
       try clear hcz88_6
       try clear hcz90_0
       try clear hcz90_1
       try clear hcz90_2
       try clear hcz90_3
       try clear hcz90_4
       try clear hcz90_5
       try clear hcz90_6
       try clear hcz93_0
       try clear hcz93_1
       try clear hcz93_2
       try clear hcz93_3
       try clear hcz93_4
       try clear hcz93_5
       try clear hcz93_6
       try clear hcz94_0
       try clear hcz94_1
       try clear hcz94_2
       try clear hcz94_3
       try clear hcz94_4
       try clear hcz94_5
       try clear hcz94_6
       try clear hcz97_0
       try clear hcz97_1
       try clear hcz97_2
       try clear hcz97_3
       try clear hcz97_4
       try clear hcz97_5
       try clear hcz97_6
       try clear hfz100_0
       try clear hfz100_1
       try clear hfz100_2
       try clear hfz100_3
       try clear hfz100_4
       try clear hfz100_5
       try clear hfz100_6
       try clear hfz101_0
       try clear hfz101_1
       try clear hfz101_2
       try clear hfz101_3
       try clear hfz101_4
       try clear hfz101_5
       try clear hfz101_6
       try clear hfz103_0
       try clear hfz103_1
       try clear hfz103_2
       try clear hfz103_3
       try clear hfz103_4
       try clear hfz103_5
       try clear hfz103_6
       try clear hfz106_0
       try clear hfz106_1
       try clear hfz106_2
       try clear hfz106_3
       try clear hfz106_4
       try clear hfz106_5
       try clear hfz106_6
       try clear hfz107_0
       try clear hfz107_1
       try clear hfz107_2
       try clear hfz107_3
       try clear hfz107_4
       try clear hfz107_5
       try clear hfz107_6
       try clear hfz110_0
       try clear hfz110_1
       try clear hfz110_2
       try clear hfz110_3
       try clear hfz110_4
       try clear hfz110_5
       try clear hfz110_6
       try clear hfz113_0
       try clear hfz113_1
       try clear hfz113_2
       try clear hfz113_3
       try clear hfz113_4
       try clear hfz113_5
       try clear hfz113_6
       try clear hfz114_0
       try clear hfz114_1
       try clear hfz114_2
       try clear hfz114_3
       try clear hfz114_4
       try clear hfz114_5
       try clear hfz114_6
       try clear hfz11_0
       try clear hfz11_1
       try clear hfz11_2
       try clear hfz11_3
       try clear hfz11_4
       try clear hfz11_5
       try clear hfz11_6
       try clear hfz120_0
       try clear hfz120_1
       try clear hfz120_2
       try clear hfz120_3
       try clear hfz120_4
       try clear hfz120_5
       try clear hfz120_6
       try clear hfz121_0
       try clear hfz121_1
       try clear hfz121_2
       try clear hfz121_3
       try clear hfz121_4
       try clear hfz121_5
       try clear hfz121_6
       try clear hfz124_0
       try clear hfz124_1
       try clear hfz124_2
       try clear hfz124_3
       try clear hfz124_4
       try clear hfz124_5
       try clear hfz124_6
       try clear hfz125_0
       try clear hfz125_1
       try clear hfz125_2
       try clear hfz125_3
       try clear hfz125_4
       try clear hfz125_5
       try clear hfz125_6
       try clear hfz14_0
       try clear hfz14_1
       try clear hfz14_2
       try clear hfz14_3
       try clear hfz14_4
       try clear hfz14_5
       try clear hfz14_6
       try clear hfz15_0
       try clear hfz15_1
       try clear hfz15_2
       try clear hfz15_3
       try clear hfz15_4
       try clear hfz15_5
       try clear hfz15_6
       try clear hfz17_0
       try clear hfz17_1
       try clear hfz17_2
       try clear hfz17_3
       try clear hfz17_4
       try clear hfz17_5
       try clear hfz17_6
       try clear hfz20_0
       try clear hfz20_1
       try clear hfz20_2
       try clear hfz20_3
       try clear hfz20_4
       try clear hfz20_5
       try clear hfz20_6
       try clear hfz21_0
       try clear hfz21_1
       try clear hfz21_2
       try clear hfz21_3
       try clear hfz21_4
       try clear hfz21_5
       try clear hfz21_6
       try clear hfz23_0
       try clear hfz23_1
       try clear hfz23_2
       try clear hfz23_3
       try clear hfz23_4
       try clear hfz23_5
       try clear hfz23_6
       try clear hfz26_0
       try clear hfz26_1
       try clear hfz26_2
       try clear hfz26_3
       try clear hfz26_4
       try clear hfz26_5
       try clear hfz26_6
       try clear hfz27_0
       try clear hfz27_1
       try clear hfz27_2
       try clear hfz27_3
       try clear hfz27_4
       try clear hfz27_5
       try clear hfz27_6
       try clear hfz29_0
       try clear hfz29_1
       try clear hfz29_2
       try clear hfz29_3
       try clear hfz29_4
       try clear hfz29_5
       try clear hfz29_6
       try clear hfz32_0
       try clear hfz32_1
       try clear hfz32_2
       try clear hfz32_3
       try clear hfz32_4
       try clear hfz32_5
       try clear hfz32_6
       try clear hfz33_0
       try clear hfz33_1
       try clear hfz33_2
       try clear hfz33_3
       try clear hfz33_4
       try clear hfz33_5
       try clear hfz33_6
       try clear hfz35_0
       try clear hfz35_1
       try clear hfz35_2
       try clear hfz35_3
       try clear hfz35_4
       try clear hfz35_5
       try clear hfz35_6
       try clear hfz38_0
       try clear hfz38_1
       try clear hfz38_2
       try clear hfz38_3
       try clear hfz38_4
       try clear hfz38_5
       try clear hfz38_6
       try clear hfz39_0
       try clear hfz39_1
       try clear hfz39_2
       try clear hfz39_3
       try clear hfz39_4
       try clear hfz39_5
       try clear hfz39_6
       try clear hfz41_0
       try clear hfz41_1
       try clear hfz41_2
       try clear hfz41_3
       try clear hfz41_4
       try clear hfz41_5
       try clear hfz41_6
       try clear hfz44_0
       try clear hfz44_1
       try clear hfz44_2
       try clear hfz44_3
       try clear hfz44_4
       try clear hfz44_5
       try clear hfz44_6
       try clear hfz45_0
       try clear hfz45_1
       try clear hfz45_2
       try clear hfz45_3
       try clear hfz45_4
       try clear hfz45_5
       try clear hfz45_6
       try clear hfz58_0
       try clear hfz58_1
       try clear hfz58_2
       try clear hfz58_3
       try clear hfz58_4
       try clear hfz58_5
       try clear hfz58_6
       try clear hfz61_0
       try clear hfz61_1
       try clear hfz61_2
       try clear hfz61_3
       try clear hfz61_4
       try clear hfz61_5
       try clear hfz61_6
       try clear hfz62_0
       try clear hfz62_1
       try clear hfz62_2
       try clear hfz62_3
       try clear hfz62_4
       try clear hfz62_5
       try clear hfz62_6
       try clear hfz64_0
       try clear hfz64_1
       try clear hfz64_2
       try clear hfz64_3
       try clear hfz64_4
       try clear hfz64_5
       try clear hfz64_6
       try clear hfz66_0
       try clear hfz66_1
       try clear hfz66_2
       try clear hfz66_3
       try clear hfz66_4
       try clear hfz66_5
       try clear hfz66_6
       try clear hfz69_0
       try clear hfz69_1
       try clear hfz69_2
       try clear hfz69_3
       try clear hfz69_4
       try clear hfz69_5
       try clear hfz69_6
       try clear hfz70_0
       try clear hfz70_1
       try clear hfz70_2
       try clear hfz70_3
       try clear hfz70_4
       try clear hfz70_5
       try clear hfz70_6
       try clear hfz72_0
       try clear hfz72_1
       try clear hfz72_2
       try clear hfz72_3
       try clear hfz72_4
       try clear hfz72_5
       try clear hfz72_6
       try clear hfz74_0
       try clear hfz74_1
       try clear hfz74_2
       try clear hfz74_3
       try clear hfz74_4
       try clear hfz74_5
       try clear hfz74_6
       try clear hfz77_0
       try clear hfz77_1
       try clear hfz77_2
       try clear hfz77_3
       try clear hfz77_4
       try clear hfz77_5
       try clear hfz77_6
       try clear hfz78_0
       try clear hfz78_1
       try clear hfz78_2
       try clear hfz78_3
       try clear hfz78_4
       try clear hfz78_5
       try clear hfz78_6
       try clear hfz80_0
       try clear hfz80_1
       try clear hfz80_2
       try clear hfz80_3
       try clear hfz80_4
       try clear hfz80_5
       try clear hfz80_6
       try clear hfz82_0
       try clear hfz82_1
       try clear hfz82_2
       try clear hfz82_3
       try clear hfz82_4
       try clear hfz82_5
       try clear hfz82_6
       try clear hfz85_0
       try clear hfz85_1
       try clear hfz85_2
       try clear hfz85_3
       try clear hfz85_4
       try clear hfz85_5
       try clear hfz85_6
       try clear hfz86_0
       try clear hfz86_1
       try clear hfz86_2
       try clear hfz86_3
       try clear hfz86_4
       try clear hfz86_5
       try clear hfz86_6
       try clear hfz88_0
       try clear hfz88_1
       try clear hfz88_2
       try clear hfz88_3
       try clear hfz88_4
       try clear hfz88_5
       try clear hfz88_6
       try clear hfz90_0
       try clear hfz90_1
       try clear hfz90_2
       try clear hfz90_3
       try clear hfz90_4
       try clear hfz90_5
       try clear hfz90_6
       try clear hfz93_0
       try clear hfz93_1
       try clear hfz93_2
       try clear hfz93_3
       try clear hfz93_4
       try clear hfz93_5
       try clear hfz93_6
       try clear hfz94_0
       try clear hfz94_1
       try clear hfz94_2
       try clear hfz94_3
       try clear hfz94_4
       try clear hfz94_5
       try clear hfz94_6
       try clear hfz97_0
       try clear hfz97_1
       try clear hfz97_2
       try clear hfz97_3
       try clear hfz97_4
       try clear hfz97_5
       try clear hfz97_6
       obtain ⟨kq, x828003_117, HA, HJ117, BK826, BK827, HB⟩ := hcut
       cases kq with
       | zero => exact absurd HA.out (by simp [spec_l11Ins.j1])
       | succ kj117 =>
        have H := HA.out
        clear HA
        simp only [spec_l11Ins.j1] at H
        replace H := Option.bind_eq_some_iff.mp H
        obtain ⟨t833, A1260, H⟩ := H
        replace H : (if t833 = true then ((spec_l1In.f a1_2 (-1000) 1000).bind fun t834 => (if t834 = true then (if a1_1 = a1_1 then (if a1_2 = a1_2 then (if a1_3 = x828003_117 then ((spec_l1In.f a1_3 0 (l0.length : Int)).bind fun t835 => (if t835 = true then (some ((wrap64 ((wrap64 ((l1_4.length : Int) + (l1_5.length : Int))) + (l1_6.length : Int))) == 0)) else (some false))) else (some false)) else (some false)) else (some false)) else (some false))) else (some false)) = some r := by first | exact H | (simp only [eq_self]; exact H) | (simpa using H)
        have A126 := Aside0.mk A1260
        clear A1260
        by_cases c127 : t833 = true
        ·subst c127
         have H1 : ((spec_l1In.f a1_2 (-1000) 1000).bind fun t834 => (if t834 = true then (if a1_1 = a1_1 then (if a1_2 = a1_2 then (if a1_3 = x828003_117 then ((spec_l1In.f a1_3 0 (l0.length : Int)).bind fun t835 => (if t835 = true then (some ((wrap64 ((wrap64 ((l1_4.length : Int) + (l1_5.length : Int))) + (l1_6.length : Int))) == 0)) else (some false))) else (some false)) else (some false)) else (some false)) else (some false))) = some r := by rw [if_pos rfl] at H; first | exact H | (simp only [eq_self]; exact H) | (simpa using H)
         clear H
         have H := H1
         clear H1
         replace H := Option.bind_eq_some_iff.mp H
         obtain ⟨t834, A1280, H⟩ := H
         replace H : (if t834 = true then (if a1_1 = a1_1 then (if a1_2 = a1_2 then (if a1_3 = x828003_117 then ((spec_l1In.f a1_3 0 (l0.length : Int)).bind fun t835 => (if t835 = true then (some ((wrap64 ((wrap64 ((l1_4.length : Int) + (l1_5.length : Int))) + (l1_6.length : Int))) == 0)) else (some false))) else (some false)) else (some false)) else (some false)) else (some false)) = some r := by first | exact H | (simp only [eq_self]; exact H) | (simpa using H)
         have A128 := Aside0.mk A1280
         clear A1280
         by_cases c129 : t834 = true
         ·subst c129
          have H1 : (if a1_1 = a1_1 then (if a1_2 = a1_2 then (if a1_3 = x828003_117 then ((spec_l1In.f a1_3 0 (l0.length : Int)).bind fun t835 => (if t835 = true then (some ((wrap64 ((wrap64 ((l1_4.length : Int) + (l1_5.length : Int))) + (l1_6.length : Int))) == 0)) else (some false))) else (some false)) else (some false)) else (some false)) = some r := by rw [if_pos rfl] at H; first | exact H | (simp only [eq_self]; exact H) | (simpa using H)
          clear H
          have H := H1
          clear H1
          by_cases c130 : a1_1 = a1_1
          ·rw [if_pos c130] at H
           have c130b0 : (a1_1 == a1_1) = true := beq_iff_eq.mpr c130
           have c130b1 : (a1_1 != a1_1) = false := bne_eq_false_iff_eq.mpr c130
           clear c130
           by_cases c131 : a1_2 = a1_2
           ·rw [if_pos c131] at H
            have c131b0 : (a1_2 == a1_2) = true := beq_iff_eq.mpr c131
            have c131b1 : (a1_2 != a1_2) = false := bne_eq_false_iff_eq.mpr c131
            clear c131
            by_cases c132 : a1_3 = x828003_117
            ·rw [if_pos c132] at H
             have c132b0 : (a1_3 == x828003_117) = true := beq_iff_eq.mpr c132
             have c132b1 : (a1_3 != x828003_117) = false := bne_eq_false_iff_eq.mpr c132
             clear c132
             replace H := Option.bind_eq_some_iff.mp H
             obtain ⟨t835, A1330, H⟩ := H
             replace H : (if t835 = true then (some ((wrap64 ((wrap64 ((l1_4.length : Int) + (l1_5.length : Int))) + (l1_6.length : Int))) == 0)) else (some false)) = some r := H
             have A133 := Aside0.mk A1330
             clear A1330
             by_cases c134 : t835 = true
             ·subst c134
              have H1 : (some ((wrap64 ((wrap64 ((l1_4.length : Int) + (l1_5.length : Int))) + (l1_6.length : Int))) == 0)) = some r := by rw [if_pos rfl] at H; exact H
              clear H
              have H := H1
              clear H1
              obtain rfl := Option.some.inj H
              have hnb135 := NB826_827.out
              have hnc135 := NB827_826.out
              have hcz136_0 := bc0 BK826.out
              have hcz136_1 := bc1 BK826.out
              have hcz136_2 := bc2 BK826.out
              have hcz136_3 := bc3 BK826.out
              have hcz136_4 := bc4 BK826.out
              have hcz136_5 := bc5 BK826.out
              have hcz136_6 := bc6 BK826.out
              have hfz136_0 := blk_frozen BK826.out 0
              have hfz136_1 := blk_frozen BK826.out 1
              have hfz136_2 := blk_frozen BK826.out 2
              have hfz136_3 := blk_frozen BK826.out 3
              have hfz136_4 := blk_frozen BK826.out 4
              have hfz136_5 := blk_frozen BK826.out 5
              have hfz136_6 := blk_frozen BK826.out 6
              go_wp2_with (first | ((with_reducible refine gate_callee (f := 66) rfl ?_); refine goesL_ (some 110) rfl rfl Try.func66 (by kernel_rfl) rfl #[.int .i64 a1_1, .int .i64 0, .int .i64 3] rfl (by (try simp only [List.map_toArray, List.map_cons, List.map_nil]); first | done | rfl | (simp only [List.length_drop, List.length_take]; rfl)) ?_; (with_reducible refine (spec_l1In.calls a1_1 0 3 true _ A126.out).mono ?_); rintro e w' ⟨rfl, ⟨nd, rfl⟩⟩; refine ⟨_, rfl, ?_⟩) | (go_at_call 66; (with_reducible refine (spec_l1In.calls a1_2 (-1000) 1000 true _ A128.out).mono ?_); rintro e w' ⟨rfl, ⟨nd, rfl⟩⟩; have hcz137_0 := bc0 BK827.out; have hcz137_1 := bc1 BK827.out; have hcz137_2 := bc2 BK827.out; have hcz137_3 := bc3 BK827.out; have hcz137_4 := bc4 BK827.out; have hcz137_5 := bc5 BK827.out; have hcz137_6 := bc6 BK827.out; have hfz137_0 := blk_frozen BK827.out 0; have hfz137_1 := blk_frozen BK827.out 1; have hfz137_2 := blk_frozen BK827.out 2; have hfz137_3 := blk_frozen BK827.out 3; have hfz137_4 := blk_frozen BK827.out 4; have hfz137_5 := blk_frozen BK827.out 5; have hfz137_6 := blk_frozen BK827.out 6) | (go_at_call 66; (with_reducible refine (spec_l1In.calls a1_3 0 (l0.length : Int) true _ A133.out).mono ?_); rintro e w' ⟨rfl, ⟨nd, rfl⟩⟩))
              go_ret
              exact ⟨by first | rfl | (simp [errW_none, errW_some] <;> rfl) | (simp [*, errW_none, errW_some] <;> rfl), by repeat (first | (with_reducible first | exact HB.out | apply below_alloc | apply pw_below_drewN | apply below_drew1 | refine below_set ?_ GE826.out | refine below_set ?_ GE827.out) | exact HB.out)⟩
             ·replace c134 := Bool.eq_false_iff.mpr c134
              subst c134
              have H1 : (some false) = some r := by rw [if_neg (show ¬ (false = true) by decide)] at H; exact H
              clear H
              have H := H1
              clear H1
              obtain rfl := Option.some.inj H
              have hnb138 := NB826_827.out
              have hnc138 := NB827_826.out
              have hcz139_0 := bc0 BK826.out
              have hcz139_1 := bc1 BK826.out
              have hcz139_2 := bc2 BK826.out
              have hcz139_3 := bc3 BK826.out
              have hcz139_4 := bc4 BK826.out
              have hcz139_5 := bc5 BK826.out
              have hcz139_6 := bc6 BK826.out
              have hfz139_0 := blk_frozen BK826.out 0
              have hfz139_1 := blk_frozen BK826.out 1
              have hfz139_2 := blk_frozen BK826.out 2
              have hfz139_3 := blk_frozen BK826.out 3
              have hfz139_4 := blk_frozen BK826.out 4
              have hfz139_5 := blk_frozen BK826.out 5
              have hfz139_6 := blk_frozen BK826.out 6
              go_wp2_with (first | ((with_reducible refine gate_callee (f := 66) rfl ?_); refine goesL_ (some 110) rfl rfl Try.func66 (by kernel_rfl) rfl #[.int .i64 a1_1, .int .i64 0, .int .i64 3] rfl (by (try simp only [List.map_toArray, List.map_cons, List.map_nil]); first | done | rfl | (simp only [List.length_drop, List.length_take]; rfl)) ?_; (with_reducible refine (spec_l1In.calls a1_1 0 3 true _ A126.out).mono ?_); rintro e w' ⟨rfl, ⟨nd, rfl⟩⟩; refine ⟨_, rfl, ?_⟩) | (go_at_call 66; (with_reducible refine (spec_l1In.calls a1_2 (-1000) 1000 true _ A128.out).mono ?_); rintro e w' ⟨rfl, ⟨nd, rfl⟩⟩; have hcz140_0 := bc0 BK827.out; have hcz140_1 := bc1 BK827.out; have hcz140_2 := bc2 BK827.out; have hcz140_3 := bc3 BK827.out; have hcz140_4 := bc4 BK827.out; have hcz140_5 := bc5 BK827.out; have hcz140_6 := bc6 BK827.out; have hfz140_0 := blk_frozen BK827.out 0; have hfz140_1 := blk_frozen BK827.out 1; have hfz140_2 := blk_frozen BK827.out 2; have hfz140_3 := blk_frozen BK827.out 3; have hfz140_4 := blk_frozen BK827.out 4; have hfz140_5 := blk_frozen BK827.out 5; have hfz140_6 := blk_frozen BK827.out 6) | (go_at_call 66; (with_reducible refine (spec_l1In.calls a1_3 0 (l0.length : Int) false _ A133.out).mono ?_); rintro e w' ⟨rfl, ⟨nd, rfl⟩⟩))
              go_ret
              exact ⟨by first | rfl | (simp [errW_none, errW_some] <;> rfl) | (simp [*, errW_none, errW_some] <;> rfl), by repeat (first | (with_reducible first | exact HB.out | apply below_alloc | apply pw_below_drewN | apply below_drew1 | refine below_set ?_ GE826.out | refine below_set ?_ GE827.out) | exact HB.out)⟩
            ·rw [if_neg c132] at H
             have c132b0 : (a1_3 == x828003_117) = false := beq_eq_false_iff_ne.mpr c132
             have c132b1 : (a1_3 != x828003_117) = true := bne_iff_ne.mpr c132
             obtain rfl := Option.some.inj H
             have hnb141 := NB826_827.out
             have hnc141 := NB827_826.out
             have hcz142_0 := bc0 BK826.out
             have hcz142_1 := bc1 BK826.out
             have hcz142_2 := bc2 BK826.out
             have hcz142_3 := bc3 BK826.out
             have hcz142_4 := bc4 BK826.out
             have hcz142_5 := bc5 BK826.out
             have hcz142_6 := bc6 BK826.out
             have hfz142_0 := blk_frozen BK826.out 0
             have hfz142_1 := blk_frozen BK826.out 1
             have hfz142_2 := blk_frozen BK826.out 2
             have hfz142_3 := blk_frozen BK826.out 3
             have hfz142_4 := blk_frozen BK826.out 4
             have hfz142_5 := blk_frozen BK826.out 5
             have hfz142_6 := blk_frozen BK826.out 6
             go_wp2_with (first | ((with_reducible refine gate_callee (f := 66) rfl ?_); refine goesL_ (some 110) rfl rfl Try.func66 (by kernel_rfl) rfl #[.int .i64 a1_1, .int .i64 0, .int .i64 3] rfl (by (try simp only [List.map_toArray, List.map_cons, List.map_nil]); first | done | rfl | (simp only [List.length_drop, List.length_take]; rfl)) ?_; (with_reducible refine (spec_l1In.calls a1_1 0 3 true _ A126.out).mono ?_); rintro e w' ⟨rfl, ⟨nd, rfl⟩⟩; refine ⟨_, rfl, ?_⟩) | (go_at_call 66; (with_reducible refine (spec_l1In.calls a1_2 (-1000) 1000 true _ A128.out).mono ?_); rintro e w' ⟨rfl, ⟨nd, rfl⟩⟩; have hcz143_0 := bc0 BK827.out; have hcz143_1 := bc1 BK827.out; have hcz143_2 := bc2 BK827.out; have hcz143_3 := bc3 BK827.out; have hcz143_4 := bc4 BK827.out; have hcz143_5 := bc5 BK827.out; have hcz143_6 := bc6 BK827.out; have hfz143_0 := blk_frozen BK827.out 0; have hfz143_1 := blk_frozen BK827.out 1; have hfz143_2 := blk_frozen BK827.out 2; have hfz143_3 := blk_frozen BK827.out 3; have hfz143_4 := blk_frozen BK827.out 4; have hfz143_5 := blk_frozen BK827.out 5; have hfz143_6 := blk_frozen BK827.out 6))
             go_ret
             exact ⟨by first | rfl | (simp [errW_none, errW_some] <;> rfl) | (simp [*, errW_none, errW_some] <;> rfl), by repeat (first | (with_reducible first | exact HB.out | apply below_alloc | apply pw_below_drewN | apply below_drew1 | refine below_set ?_ GE826.out | refine below_set ?_ GE827.out) | exact HB.out)⟩
           ·exact absurd rfl c131
          ·exact absurd rfl c130
         ·replace c129 := Bool.eq_false_iff.mpr c129
          subst c129
          have H1 : (some false) = some r := by rw [if_neg (show ¬ (false = true) by decide)] at H; exact H
          clear H
          have H := H1
          clear H1
          obtain rfl := Option.some.inj H
          have hnb150 := NB826_827.out
          have hnc150 := NB827_826.out
          have hcz151_0 := bc0 BK826.out
          have hcz151_1 := bc1 BK826.out
          have hcz151_2 := bc2 BK826.out
          have hcz151_3 := bc3 BK826.out
          have hcz151_4 := bc4 BK826.out
          have hcz151_5 := bc5 BK826.out
          have hcz151_6 := bc6 BK826.out
          have hfz151_0 := blk_frozen BK826.out 0
          have hfz151_1 := blk_frozen BK826.out 1
          have hfz151_2 := blk_frozen BK826.out 2
          have hfz151_3 := blk_frozen BK826.out 3
          have hfz151_4 := blk_frozen BK826.out 4
          have hfz151_5 := blk_frozen BK826.out 5
          have hfz151_6 := blk_frozen BK826.out 6
          go_wp2_with (first | ((with_reducible refine gate_callee (f := 66) rfl ?_); refine goesL_ (some 110) rfl rfl Try.func66 (by kernel_rfl) rfl #[.int .i64 a1_1, .int .i64 0, .int .i64 3] rfl (by (try simp only [List.map_toArray, List.map_cons, List.map_nil]); first | done | rfl | (simp only [List.length_drop, List.length_take]; rfl)) ?_; (with_reducible refine (spec_l1In.calls a1_1 0 3 true _ A126.out).mono ?_); rintro e w' ⟨rfl, ⟨nd, rfl⟩⟩; refine ⟨_, rfl, ?_⟩) | (go_at_call 66; (with_reducible refine (spec_l1In.calls a1_2 (-1000) 1000 false _ A128.out).mono ?_); rintro e w' ⟨rfl, ⟨nd, rfl⟩⟩))
          go_ret
          exact ⟨by first | rfl | (simp [errW_none, errW_some] <;> rfl) | (simp [*, errW_none, errW_some] <;> rfl), by repeat (first | (with_reducible first | exact HB.out | apply below_alloc | apply pw_below_drewN | apply below_drew1 | refine below_set ?_ GE826.out | refine below_set ?_ GE827.out) | exact HB.out)⟩
        ·replace c127 := Bool.eq_false_iff.mpr c127
         subst c127
         have H1 : (some false) = some r := by rw [if_neg (show ¬ (false = true) by decide)] at H; exact H
         clear H
         have H := H1
         clear H1
         obtain rfl := Option.some.inj H
         have hnb152 := NB826_827.out
         have hnc152 := NB827_826.out
         have hcz153_0 := bc0 BK826.out
         have hcz153_1 := bc1 BK826.out
         have hcz153_2 := bc2 BK826.out
         have hcz153_3 := bc3 BK826.out
         have hcz153_4 := bc4 BK826.out
         have hcz153_5 := bc5 BK826.out
         have hcz153_6 := bc6 BK826.out
         have hfz153_0 := blk_frozen BK826.out 0
         have hfz153_1 := blk_frozen BK826.out 1
         have hfz153_2 := blk_frozen BK826.out 2
         have hfz153_3 := blk_frozen BK826.out 3
         have hfz153_4 := blk_frozen BK826.out 4
         have hfz153_5 := blk_frozen BK826.out 5
         have hfz153_6 := blk_frozen BK826.out 6
         go_wp2_with (first | ((with_reducible refine gate_callee (f := 66) rfl ?_); refine goesL_ (some 110) rfl rfl Try.func66 (by kernel_rfl) rfl #[.int .i64 a1_1, .int .i64 0, .int .i64 3] rfl (by (try simp only [List.map_toArray, List.map_cons, List.map_nil]); first | done | rfl | (simp only [List.length_drop, List.length_take]; rfl)) ?_; (with_reducible refine (spec_l1In.calls a1_1 0 3 false _ A126.out).mono ?_); rintro e w' ⟨rfl, ⟨nd, rfl⟩⟩; refine ⟨_, rfl, ?_⟩))
         go_ret
         exact ⟨by first | rfl | (simp [errW_none, errW_some] <;> rfl) | (simp [*, errW_none, errW_some] <;> rfl), by repeat (first | (with_reducible first | exact HB.out | apply below_alloc | apply pw_below_drewN | apply below_drew1 | refine below_set ?_ GE826.out | refine below_set ?_ GE827.out) | exact HB.out)⟩
     ·replace c117 := Bool.eq_false_iff.mpr c117
      subst c117
      have H1 : (if a1_0 = 6 then (if a1_1 = 0 then (if a1_2 = 0 then (if a1_3 = a1_3 then ((spec_l1In.f a1_3 0 (l0.length : Int)).bind fun t836 => (if t836 = true then (some ((wrap64 ((wrap64 ((l1_4.length : Int) + (l1_5.length : Int))) + (l1_6.length : Int))) == 0)) else (some false))) else (some false)) else (some false)) else (some false)) else (if a1_0 = 7 then (if a1_1 = 0 then (if a1_2 = 0 then (if a1_3 = 0 then ((spec_l1In.f a1_3 0 (l0.length : Int)).bind fun t837 => (if t837 = true then (some ((wrap64 ((wrap64 ((l1_4.length : Int) + (l1_5.length : Int))) + (l1_6.length : Int))) == 0)) else (some false))) else (some false)) else (some false)) else (some false)) else (some false))) = some r := by rw [if_neg (show ¬ (false = true) by decide)] at H; first | exact H | (simp only [eq_self]; exact H) | (simpa using H)
      clear H
      have H := H1
      clear H1
      by_cases c154 : a1_0 = 6
      ·rw [if_pos c154] at H
       have c154b0 : (a1_0 == 6) = true := beq_iff_eq.mpr c154
       have c154b1 : (a1_0 != 6) = false := bne_eq_false_iff_eq.mpr c154
       clear c154
       by_cases c155 : a1_1 = 0
       ·rw [if_pos c155] at H
        have c155b0 : (a1_1 == 0) = true := beq_iff_eq.mpr c155
        have c155b1 : (a1_1 != 0) = false := bne_eq_false_iff_eq.mpr c155
        clear c155
        by_cases c156 : a1_2 = 0
        ·rw [if_pos c156] at H
         have c156b0 : (a1_2 == 0) = true := beq_iff_eq.mpr c156
         have c156b1 : (a1_2 != 0) = false := bne_eq_false_iff_eq.mpr c156
         clear c156
         by_cases c157 : a1_3 = a1_3
         ·rw [if_pos c157] at H
          have c157b0 : (a1_3 == a1_3) = true := beq_iff_eq.mpr c157
          have c157b1 : (a1_3 != a1_3) = false := bne_eq_false_iff_eq.mpr c157
          clear c157
          replace H := Option.bind_eq_some_iff.mp H
          obtain ⟨t836, A1580, H⟩ := H
          replace H : (if t836 = true then (some ((wrap64 ((wrap64 ((l1_4.length : Int) + (l1_5.length : Int))) + (l1_6.length : Int))) == 0)) else (some false)) = some r := H
          have A158 := Aside0.mk A1580
          clear A1580
          by_cases c159 : t836 = true
          ·subst c159
           have H1 : (some ((wrap64 ((wrap64 ((l1_4.length : Int) + (l1_5.length : Int))) + (l1_6.length : Int))) == 0)) = some r := by rw [if_pos rfl] at H; exact H
           clear H
           have H := H1
           clear H1
           obtain rfl := Option.some.inj H
           have hnb160 := NB826_827.out
           have hnc160 := NB827_826.out
           have hcz161_0 := bc0 BK826.out
           have hcz161_1 := bc1 BK826.out
           have hcz161_2 := bc2 BK826.out
           have hcz161_3 := bc3 BK826.out
           have hcz161_4 := bc4 BK826.out
           have hcz161_5 := bc5 BK826.out
           have hcz161_6 := bc6 BK826.out
           have hfz161_0 := blk_frozen BK826.out 0
           have hfz161_1 := blk_frozen BK826.out 1
           have hfz161_2 := blk_frozen BK826.out 2
           have hfz161_3 := blk_frozen BK826.out 3
           have hfz161_4 := blk_frozen BK826.out 4
           have hfz161_5 := blk_frozen BK826.out 5
           have hfz161_6 := blk_frozen BK826.out 6
           have hcz162_0 := bc0 BK827.out
           have hcz162_1 := bc1 BK827.out
           have hcz162_2 := bc2 BK827.out
           have hcz162_3 := bc3 BK827.out
           have hcz162_4 := bc4 BK827.out
           have hcz162_5 := bc5 BK827.out
           have hcz162_6 := bc6 BK827.out
           have hfz162_0 := blk_frozen BK827.out 0
           have hfz162_1 := blk_frozen BK827.out 1
           have hfz162_2 := blk_frozen BK827.out 2
           have hfz162_3 := blk_frozen BK827.out 3
           have hfz162_4 := blk_frozen BK827.out 4
           have hfz162_5 := blk_frozen BK827.out 5
           have hfz162_6 := blk_frozen BK827.out 6
           go_wp2_with (first | (go_at_call 66; (with_reducible refine (spec_l1In.calls a1_3 0 (l0.length : Int) true _ A158.out).mono ?_); rintro e w' ⟨rfl, ⟨nd, rfl⟩⟩))
           go_ret
           exact ⟨by first | rfl | (simp [errW_none, errW_some] <;> rfl) | (simp [*, errW_none, errW_some] <;> rfl), by repeat (first | (with_reducible first | exact HB.out | apply below_alloc | apply pw_below_drewN | apply below_drew1 | refine below_set ?_ GE826.out | refine below_set ?_ GE827.out) | exact HB.out)⟩
          ·replace c159 := Bool.eq_false_iff.mpr c159
           subst c159
           have H1 : (some false) = some r := by rw [if_neg (show ¬ (false = true) by decide)] at H; exact H
           clear H
           have H := H1
           clear H1
           obtain rfl := Option.some.inj H
           have hnb163 := NB826_827.out
           have hnc163 := NB827_826.out
           have hcz164_0 := bc0 BK826.out
           have hcz164_1 := bc1 BK826.out
           have hcz164_2 := bc2 BK826.out
           have hcz164_3 := bc3 BK826.out
           have hcz164_4 := bc4 BK826.out
           have hcz164_5 := bc5 BK826.out
           have hcz164_6 := bc6 BK826.out
           have hfz164_0 := blk_frozen BK826.out 0
           have hfz164_1 := blk_frozen BK826.out 1
           have hfz164_2 := blk_frozen BK826.out 2
           have hfz164_3 := blk_frozen BK826.out 3
           have hfz164_4 := blk_frozen BK826.out 4
           have hfz164_5 := blk_frozen BK826.out 5
           have hfz164_6 := blk_frozen BK826.out 6
           have hcz165_0 := bc0 BK827.out
           have hcz165_1 := bc1 BK827.out
           have hcz165_2 := bc2 BK827.out
           have hcz165_3 := bc3 BK827.out
           have hcz165_4 := bc4 BK827.out
           have hcz165_5 := bc5 BK827.out
           have hcz165_6 := bc6 BK827.out
           have hfz165_0 := blk_frozen BK827.out 0
           have hfz165_1 := blk_frozen BK827.out 1
           have hfz165_2 := blk_frozen BK827.out 2
           have hfz165_3 := blk_frozen BK827.out 3
           have hfz165_4 := blk_frozen BK827.out 4
           have hfz165_5 := blk_frozen BK827.out 5
           have hfz165_6 := blk_frozen BK827.out 6
           go_wp2_with (first | (go_at_call 66; (with_reducible refine (spec_l1In.calls a1_3 0 (l0.length : Int) false _ A158.out).mono ?_); rintro e w' ⟨rfl, ⟨nd, rfl⟩⟩))
           go_ret
           exact ⟨by first | rfl | (simp [errW_none, errW_some] <;> rfl) | (simp [*, errW_none, errW_some] <;> rfl), by repeat (first | (with_reducible first | exact HB.out | apply below_alloc | apply pw_below_drewN | apply below_drew1 | refine below_set ?_ GE826.out | refine below_set ?_ GE827.out) | exact HB.out)⟩
         ·exact absurd rfl c157
        ·rw [if_neg c156] at H
         have c156b0 : (a1_2 == 0) = false := beq_eq_false_iff_ne.mpr c156
         have c156b1 : (a1_2 != 0) = true := bne_iff_ne.mpr c156
         obtain rfl := Option.some.inj H
         have hnb169 := NB826_827.out
         have hnc169 := NB827_826.out
         have hcz170_0 := bc0 BK826.out
         have hcz170_1 := bc1 BK826.out
         have hcz170_2 := bc2 BK826.out
         have hcz170_3 := bc3 BK826.out
         have hcz170_4 := bc4 BK826.out
         have hcz170_5 := bc5 BK826.out
         have hcz170_6 := bc6 BK826.out
         have hfz170_0 := blk_frozen BK826.out 0
         have hfz170_1 := blk_frozen BK826.out 1
         have hfz170_2 := blk_frozen BK826.out 2
         have hfz170_3 := blk_frozen BK826.out 3
         have hfz170_4 := blk_frozen BK826.out 4
         have hfz170_5 := blk_frozen BK826.out 5
         have hfz170_6 := blk_frozen BK826.out 6
         have hcz171_0 := bc0 BK827.out
         have hcz171_1 := bc1 BK827.out
         have hcz171_2 := bc2 BK827.out
         have hcz171_3 := bc3 BK827.out
         have hcz171_4 := bc4 BK827.out
         have hcz171_5 := bc5 BK827.out
         have hcz171_6 := bc6 BK827.out
         have hfz171_0 := blk_frozen BK827.out 0
         have hfz171_1 := blk_frozen BK827.out 1
         have hfz171_2 := blk_frozen BK827.out 2
         have hfz171_3 := blk_frozen BK827.out 3
         have hfz171_4 := blk_frozen BK827.out 4
         have hfz171_5 := blk_frozen BK827.out 5
         have hfz171_6 := blk_frozen BK827.out 6
         go_wp2
         go_ret
         exact ⟨by first | rfl | (simp [errW_none, errW_some] <;> rfl) | (simp [*, errW_none, errW_some] <;> rfl), by repeat (first | (with_reducible first | exact HB.out | apply below_alloc | apply pw_below_drewN | apply below_drew1 | refine below_set ?_ GE826.out | refine below_set ?_ GE827.out) | exact HB.out)⟩
       ·rw [if_neg c155] at H
        have c155b0 : (a1_1 == 0) = false := beq_eq_false_iff_ne.mpr c155
        have c155b1 : (a1_1 != 0) = true := bne_iff_ne.mpr c155
        obtain rfl := Option.some.inj H
        have hnb172 := NB826_827.out
        have hnc172 := NB827_826.out
        have hcz173_0 := bc0 BK826.out
        have hcz173_1 := bc1 BK826.out
        have hcz173_2 := bc2 BK826.out
        have hcz173_3 := bc3 BK826.out
        have hcz173_4 := bc4 BK826.out
        have hcz173_5 := bc5 BK826.out
        have hcz173_6 := bc6 BK826.out
        have hfz173_0 := blk_frozen BK826.out 0
        have hfz173_1 := blk_frozen BK826.out 1
        have hfz173_2 := blk_frozen BK826.out 2
        have hfz173_3 := blk_frozen BK826.out 3
        have hfz173_4 := blk_frozen BK826.out 4
        have hfz173_5 := blk_frozen BK826.out 5
        have hfz173_6 := blk_frozen BK826.out 6
        have hcz174_0 := bc0 BK827.out
        have hcz174_1 := bc1 BK827.out
        have hcz174_2 := bc2 BK827.out
        have hcz174_3 := bc3 BK827.out
        have hcz174_4 := bc4 BK827.out
        have hcz174_5 := bc5 BK827.out
        have hcz174_6 := bc6 BK827.out
        have hfz174_0 := blk_frozen BK827.out 0
        have hfz174_1 := blk_frozen BK827.out 1
        have hfz174_2 := blk_frozen BK827.out 2
        have hfz174_3 := blk_frozen BK827.out 3
        have hfz174_4 := blk_frozen BK827.out 4
        have hfz174_5 := blk_frozen BK827.out 5
        have hfz174_6 := blk_frozen BK827.out 6
        go_wp2
        go_ret
        exact ⟨by first | rfl | (simp [errW_none, errW_some] <;> rfl) | (simp [*, errW_none, errW_some] <;> rfl), by repeat (first | (with_reducible first | exact HB.out | apply below_alloc | apply pw_below_drewN | apply below_drew1 | refine below_set ?_ GE826.out | refine below_set ?_ GE827.out) | exact HB.out)⟩
      ·rw [if_neg c154] at H
       have c154b0 : (a1_0 == 6) = false := beq_eq_false_iff_ne.mpr c154
       have c154b1 : (a1_0 != 6) = true := bne_iff_ne.mpr c154
       by_cases c175 : a1_0 = 7
       ·rw [if_pos c175] at H
        have c175b0 : (a1_0 == 7) = true := beq_iff_eq.mpr c175
        have c175b1 : (a1_0 != 7) = false := bne_eq_false_iff_eq.mpr c175
        clear c175
        by_cases c176 : a1_1 = 0
        ·rw [if_pos c176] at H
         have c176b0 : (a1_1 == 0) = true := beq_iff_eq.mpr c176
         have c176b1 : (a1_1 != 0) = false := bne_eq_false_iff_eq.mpr c176
         clear c176
         by_cases c177 : a1_2 = 0
         ·rw [if_pos c177] at H
          have c177b0 : (a1_2 == 0) = true := beq_iff_eq.mpr c177
          have c177b1 : (a1_2 != 0) = false := bne_eq_false_iff_eq.mpr c177
          clear c177
          by_cases c178 : a1_3 = 0
          ·rw [if_pos c178] at H
           have c178b0 : (a1_3 == 0) = true := beq_iff_eq.mpr c178
           have c178b1 : (a1_3 != 0) = false := bne_eq_false_iff_eq.mpr c178
           clear c178
           replace H := Option.bind_eq_some_iff.mp H
           obtain ⟨t837, A1790, H⟩ := H
           replace H : (if t837 = true then (some ((wrap64 ((wrap64 ((l1_4.length : Int) + (l1_5.length : Int))) + (l1_6.length : Int))) == 0)) else (some false)) = some r := H
           have A179 := Aside0.mk A1790
           clear A1790
           by_cases c180 : t837 = true
           ·subst c180
            have H1 : (some ((wrap64 ((wrap64 ((l1_4.length : Int) + (l1_5.length : Int))) + (l1_6.length : Int))) == 0)) = some r := by rw [if_pos rfl] at H; exact H
            clear H
            have H := H1
            clear H1
            obtain rfl := Option.some.inj H
            have hnb181 := NB826_827.out
            have hnc181 := NB827_826.out
            have hcz182_0 := bc0 BK826.out
            have hcz182_1 := bc1 BK826.out
            have hcz182_2 := bc2 BK826.out
            have hcz182_3 := bc3 BK826.out
            have hcz182_4 := bc4 BK826.out
            have hcz182_5 := bc5 BK826.out
            have hcz182_6 := bc6 BK826.out
            have hfz182_0 := blk_frozen BK826.out 0
            have hfz182_1 := blk_frozen BK826.out 1
            have hfz182_2 := blk_frozen BK826.out 2
            have hfz182_3 := blk_frozen BK826.out 3
            have hfz182_4 := blk_frozen BK826.out 4
            have hfz182_5 := blk_frozen BK826.out 5
            have hfz182_6 := blk_frozen BK826.out 6
            have hcz183_0 := bc0 BK827.out
            have hcz183_1 := bc1 BK827.out
            have hcz183_2 := bc2 BK827.out
            have hcz183_3 := bc3 BK827.out
            have hcz183_4 := bc4 BK827.out
            have hcz183_5 := bc5 BK827.out
            have hcz183_6 := bc6 BK827.out
            have hfz183_0 := blk_frozen BK827.out 0
            have hfz183_1 := blk_frozen BK827.out 1
            have hfz183_2 := blk_frozen BK827.out 2
            have hfz183_3 := blk_frozen BK827.out 3
            have hfz183_4 := blk_frozen BK827.out 4
            have hfz183_5 := blk_frozen BK827.out 5
            have hfz183_6 := blk_frozen BK827.out 6
            go_wp2_with (first | (go_at_call 66; (with_reducible refine (spec_l1In.calls a1_3 0 (l0.length : Int) true _ A179.out).mono ?_); rintro e w' ⟨rfl, ⟨nd, rfl⟩⟩))
            go_ret
            exact ⟨by first | rfl | (simp [errW_none, errW_some] <;> rfl) | (simp [*, errW_none, errW_some] <;> rfl), by repeat (first | (with_reducible first | exact HB.out | apply below_alloc | apply pw_below_drewN | apply below_drew1 | refine below_set ?_ GE826.out | refine below_set ?_ GE827.out) | exact HB.out)⟩
           ·replace c180 := Bool.eq_false_iff.mpr c180
            subst c180
            have H1 : (some false) = some r := by rw [if_neg (show ¬ (false = true) by decide)] at H; exact H
            clear H
            have H := H1
            clear H1
            obtain rfl := Option.some.inj H
            have hnb184 := NB826_827.out
            have hnc184 := NB827_826.out
            have hcz185_0 := bc0 BK826.out
            have hcz185_1 := bc1 BK826.out
            have hcz185_2 := bc2 BK826.out
            have hcz185_3 := bc3 BK826.out
            have hcz185_4 := bc4 BK826.out
            have hcz185_5 := bc5 BK826.out
            have hcz185_6 := bc6 BK826.out
            have hfz185_0 := blk_frozen BK826.out 0
            have hfz185_1 := blk_frozen BK826.out 1
            have hfz185_2 := blk_frozen BK826.out 2
            have hfz185_3 := blk_frozen BK826.out 3
            have hfz185_4 := blk_frozen BK826.out 4
            have hfz185_5 := blk_frozen BK826.out 5
            have hfz185_6 := blk_frozen BK826.out 6
            have hcz186_0 := bc0 BK827.out
            have hcz186_1 := bc1 BK827.out
            have hcz186_2 := bc2 BK827.out
            have hcz186_3 := bc3 BK827.out
            have hcz186_4 := bc4 BK827.out
            have hcz186_5 := bc5 BK827.out
            have hcz186_6 := bc6 BK827.out
            have hfz186_0 := blk_frozen BK827.out 0
            have hfz186_1 := blk_frozen BK827.out 1
            have hfz186_2 := blk_frozen BK827.out 2
            have hfz186_3 := blk_frozen BK827.out 3
            have hfz186_4 := blk_frozen BK827.out 4
            have hfz186_5 := blk_frozen BK827.out 5
            have hfz186_6 := blk_frozen BK827.out 6
            go_wp2_with (first | (go_at_call 66; (with_reducible refine (spec_l1In.calls a1_3 0 (l0.length : Int) false _ A179.out).mono ?_); rintro e w' ⟨rfl, ⟨nd, rfl⟩⟩))
            go_ret
            exact ⟨by first | rfl | (simp [errW_none, errW_some] <;> rfl) | (simp [*, errW_none, errW_some] <;> rfl), by repeat (first | (with_reducible first | exact HB.out | apply below_alloc | apply pw_below_drewN | apply below_drew1 | refine below_set ?_ GE826.out | refine below_set ?_ GE827.out) | exact HB.out)⟩
          ·rw [if_neg c178] at H
           have c178b0 : (a1_3 == 0) = false := beq_eq_false_iff_ne.mpr c178
           have c178b1 : (a1_3 != 0) = true := bne_iff_ne.mpr c178
           obtain rfl := Option.some.inj H
           have hnb187 := NB826_827.out
           have hnc187 := NB827_826.out
           have hcz188_0 := bc0 BK826.out
           have hcz188_1 := bc1 BK826.out
           have hcz188_2 := bc2 BK826.out
           have hcz188_3 := bc3 BK826.out
           have hcz188_4 := bc4 BK826.out
           have hcz188_5 := bc5 BK826.out
           have hcz188_6 := bc6 BK826.out
           have hfz188_0 := blk_frozen BK826.out 0
           have hfz188_1 := blk_frozen BK826.out 1
           have hfz188_2 := blk_frozen BK826.out 2
           have hfz188_3 := blk_frozen BK826.out 3
           have hfz188_4 := blk_frozen BK826.out 4
           have hfz188_5 := blk_frozen BK826.out 5
           have hfz188_6 := blk_frozen BK826.out 6
           have hcz189_0 := bc0 BK827.out
           have hcz189_1 := bc1 BK827.out
           have hcz189_2 := bc2 BK827.out
           have hcz189_3 := bc3 BK827.out
           have hcz189_4 := bc4 BK827.out
           have hcz189_5 := bc5 BK827.out
           have hcz189_6 := bc6 BK827.out
           have hfz189_0 := blk_frozen BK827.out 0
           have hfz189_1 := blk_frozen BK827.out 1
           have hfz189_2 := blk_frozen BK827.out 2
           have hfz189_3 := blk_frozen BK827.out 3
           have hfz189_4 := blk_frozen BK827.out 4
           have hfz189_5 := blk_frozen BK827.out 5
           have hfz189_6 := blk_frozen BK827.out 6
           go_wp2
           go_ret
           exact ⟨by first | rfl | (simp [errW_none, errW_some] <;> rfl) | (simp [*, errW_none, errW_some] <;> rfl), by repeat (first | (with_reducible first | exact HB.out | apply below_alloc | apply pw_below_drewN | apply below_drew1 | refine below_set ?_ GE826.out | refine below_set ?_ GE827.out) | exact HB.out)⟩
         ·rw [if_neg c177] at H
          have c177b0 : (a1_2 == 0) = false := beq_eq_false_iff_ne.mpr c177
          have c177b1 : (a1_2 != 0) = true := bne_iff_ne.mpr c177
          obtain rfl := Option.some.inj H
          have hnb190 := NB826_827.out
          have hnc190 := NB827_826.out
          have hcz191_0 := bc0 BK826.out
          have hcz191_1 := bc1 BK826.out
          have hcz191_2 := bc2 BK826.out
          have hcz191_3 := bc3 BK826.out
          have hcz191_4 := bc4 BK826.out
          have hcz191_5 := bc5 BK826.out
          have hcz191_6 := bc6 BK826.out
          have hfz191_0 := blk_frozen BK826.out 0
          have hfz191_1 := blk_frozen BK826.out 1
          have hfz191_2 := blk_frozen BK826.out 2
          have hfz191_3 := blk_frozen BK826.out 3
          have hfz191_4 := blk_frozen BK826.out 4
          have hfz191_5 := blk_frozen BK826.out 5
          have hfz191_6 := blk_frozen BK826.out 6
          have hcz192_0 := bc0 BK827.out
          have hcz192_1 := bc1 BK827.out
          have hcz192_2 := bc2 BK827.out
          have hcz192_3 := bc3 BK827.out
          have hcz192_4 := bc4 BK827.out
          have hcz192_5 := bc5 BK827.out
          have hcz192_6 := bc6 BK827.out
          have hfz192_0 := blk_frozen BK827.out 0
          have hfz192_1 := blk_frozen BK827.out 1
          have hfz192_2 := blk_frozen BK827.out 2
          have hfz192_3 := blk_frozen BK827.out 3
          have hfz192_4 := blk_frozen BK827.out 4
          have hfz192_5 := blk_frozen BK827.out 5
          have hfz192_6 := blk_frozen BK827.out 6
          go_wp2
          go_ret
          exact ⟨by first | rfl | (simp [errW_none, errW_some] <;> rfl) | (simp [*, errW_none, errW_some] <;> rfl), by repeat (first | (with_reducible first | exact HB.out | apply below_alloc | apply pw_below_drewN | apply below_drew1 | refine below_set ?_ GE826.out | refine below_set ?_ GE827.out) | exact HB.out)⟩
        ·rw [if_neg c176] at H
         have c176b0 : (a1_1 == 0) = false := beq_eq_false_iff_ne.mpr c176
         have c176b1 : (a1_1 != 0) = true := bne_iff_ne.mpr c176
         obtain rfl := Option.some.inj H
         have hnb193 := NB826_827.out
         have hnc193 := NB827_826.out
         have hcz194_0 := bc0 BK826.out
         have hcz194_1 := bc1 BK826.out
         have hcz194_2 := bc2 BK826.out
         have hcz194_3 := bc3 BK826.out
         have hcz194_4 := bc4 BK826.out
         have hcz194_5 := bc5 BK826.out
         have hcz194_6 := bc6 BK826.out
         have hfz194_0 := blk_frozen BK826.out 0
         have hfz194_1 := blk_frozen BK826.out 1
         have hfz194_2 := blk_frozen BK826.out 2
         have hfz194_3 := blk_frozen BK826.out 3
         have hfz194_4 := blk_frozen BK826.out 4
         have hfz194_5 := blk_frozen BK826.out 5
         have hfz194_6 := blk_frozen BK826.out 6
         have hcz195_0 := bc0 BK827.out
         have hcz195_1 := bc1 BK827.out
         have hcz195_2 := bc2 BK827.out
         have hcz195_3 := bc3 BK827.out
         have hcz195_4 := bc4 BK827.out
         have hcz195_5 := bc5 BK827.out
         have hcz195_6 := bc6 BK827.out
         have hfz195_0 := blk_frozen BK827.out 0
         have hfz195_1 := blk_frozen BK827.out 1
         have hfz195_2 := blk_frozen BK827.out 2
         have hfz195_3 := blk_frozen BK827.out 3
         have hfz195_4 := blk_frozen BK827.out 4
         have hfz195_5 := blk_frozen BK827.out 5
         have hfz195_6 := blk_frozen BK827.out 6
         go_wp2
         go_ret
         exact ⟨by first | rfl | (simp [errW_none, errW_some] <;> rfl) | (simp [*, errW_none, errW_some] <;> rfl), by repeat (first | (with_reducible first | exact HB.out | apply below_alloc | apply pw_below_drewN | apply below_drew1 | refine below_set ?_ GE826.out | refine below_set ?_ GE827.out) | exact HB.out)⟩
       ·rw [if_neg c175] at H
        have c175b0 : (a1_0 == 7) = false := beq_eq_false_iff_ne.mpr c175
        have c175b1 : (a1_0 != 7) = true := bne_iff_ne.mpr c175
        obtain rfl := Option.some.inj H
        go_wp2
        go_ret
        exact ⟨by first | rfl | (simp [errW_none, errW_some] <;> rfl) | (simp [*, errW_none, errW_some] <;> rfl), by repeat (first | (with_reducible first | exact HB.out | apply below_alloc | apply pw_below_drewN | apply below_drew1 | refine below_set ?_ GE826.out | refine below_set ?_ GE827.out) | exact HB.out)⟩


end Go.Proofs.Ytkpeihdlmjdejaa.P
