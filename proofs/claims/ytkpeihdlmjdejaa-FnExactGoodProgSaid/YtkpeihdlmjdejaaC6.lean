import Derived.Test.YtkpeihdlmjdejaaCP0
import Derived.Test.YtkpeihdlmjdejaaC2
import Derived.Test.YtkpeihdlmjdejaaC4
import Derived.Test.YtkpeihdlmjdejaaC5
namespace Go.Proofs.Ytkpeihdlmjdejaa.P
open Go.RowKit Go.Proofs.YtkpeihdlmjdejaaW.PrintWords Go.Proofs.YtkpeihdlmjdejaaW.PrintLast Go.Proofs.YtkpeihdlmjdejaaW.PrintMore
attribute [local go_sem] max2_int min2_int max_two min_two max_three min_three max_four min_four   -- for this text's walks alone
set_option linter.unusedVariables false
set_option linter.unusedSimpArgs false


def impl_GoodProg_1.f (k : Nat) (x : S115) (l : List (S115)) : Option Bool := (impl_goodIns.f k x.f0 x.f1 x.f2 x.f3 x.f4 x.f5 x.f6 (l.length : Int)).bind fun t => some (!t)
theorem impl_GoodProg_1.mono (k : Nat) (x : S115) (l : List (S115)) : LeO (impl_GoodProg_1.f k x l) (impl_GoodProg_1.f (k + 1) x l) := LeO.bind (impl_goodIns.mono _ _ _ _ _ _ _ _ k) (fun _ => LeO.refl _)
set_option maxHeartbeats 4000000 in
theorem impl_GoodProg_1.calls (k : Nat) (g : Nat) (A : Option Addr) (c : Nat) (l : List (S115)) (x : S115) (A4 : Option Addr) (c4 : Nat) (A5 : Option Addr) (c5 : Nat) (A6 : Option Addr) (c6 : Nat) (r : Bool) (w : World) (hb : w.heap[g]? = some (.cells #[.slice A l.length c] 68 (0, 0)))
    (hr4 : (Kd.int .i64).C w A4 x.f4.length x.f4) (hc4 : x.f4.length ≤ c4) (hr5 : k178.C w A5 x.f5.length x.f5) (hc5 : x.f5.length ≤ c5) (hr6 : (Kd.int .i64).C w A6 x.f6.length x.f6) (hc6 : x.f6.length ≤ c6) (h : impl_GoodProg_1.f k x l = some r) :
    Calls Try.prog 87 (#[.agg #[.int .i64 x.f0, .int .i64 x.f1, .int .i64 x.f2, .int .i64 x.f3, .slice A4 x.f4.length c4, .slice A5 x.f5.length c5, .slice A6 x.f6.length c6]] ++ #[.pointer (some ⟨g, 0, none⟩)]) w fun e w' => e = .returned (.bool r) ∧ Below w.heap.size w w' := by
  have hu := Try.underlying115
  unfold impl_GoodProg_1.f at h
  obtain ⟨t, ht, h⟩ := Option.bind_eq_some_iff.mp h
  obtain rfl := Option.some.inj h
  have HT := Aside0.mk ht
  have hcz : w.cell? ⟨g, 0, none⟩ = some (.slice A l.length c) := (blk_cell hb 0).trans rfl
  have HR4 := Aside0.mk hr4
  have HR5 := Aside0.mk hr5
  have HR6 := Aside0.mk hr6
  have HC4 := Aside0.mk hc4
  have HC5 := Aside0.mk hc5
  have HC6 := Aside0.mk hc6
  clear ht h hb hr4 hr5 hr6 hc4 hc5 hc6
  have HB := Aside0.mk (Below.refl w.heap.size w)
  go_enter Try.func87, Try.ntmps87
  go_wp2_with (first | ((with_reducible refine gate_dst (N := 2) rfl ?_); refine box_event ?hg (N := 2) ?hd (cs := #[.int .i64 x.f0, .int .i64 x.f1, .int .i64 x.f2, .int .i64 x.f3, .slice A4 x.f4.length c4, .slice A5 x.f5.length c5, .slice A6 x.f6.length c6]) (t := 115) ?hr ?_; (case hd => rfl); (case hg => rfl); (case hr => first | (go_simp; done) | (go_simp; rfl)); intro gb hg w1 hbox hb1; have n0_ := Aside0.mk hb1; have hcz1 := (hb1.cell (World.block_lt_of_cell? w _ hcz)).trans hcz; have hz0 := bc0 hbox; have hz1 := bc1 hbox; have hz2 := bc2 hbox; have hz3 := bc3 hbox; have hz4 := bc4 hbox; have hz5 := bc5 hbox; have hz6 := bc6 hbox; clear HB hcz hb1 hbox hg; have HB := n0_; clear n0_) | (go_at_call 88; (with_reducible refine (impl_goodIns.calls k x.f0 x.f1 x.f2 x.f3 A4 c4 x.f4 A5 c5 x.f5 A6 c6 x.f6 (l.length : Int) t _ ?s4 HC4.out ?s5 HC5.out ?s6 HC6.out HT.out).mono ?_); (case s4 => exact Kd.C_below HR4.out HB.out); (case s5 => exact Kd.C_below HR5.out HB.out); (case s6 => exact Kd.C_below HR6.out HB.out); rintro e w' ⟨rfl, hb⟩; have n0_ := Aside0.mk (below_step HB.out hb); clear HB hb; have HB := n0_; clear n0_))
  go_ret
  exact ⟨by first | rfl | simp [*], by repeat (first | (with_reducible first | exact HB.out | apply below_alloc | apply pw_below_drewN | apply below_drew1) | exact HB.out)⟩

def slices_ContainsFunc_impl_Ins_87.f (k : Nat) (l0 : List (S115)) (l1 : List (S115)) : Option Bool := anyO (fun x => impl_GoodProg_1.f k x l1) l0
theorem slices_ContainsFunc_impl_Ins_87.mono : ∀ l0 l1 k, LeO (slices_ContainsFunc_impl_Ins_87.f k l0 l1) (slices_ContainsFunc_impl_Ins_87.f (k + 1) l0 l1) := fun l0 l1 k => by unfold slices_ContainsFunc_impl_Ins_87.f; exact anyO_mono (fun x => impl_GoodProg_1.mono k x l1) l0
set_option maxHeartbeats 8000000 in
theorem slices_ContainsFunc_impl_Ins_87.calls {g1 : Nat} (k : Nat) (A0 : Option Addr) (c0 : Nat) (l0 : List (S115)) (A1 : Option Addr) (c1 : Nat) (l1 : List (S115)) (r : Bool) (w : World) (hr0 : Kd.C k115 w A0 l0.length l0) (hc0 : l0.length ≤ c0) (hr1 : Kd.C k115 w A1 l1.length l1) (hc1 : l1.length ≤ c1)
    (hb1 : w.heap[g1]? = some (.cells #[.slice A1 l1.length c1] 68 (0, 0))) (h : slices_ContainsFunc_impl_Ins_87.f k l0 l1 = some r) :
    Calls Try.prog 86 #[.slice A0 l0.length c0, .func (.func 87) #[] #[.pointer (some ⟨g1, 0, none⟩)]] w fun e w' => e = .returned (.bool r) ∧ Below w.heap.size w w' := by
  have eg : ∀ args w, (callFunc 87 args).run Try.prog w = .ok (.enter 87 args) w := enters_of Try.func87 (by kernel_rfl) rfl
  obtain ⟨hs, rfl⟩ := anyO_some h
  exact slices_ContainsFunc_impl_Ins.fn 87 #[.pointer (some ⟨g1, 0, none⟩)] eg (fun x => (impl_GoodProg_1.f k x l1).getD false) A0 c0 l0 w hr0 (fun w1 x A4 c4 A5 c5 A6 c6 hx hB hC4 hl4 hC5 hl5 hC6 hl6 => impl_GoodProg_1.calls k g1 A1 c1 l1 x A4 c4 A5 c5 A6 c6 _ w1 (blk_below hb1 hB) (Kd.C_below hC4 hB) hl4 (Kd.C_below hC5 hB) hl5 (Kd.C_below hC6 hB) hl6 (by
    obtain ⟨b, hb⟩ := Option.isSome_iff_exists.1 (hs x hx)
    rw [hb]
    rfl))

def impl_GoodProg.f (k : Nat) (l0 : List (S115)) : Option (Bool) := if (l0.length : Int) ≤ 30 then ((slices_ContainsFunc_impl_Ins_87.f k l0 l0).bind fun t891 => (some (!t891))) else (some false)
theorem impl_GoodProg.mono : ∀ a0 k, LeO (impl_GoodProg.f k a0) (impl_GoodProg.f (k + 1) a0) := by
 intro a0 k
 unfold impl_GoodProg.f
 repeat' first
   | (with_reducible exact slices_ContainsFunc_impl_Ins_87.mono _ _ _)
   | (with_reducible exact LeO.refl _)
   | (with_reducible exact LeO.none _)
   | (with_reducible refine LeO.ite ?_ ?_)
   | (with_reducible refine LeO.bind ?_ (fun _ => ?_))
   | exact slices_ContainsFunc_impl_Ins_87.mono _ _ _
   | exact LeO.none _
   | refine LeO.ite ?_ ?_
   | refine LeO.bind ?_ (fun _ => ?_)
set_option maxHeartbeats 8000000 in
set_option maxRecDepth 100000 in
theorem impl_GoodProg.calls (k : Nat) (A0 : Option Addr) (c0 : Nat) (l0 : List (S115)) (r : Bool) (w : World) (hr0 : Kd.C k115 w A0 l0.length l0) (hc0 : l0.length ≤ c0) (h : impl_GoodProg.f k l0 = some r) :
  Calls Try.prog 47 #[.slice A0 l0.length c0] w fun e w' => e = .returned (.bool r) ∧ Below w.heap.size w w' := by
 have HR0 := Aside0.mk hr0
 have HC0 := Aside0.mk hc0
 clear hr0 hc0
 have HB := Aside0.mk (Below.refl w.heap.size w)
 have H : (if (l0.length : Int) ≤ 30 then ((slices_ContainsFunc_impl_Ins_87.f k l0 l0).bind fun t891 => (some (!t891))) else (some false)) = some r := h
 clear h
 by_cases c2 : (l0.length : Int) ≤ 30
 ·rw [if_pos c2] at H
  have c2b0 : decide ((l0.length : Int) ≤ 30) = true := decide_eq_true c2
  have c2b1 : decide (l0.length ≤ 30) = true := decide_eq_true (by omega)
  clear c2
  replace H := Option.bind_eq_some_iff.mp H
  obtain ⟨t891, A30, H⟩ := H
  replace H : (some (!t891)) = some r := H
  have A3 := Aside0.mk A30
  clear A30
  obtain rfl := Option.some.inj H
  go_enter Try.func47, Try.ntmps47
  go_wp2_with (first | ((with_reducible refine gate_dst (N := 1) rfl ?_); refine box_event ?hg (N := 1) ?hd (cs := #[.slice A0 l0.length c0]) (t := 68) ?hr ?_; (case hd => rfl); (case hg => rfl); (case hr => first | (go_simp; done) | (go_simp; rfl)); intro gb890 hg w4 hbox hb; have n0_ := Aside0.mk (below_step (by repeat (first | (with_reducible first | exact HB.out | apply below_alloc | apply pw_below_drewN | apply below_drew1) | exact HB.out)) hb); have n1_ := Aside0.mk (hbox); have n2_ := Aside0.mk ((by rw [hg]; exact (below_size (by repeat (first | (with_reducible first | exact HB.out | apply below_alloc | apply pw_below_drewN | apply below_drew1) | exact HB.out))) : w.heap.size ≤ gb890)); have n3_ := Aside0.mk ((by rw [hg]; exact (below_size (by repeat (first | (with_reducible first | exact HB.out | apply below_alloc | apply pw_below_drewN | apply below_drew1) | exact HB.out))) : w.heap.size ≤ gb890)); clear HB; have HB := n0_; have BK890 := n1_; have GW890 := n2_; have GE890 := n3_; clear n0_ n1_ n2_ n3_; clear hb hbox hg; have hcz5_0 : w4.cell? ⟨gb890, 0, none⟩ = some (.slice A0 l0.length c0) := (blk_cell BK890.out 0).trans rfl; have hfz5_0 := blk_frozen BK890.out 0) | (go_at_call 86; (with_reducible refine (slices_ContainsFunc_impl_Ins_87.calls k _ _ l0  A0 c0 l0 t891 _ ?side1 ?side2 ?side3 ?side4 ?side5 A3.out).mono ?_); (case side1 => repeat (first | exact (Kd.C_below HR0.out HB.out) | (with_reducible refine Kd.C_alloc ?_ _) | (with_reducible refine Kd.C_drewN ?_ _) | (with_reducible refine Kd.C_drew ?_))); (case side2 => exact HC0.out); (case side3 => repeat (first | exact (Kd.C_below HR0.out HB.out) | (with_reducible refine Kd.C_alloc ?_ _) | (with_reducible refine Kd.C_drewN ?_ _) | (with_reducible refine Kd.C_drew ?_))); (case side4 => exact HC0.out); (case side5 => exact (by (with_reducible repeat (first | refine blk_drewN ?_ _ | refine blk_drew ?_ | refine blk_alloc ?_ _)); exact BK890.out)); rintro e w6 ⟨rfl, hb⟩; have n0_ := Aside0.mk (blk_below (g := gb890) (o := .cells #[.slice A0 l0.length c0] 68 (0, 0)) (by (with_reducible repeat (first | refine blk_drewN ?_ _ | refine blk_drew ?_ | refine blk_alloc ?_ _)); exact BK890.out) hb); have n1_ := Aside0.mk (below_step (by repeat (first | (with_reducible first | exact HB.out | apply below_alloc | apply pw_below_drewN | apply below_drew1 | refine below_set ?_ GE890.out) | exact HB.out)) hb); clear BK890; clear HB; have BK890 := n0_; have HB := n1_; clear n0_ n1_; (try clear hb); (try clear hb2); (try clear hk); (try clear hi)))
  go_ret
  exact ⟨by first | rfl | (simp [errW_none, errW_some] <;> rfl) | (simp [*, errW_none, errW_some] <;> rfl), by repeat (first | (with_reducible first | exact HB.out | apply below_alloc | apply pw_below_drewN | apply below_drew1 | refine below_set ?_ GE890.out) | exact HB.out)⟩
 ·rw [if_neg c2] at H
  have c2b0 : decide ((l0.length : Int) ≤ 30) = false := decide_eq_false c2
  have c2b1 : decide (l0.length ≤ 30) = false := decide_eq_false (by omega)
  clear c2
  obtain rfl := Option.some.inj H
  go_enter Try.func47, Try.ntmps47
  go_wp2_with (first | ((with_reducible refine gate_dst (N := 1) rfl ?_); refine box_event ?hg (N := 1) ?hd (cs := #[.slice A0 l0.length c0]) (t := 68) ?hr ?_; (case hd => rfl); (case hg => rfl); (case hr => first | (go_simp; done) | (go_simp; rfl)); intro gb890 hg w7 hbox hb; have n0_ := Aside0.mk (below_step (by repeat (first | (with_reducible first | exact HB.out | apply below_alloc | apply pw_below_drewN | apply below_drew1) | exact HB.out)) hb); have n1_ := Aside0.mk (hbox); have n2_ := Aside0.mk ((by rw [hg]; exact (below_size (by repeat (first | (with_reducible first | exact HB.out | apply below_alloc | apply pw_below_drewN | apply below_drew1) | exact HB.out))) : w.heap.size ≤ gb890)); have n3_ := Aside0.mk ((by rw [hg]; exact (below_size (by repeat (first | (with_reducible first | exact HB.out | apply below_alloc | apply pw_below_drewN | apply below_drew1) | exact HB.out))) : w.heap.size ≤ gb890)); clear HB; have HB := n0_; have BK890 := n1_; have GW890 := n2_; have GE890 := n3_; clear n0_ n1_ n2_ n3_; clear hb hbox hg; have hcz8_0 : w7.cell? ⟨gb890, 0, none⟩ = some (.slice A0 l0.length c0) := (blk_cell BK890.out 0).trans rfl; have hfz8_0 := blk_frozen BK890.out 0))
  go_ret
  exact ⟨by first | rfl | (simp [errW_none, errW_some] <;> rfl) | (simp [*, errW_none, errW_some] <;> rfl), by repeat (first | (with_reducible first | exact HB.out | apply below_alloc | apply pw_below_drewN | apply below_drew1 | refine below_set ?_ GE890.out) | exact HB.out)⟩

def laws_eqClause.f (k : Nat) (a0_0 : Int) (l0_1 : List (S89)) (a1_0 : Int) (l1_1 : List (S89)) : Option (Bool) := if a0_0 = a1_0 then ((laws_eqReS.f k l0_1 l1_1).bind fun t894 => (if t894 = true then (some true) else (some false))) else (some false)
theorem laws_eqClause.mono : ∀ a0 a1 a2 a3 k, LeO (laws_eqClause.f k a0 a1 a2 a3) (laws_eqClause.f (k + 1) a0 a1 a2 a3) := by
 intro a0 a1 a2 a3 k
 unfold laws_eqClause.f
 repeat' first
   | (with_reducible exact laws_eqReS.mono _ _ _)
   | (with_reducible exact LeO.refl _)
   | (with_reducible exact LeO.none _)
   | (with_reducible refine LeO.ite ?_ ?_)
   | (with_reducible refine LeO.bind ?_ (fun _ => ?_))
   | exact laws_eqReS.mono _ _ _
   | exact LeO.none _
   | refine LeO.ite ?_ ?_
   | refine LeO.bind ?_ (fun _ => ?_)
set_option maxHeartbeats 8000000 in
set_option maxRecDepth 100000 in
theorem laws_eqClause.calls (k : Nat) (a0_0 : Int) (A0_1 : Option Addr) (c0_1 : Nat) (l0_1 : List (S89)) (a1_0 : Int) (A1_1 : Option Addr) (c1_1 : Nat) (l1_1 : List (S89)) (r : Bool) (w : World) (hr0_1 : Kd.C k89 w A0_1 l0_1.length l0_1) (hc0_1 : l0_1.length ≤ c0_1) (hr1_1 : Kd.C k89 w A1_1 l1_1.length l1_1) (hc1_1 : l1_1.length ≤ c1_1) (h : laws_eqClause.f k a0_0 l0_1 a1_0 l1_1 = some r) :
  Calls Try.prog 168 #[.agg #[.int .i64 a0_0, .slice A0_1 l0_1.length c0_1], .agg #[.int .i64 a1_0, .slice A1_1 l1_1.length c1_1]] w fun e w' => e = .returned (.bool r) ∧ Below w.heap.size w w' := by
 have hu178 := Try.underlying178
 have HR0_1 := Aside0.mk hr0_1
 have HC0_1 := Aside0.mk hc0_1
 clear hr0_1 hc0_1
 have HR1_1 := Aside0.mk hr1_1
 have HC1_1 := Aside0.mk hc1_1
 clear hr1_1 hc1_1
 have HB := Aside0.mk (Below.refl w.heap.size w)
 have H : (if a0_0 = a1_0 then ((laws_eqReS.f k l0_1 l1_1).bind fun t894 => (if t894 = true then (some true) else (some false))) else (some false)) = some r := h
 clear h
 by_cases c3 : a0_0 = a1_0
 ·rw [if_pos c3] at H
  have c3b0 : (a0_0 == a1_0) = true := beq_iff_eq.mpr c3
  have c3b1 : (a0_0 != a1_0) = false := bne_eq_false_iff_eq.mpr c3
  clear c3
  replace H := Option.bind_eq_some_iff.mp H
  obtain ⟨t894, A40, H⟩ := H
  replace H : (if t894 = true then (some true) else (some false)) = some r := H
  have A4 := Aside0.mk A40
  clear A40
  by_cases c5 : t894 = true
  ·subst c5
   have H1 : (some true) = some r := by rw [if_pos rfl] at H; exact H
   clear H
   have H := H1
   clear H1
   obtain rfl := Option.some.inj H
   go_enter Try.func168, Try.ntmps168
   go_wp2_with (first | ((with_reducible refine gate_dst (N := 2) rfl ?_); refine box_event ?hg (N := 2) ?hd (cs := #[.int .i64 a0_0, .slice A0_1 l0_1.length c0_1]) (t := 178) ?hr ?_; (case hd => rfl); (case hg => rfl); (case hr => first | (go_simp; done) | (go_simp; rfl)); intro gb892 hg w6 hbox hb; have n0_ := Aside0.mk (below_step (by repeat (first | (with_reducible first | exact HB.out | apply below_alloc | apply pw_below_drewN | apply below_drew1) | exact HB.out)) hb); have n1_ := Aside0.mk (hbox); have n2_ := Aside0.mk ((by rw [hg]; exact (below_size (by repeat (first | (with_reducible first | exact HB.out | apply below_alloc | apply pw_below_drewN | apply below_drew1) | exact HB.out))) : w.heap.size ≤ gb892)); have n3_ := Aside0.mk ((by rw [hg]; exact (below_size (by repeat (first | (with_reducible first | exact HB.out | apply below_alloc | apply pw_below_drewN | apply below_drew1) | exact HB.out))) : w.heap.size ≤ gb892)); clear HB; have HB := n0_; have BK892 := n1_; have GW892 := n2_; have GE892 := n3_; clear n0_ n1_ n2_ n3_; clear hb hbox hg) | ((with_reducible refine gate_dst (N := 3) rfl ?_); refine box_event ?hg (N := 3) ?hd (cs := #[.int .i64 a1_0, .slice A1_1 l1_1.length c1_1]) (t := 178) ?hr ?_; (case hd => rfl); (case hg => rfl); (case hr => first | (go_simp; done) | (go_simp; rfl)); intro gb893 hg w7 hbox hb; have n0_ := Aside0.mk (blk_below (g := gb892) (o := .cells #[.int .i64 a0_0, .slice A0_1 l0_1.length c0_1] 178 (0, 0)) (by (with_reducible repeat (first | refine blk_drewN ?_ _ | refine blk_drew ?_ | refine blk_alloc ?_ _)); exact BK892.out) hb); have n1_ := Aside0.mk (below_step (by repeat (first | (with_reducible first | exact HB.out | apply below_alloc | apply pw_below_drewN | apply below_drew1 | refine below_set ?_ GE892.out) | exact HB.out)) hb); have n2_ := Aside0.mk (hbox); have n3_ := Aside0.mk ((by rw [hg]; exact (below_size (by repeat (first | (with_reducible first | exact HB.out | apply below_alloc | apply pw_below_drewN | apply below_drew1 | refine below_set ?_ GE892.out) | exact HB.out))) : w.heap.size ≤ gb893)); have n4_ := Aside0.mk ((by rw [hg]; exact (below_size (by repeat (first | (with_reducible first | exact HB.out | apply below_alloc | apply pw_below_drewN | apply below_drew1 | refine below_set ?_ GE892.out) | exact HB.out))) : w.heap.size ≤ gb893)); have n5_ := Aside0.mk ((by rw [hg]; exact Nat.ne_of_lt (blk_lt (g := gb892) (o := .cells #[.int .i64 a0_0, .slice A0_1 l0_1.length c0_1] 178 (0, 0)) (by (with_reducible repeat (first | refine blk_drewN ?_ _ | refine blk_drew ?_ | refine blk_alloc ?_ _)); exact BK892.out)) : gb892 ≠ gb893)); have n6_ := Aside0.mk ((by rw [hg]; exact Nat.ne_of_gt (blk_lt (g := gb892) (o := .cells #[.int .i64 a0_0, .slice A0_1 l0_1.length c0_1] 178 (0, 0)) (by (with_reducible repeat (first | refine blk_drewN ?_ _ | refine blk_drew ?_ | refine blk_alloc ?_ _)); exact BK892.out)) : gb893 ≠ gb892)); clear BK892; clear HB; have BK892 := n0_; have HB := n1_; have BK893 := n2_; have GW893 := n3_; have GE893 := n4_; have NB892_893 := n5_; have NB893_892 := n6_; clear n0_ n1_ n2_ n3_ n4_ n5_ n6_; clear hb hbox hg; have hnb8 := NB892_893.out; have hnc8 := NB893_892.out; have hcz9_0 : w7.cell? ⟨gb892, 0, none⟩ = some (.int .i64 a0_0) := (blk_cell BK892.out 0).trans rfl; have hcz9_1 : w7.cell? ⟨gb892, 1, none⟩ = some (.slice A0_1 l0_1.length c0_1) := (blk_cell BK892.out 1).trans rfl; have hfz9_0 := blk_frozen BK892.out 0; have hfz9_1 := blk_frozen BK892.out 1; have hcz10_0 : w7.cell? ⟨gb893, 0, none⟩ = some (.int .i64 a1_0) := (blk_cell BK893.out 0).trans rfl; have hcz10_1 : w7.cell? ⟨gb893, 1, none⟩ = some (.slice A1_1 l1_1.length c1_1) := (blk_cell BK893.out 1).trans rfl; have hfz10_0 := blk_frozen BK893.out 0; have hfz10_1 := blk_frozen BK893.out 1) | ((with_reducible refine gate_callee (f := 18) rfl ?_); refine goesL_ (some 14) rfl rfl Try.func18 (by kernel_rfl) rfl #[.slice A0_1 l0_1.length c0_1, .slice A1_1 l1_1.length c1_1] rfl (by (try simp only [List.map_toArray, List.map_cons, List.map_nil]); first | done | rfl | (simp only [List.length_drop, List.length_take]; rfl)) ?_; (with_reducible refine (laws_eqReS.calls k _ _ l0_1 _ _ l1_1 true _ ?side1 ?side2 ?side3 ?side4 A4.out).mono ?_); (case side1 => repeat (first | exact (Kd.C_below HR0_1.out HB.out) | (with_reducible refine Kd.C_alloc ?_ _) | (with_reducible refine Kd.C_drewN ?_ _) | (with_reducible refine Kd.C_drew ?_))); (case side2 => exact HC0_1.out); (case side3 => repeat (first | exact (Kd.C_below HR1_1.out HB.out) | (with_reducible refine Kd.C_alloc ?_ _) | (with_reducible refine Kd.C_drewN ?_ _) | (with_reducible refine Kd.C_drew ?_))); (case side4 => exact HC1_1.out); rintro e w11 ⟨rfl, hb⟩; refine ⟨_, rfl, ?_⟩; have n0_ := Aside0.mk (blk_below (g := gb892) (o := .cells #[.int .i64 a0_0, .slice A0_1 l0_1.length c0_1] 178 (0, 0)) (by (with_reducible repeat (first | refine blk_drewN ?_ _ | refine blk_drew ?_ | refine blk_alloc ?_ _)); exact BK892.out) hb); have n1_ := Aside0.mk (blk_below (g := gb893) (o := .cells #[.int .i64 a1_0, .slice A1_1 l1_1.length c1_1] 178 (0, 0)) (by (with_reducible repeat (first | refine blk_drewN ?_ _ | refine blk_drew ?_ | refine blk_alloc ?_ _)); exact BK893.out) hb); have n2_ := Aside0.mk (below_step (by repeat (first | (with_reducible first | exact HB.out | apply below_alloc | apply pw_below_drewN | apply below_drew1 | refine below_set ?_ GE892.out | refine below_set ?_ GE893.out) | exact HB.out)) hb); clear BK892; clear BK893; clear HB; have BK892 := n0_; have BK893 := n1_; have HB := n2_; clear n0_ n1_ n2_; (try clear hb); (try clear hb2); (try clear hk); (try clear hi)))
   go_ret
   exact ⟨by first | rfl | (simp [errW_none, errW_some] <;> rfl) | (simp [*, errW_none, errW_some] <;> rfl), by repeat (first | (with_reducible first | exact HB.out | apply below_alloc | apply pw_below_drewN | apply below_drew1 | refine below_set ?_ GE892.out | refine below_set ?_ GE893.out) | exact HB.out)⟩
  ·replace c5 := Bool.eq_false_iff.mpr c5
   subst c5
   have H1 : (some false) = some r := by rw [if_neg (show ¬ (false = true) by decide)] at H; exact H
   clear H
   have H := H1
   clear H1
   obtain rfl := Option.some.inj H
   go_enter Try.func168, Try.ntmps168
   go_wp2_with (first | ((with_reducible refine gate_dst (N := 2) rfl ?_); refine box_event ?hg (N := 2) ?hd (cs := #[.int .i64 a0_0, .slice A0_1 l0_1.length c0_1]) (t := 178) ?hr ?_; (case hd => rfl); (case hg => rfl); (case hr => first | (go_simp; done) | (go_simp; rfl)); intro gb892 hg w12 hbox hb; have n0_ := Aside0.mk (below_step (by repeat (first | (with_reducible first | exact HB.out | apply below_alloc | apply pw_below_drewN | apply below_drew1) | exact HB.out)) hb); have n1_ := Aside0.mk (hbox); have n2_ := Aside0.mk ((by rw [hg]; exact (below_size (by repeat (first | (with_reducible first | exact HB.out | apply below_alloc | apply pw_below_drewN | apply below_drew1) | exact HB.out))) : w.heap.size ≤ gb892)); have n3_ := Aside0.mk ((by rw [hg]; exact (below_size (by repeat (first | (with_reducible first | exact HB.out | apply below_alloc | apply pw_below_drewN | apply below_drew1) | exact HB.out))) : w.heap.size ≤ gb892)); clear HB; have HB := n0_; have BK892 := n1_; have GW892 := n2_; have GE892 := n3_; clear n0_ n1_ n2_ n3_; clear hb hbox hg) | ((with_reducible refine gate_dst (N := 3) rfl ?_); refine box_event ?hg (N := 3) ?hd (cs := #[.int .i64 a1_0, .slice A1_1 l1_1.length c1_1]) (t := 178) ?hr ?_; (case hd => rfl); (case hg => rfl); (case hr => first | (go_simp; done) | (go_simp; rfl)); intro gb893 hg w13 hbox hb; have n0_ := Aside0.mk (blk_below (g := gb892) (o := .cells #[.int .i64 a0_0, .slice A0_1 l0_1.length c0_1] 178 (0, 0)) (by (with_reducible repeat (first | refine blk_drewN ?_ _ | refine blk_drew ?_ | refine blk_alloc ?_ _)); exact BK892.out) hb); have n1_ := Aside0.mk (below_step (by repeat (first | (with_reducible first | exact HB.out | apply below_alloc | apply pw_below_drewN | apply below_drew1 | refine below_set ?_ GE892.out) | exact HB.out)) hb); have n2_ := Aside0.mk (hbox); have n3_ := Aside0.mk ((by rw [hg]; exact (below_size (by repeat (first | (with_reducible first | exact HB.out | apply below_alloc | apply pw_below_drewN | apply below_drew1 | refine below_set ?_ GE892.out) | exact HB.out))) : w.heap.size ≤ gb893)); have n4_ := Aside0.mk ((by rw [hg]; exact (below_size (by repeat (first | (with_reducible first | exact HB.out | apply below_alloc | apply pw_below_drewN | apply below_drew1 | refine below_set ?_ GE892.out) | exact HB.out))) : w.heap.size ≤ gb893)); have n5_ := Aside0.mk ((by rw [hg]; exact Nat.ne_of_lt (blk_lt (g := gb892) (o := .cells #[.int .i64 a0_0, .slice A0_1 l0_1.length c0_1] 178 (0, 0)) (by (with_reducible repeat (first | refine blk_drewN ?_ _ | refine blk_drew ?_ | refine blk_alloc ?_ _)); exact BK892.out)) : gb892 ≠ gb893)); have n6_ := Aside0.mk ((by rw [hg]; exact Nat.ne_of_gt (blk_lt (g := gb892) (o := .cells #[.int .i64 a0_0, .slice A0_1 l0_1.length c0_1] 178 (0, 0)) (by (with_reducible repeat (first | refine blk_drewN ?_ _ | refine blk_drew ?_ | refine blk_alloc ?_ _)); exact BK892.out)) : gb893 ≠ gb892)); clear BK892; clear HB; have BK892 := n0_; have HB := n1_; have BK893 := n2_; have GW893 := n3_; have GE893 := n4_; have NB892_893 := n5_; have NB893_892 := n6_; clear n0_ n1_ n2_ n3_ n4_ n5_ n6_; clear hb hbox hg; have hnb14 := NB892_893.out; have hnc14 := NB893_892.out; have hcz15_0 : w13.cell? ⟨gb892, 0, none⟩ = some (.int .i64 a0_0) := (blk_cell BK892.out 0).trans rfl; have hcz15_1 : w13.cell? ⟨gb892, 1, none⟩ = some (.slice A0_1 l0_1.length c0_1) := (blk_cell BK892.out 1).trans rfl; have hfz15_0 := blk_frozen BK892.out 0; have hfz15_1 := blk_frozen BK892.out 1; have hcz16_0 : w13.cell? ⟨gb893, 0, none⟩ = some (.int .i64 a1_0) := (blk_cell BK893.out 0).trans rfl; have hcz16_1 : w13.cell? ⟨gb893, 1, none⟩ = some (.slice A1_1 l1_1.length c1_1) := (blk_cell BK893.out 1).trans rfl; have hfz16_0 := blk_frozen BK893.out 0; have hfz16_1 := blk_frozen BK893.out 1) | ((with_reducible refine gate_callee (f := 18) rfl ?_); refine goesL_ (some 14) rfl rfl Try.func18 (by kernel_rfl) rfl #[.slice A0_1 l0_1.length c0_1, .slice A1_1 l1_1.length c1_1] rfl (by (try simp only [List.map_toArray, List.map_cons, List.map_nil]); first | done | rfl | (simp only [List.length_drop, List.length_take]; rfl)) ?_; (with_reducible refine (laws_eqReS.calls k _ _ l0_1 _ _ l1_1 false _ ?side1 ?side2 ?side3 ?side4 A4.out).mono ?_); (case side1 => repeat (first | exact (Kd.C_below HR0_1.out HB.out) | (with_reducible refine Kd.C_alloc ?_ _) | (with_reducible refine Kd.C_drewN ?_ _) | (with_reducible refine Kd.C_drew ?_))); (case side2 => exact HC0_1.out); (case side3 => repeat (first | exact (Kd.C_below HR1_1.out HB.out) | (with_reducible refine Kd.C_alloc ?_ _) | (with_reducible refine Kd.C_drewN ?_ _) | (with_reducible refine Kd.C_drew ?_))); (case side4 => exact HC1_1.out); rintro e w17 ⟨rfl, hb⟩; refine ⟨_, rfl, ?_⟩; have n0_ := Aside0.mk (blk_below (g := gb892) (o := .cells #[.int .i64 a0_0, .slice A0_1 l0_1.length c0_1] 178 (0, 0)) (by (with_reducible repeat (first | refine blk_drewN ?_ _ | refine blk_drew ?_ | refine blk_alloc ?_ _)); exact BK892.out) hb); have n1_ := Aside0.mk (blk_below (g := gb893) (o := .cells #[.int .i64 a1_0, .slice A1_1 l1_1.length c1_1] 178 (0, 0)) (by (with_reducible repeat (first | refine blk_drewN ?_ _ | refine blk_drew ?_ | refine blk_alloc ?_ _)); exact BK893.out) hb); have n2_ := Aside0.mk (below_step (by repeat (first | (with_reducible first | exact HB.out | apply below_alloc | apply pw_below_drewN | apply below_drew1 | refine below_set ?_ GE892.out | refine below_set ?_ GE893.out) | exact HB.out)) hb); clear BK892; clear BK893; clear HB; have BK892 := n0_; have BK893 := n1_; have HB := n2_; clear n0_ n1_ n2_; (try clear hb); (try clear hb2); (try clear hk); (try clear hi)))
   go_ret
   exact ⟨by first | rfl | (simp [errW_none, errW_some] <;> rfl) | (simp [*, errW_none, errW_some] <;> rfl), by repeat (first | (with_reducible first | exact HB.out | apply below_alloc | apply pw_below_drewN | apply below_drew1 | refine below_set ?_ GE892.out | refine below_set ?_ GE893.out) | exact HB.out)⟩
 ·rw [if_neg c3] at H
  have c3b0 : (a0_0 == a1_0) = false := beq_eq_false_iff_ne.mpr c3
  have c3b1 : (a0_0 != a1_0) = true := bne_iff_ne.mpr c3
  obtain rfl := Option.some.inj H
  go_enter Try.func168, Try.ntmps168
  go_wp2_with (first | ((with_reducible refine gate_dst (N := 2) rfl ?_); refine box_event ?hg (N := 2) ?hd (cs := #[.int .i64 a0_0, .slice A0_1 l0_1.length c0_1]) (t := 178) ?hr ?_; (case hd => rfl); (case hg => rfl); (case hr => first | (go_simp; done) | (go_simp; rfl)); intro gb892 hg w18 hbox hb; have n0_ := Aside0.mk (below_step (by repeat (first | (with_reducible first | exact HB.out | apply below_alloc | apply pw_below_drewN | apply below_drew1) | exact HB.out)) hb); have n1_ := Aside0.mk (hbox); have n2_ := Aside0.mk ((by rw [hg]; exact (below_size (by repeat (first | (with_reducible first | exact HB.out | apply below_alloc | apply pw_below_drewN | apply below_drew1) | exact HB.out))) : w.heap.size ≤ gb892)); have n3_ := Aside0.mk ((by rw [hg]; exact (below_size (by repeat (first | (with_reducible first | exact HB.out | apply below_alloc | apply pw_below_drewN | apply below_drew1) | exact HB.out))) : w.heap.size ≤ gb892)); clear HB; have HB := n0_; have BK892 := n1_; have GW892 := n2_; have GE892 := n3_; clear n0_ n1_ n2_ n3_; clear hb hbox hg) | ((with_reducible refine gate_dst (N := 3) rfl ?_); refine box_event ?hg (N := 3) ?hd (cs := #[.int .i64 a1_0, .slice A1_1 l1_1.length c1_1]) (t := 178) ?hr ?_; (case hd => rfl); (case hg => rfl); (case hr => first | (go_simp; done) | (go_simp; rfl)); intro gb893 hg w19 hbox hb; have n0_ := Aside0.mk (blk_below (g := gb892) (o := .cells #[.int .i64 a0_0, .slice A0_1 l0_1.length c0_1] 178 (0, 0)) (by (with_reducible repeat (first | refine blk_drewN ?_ _ | refine blk_drew ?_ | refine blk_alloc ?_ _)); exact BK892.out) hb); have n1_ := Aside0.mk (below_step (by repeat (first | (with_reducible first | exact HB.out | apply below_alloc | apply pw_below_drewN | apply below_drew1 | refine below_set ?_ GE892.out) | exact HB.out)) hb); have n2_ := Aside0.mk (hbox); have n3_ := Aside0.mk ((by rw [hg]; exact (below_size (by repeat (first | (with_reducible first | exact HB.out | apply below_alloc | apply pw_below_drewN | apply below_drew1 | refine below_set ?_ GE892.out) | exact HB.out))) : w.heap.size ≤ gb893)); have n4_ := Aside0.mk ((by rw [hg]; exact (below_size (by repeat (first | (with_reducible first | exact HB.out | apply below_alloc | apply pw_below_drewN | apply below_drew1 | refine below_set ?_ GE892.out) | exact HB.out))) : w.heap.size ≤ gb893)); have n5_ := Aside0.mk ((by rw [hg]; exact Nat.ne_of_lt (blk_lt (g := gb892) (o := .cells #[.int .i64 a0_0, .slice A0_1 l0_1.length c0_1] 178 (0, 0)) (by (with_reducible repeat (first | refine blk_drewN ?_ _ | refine blk_drew ?_ | refine blk_alloc ?_ _)); exact BK892.out)) : gb892 ≠ gb893)); have n6_ := Aside0.mk ((by rw [hg]; exact Nat.ne_of_gt (blk_lt (g := gb892) (o := .cells #[.int .i64 a0_0, .slice A0_1 l0_1.length c0_1] 178 (0, 0)) (by (with_reducible repeat (first | refine blk_drewN ?_ _ | refine blk_drew ?_ | refine blk_alloc ?_ _)); exact BK892.out)) : gb893 ≠ gb892)); clear BK892; clear HB; have BK892 := n0_; have HB := n1_; have BK893 := n2_; have GW893 := n3_; have GE893 := n4_; have NB892_893 := n5_; have NB893_892 := n6_; clear n0_ n1_ n2_ n3_ n4_ n5_ n6_; clear hb hbox hg; have hnb20 := NB892_893.out; have hnc20 := NB893_892.out; have hcz21_0 : w19.cell? ⟨gb892, 0, none⟩ = some (.int .i64 a0_0) := (blk_cell BK892.out 0).trans rfl; have hcz21_1 : w19.cell? ⟨gb892, 1, none⟩ = some (.slice A0_1 l0_1.length c0_1) := (blk_cell BK892.out 1).trans rfl; have hfz21_0 := blk_frozen BK892.out 0; have hfz21_1 := blk_frozen BK892.out 1; have hcz22_0 : w19.cell? ⟨gb893, 0, none⟩ = some (.int .i64 a1_0) := (blk_cell BK893.out 0).trans rfl; have hcz22_1 : w19.cell? ⟨gb893, 1, none⟩ = some (.slice A1_1 l1_1.length c1_1) := (blk_cell BK893.out 1).trans rfl; have hfz22_0 := blk_frozen BK893.out 0; have hfz22_1 := blk_frozen BK893.out 1))
  go_ret
  exact ⟨by first | rfl | (simp [errW_none, errW_some] <;> rfl) | (simp [*, errW_none, errW_some] <;> rfl), by repeat (first | (with_reducible first | exact HB.out | apply below_alloc | apply pw_below_drewN | apply below_drew1 | refine below_set ?_ GE892.out | refine below_set ?_ GE893.out) | exact HB.out)⟩

abbrev tt78 : Bool := true
abbrev ff78 : Bool := false
def laws_eqClauseS.l0 : Nat → List (S178) → List (S178) → Int → Option (Bool)
 | 0, _, _, _ => none
 | k + 1, x0, x1, x5 => if x5 < (x0.length : Int) then (if 0 ≤ x5 then (if x5 < (x1.length : Int) then ((laws_eqClause.f k ((rd_T178 x0 x5).f0) ((rd_T178 x0 x5).f1) ((rd_T178 x1 x5).f0) ((rd_T178 x1 x5).f1)).bind fun t897 => (if t897 = true then (laws_eqClauseS.l0 k x0 x1 (wrap64 (x5 + 1))) else (some false))) else (none)) else (none)) else (some true)
def laws_eqClauseS.f (k : Nat) (l0 : List (S178)) (l1 : List (S178)) : Option (Bool) := if (l0.length : Int) = (l1.length : Int) then (laws_eqClauseS.l0 k l0 l1 0) else (some false)
theorem laws_eqClauseS.mono_l : ∀ k, (∀ y0 y1 y2, LeO (laws_eqClauseS.l0 k y0 y1 y2) (laws_eqClauseS.l0 (k + 1) y0 y1 y2))
 | 0 => fun _ _ _ r h => by simp [laws_eqClauseS.l0] at h
 | k + 1 => by
  have ih0 := laws_eqClauseS.mono_l k
  ·intro y0 y1 y2
   unfold laws_eqClauseS.l0
   repeat' first
   | (with_reducible exact ih0 _ _ _)
   | (with_reducible exact laws_eqClause.mono _ _ _ _ _)
   | (with_reducible exact LeO.refl _)
   | (with_reducible exact LeO.none _)
   | (with_reducible refine LeO.ite ?_ ?_)
   | (with_reducible refine LeO.bind ?_ (fun _ => ?_))
   | exact ih0 _ _ _
   | exact laws_eqClause.mono _ _ _ _ _
   | exact LeO.none _
   | refine LeO.ite ?_ ?_
   | refine LeO.bind ?_ (fun _ => ?_)
theorem laws_eqClauseS.mono : ∀ a0 a1 k, LeO (laws_eqClauseS.f k a0 a1) (laws_eqClauseS.f (k + 1) a0 a1) := by
 intro a0 a1 k
 have ih0 := laws_eqClauseS.mono_l k
 unfold laws_eqClauseS.f
 repeat' first
   | (with_reducible exact ih0 _ _ _)
   | (with_reducible exact laws_eqClause.mono _ _ _ _ _)
   | (with_reducible exact LeO.refl _)
   | (with_reducible exact LeO.none _)
   | (with_reducible refine LeO.ite ?_ ?_)
   | (with_reducible refine LeO.bind ?_ (fun _ => ?_))
   | exact ih0 _ _ _
   | exact laws_eqClause.mono _ _ _ _ _
   | exact LeO.none _
   | refine LeO.ite ?_ ?_
   | refine LeO.bind ?_ (fun _ => ?_)
def laws_eqClauseS.T6 : Bool × List (List Nat × List Nat) := (true, [([], []), ([], []), ([0, 1], [0, 1]), ([2], [2]), ([], []), ([], []), ([4, 5], [4, 5]), ([6], [6]), ([3, 7], [3, 7]), ([8], [8])])
def laws_eqClauseS.B6 : List Nat := [0, 0, 3, 7, 0, 0, 48, 112, 255, 511]
theorem laws_eqClauseS.tab6 : rtab .any (opsOf Try.f136 6) = laws_eqClauseS.T6 := by kernel_rfl
theorem laws_eqClauseS.bits6 : waitsOk laws_eqClauseS.T6.2 laws_eqClauseS.B6 = true := by kernel_rfl
set_option maxHeartbeats 8000000 in
set_option maxRecDepth 100000 in
theorem laws_eqClauseS.calls (k : Nat) (A0 : Option Addr) (c0 : Nat) (l0 : List (S178)) (A1 : Option Addr) (c1 : Nat) (l1 : List (S178)) (r : Bool) (w : World) (hr0 : Kd.C k178 w A0 l0.length l0) (hc0 : l0.length ≤ c0) (hr1 : Kd.C k178 w A1 l1.length l1) (hc1 : l1.length ≤ c1) (h : laws_eqClauseS.f k l0 l1 = some r) :
  Calls Try.prog 136 #[.slice A0 l0.length c0, .slice A1 l1.length c1] w fun e w' => e = .returned (.bool r) ∧ Below w.heap.size w w' := by
 have hu178 := Try.underlying178
 have HR0 := Aside0.mk hr0
 have HC0 := Aside0.mk hc0
 clear hr0 hc0
 have HR1 := Aside0.mk hr1
 have HC1 := Aside0.mk hc1
 clear hr1 hc1
 have HB := Aside0.mk (Below.refl w.heap.size w)
 have H : (if (l0.length : Int) = (l1.length : Int) then (laws_eqClauseS.l0 k l0 l1 0) else (some false)) = some r := h
 clear h
 by_cases c3 : (l0.length : Int) = (l1.length : Int)
 ·rw [if_pos c3] at H
  have c3b0 : ((l0.length : Int) == (l1.length : Int)) = true := beq_iff_eq.mpr c3
  have c3b1 : ((l0.length : Int) != (l1.length : Int)) = false := bne_eq_false_iff_eq.mpr c3
  have c3b2 : (l0.length == l1.length) = true := by first | simpa using c3 | (simp at c3 ⊢; omega)
  clear c3
  have H' := Aside0.mk H
  clear H
  go_enter Try.func136, Try.ntmps136
  go_wp2
  go_loopg [5] k (fun kq v5 w' => ∃ (x5_1 : Int), v5 = .int .i64 x5_1 ∧ Aside0 (laws_eqClauseS.l0 kq l0 l1 x5_1 = some r) ∧ Aside0 (kq ≤ k) ∧ Aside0 (Below w.heap.size w w'))
  case atStart => exact ⟨(0), (by first | rfl | (simp; done) | (simp [*]; done)), H', ⟨Nat.le_refl _⟩, ⟨by repeat (first | (with_reducible first | exact HB.out | apply below_alloc | apply pw_below_drewN | apply below_drew1) | exact HB.out)⟩⟩
  case round =>
   clear H'
   try clear c1
   try clear p2
   try clear c3
   try clear c3b0
   try clear c3b1
   try clear c3b2
   obtain ⟨x5_1, rfl, HA, HK1, HB⟩ := hrel
   cases gk with
   | zero => exact absurd HA.out (by simp [laws_eqClauseS.l0])
   | succ k1 =>
    have H := HA.out
    clear HA
    simp only [laws_eqClauseS.l0] at H
    by_cases c4 : x5_1 < (l0.length : Int)
    ·rw [if_pos c4] at H
     have c4b0 : decide (x5_1 < (l0.length : Int)) = true := decide_eq_true c4
     clear c4
     by_cases c5 : 0 ≤ x5_1
     ·rw [if_pos c5] at H
      have c5b0 : decide (0 ≤ x5_1) = true := decide_eq_true c5
      clear c5
      by_cases c6 : x5_1 < (l1.length : Int)
      ·rw [if_pos c6] at H
       have c6b0 : decide (x5_1 < (l1.length : Int)) = true := decide_eq_true c6
       clear c6
       replace H := Option.bind_eq_some_iff.mp H
       obtain ⟨t897, A70, H⟩ := H
       replace H : (if t897 = true then (laws_eqClauseS.l0 k1 l0 l1 (wrap64 (x5_1 + 1))) else (some false)) = some r := H
       have A7 := Aside0.mk A70
       clear A70
       by_cases c8 : t897 = true
       ·subst c8
        have H1 : (laws_eqClauseS.l0 k1 l0 l1 (wrap64 (x5_1 + 1))) = some r := by rw [if_pos rfl] at H; exact H
        clear H
        have H := H1
        clear H1
        have H' := Aside0.mk H
        clear H
        try go_wp2
        have n0_ := Aside0.mk (below_drew1 HB.out)
        clear HB
        have HB := n0_
        clear n0_
        have p895 : 0 ≤ (x5_1 : Int) := of_decide_eq_true (by first | (with_reducible assumption) | assumption)
        have q895 : x5_1 < (l0.length : Int) := of_decide_eq_true (by first | (with_reducible assumption) | assumption)
        obtain ⟨ad895, A895_1, c895_1, e895, hx895_0, hx895_1, hl895_1, hi895_1⟩ := at_T178 HR0.out x5_1 p895 q895
        have hw895_1 := hx895_1
        have hw895_0 := hx895_0
        cases e895
        replace hx895_0 := (HB.out.cell (World.block_lt_of_cell? w _ hx895_0)).trans hx895_0
        replace hx895_1 := (HB.out.cell (World.block_lt_of_cell? w _ hx895_1)).trans hx895_1
        have HR895_1 := Aside0.mk hi895_1
        have HC895_1 := Aside0.mk hl895_1
        clear hi895_1 hl895_1
        replace p895 := eq_true p895
        replace q895 := eq_true q895
        have p896 : 0 ≤ (x5_1 : Int) := of_decide_eq_true (by first | (with_reducible assumption) | assumption)
        have q896 : x5_1 < (l1.length : Int) := of_decide_eq_true (by first | (with_reducible assumption) | assumption)
        obtain ⟨ad896, A896_1, c896_1, e896, hx896_0, hx896_1, hl896_1, hi896_1⟩ := at_T178 HR1.out x5_1 p896 q896
        have hw896_1 := hx896_1
        have hw896_0 := hx896_0
        cases e896
        replace hx896_0 := (HB.out.cell (World.block_lt_of_cell? w _ hx896_0)).trans hx896_0
        replace hx896_1 := (HB.out.cell (World.block_lt_of_cell? w _ hx896_1)).trans hx896_1
        have HR896_1 := Aside0.mk hi896_1
        have HC896_1 := Aside0.mk hl896_1
        clear hi896_1 hl896_1
        replace p896 := eq_true p896
        replace q896 := eq_true q896
        refine start_ (n := 10) (S := fun w' => w'.cell? (ad895.add ((x5_1).toNat * 2)) = some (.int .i64 ((rd_T178 l0 x5_1).f0)) ∧ w'.cell? ⟨(ad895.add ((x5_1).toNat * 2)).block, (ad895.add ((x5_1).toNat * 2)).off + 1, none⟩ = some (.slice A895_1 ((rd_T178 l0 x5_1).f1).length c895_1) ∧ w'.cell? (ad896.add ((x5_1).toNat * 2)) = some (.int .i64 ((rd_T178 l1 x5_1).f0)) ∧ w'.cell? ⟨(ad896.add ((x5_1).toNat * 2)).block, (ad896.add ((x5_1).toNat * 2)).off + 1, none⟩ = some (.slice A896_1 ((rd_T178 l1 x5_1).f1).length c896_1)) (ds := []) #[ff78,ff78,ff78,ff78,ff78,ff78,ff78,ff78,ff78,ff78] (by kernel_rfl) rfl rfl ⟨((HB.out.cell (World.block_lt_of_cell? w _ hw895_0)).trans hw895_0), ((HB.out.cell (World.block_lt_of_cell? w _ hw895_1)).trans hw895_1), ((HB.out.cell (World.block_lt_of_cell? w _ hw896_0)).trans hw896_0), ((HB.out.cell (World.block_lt_of_cell? w _ hw896_1)).trans hw896_1)⟩ (fun hHeld => ?_); refine with_tabW laws_eqClauseS.tab6 laws_eqClauseS.bits6 (fun HT_ HW_ => ?_)
        generalize wr.drew = w9 at HB HR895_1 HR896_1 hx895_0 hx895_1 hx896_0 hx896_1 hHeld ⊢
        refine pure_ (i := 0) (N := some 17) (v := ?_) (a' := ?_) #[tt78,ff78,ff78,ff78,ff78,ff78,ff78,ff78,ff78,ff78] rfl rfl (any_of HT_.out (by kernel_rfl)) (fun _ _ _ h => h) (Or.inl ⟨by rfl, ?_⟩) ?_ ?_
        rotate_left
        ·intro w'
         go_simp
         with_reducible rfl
        rotate_left
        ·simp only [Act.put, List.setIfInBounds_toArray, List.set_cons_zero, List.set_cons_succ, i64_w, i32_w]
         rfl
        refine pure_ (i := 1) (N := some 18) (v := ?_) (a' := ?_) #[tt78,tt78,ff78,ff78,ff78,ff78,ff78,ff78,ff78,ff78] rfl rfl (any_of HT_.out (by kernel_rfl)) (fun _ _ _ h => h) (Or.inl ⟨by rfl, ?_⟩) ?_ ?_
        rotate_left
        ·intro w'
         go_simp
         with_reducible rfl
        rotate_left
        ·simp only [Act.put, List.setIfInBounds_toArray, List.set_cons_zero, List.set_cons_succ, i64_w, i32_w]
         rfl
        refine pure_ (i := 2) (N := some 19) (v := ?_) (a' := ?_) #[tt78,tt78,tt78,ff78,ff78,ff78,ff78,ff78,ff78,ff78] rfl rfl (any_of HT_.out (by kernel_rfl)) (fun _ _ _ h => h) (Or.inl ⟨by rfl, ?_⟩) ?_ ?_
        rotate_left
        ·intro w'
         go_simp
         with_reducible rfl
        rotate_left
        ·simp only [Act.put, List.setIfInBounds_toArray, List.set_cons_zero, List.set_cons_succ, i64_w, i32_w]
         rfl
        refine pure_ (i := 4) (N := some 21) (v := ?_) (a' := ?_) #[tt78,tt78,tt78,ff78,tt78,ff78,ff78,ff78,ff78,ff78] rfl rfl (any_of HT_.out (by kernel_rfl)) (fun _ _ _ h => h) (Or.inl ⟨by rfl, ?_⟩) ?_ ?_
        rotate_left
        ·intro w'
         go_simp
         with_reducible rfl
        rotate_left
        ·simp only [Act.put, List.setIfInBounds_toArray, List.set_cons_zero, List.set_cons_succ, i64_w, i32_w]
         rfl
        refine pure_ (i := 5) (N := some 22) (v := ?_) (a' := ?_) #[tt78,tt78,tt78,ff78,tt78,tt78,ff78,ff78,ff78,ff78] rfl rfl (any_of HT_.out (by kernel_rfl)) (fun _ _ _ h => h) (Or.inl ⟨by rfl, ?_⟩) ?_ ?_
        rotate_left
        ·intro w'
         go_simp
         with_reducible rfl
        rotate_left
        ·simp only [Act.put, List.setIfInBounds_toArray, List.set_cons_zero, List.set_cons_succ, i64_w, i32_w]
         rfl
        refine pure_ (i := 6) (N := some 23) (v := ?_) (a' := ?_) #[tt78,tt78,tt78,ff78,tt78,tt78,tt78,ff78,ff78,ff78] rfl rfl (any_of HT_.out (by kernel_rfl)) (fun _ _ _ h => h) (Or.inl ⟨by rfl, ?_⟩) ?_ ?_
        rotate_left
        ·intro w'
         go_simp
         with_reducible rfl
        rotate_left
        ·simp only [Act.put, List.setIfInBounds_toArray, List.set_cons_zero, List.set_cons_succ, i64_w, i32_w]
         rfl
        refine take_ (i := 3) (N := some 20) (v := ?_) (a' := ?_) #[tt78,tt78,tt78,tt78,tt78,tt78,tt78,ff78,ff78,ff78] rfl rfl (take_ofW HT_.out HW_.out (by kernel_rfl)) (fun _ _ _ h => h) (Or.inl ⟨by rfl, ?_⟩) hHeld ?_ ?_
        rotate_left
        ·rintro w' ⟨s0, s1, s2, s3⟩
         go_simp
         with_reducible rfl
        rotate_left
        ·simp only [Act.put, List.setIfInBounds_toArray, List.set_cons_zero, List.set_cons_succ, i64_w, i32_w]
         rfl
        refine take_ (i := 7) (N := some 24) (v := ?_) (a' := ?_) #[tt78,tt78,tt78,tt78,tt78,tt78,tt78,tt78,ff78,ff78] rfl rfl (take_ofW HT_.out HW_.out (by kernel_rfl)) (fun _ _ _ h => h) (Or.inl ⟨by rfl, ?_⟩) hHeld ?_ ?_
        rotate_left
        ·rintro w' ⟨s0, s1, s2, s3⟩
         go_simp
         with_reducible rfl
        rotate_left
        ·simp only [Act.put, List.setIfInBounds_toArray, List.set_cons_zero, List.set_cons_succ, i64_w, i32_w]
         rfl
        refine one_ (i := 8) (N := some 25) #[tt78,tt78,tt78,tt78,tt78,tt78,tt78,tt78,tt78,ff78] rfl rfl (one_of HT_.out (by kernel_rfl)) (by decide) (fun K hK => ?_)
        refine goes_ Try.func168 (by kernel_rfl) rfl #[.agg #[.int .i64 ((rd_T178 l0 x5_1).f0), .slice A895_1 ((rd_T178 l0 x5_1).f1).length c895_1], .agg #[.int .i64 ((rd_T178 l1 x5_1).f0), .slice A896_1 ((rd_T178 l1 x5_1).f1).length c896_1]] (by rfl) rfl rfl (by (try simp only [List.map_toArray, List.map_cons, List.map_nil]); first | done | rfl | (simp only [List.length_drop, List.length_take]; rfl)) ?_
        with_reducible refine (laws_eqClause.calls k1 ((rd_T178 l0 x5_1).f0) _ _ ((rd_T178 l0 x5_1).f1) ((rd_T178 l1 x5_1).f0) _ _ ((rd_T178 l1 x5_1).f1) true _ ?side1 ?side2 ?side3 ?side4 A7.out).mono ?_
        (case side1 => repeat (first | exact (Kd.C_below HR895_1.out HB.out) | (with_reducible refine Kd.C_alloc ?_ _) | (with_reducible refine Kd.C_drewN ?_ _) | (with_reducible refine Kd.C_drew ?_)))
        (case side2 => exact HC895_1.out)
        (case side3 => repeat (first | exact (Kd.C_below HR896_1.out HB.out) | (with_reducible refine Kd.C_alloc ?_ _) | (with_reducible refine Kd.C_drewN ?_ _) | (with_reducible refine Kd.C_drew ?_)))
        (case side4 => exact HC896_1.out)
        rintro e w10 ⟨rfl, hb⟩
        refine ⟨_, rfl, ?_⟩
        have n0_ := Aside0.mk (below_step (by repeat (first | (with_reducible first | exact HB.out | apply below_alloc | apply pw_below_drewN | apply below_drew1) | exact HB.out)) hb)
        clear HB
        have HB := n0_
        clear n0_
        (try clear hb)
        (try clear hb2)
        (try clear hk)
        (try clear hi)
        refine hK.out _ _ ⟨((HB.out.cell (World.block_lt_of_cell? w _ hw895_0)).trans hw895_0), ((HB.out.cell (World.block_lt_of_cell? w _ hw895_1)).trans hw895_1), ((HB.out.cell (World.block_lt_of_cell? w _ hw896_0)).trans hw896_0), ((HB.out.cell (World.block_lt_of_cell? w _ hw896_1)).trans hw896_1)⟩ (fun hHeld => ?_)
        clear hK K
        refine norm_ (a' := ?_) ?_ ?_
        rotate_left
        ·show Act.put _ (some 25) _ = _
         simp only [Act.put, List.setIfInBounds_toArray, List.set_cons_zero, List.set_cons_succ, i64_w, i32_w]
         rfl
        refine pure_ (i := 9) (N := some 26) (v := ?_) (a' := ?_) #[tt78,tt78,tt78,tt78,tt78,tt78,tt78,tt78,tt78,tt78] rfl rfl (any_of HT_.out (by kernel_rfl)) (fun _ _ _ h => h) (Or.inl ⟨by rfl, ?_⟩) ?_ ?_
        rotate_left
        ·intro w'
         go_simp
         with_reducible rfl
        rotate_left
        ·simp only [Act.put, List.setIfInBounds_toArray, List.set_cons_zero, List.set_cons_succ, i64_w, i32_w]
         rfl
        refine done_ (done_of HT_.out (by kernel_rfl)) ?_
        try go_wp2
        go_roundg k1
        case measure => have := HK1.out; omega
        case rel => exact ⟨(wrap64 (x5_1 + 1)), (by first | rfl | (simp; done) | (simp [*]; done)), H', ⟨by have := HK1.out; omega⟩, ⟨by repeat (first | (with_reducible first | exact HB.out | apply below_alloc | apply pw_below_drewN | apply below_drew1) | exact HB.out)⟩⟩
       ·replace c8 := Bool.eq_false_iff.mpr c8
        subst c8
        have H1 : (some false) = some r := by rw [if_neg (show ¬ (false = true) by decide)] at H; exact H
        clear H
        have H := H1
        clear H1
        obtain rfl := Option.some.inj H
        try go_wp2
        have n0_ := Aside0.mk (below_drew1 HB.out)
        clear HB
        have HB := n0_
        clear n0_
        have p895 : 0 ≤ (x5_1 : Int) := of_decide_eq_true (by first | (with_reducible assumption) | assumption)
        have q895 : x5_1 < (l0.length : Int) := of_decide_eq_true (by first | (with_reducible assumption) | assumption)
        obtain ⟨ad895, A895_1, c895_1, e895, hx895_0, hx895_1, hl895_1, hi895_1⟩ := at_T178 HR0.out x5_1 p895 q895
        have hw895_1 := hx895_1
        have hw895_0 := hx895_0
        cases e895
        replace hx895_0 := (HB.out.cell (World.block_lt_of_cell? w _ hx895_0)).trans hx895_0
        replace hx895_1 := (HB.out.cell (World.block_lt_of_cell? w _ hx895_1)).trans hx895_1
        have HR895_1 := Aside0.mk hi895_1
        have HC895_1 := Aside0.mk hl895_1
        clear hi895_1 hl895_1
        replace p895 := eq_true p895
        replace q895 := eq_true q895
        have p896 : 0 ≤ (x5_1 : Int) := of_decide_eq_true (by first | (with_reducible assumption) | assumption)
        have q896 : x5_1 < (l1.length : Int) := of_decide_eq_true (by first | (with_reducible assumption) | assumption)
        obtain ⟨ad896, A896_1, c896_1, e896, hx896_0, hx896_1, hl896_1, hi896_1⟩ := at_T178 HR1.out x5_1 p896 q896
        have hw896_1 := hx896_1
        have hw896_0 := hx896_0
        cases e896
        replace hx896_0 := (HB.out.cell (World.block_lt_of_cell? w _ hx896_0)).trans hx896_0
        replace hx896_1 := (HB.out.cell (World.block_lt_of_cell? w _ hx896_1)).trans hx896_1
        have HR896_1 := Aside0.mk hi896_1
        have HC896_1 := Aside0.mk hl896_1
        clear hi896_1 hl896_1
        replace p896 := eq_true p896
        replace q896 := eq_true q896
        refine start_ (n := 10) (S := fun w' => w'.cell? (ad895.add ((x5_1).toNat * 2)) = some (.int .i64 ((rd_T178 l0 x5_1).f0)) ∧ w'.cell? ⟨(ad895.add ((x5_1).toNat * 2)).block, (ad895.add ((x5_1).toNat * 2)).off + 1, none⟩ = some (.slice A895_1 ((rd_T178 l0 x5_1).f1).length c895_1) ∧ w'.cell? (ad896.add ((x5_1).toNat * 2)) = some (.int .i64 ((rd_T178 l1 x5_1).f0)) ∧ w'.cell? ⟨(ad896.add ((x5_1).toNat * 2)).block, (ad896.add ((x5_1).toNat * 2)).off + 1, none⟩ = some (.slice A896_1 ((rd_T178 l1 x5_1).f1).length c896_1)) (ds := []) #[ff78,ff78,ff78,ff78,ff78,ff78,ff78,ff78,ff78,ff78] (by kernel_rfl) rfl rfl ⟨((HB.out.cell (World.block_lt_of_cell? w _ hw895_0)).trans hw895_0), ((HB.out.cell (World.block_lt_of_cell? w _ hw895_1)).trans hw895_1), ((HB.out.cell (World.block_lt_of_cell? w _ hw896_0)).trans hw896_0), ((HB.out.cell (World.block_lt_of_cell? w _ hw896_1)).trans hw896_1)⟩ (fun hHeld => ?_); refine with_tabW laws_eqClauseS.tab6 laws_eqClauseS.bits6 (fun HT_ HW_ => ?_)
        generalize wr.drew = w11 at HB HR895_1 HR896_1 hx895_0 hx895_1 hx896_0 hx896_1 hHeld ⊢
        refine pure_ (i := 0) (N := some 17) (v := ?_) (a' := ?_) #[tt78,ff78,ff78,ff78,ff78,ff78,ff78,ff78,ff78,ff78] rfl rfl (any_of HT_.out (by kernel_rfl)) (fun _ _ _ h => h) (Or.inl ⟨by rfl, ?_⟩) ?_ ?_
        rotate_left
        ·intro w'
         go_simp
         with_reducible rfl
        rotate_left
        ·simp only [Act.put, List.setIfInBounds_toArray, List.set_cons_zero, List.set_cons_succ, i64_w, i32_w]
         rfl
        refine pure_ (i := 1) (N := some 18) (v := ?_) (a' := ?_) #[tt78,tt78,ff78,ff78,ff78,ff78,ff78,ff78,ff78,ff78] rfl rfl (any_of HT_.out (by kernel_rfl)) (fun _ _ _ h => h) (Or.inl ⟨by rfl, ?_⟩) ?_ ?_
        rotate_left
        ·intro w'
         go_simp
         with_reducible rfl
        rotate_left
        ·simp only [Act.put, List.setIfInBounds_toArray, List.set_cons_zero, List.set_cons_succ, i64_w, i32_w]
         rfl
        refine pure_ (i := 2) (N := some 19) (v := ?_) (a' := ?_) #[tt78,tt78,tt78,ff78,ff78,ff78,ff78,ff78,ff78,ff78] rfl rfl (any_of HT_.out (by kernel_rfl)) (fun _ _ _ h => h) (Or.inl ⟨by rfl, ?_⟩) ?_ ?_
        rotate_left
        ·intro w'
         go_simp
         with_reducible rfl
        rotate_left
        ·simp only [Act.put, List.setIfInBounds_toArray, List.set_cons_zero, List.set_cons_succ, i64_w, i32_w]
         rfl
        refine pure_ (i := 4) (N := some 21) (v := ?_) (a' := ?_) #[tt78,tt78,tt78,ff78,tt78,ff78,ff78,ff78,ff78,ff78] rfl rfl (any_of HT_.out (by kernel_rfl)) (fun _ _ _ h => h) (Or.inl ⟨by rfl, ?_⟩) ?_ ?_
        rotate_left
        ·intro w'
         go_simp
         with_reducible rfl
        rotate_left
        ·simp only [Act.put, List.setIfInBounds_toArray, List.set_cons_zero, List.set_cons_succ, i64_w, i32_w]
         rfl
        refine pure_ (i := 5) (N := some 22) (v := ?_) (a' := ?_) #[tt78,tt78,tt78,ff78,tt78,tt78,ff78,ff78,ff78,ff78] rfl rfl (any_of HT_.out (by kernel_rfl)) (fun _ _ _ h => h) (Or.inl ⟨by rfl, ?_⟩) ?_ ?_
        rotate_left
        ·intro w'
         go_simp
         with_reducible rfl
        rotate_left
        ·simp only [Act.put, List.setIfInBounds_toArray, List.set_cons_zero, List.set_cons_succ, i64_w, i32_w]
         rfl
        refine pure_ (i := 6) (N := some 23) (v := ?_) (a' := ?_) #[tt78,tt78,tt78,ff78,tt78,tt78,tt78,ff78,ff78,ff78] rfl rfl (any_of HT_.out (by kernel_rfl)) (fun _ _ _ h => h) (Or.inl ⟨by rfl, ?_⟩) ?_ ?_
        rotate_left
        ·intro w'
         go_simp
         with_reducible rfl
        rotate_left
        ·simp only [Act.put, List.setIfInBounds_toArray, List.set_cons_zero, List.set_cons_succ, i64_w, i32_w]
         rfl
        refine take_ (i := 3) (N := some 20) (v := ?_) (a' := ?_) #[tt78,tt78,tt78,tt78,tt78,tt78,tt78,ff78,ff78,ff78] rfl rfl (take_ofW HT_.out HW_.out (by kernel_rfl)) (fun _ _ _ h => h) (Or.inl ⟨by rfl, ?_⟩) hHeld ?_ ?_
        rotate_left
        ·rintro w' ⟨s0, s1, s2, s3⟩
         go_simp
         with_reducible rfl
        rotate_left
        ·simp only [Act.put, List.setIfInBounds_toArray, List.set_cons_zero, List.set_cons_succ, i64_w, i32_w]
         rfl
        refine take_ (i := 7) (N := some 24) (v := ?_) (a' := ?_) #[tt78,tt78,tt78,tt78,tt78,tt78,tt78,tt78,ff78,ff78] rfl rfl (take_ofW HT_.out HW_.out (by kernel_rfl)) (fun _ _ _ h => h) (Or.inl ⟨by rfl, ?_⟩) hHeld ?_ ?_
        rotate_left
        ·rintro w' ⟨s0, s1, s2, s3⟩
         go_simp
         with_reducible rfl
        rotate_left
        ·simp only [Act.put, List.setIfInBounds_toArray, List.set_cons_zero, List.set_cons_succ, i64_w, i32_w]
         rfl
        refine one_ (i := 8) (N := some 25) #[tt78,tt78,tt78,tt78,tt78,tt78,tt78,tt78,tt78,ff78] rfl rfl (one_of HT_.out (by kernel_rfl)) (by decide) (fun K hK => ?_)
        refine goes_ Try.func168 (by kernel_rfl) rfl #[.agg #[.int .i64 ((rd_T178 l0 x5_1).f0), .slice A895_1 ((rd_T178 l0 x5_1).f1).length c895_1], .agg #[.int .i64 ((rd_T178 l1 x5_1).f0), .slice A896_1 ((rd_T178 l1 x5_1).f1).length c896_1]] (by rfl) rfl rfl (by (try simp only [List.map_toArray, List.map_cons, List.map_nil]); first | done | rfl | (simp only [List.length_drop, List.length_take]; rfl)) ?_
        with_reducible refine (laws_eqClause.calls k1 ((rd_T178 l0 x5_1).f0) _ _ ((rd_T178 l0 x5_1).f1) ((rd_T178 l1 x5_1).f0) _ _ ((rd_T178 l1 x5_1).f1) false _ ?side1 ?side2 ?side3 ?side4 A7.out).mono ?_
        (case side1 => repeat (first | exact (Kd.C_below HR895_1.out HB.out) | (with_reducible refine Kd.C_alloc ?_ _) | (with_reducible refine Kd.C_drewN ?_ _) | (with_reducible refine Kd.C_drew ?_)))
        (case side2 => exact HC895_1.out)
        (case side3 => repeat (first | exact (Kd.C_below HR896_1.out HB.out) | (with_reducible refine Kd.C_alloc ?_ _) | (with_reducible refine Kd.C_drewN ?_ _) | (with_reducible refine Kd.C_drew ?_)))
        (case side4 => exact HC896_1.out)
        rintro e w12 ⟨rfl, hb⟩
        refine ⟨_, rfl, ?_⟩
        have n0_ := Aside0.mk (below_step (by repeat (first | (with_reducible first | exact HB.out | apply below_alloc | apply pw_below_drewN | apply below_drew1) | exact HB.out)) hb)
        clear HB
        have HB := n0_
        clear n0_
        (try clear hb)
        (try clear hb2)
        (try clear hk)
        (try clear hi)
        refine hK.out _ _ ⟨((HB.out.cell (World.block_lt_of_cell? w _ hw895_0)).trans hw895_0), ((HB.out.cell (World.block_lt_of_cell? w _ hw895_1)).trans hw895_1), ((HB.out.cell (World.block_lt_of_cell? w _ hw896_0)).trans hw896_0), ((HB.out.cell (World.block_lt_of_cell? w _ hw896_1)).trans hw896_1)⟩ (fun hHeld => ?_)
        clear hK K
        refine norm_ (a' := ?_) ?_ ?_
        rotate_left
        ·show Act.put _ (some 25) _ = _
         simp only [Act.put, List.setIfInBounds_toArray, List.set_cons_zero, List.set_cons_succ, i64_w, i32_w]
         rfl
        refine pure_ (i := 9) (N := some 26) (v := ?_) (a' := ?_) #[tt78,tt78,tt78,tt78,tt78,tt78,tt78,tt78,tt78,tt78] rfl rfl (any_of HT_.out (by kernel_rfl)) (fun _ _ _ h => h) (Or.inl ⟨by rfl, ?_⟩) ?_ ?_
        rotate_left
        ·intro w'
         go_simp
         with_reducible rfl
        rotate_left
        ·simp only [Act.put, List.setIfInBounds_toArray, List.set_cons_zero, List.set_cons_succ, i64_w, i32_w]
         rfl
        refine done_ (done_of HT_.out (by kernel_rfl)) ?_
        try go_wp2
        go_ret
        exact ⟨by first | rfl | (simp [errW_none, errW_some] <;> rfl) | (simp [*, errW_none, errW_some] <;> rfl), by repeat (first | (with_reducible first | exact HB.out | apply below_alloc | apply pw_below_drewN | apply below_drew1) | exact HB.out)⟩
      ·rw [if_neg c6] at H
       exact absurd H (by simp)
     ·rw [if_neg c5] at H
      exact absurd H (by simp)
    ·rw [if_neg c4] at H
     have c4b0 : decide (x5_1 < (l0.length : Int)) = false := decide_eq_false c4
     clear c4
     obtain rfl := Option.some.inj H
     go_wp2
     go_ret
     exact ⟨by first | rfl | (simp [errW_none, errW_some] <;> rfl) | (simp [*, errW_none, errW_some] <;> rfl), by repeat (first | (with_reducible first | exact HB.out | apply below_alloc | apply pw_below_drewN | apply below_drew1) | exact HB.out)⟩
 ·rw [if_neg c3] at H
  have c3b0 : ((l0.length : Int) == (l1.length : Int)) = false := beq_eq_false_iff_ne.mpr c3
  have c3b1 : ((l0.length : Int) != (l1.length : Int)) = true := bne_iff_ne.mpr c3
  have c3b2 : (l0.length == l1.length) = false := by first | simpa using c3 | (simp at c3 ⊢; omega)
  obtain rfl := Option.some.inj H
  go_enter Try.func136, Try.ntmps136
  go_wp2
  go_ret
  exact ⟨by first | rfl | (simp [errW_none, errW_some] <;> rfl) | (simp [*, errW_none, errW_some] <;> rfl), by repeat (first | (with_reducible first | exact HB.out | apply below_alloc | apply pw_below_drewN | apply below_drew1) | exact HB.out)⟩

def laws_eqIns.f (k : Nat) (a0_0 : Int) (a0_1 : Int) (a0_2 : Int) (a0_3 : Int) (l0_4 : List Int) (l0_5 : List (S178)) (l0_6 : List Int) (a1_0 : Int) (a1_1 : Int) (a1_2 : Int) (a1_3 : Int) (l1_4 : List Int) (l1_5 : List (S178)) (l1_6 : List Int) : Option (Bool) := if a0_0 = a1_0 then (if a0_1 = a1_1 then (if a0_2 = a1_2 then (if a0_3 = a1_3 then ((laws_eqIntS.f k l0_4 l1_4).bind fun t900 => (if t900 = true then ((laws_eqClauseS.f k l0_5 l1_5).bind fun t901 => (if t901 = true then ((laws_eqIntS.f k l0_6 l1_6).bind fun t902 => (if t902 = true then (some true) else (some false))) else (some false))) else (some false))) else (some false)) else (some false)) else (some false)) else (some false)
theorem laws_eqIns.mono : ∀ a0 a1 a2 a3 a4 a5 a6 a7 a8 a9 a10 a11 a12 a13 k, LeO (laws_eqIns.f k a0 a1 a2 a3 a4 a5 a6 a7 a8 a9 a10 a11 a12 a13) (laws_eqIns.f (k + 1) a0 a1 a2 a3 a4 a5 a6 a7 a8 a9 a10 a11 a12 a13) := by
 intro a0 a1 a2 a3 a4 a5 a6 a7 a8 a9 a10 a11 a12 a13 k
 unfold laws_eqIns.f
 repeat' first
   | (with_reducible exact laws_eqClauseS.mono _ _ _)
   | (with_reducible exact laws_eqIntS.mono _ _ _)
   | (with_reducible exact LeO.refl _)
   | (with_reducible exact LeO.none _)
   | (with_reducible refine LeO.ite ?_ ?_)
   | (with_reducible refine LeO.bind ?_ (fun _ => ?_))
   | exact laws_eqClauseS.mono _ _ _
   | exact laws_eqIntS.mono _ _ _
   | exact LeO.none _
   | refine LeO.ite ?_ ?_
   | refine LeO.bind ?_ (fun _ => ?_)
set_option maxHeartbeats 8000000 in
set_option maxRecDepth 100000 in
theorem laws_eqIns.calls (k : Nat) (a0_0 : Int) (a0_1 : Int) (a0_2 : Int) (a0_3 : Int) (A0_4 : Option Addr) (c0_4 : Nat) (l0_4 : List Int) (A0_5 : Option Addr) (c0_5 : Nat) (l0_5 : List (S178)) (A0_6 : Option Addr) (c0_6 : Nat) (l0_6 : List Int) (a1_0 : Int) (a1_1 : Int) (a1_2 : Int) (a1_3 : Int) (A1_4 : Option Addr) (c1_4 : Nat) (l1_4 : List Int) (A1_5 : Option Addr) (c1_5 : Nat) (l1_5 : List (S178)) (A1_6 : Option Addr) (c1_6 : Nat) (l1_6 : List Int) (r : Bool) (w : World) (hr0_4 : Kd.C (Kd.int .i64) w A0_4 l0_4.length l0_4) (hc0_4 : l0_4.length ≤ c0_4) (hr0_5 : Kd.C k178 w A0_5 l0_5.length l0_5) (hc0_5 : l0_5.length ≤ c0_5) (hr0_6 : Kd.C (Kd.int .i64) w A0_6 l0_6.length l0_6) (hc0_6 : l0_6.length ≤ c0_6) (hr1_4 : Kd.C (Kd.int .i64) w A1_4 l1_4.length l1_4) (hc1_4 : l1_4.length ≤ c1_4) (hr1_5 : Kd.C k178 w A1_5 l1_5.length l1_5) (hc1_5 : l1_5.length ≤ c1_5) (hr1_6 : Kd.C (Kd.int .i64) w A1_6 l1_6.length l1_6) (hc1_6 : l1_6.length ≤ c1_6) (h : laws_eqIns.f k a0_0 a0_1 a0_2 a0_3 l0_4 l0_5 l0_6 a1_0 a1_1 a1_2 a1_3 l1_4 l1_5 l1_6 = some r) :
  Calls Try.prog 89 #[.agg #[.int .i64 a0_0, .int .i64 a0_1, .int .i64 a0_2, .int .i64 a0_3, .slice A0_4 l0_4.length c0_4, .slice A0_5 l0_5.length c0_5, .slice A0_6 l0_6.length c0_6], .agg #[.int .i64 a1_0, .int .i64 a1_1, .int .i64 a1_2, .int .i64 a1_3, .slice A1_4 l1_4.length c1_4, .slice A1_5 l1_5.length c1_5, .slice A1_6 l1_6.length c1_6]] w fun e w' => e = .returned (.bool r) ∧ Below w.heap.size w w' := by
 have hu115 := Try.underlying115
 have HR0_4 := Aside0.mk hr0_4
 have HC0_4 := Aside0.mk hc0_4
 clear hr0_4 hc0_4
 have HR0_5 := Aside0.mk hr0_5
 have HC0_5 := Aside0.mk hc0_5
 clear hr0_5 hc0_5
 have HR0_6 := Aside0.mk hr0_6
 have HC0_6 := Aside0.mk hc0_6
 clear hr0_6 hc0_6
 have HR1_4 := Aside0.mk hr1_4
 have HC1_4 := Aside0.mk hc1_4
 clear hr1_4 hc1_4
 have HR1_5 := Aside0.mk hr1_5
 have HC1_5 := Aside0.mk hc1_5
 clear hr1_5 hc1_5
 have HR1_6 := Aside0.mk hr1_6
 have HC1_6 := Aside0.mk hc1_6
 clear hr1_6 hc1_6
 have HB := Aside0.mk (Below.refl w.heap.size w)
 have H : (if a0_0 = a1_0 then (if a0_1 = a1_1 then (if a0_2 = a1_2 then (if a0_3 = a1_3 then ((laws_eqIntS.f k l0_4 l1_4).bind fun t900 => (if t900 = true then ((laws_eqClauseS.f k l0_5 l1_5).bind fun t901 => (if t901 = true then ((laws_eqIntS.f k l0_6 l1_6).bind fun t902 => (if t902 = true then (some true) else (some false))) else (some false))) else (some false))) else (some false)) else (some false)) else (some false)) else (some false)) = some r := h
 clear h
 by_cases c3 : a0_0 = a1_0
 ·rw [if_pos c3] at H
  have c3b0 : (a0_0 == a1_0) = true := beq_iff_eq.mpr c3
  have c3b1 : (a0_0 != a1_0) = false := bne_eq_false_iff_eq.mpr c3
  clear c3
  by_cases c4 : a0_1 = a1_1
  ·rw [if_pos c4] at H
   have c4b0 : (a0_1 == a1_1) = true := beq_iff_eq.mpr c4
   have c4b1 : (a0_1 != a1_1) = false := bne_eq_false_iff_eq.mpr c4
   clear c4
   by_cases c5 : a0_2 = a1_2
   ·rw [if_pos c5] at H
    have c5b0 : (a0_2 == a1_2) = true := beq_iff_eq.mpr c5
    have c5b1 : (a0_2 != a1_2) = false := bne_eq_false_iff_eq.mpr c5
    clear c5
    by_cases c6 : a0_3 = a1_3
    ·rw [if_pos c6] at H
     have c6b0 : (a0_3 == a1_3) = true := beq_iff_eq.mpr c6
     have c6b1 : (a0_3 != a1_3) = false := bne_eq_false_iff_eq.mpr c6
     clear c6
     replace H := Option.bind_eq_some_iff.mp H
     obtain ⟨t900, A70, H⟩ := H
     replace H : (if t900 = true then ((laws_eqClauseS.f k l0_5 l1_5).bind fun t901 => (if t901 = true then ((laws_eqIntS.f k l0_6 l1_6).bind fun t902 => (if t902 = true then (some true) else (some false))) else (some false))) else (some false)) = some r := H
     have A7 := Aside0.mk A70
     clear A70
     by_cases c8 : t900 = true
     ·subst c8
      have H1 : ((laws_eqClauseS.f k l0_5 l1_5).bind fun t901 => (if t901 = true then ((laws_eqIntS.f k l0_6 l1_6).bind fun t902 => (if t902 = true then (some true) else (some false))) else (some false))) = some r := by rw [if_pos rfl] at H; exact H
      clear H
      have H := H1
      clear H1
      replace H := Option.bind_eq_some_iff.mp H
      obtain ⟨t901, A90, H⟩ := H
      replace H : (if t901 = true then ((laws_eqIntS.f k l0_6 l1_6).bind fun t902 => (if t902 = true then (some true) else (some false))) else (some false)) = some r := H
      have A9 := Aside0.mk A90
      clear A90
      by_cases c10 : t901 = true
      ·subst c10
       have H1 : ((laws_eqIntS.f k l0_6 l1_6).bind fun t902 => (if t902 = true then (some true) else (some false))) = some r := by rw [if_pos rfl] at H; exact H
       clear H
       have H := H1
       clear H1
       replace H := Option.bind_eq_some_iff.mp H
       obtain ⟨t902, A110, H⟩ := H
       replace H : (if t902 = true then (some true) else (some false)) = some r := H
       have A11 := Aside0.mk A110
       clear A110
       by_cases c12 : t902 = true
       ·subst c12
        have H1 : (some true) = some r := by rw [if_pos rfl] at H; exact H
        clear H
        have H := H1
        clear H1
        obtain rfl := Option.some.inj H
        go_enter Try.func89, Try.ntmps89
        go_wp2_with (first | ((with_reducible refine gate_dst (N := 2) rfl ?_); refine box_event ?hg (N := 2) ?hd (cs := #[.int .i64 a0_0, .int .i64 a0_1, .int .i64 a0_2, .int .i64 a0_3, .slice A0_4 l0_4.length c0_4, .slice A0_5 l0_5.length c0_5, .slice A0_6 l0_6.length c0_6]) (t := 115) ?hr ?_; (case hd => rfl); (case hg => rfl); (case hr => first | (go_simp; done) | (go_simp; rfl)); intro gb898 hg w13 hbox hb; have n0_ := Aside0.mk (below_step (by repeat (first | (with_reducible first | exact HB.out | apply below_alloc | apply pw_below_drewN | apply below_drew1) | exact HB.out)) hb); have n1_ := Aside0.mk (hbox); have n2_ := Aside0.mk ((by rw [hg]; exact (below_size (by repeat (first | (with_reducible first | exact HB.out | apply below_alloc | apply pw_below_drewN | apply below_drew1) | exact HB.out))) : w.heap.size ≤ gb898)); have n3_ := Aside0.mk ((by rw [hg]; exact (below_size (by repeat (first | (with_reducible first | exact HB.out | apply below_alloc | apply pw_below_drewN | apply below_drew1) | exact HB.out))) : w.heap.size ≤ gb898)); clear HB; have HB := n0_; have BK898 := n1_; have GW898 := n2_; have GE898 := n3_; clear n0_ n1_ n2_ n3_; clear hb hbox hg) | ((with_reducible refine gate_dst (N := 3) rfl ?_); refine box_event ?hg (N := 3) ?hd (cs := #[.int .i64 a1_0, .int .i64 a1_1, .int .i64 a1_2, .int .i64 a1_3, .slice A1_4 l1_4.length c1_4, .slice A1_5 l1_5.length c1_5, .slice A1_6 l1_6.length c1_6]) (t := 115) ?hr ?_; (case hd => rfl); (case hg => rfl); (case hr => first | (go_simp; done) | (go_simp; rfl)); intro gb899 hg w14 hbox hb; have n0_ := Aside0.mk (blk_below (g := gb898) (o := .cells #[.int .i64 a0_0, .int .i64 a0_1, .int .i64 a0_2, .int .i64 a0_3, .slice A0_4 l0_4.length c0_4, .slice A0_5 l0_5.length c0_5, .slice A0_6 l0_6.length c0_6] 115 (0, 0)) (by (with_reducible repeat (first | refine blk_drewN ?_ _ | refine blk_drew ?_ | refine blk_alloc ?_ _)); exact BK898.out) hb); have n1_ := Aside0.mk (below_step (by repeat (first | (with_reducible first | exact HB.out | apply below_alloc | apply pw_below_drewN | apply below_drew1 | refine below_set ?_ GE898.out) | exact HB.out)) hb); have n2_ := Aside0.mk (hbox); have n3_ := Aside0.mk ((by rw [hg]; exact (below_size (by repeat (first | (with_reducible first | exact HB.out | apply below_alloc | apply pw_below_drewN | apply below_drew1 | refine below_set ?_ GE898.out) | exact HB.out))) : w.heap.size ≤ gb899)); have n4_ := Aside0.mk ((by rw [hg]; exact (below_size (by repeat (first | (with_reducible first | exact HB.out | apply below_alloc | apply pw_below_drewN | apply below_drew1 | refine below_set ?_ GE898.out) | exact HB.out))) : w.heap.size ≤ gb899)); have n5_ := Aside0.mk ((by rw [hg]; exact Nat.ne_of_lt (blk_lt (g := gb898) (o := .cells #[.int .i64 a0_0, .int .i64 a0_1, .int .i64 a0_2, .int .i64 a0_3, .slice A0_4 l0_4.length c0_4, .slice A0_5 l0_5.length c0_5, .slice A0_6 l0_6.length c0_6] 115 (0, 0)) (by (with_reducible repeat (first | refine blk_drewN ?_ _ | refine blk_drew ?_ | refine blk_alloc ?_ _)); exact BK898.out)) : gb898 ≠ gb899)); have n6_ := Aside0.mk ((by rw [hg]; exact Nat.ne_of_gt (blk_lt (g := gb898) (o := .cells #[.int .i64 a0_0, .int .i64 a0_1, .int .i64 a0_2, .int .i64 a0_3, .slice A0_4 l0_4.length c0_4, .slice A0_5 l0_5.length c0_5, .slice A0_6 l0_6.length c0_6] 115 (0, 0)) (by (with_reducible repeat (first | refine blk_drewN ?_ _ | refine blk_drew ?_ | refine blk_alloc ?_ _)); exact BK898.out)) : gb899 ≠ gb898)); clear BK898; clear HB; have BK898 := n0_; have HB := n1_; have BK899 := n2_; have GW899 := n3_; have GE899 := n4_; have NB898_899 := n5_; have NB899_898 := n6_; clear n0_ n1_ n2_ n3_ n4_ n5_ n6_; clear hb hbox hg; have hnb15 := NB898_899.out; have hnc15 := NB899_898.out; have hcz16_0 : w14.cell? ⟨gb898, 0, none⟩ = some (.int .i64 a0_0) := (blk_cell BK898.out 0).trans rfl; have hcz16_1 : w14.cell? ⟨gb898, 1, none⟩ = some (.int .i64 a0_1) := (blk_cell BK898.out 1).trans rfl; have hcz16_2 : w14.cell? ⟨gb898, 2, none⟩ = some (.int .i64 a0_2) := (blk_cell BK898.out 2).trans rfl; have hcz16_3 : w14.cell? ⟨gb898, 3, none⟩ = some (.int .i64 a0_3) := (blk_cell BK898.out 3).trans rfl; have hcz16_4 : w14.cell? ⟨gb898, 4, none⟩ = some (.slice A0_4 l0_4.length c0_4) := (blk_cell BK898.out 4).trans rfl; have hcz16_5 : w14.cell? ⟨gb898, 5, none⟩ = some (.slice A0_5 l0_5.length c0_5) := (blk_cell BK898.out 5).trans rfl; have hcz16_6 : w14.cell? ⟨gb898, 6, none⟩ = some (.slice A0_6 l0_6.length c0_6) := (blk_cell BK898.out 6).trans rfl; have hfz16_0 := blk_frozen BK898.out 0; have hfz16_1 := blk_frozen BK898.out 1; have hfz16_2 := blk_frozen BK898.out 2; have hfz16_3 := blk_frozen BK898.out 3; have hfz16_4 := blk_frozen BK898.out 4; have hfz16_5 := blk_frozen BK898.out 5; have hfz16_6 := blk_frozen BK898.out 6; have hcz17_0 : w14.cell? ⟨gb899, 0, none⟩ = some (.int .i64 a1_0) := (blk_cell BK899.out 0).trans rfl; have hcz17_1 : w14.cell? ⟨gb899, 1, none⟩ = some (.int .i64 a1_1) := (blk_cell BK899.out 1).trans rfl; have hcz17_2 : w14.cell? ⟨gb899, 2, none⟩ = some (.int .i64 a1_2) := (blk_cell BK899.out 2).trans rfl; have hcz17_3 : w14.cell? ⟨gb899, 3, none⟩ = some (.int .i64 a1_3) := (blk_cell BK899.out 3).trans rfl; have hcz17_4 : w14.cell? ⟨gb899, 4, none⟩ = some (.slice A1_4 l1_4.length c1_4) := (blk_cell BK899.out 4).trans rfl; have hcz17_5 : w14.cell? ⟨gb899, 5, none⟩ = some (.slice A1_5 l1_5.length c1_5) := (blk_cell BK899.out 5).trans rfl; have hcz17_6 : w14.cell? ⟨gb899, 6, none⟩ = some (.slice A1_6 l1_6.length c1_6) := (blk_cell BK899.out 6).trans rfl; have hfz17_0 := blk_frozen BK899.out 0; have hfz17_1 := blk_frozen BK899.out 1; have hfz17_2 := blk_frozen BK899.out 2; have hfz17_3 := blk_frozen BK899.out 3; have hfz17_4 := blk_frozen BK899.out 4; have hfz17_5 := blk_frozen BK899.out 5; have hfz17_6 := blk_frozen BK899.out 6) | ((with_reducible refine gate_callee (f := 19) rfl ?_); refine goesL_ (some 29) rfl rfl Try.func19 (by kernel_rfl) rfl #[.slice A0_4 l0_4.length c0_4, .slice A1_4 l1_4.length c1_4] rfl (by (try simp only [List.map_toArray, List.map_cons, List.map_nil]); first | done | rfl | (simp only [List.length_drop, List.length_take]; rfl)) ?_; (with_reducible refine (laws_eqIntS.calls k _ _ l0_4 _ _ l1_4 true _ ?side1 ?side2 ?side3 ?side4 A7.out).mono ?_); (case side1 => repeat (first | exact (Kd.C_below HR0_4.out HB.out) | (with_reducible refine Kd.C_alloc ?_ _) | (with_reducible refine Kd.C_drewN ?_ _) | (with_reducible refine Kd.C_drew ?_))); (case side2 => exact HC0_4.out); (case side3 => repeat (first | exact (Kd.C_below HR1_4.out HB.out) | (with_reducible refine Kd.C_alloc ?_ _) | (with_reducible refine Kd.C_drewN ?_ _) | (with_reducible refine Kd.C_drew ?_))); (case side4 => exact HC1_4.out); rintro e w' ⟨rfl, ⟨nd, rfl⟩⟩; refine ⟨_, rfl, ?_⟩) | ((with_reducible refine gate_callee (f := 136) rfl ?_); refine goesL_ (some 35) rfl rfl Try.func136 (by kernel_rfl) rfl #[.slice A0_5 l0_5.length c0_5, .slice A1_5 l1_5.length c1_5] rfl (by (try simp only [List.map_toArray, List.map_cons, List.map_nil]); first | done | rfl | (simp only [List.length_drop, List.length_take]; rfl)) ?_; (with_reducible refine (laws_eqClauseS.calls k _ _ l0_5 _ _ l1_5 true _ ?side1 ?side2 ?side3 ?side4 A9.out).mono ?_); (case side1 => repeat (first | exact (Kd.C_below HR0_5.out (by repeat (first | (with_reducible first | exact HB.out | apply below_alloc | apply pw_below_drewN | apply below_drew1 | refine below_set ?_ GE898.out | refine below_set ?_ GE899.out) | exact HB.out))) | (with_reducible refine Kd.C_alloc ?_ _) | (with_reducible refine Kd.C_drewN ?_ _) | (with_reducible refine Kd.C_drew ?_))); (case side2 => exact HC0_5.out); (case side3 => repeat (first | exact (Kd.C_below HR1_5.out (by repeat (first | (with_reducible first | exact HB.out | apply below_alloc | apply pw_below_drewN | apply below_drew1 | refine below_set ?_ GE898.out | refine below_set ?_ GE899.out) | exact HB.out))) | (with_reducible refine Kd.C_alloc ?_ _) | (with_reducible refine Kd.C_drewN ?_ _) | (with_reducible refine Kd.C_drew ?_))); (case side4 => exact HC1_5.out); rintro e w18 ⟨rfl, hb⟩; refine ⟨_, rfl, ?_⟩; have n0_ := Aside0.mk (blk_below (g := gb898) (o := .cells #[.int .i64 a0_0, .int .i64 a0_1, .int .i64 a0_2, .int .i64 a0_3, .slice A0_4 l0_4.length c0_4, .slice A0_5 l0_5.length c0_5, .slice A0_6 l0_6.length c0_6] 115 (0, 0)) (by (with_reducible repeat (first | refine blk_drewN ?_ _ | refine blk_drew ?_ | refine blk_alloc ?_ _)); exact BK898.out) hb); have n1_ := Aside0.mk (blk_below (g := gb899) (o := .cells #[.int .i64 a1_0, .int .i64 a1_1, .int .i64 a1_2, .int .i64 a1_3, .slice A1_4 l1_4.length c1_4, .slice A1_5 l1_5.length c1_5, .slice A1_6 l1_6.length c1_6] 115 (0, 0)) (by (with_reducible repeat (first | refine blk_drewN ?_ _ | refine blk_drew ?_ | refine blk_alloc ?_ _)); exact BK899.out) hb); have n2_ := Aside0.mk (below_step (by repeat (first | (with_reducible first | exact HB.out | apply below_alloc | apply pw_below_drewN | apply below_drew1 | refine below_set ?_ GE898.out | refine below_set ?_ GE899.out) | exact HB.out)) hb); clear BK898; clear BK899; clear HB; have BK898 := n0_; have BK899 := n1_; have HB := n2_; clear n0_ n1_ n2_; (try clear hb); (try clear hb2); (try clear hk); (try clear hi); have hcz19_0 : w18.cell? ⟨gb898, 0, none⟩ = some (.int .i64 a0_0) := (blk_cell BK898.out 0).trans rfl; have hcz19_1 : w18.cell? ⟨gb898, 1, none⟩ = some (.int .i64 a0_1) := (blk_cell BK898.out 1).trans rfl; have hcz19_2 : w18.cell? ⟨gb898, 2, none⟩ = some (.int .i64 a0_2) := (blk_cell BK898.out 2).trans rfl; have hcz19_3 : w18.cell? ⟨gb898, 3, none⟩ = some (.int .i64 a0_3) := (blk_cell BK898.out 3).trans rfl; have hcz19_4 : w18.cell? ⟨gb898, 4, none⟩ = some (.slice A0_4 l0_4.length c0_4) := (blk_cell BK898.out 4).trans rfl; have hcz19_5 : w18.cell? ⟨gb898, 5, none⟩ = some (.slice A0_5 l0_5.length c0_5) := (blk_cell BK898.out 5).trans rfl; have hcz19_6 : w18.cell? ⟨gb898, 6, none⟩ = some (.slice A0_6 l0_6.length c0_6) := (blk_cell BK898.out 6).trans rfl; have hfz19_0 := blk_frozen BK898.out 0; have hfz19_1 := blk_frozen BK898.out 1; have hfz19_2 := blk_frozen BK898.out 2; have hfz19_3 := blk_frozen BK898.out 3; have hfz19_4 := blk_frozen BK898.out 4; have hfz19_5 := blk_frozen BK898.out 5; have hfz19_6 := blk_frozen BK898.out 6; have hcz20_0 : w18.cell? ⟨gb899, 0, none⟩ = some (.int .i64 a1_0) := (blk_cell BK899.out 0).trans rfl; have hcz20_1 : w18.cell? ⟨gb899, 1, none⟩ = some (.int .i64 a1_1) := (blk_cell BK899.out 1).trans rfl; have hcz20_2 : w18.cell? ⟨gb899, 2, none⟩ = some (.int .i64 a1_2) := (blk_cell BK899.out 2).trans rfl; have hcz20_3 : w18.cell? ⟨gb899, 3, none⟩ = some (.int .i64 a1_3) := (blk_cell BK899.out 3).trans rfl; have hcz20_4 : w18.cell? ⟨gb899, 4, none⟩ = some (.slice A1_4 l1_4.length c1_4) := (blk_cell BK899.out 4).trans rfl; have hcz20_5 : w18.cell? ⟨gb899, 5, none⟩ = some (.slice A1_5 l1_5.length c1_5) := (blk_cell BK899.out 5).trans rfl; have hcz20_6 : w18.cell? ⟨gb899, 6, none⟩ = some (.slice A1_6 l1_6.length c1_6) := (blk_cell BK899.out 6).trans rfl; have hfz20_0 := blk_frozen BK899.out 0; have hfz20_1 := blk_frozen BK899.out 1; have hfz20_2 := blk_frozen BK899.out 2; have hfz20_3 := blk_frozen BK899.out 3; have hfz20_4 := blk_frozen BK899.out 4; have hfz20_5 := blk_frozen BK899.out 5; have hfz20_6 := blk_frozen BK899.out 6) | ((with_reducible refine gate_callee (f := 19) rfl ?_); refine goesL_ (some 41) rfl rfl Try.func19 (by kernel_rfl) rfl #[.slice A0_6 l0_6.length c0_6, .slice A1_6 l1_6.length c1_6] rfl (by (try simp only [List.map_toArray, List.map_cons, List.map_nil]); first | done | rfl | (simp only [List.length_drop, List.length_take]; rfl)) ?_; (with_reducible refine (laws_eqIntS.calls k _ _ l0_6 _ _ l1_6 true _ ?side1 ?side2 ?side3 ?side4 A11.out).mono ?_); (case side1 => repeat (first | exact (Kd.C_below HR0_6.out HB.out) | (with_reducible refine Kd.C_alloc ?_ _) | (with_reducible refine Kd.C_drewN ?_ _) | (with_reducible refine Kd.C_drew ?_))); (case side2 => exact HC0_6.out); (case side3 => repeat (first | exact (Kd.C_below HR1_6.out HB.out) | (with_reducible refine Kd.C_alloc ?_ _) | (with_reducible refine Kd.C_drewN ?_ _) | (with_reducible refine Kd.C_drew ?_))); (case side4 => exact HC1_6.out); rintro e w' ⟨rfl, ⟨nd, rfl⟩⟩; refine ⟨_, rfl, ?_⟩))
        go_ret
        exact ⟨by first | rfl | (simp [errW_none, errW_some] <;> rfl) | (simp [*, errW_none, errW_some] <;> rfl), by repeat (first | (with_reducible first | exact HB.out | apply below_alloc | apply pw_below_drewN | apply below_drew1 | refine below_set ?_ GE898.out | refine below_set ?_ GE899.out) | exact HB.out)⟩
       ·replace c12 := Bool.eq_false_iff.mpr c12
        subst c12
        have H1 : (some false) = some r := by rw [if_neg (show ¬ (false = true) by decide)] at H; exact H
        clear H
        have H := H1
        clear H1
        obtain rfl := Option.some.inj H
        go_enter Try.func89, Try.ntmps89
        go_wp2_with (first | ((with_reducible refine gate_dst (N := 2) rfl ?_); refine box_event ?hg (N := 2) ?hd (cs := #[.int .i64 a0_0, .int .i64 a0_1, .int .i64 a0_2, .int .i64 a0_3, .slice A0_4 l0_4.length c0_4, .slice A0_5 l0_5.length c0_5, .slice A0_6 l0_6.length c0_6]) (t := 115) ?hr ?_; (case hd => rfl); (case hg => rfl); (case hr => first | (go_simp; done) | (go_simp; rfl)); intro gb898 hg w21 hbox hb; have n0_ := Aside0.mk (below_step (by repeat (first | (with_reducible first | exact HB.out | apply below_alloc | apply pw_below_drewN | apply below_drew1) | exact HB.out)) hb); have n1_ := Aside0.mk (hbox); have n2_ := Aside0.mk ((by rw [hg]; exact (below_size (by repeat (first | (with_reducible first | exact HB.out | apply below_alloc | apply pw_below_drewN | apply below_drew1) | exact HB.out))) : w.heap.size ≤ gb898)); have n3_ := Aside0.mk ((by rw [hg]; exact (below_size (by repeat (first | (with_reducible first | exact HB.out | apply below_alloc | apply pw_below_drewN | apply below_drew1) | exact HB.out))) : w.heap.size ≤ gb898)); clear HB; have HB := n0_; have BK898 := n1_; have GW898 := n2_; have GE898 := n3_; clear n0_ n1_ n2_ n3_; clear hb hbox hg) | ((with_reducible refine gate_dst (N := 3) rfl ?_); refine box_event ?hg (N := 3) ?hd (cs := #[.int .i64 a1_0, .int .i64 a1_1, .int .i64 a1_2, .int .i64 a1_3, .slice A1_4 l1_4.length c1_4, .slice A1_5 l1_5.length c1_5, .slice A1_6 l1_6.length c1_6]) (t := 115) ?hr ?_; (case hd => rfl); (case hg => rfl); (case hr => first | (go_simp; done) | (go_simp; rfl)); intro gb899 hg w22 hbox hb; have n0_ := Aside0.mk (blk_below (g := gb898) (o := .cells #[.int .i64 a0_0, .int .i64 a0_1, .int .i64 a0_2, .int .i64 a0_3, .slice A0_4 l0_4.length c0_4, .slice A0_5 l0_5.length c0_5, .slice A0_6 l0_6.length c0_6] 115 (0, 0)) (by (with_reducible repeat (first | refine blk_drewN ?_ _ | refine blk_drew ?_ | refine blk_alloc ?_ _)); exact BK898.out) hb); have n1_ := Aside0.mk (below_step (by repeat (first | (with_reducible first | exact HB.out | apply below_alloc | apply pw_below_drewN | apply below_drew1 | refine below_set ?_ GE898.out) | exact HB.out)) hb); have n2_ := Aside0.mk (hbox); have n3_ := Aside0.mk ((by rw [hg]; exact (below_size (by repeat (first | (with_reducible first | exact HB.out | apply below_alloc | apply pw_below_drewN | apply below_drew1 | refine below_set ?_ GE898.out) | exact HB.out))) : w.heap.size ≤ gb899)); have n4_ := Aside0.mk ((by rw [hg]; exact (below_size (by repeat (first | (with_reducible first | exact HB.out | apply below_alloc | apply pw_below_drewN | apply below_drew1 | refine below_set ?_ GE898.out) | exact HB.out))) : w.heap.size ≤ gb899)); have n5_ := Aside0.mk ((by rw [hg]; exact Nat.ne_of_lt (blk_lt (g := gb898) (o := .cells #[.int .i64 a0_0, .int .i64 a0_1, .int .i64 a0_2, .int .i64 a0_3, .slice A0_4 l0_4.length c0_4, .slice A0_5 l0_5.length c0_5, .slice A0_6 l0_6.length c0_6] 115 (0, 0)) (by (with_reducible repeat (first | refine blk_drewN ?_ _ | refine blk_drew ?_ | refine blk_alloc ?_ _)); exact BK898.out)) : gb898 ≠ gb899)); have n6_ := Aside0.mk ((by rw [hg]; exact Nat.ne_of_gt (blk_lt (g := gb898) (o := .cells #[.int .i64 a0_0, .int .i64 a0_1, .int .i64 a0_2, .int .i64 a0_3, .slice A0_4 l0_4.length c0_4, .slice A0_5 l0_5.length c0_5, .slice A0_6 l0_6.length c0_6] 115 (0, 0)) (by (with_reducible repeat (first | refine blk_drewN ?_ _ | refine blk_drew ?_ | refine blk_alloc ?_ _)); exact BK898.out)) : gb899 ≠ gb898)); clear BK898; clear HB; have BK898 := n0_; have HB := n1_; have BK899 := n2_; have GW899 := n3_; have GE899 := n4_; have NB898_899 := n5_; have NB899_898 := n6_; clear n0_ n1_ n2_ n3_ n4_ n5_ n6_; clear hb hbox hg; have hnb23 := NB898_899.out; have hnc23 := NB899_898.out; have hcz24_0 : w22.cell? ⟨gb898, 0, none⟩ = some (.int .i64 a0_0) := (blk_cell BK898.out 0).trans rfl; have hcz24_1 : w22.cell? ⟨gb898, 1, none⟩ = some (.int .i64 a0_1) := (blk_cell BK898.out 1).trans rfl; have hcz24_2 : w22.cell? ⟨gb898, 2, none⟩ = some (.int .i64 a0_2) := (blk_cell BK898.out 2).trans rfl; have hcz24_3 : w22.cell? ⟨gb898, 3, none⟩ = some (.int .i64 a0_3) := (blk_cell BK898.out 3).trans rfl; have hcz24_4 : w22.cell? ⟨gb898, 4, none⟩ = some (.slice A0_4 l0_4.length c0_4) := (blk_cell BK898.out 4).trans rfl; have hcz24_5 : w22.cell? ⟨gb898, 5, none⟩ = some (.slice A0_5 l0_5.length c0_5) := (blk_cell BK898.out 5).trans rfl; have hcz24_6 : w22.cell? ⟨gb898, 6, none⟩ = some (.slice A0_6 l0_6.length c0_6) := (blk_cell BK898.out 6).trans rfl; have hfz24_0 := blk_frozen BK898.out 0; have hfz24_1 := blk_frozen BK898.out 1; have hfz24_2 := blk_frozen BK898.out 2; have hfz24_3 := blk_frozen BK898.out 3; have hfz24_4 := blk_frozen BK898.out 4; have hfz24_5 := blk_frozen BK898.out 5; have hfz24_6 := blk_frozen BK898.out 6; have hcz25_0 : w22.cell? ⟨gb899, 0, none⟩ = some (.int .i64 a1_0) := (blk_cell BK899.out 0).trans rfl; have hcz25_1 : w22.cell? ⟨gb899, 1, none⟩ = some (.int .i64 a1_1) := (blk_cell BK899.out 1).trans rfl; have hcz25_2 : w22.cell? ⟨gb899, 2, none⟩ = some (.int .i64 a1_2) := (blk_cell BK899.out 2).trans rfl; have hcz25_3 : w22.cell? ⟨gb899, 3, none⟩ = some (.int .i64 a1_3) := (blk_cell BK899.out 3).trans rfl; have hcz25_4 : w22.cell? ⟨gb899, 4, none⟩ = some (.slice A1_4 l1_4.length c1_4) := (blk_cell BK899.out 4).trans rfl; have hcz25_5 : w22.cell? ⟨gb899, 5, none⟩ = some (.slice A1_5 l1_5.length c1_5) := (blk_cell BK899.out 5).trans rfl; have hcz25_6 : w22.cell? ⟨gb899, 6, none⟩ = some (.slice A1_6 l1_6.length c1_6) := (blk_cell BK899.out 6).trans rfl; have hfz25_0 := blk_frozen BK899.out 0; have hfz25_1 := blk_frozen BK899.out 1; have hfz25_2 := blk_frozen BK899.out 2; have hfz25_3 := blk_frozen BK899.out 3; have hfz25_4 := blk_frozen BK899.out 4; have hfz25_5 := blk_frozen BK899.out 5; have hfz25_6 := blk_frozen BK899.out 6) | ((with_reducible refine gate_callee (f := 19) rfl ?_); refine goesL_ (some 29) rfl rfl Try.func19 (by kernel_rfl) rfl #[.slice A0_4 l0_4.length c0_4, .slice A1_4 l1_4.length c1_4] rfl (by (try simp only [List.map_toArray, List.map_cons, List.map_nil]); first | done | rfl | (simp only [List.length_drop, List.length_take]; rfl)) ?_; (with_reducible refine (laws_eqIntS.calls k _ _ l0_4 _ _ l1_4 true _ ?side1 ?side2 ?side3 ?side4 A7.out).mono ?_); (case side1 => repeat (first | exact (Kd.C_below HR0_4.out HB.out) | (with_reducible refine Kd.C_alloc ?_ _) | (with_reducible refine Kd.C_drewN ?_ _) | (with_reducible refine Kd.C_drew ?_))); (case side2 => exact HC0_4.out); (case side3 => repeat (first | exact (Kd.C_below HR1_4.out HB.out) | (with_reducible refine Kd.C_alloc ?_ _) | (with_reducible refine Kd.C_drewN ?_ _) | (with_reducible refine Kd.C_drew ?_))); (case side4 => exact HC1_4.out); rintro e w' ⟨rfl, ⟨nd, rfl⟩⟩; refine ⟨_, rfl, ?_⟩) | ((with_reducible refine gate_callee (f := 136) rfl ?_); refine goesL_ (some 35) rfl rfl Try.func136 (by kernel_rfl) rfl #[.slice A0_5 l0_5.length c0_5, .slice A1_5 l1_5.length c1_5] rfl (by (try simp only [List.map_toArray, List.map_cons, List.map_nil]); first | done | rfl | (simp only [List.length_drop, List.length_take]; rfl)) ?_; (with_reducible refine (laws_eqClauseS.calls k _ _ l0_5 _ _ l1_5 true _ ?side1 ?side2 ?side3 ?side4 A9.out).mono ?_); (case side1 => repeat (first | exact (Kd.C_below HR0_5.out (by repeat (first | (with_reducible first | exact HB.out | apply below_alloc | apply pw_below_drewN | apply below_drew1 | refine below_set ?_ GE898.out | refine below_set ?_ GE899.out) | exact HB.out))) | (with_reducible refine Kd.C_alloc ?_ _) | (with_reducible refine Kd.C_drewN ?_ _) | (with_reducible refine Kd.C_drew ?_))); (case side2 => exact HC0_5.out); (case side3 => repeat (first | exact (Kd.C_below HR1_5.out (by repeat (first | (with_reducible first | exact HB.out | apply below_alloc | apply pw_below_drewN | apply below_drew1 | refine below_set ?_ GE898.out | refine below_set ?_ GE899.out) | exact HB.out))) | (with_reducible refine Kd.C_alloc ?_ _) | (with_reducible refine Kd.C_drewN ?_ _) | (with_reducible refine Kd.C_drew ?_))); (case side4 => exact HC1_5.out); rintro e w26 ⟨rfl, hb⟩; refine ⟨_, rfl, ?_⟩; have n0_ := Aside0.mk (blk_below (g := gb898) (o := .cells #[.int .i64 a0_0, .int .i64 a0_1, .int .i64 a0_2, .int .i64 a0_3, .slice A0_4 l0_4.length c0_4, .slice A0_5 l0_5.length c0_5, .slice A0_6 l0_6.length c0_6] 115 (0, 0)) (by (with_reducible repeat (first | refine blk_drewN ?_ _ | refine blk_drew ?_ | refine blk_alloc ?_ _)); exact BK898.out) hb); have n1_ := Aside0.mk (blk_below (g := gb899) (o := .cells #[.int .i64 a1_0, .int .i64 a1_1, .int .i64 a1_2, .int .i64 a1_3, .slice A1_4 l1_4.length c1_4, .slice A1_5 l1_5.length c1_5, .slice A1_6 l1_6.length c1_6] 115 (0, 0)) (by (with_reducible repeat (first | refine blk_drewN ?_ _ | refine blk_drew ?_ | refine blk_alloc ?_ _)); exact BK899.out) hb); have n2_ := Aside0.mk (below_step (by repeat (first | (with_reducible first | exact HB.out | apply below_alloc | apply pw_below_drewN | apply below_drew1 | refine below_set ?_ GE898.out | refine below_set ?_ GE899.out) | exact HB.out)) hb); clear BK898; clear BK899; clear HB; have BK898 := n0_; have BK899 := n1_; have HB := n2_; clear n0_ n1_ n2_; (try clear hb); (try clear hb2); (try clear hk); (try clear hi); have hcz27_0 : w26.cell? ⟨gb898, 0, none⟩ = some (.int .i64 a0_0) := (blk_cell BK898.out 0).trans rfl; have hcz27_1 : w26.cell? ⟨gb898, 1, none⟩ = some (.int .i64 a0_1) := (blk_cell BK898.out 1).trans rfl; have hcz27_2 : w26.cell? ⟨gb898, 2, none⟩ = some (.int .i64 a0_2) := (blk_cell BK898.out 2).trans rfl; have hcz27_3 : w26.cell? ⟨gb898, 3, none⟩ = some (.int .i64 a0_3) := (blk_cell BK898.out 3).trans rfl; have hcz27_4 : w26.cell? ⟨gb898, 4, none⟩ = some (.slice A0_4 l0_4.length c0_4) := (blk_cell BK898.out 4).trans rfl; have hcz27_5 : w26.cell? ⟨gb898, 5, none⟩ = some (.slice A0_5 l0_5.length c0_5) := (blk_cell BK898.out 5).trans rfl; have hcz27_6 : w26.cell? ⟨gb898, 6, none⟩ = some (.slice A0_6 l0_6.length c0_6) := (blk_cell BK898.out 6).trans rfl; have hfz27_0 := blk_frozen BK898.out 0; have hfz27_1 := blk_frozen BK898.out 1; have hfz27_2 := blk_frozen BK898.out 2; have hfz27_3 := blk_frozen BK898.out 3; have hfz27_4 := blk_frozen BK898.out 4; have hfz27_5 := blk_frozen BK898.out 5; have hfz27_6 := blk_frozen BK898.out 6; have hcz28_0 : w26.cell? ⟨gb899, 0, none⟩ = some (.int .i64 a1_0) := (blk_cell BK899.out 0).trans rfl; have hcz28_1 : w26.cell? ⟨gb899, 1, none⟩ = some (.int .i64 a1_1) := (blk_cell BK899.out 1).trans rfl; have hcz28_2 : w26.cell? ⟨gb899, 2, none⟩ = some (.int .i64 a1_2) := (blk_cell BK899.out 2).trans rfl; have hcz28_3 : w26.cell? ⟨gb899, 3, none⟩ = some (.int .i64 a1_3) := (blk_cell BK899.out 3).trans rfl; have hcz28_4 : w26.cell? ⟨gb899, 4, none⟩ = some (.slice A1_4 l1_4.length c1_4) := (blk_cell BK899.out 4).trans rfl; have hcz28_5 : w26.cell? ⟨gb899, 5, none⟩ = some (.slice A1_5 l1_5.length c1_5) := (blk_cell BK899.out 5).trans rfl; have hcz28_6 : w26.cell? ⟨gb899, 6, none⟩ = some (.slice A1_6 l1_6.length c1_6) := (blk_cell BK899.out 6).trans rfl; have hfz28_0 := blk_frozen BK899.out 0; have hfz28_1 := blk_frozen BK899.out 1; have hfz28_2 := blk_frozen BK899.out 2; have hfz28_3 := blk_frozen BK899.out 3; have hfz28_4 := blk_frozen BK899.out 4; have hfz28_5 := blk_frozen BK899.out 5; have hfz28_6 := blk_frozen BK899.out 6) | ((with_reducible refine gate_callee (f := 19) rfl ?_); refine goesL_ (some 41) rfl rfl Try.func19 (by kernel_rfl) rfl #[.slice A0_6 l0_6.length c0_6, .slice A1_6 l1_6.length c1_6] rfl (by (try simp only [List.map_toArray, List.map_cons, List.map_nil]); first | done | rfl | (simp only [List.length_drop, List.length_take]; rfl)) ?_; (with_reducible refine (laws_eqIntS.calls k _ _ l0_6 _ _ l1_6 false _ ?side1 ?side2 ?side3 ?side4 A11.out).mono ?_); (case side1 => repeat (first | exact (Kd.C_below HR0_6.out HB.out) | (with_reducible refine Kd.C_alloc ?_ _) | (with_reducible refine Kd.C_drewN ?_ _) | (with_reducible refine Kd.C_drew ?_))); (case side2 => exact HC0_6.out); (case side3 => repeat (first | exact (Kd.C_below HR1_6.out HB.out) | (with_reducible refine Kd.C_alloc ?_ _) | (with_reducible refine Kd.C_drewN ?_ _) | (with_reducible refine Kd.C_drew ?_))); (case side4 => exact HC1_6.out); rintro e w' ⟨rfl, ⟨nd, rfl⟩⟩; refine ⟨_, rfl, ?_⟩))
        go_ret
        exact ⟨by first | rfl | (simp [errW_none, errW_some] <;> rfl) | (simp [*, errW_none, errW_some] <;> rfl), by repeat (first | (with_reducible first | exact HB.out | apply below_alloc | apply pw_below_drewN | apply below_drew1 | refine below_set ?_ GE898.out | refine below_set ?_ GE899.out) | exact HB.out)⟩
      ·replace c10 := Bool.eq_false_iff.mpr c10
       subst c10
       have H1 : (some false) = some r := by rw [if_neg (show ¬ (false = true) by decide)] at H; exact H
       clear H
       have H := H1
       clear H1
       obtain rfl := Option.some.inj H
       go_enter Try.func89, Try.ntmps89
       go_wp2_with (first | ((with_reducible refine gate_dst (N := 2) rfl ?_); refine box_event ?hg (N := 2) ?hd (cs := #[.int .i64 a0_0, .int .i64 a0_1, .int .i64 a0_2, .int .i64 a0_3, .slice A0_4 l0_4.length c0_4, .slice A0_5 l0_5.length c0_5, .slice A0_6 l0_6.length c0_6]) (t := 115) ?hr ?_; (case hd => rfl); (case hg => rfl); (case hr => first | (go_simp; done) | (go_simp; rfl)); intro gb898 hg w29 hbox hb; have n0_ := Aside0.mk (below_step (by repeat (first | (with_reducible first | exact HB.out | apply below_alloc | apply pw_below_drewN | apply below_drew1) | exact HB.out)) hb); have n1_ := Aside0.mk (hbox); have n2_ := Aside0.mk ((by rw [hg]; exact (below_size (by repeat (first | (with_reducible first | exact HB.out | apply below_alloc | apply pw_below_drewN | apply below_drew1) | exact HB.out))) : w.heap.size ≤ gb898)); have n3_ := Aside0.mk ((by rw [hg]; exact (below_size (by repeat (first | (with_reducible first | exact HB.out | apply below_alloc | apply pw_below_drewN | apply below_drew1) | exact HB.out))) : w.heap.size ≤ gb898)); clear HB; have HB := n0_; have BK898 := n1_; have GW898 := n2_; have GE898 := n3_; clear n0_ n1_ n2_ n3_; clear hb hbox hg) | ((with_reducible refine gate_dst (N := 3) rfl ?_); refine box_event ?hg (N := 3) ?hd (cs := #[.int .i64 a1_0, .int .i64 a1_1, .int .i64 a1_2, .int .i64 a1_3, .slice A1_4 l1_4.length c1_4, .slice A1_5 l1_5.length c1_5, .slice A1_6 l1_6.length c1_6]) (t := 115) ?hr ?_; (case hd => rfl); (case hg => rfl); (case hr => first | (go_simp; done) | (go_simp; rfl)); intro gb899 hg w30 hbox hb; have n0_ := Aside0.mk (blk_below (g := gb898) (o := .cells #[.int .i64 a0_0, .int .i64 a0_1, .int .i64 a0_2, .int .i64 a0_3, .slice A0_4 l0_4.length c0_4, .slice A0_5 l0_5.length c0_5, .slice A0_6 l0_6.length c0_6] 115 (0, 0)) (by (with_reducible repeat (first | refine blk_drewN ?_ _ | refine blk_drew ?_ | refine blk_alloc ?_ _)); exact BK898.out) hb); have n1_ := Aside0.mk (below_step (by repeat (first | (with_reducible first | exact HB.out | apply below_alloc | apply pw_below_drewN | apply below_drew1 | refine below_set ?_ GE898.out) | exact HB.out)) hb); have n2_ := Aside0.mk (hbox); have n3_ := Aside0.mk ((by rw [hg]; exact (below_size (by repeat (first | (with_reducible first | exact HB.out | apply below_alloc | apply pw_below_drewN | apply below_drew1 | refine below_set ?_ GE898.out) | exact HB.out))) : w.heap.size ≤ gb899)); have n4_ := Aside0.mk ((by rw [hg]; exact (below_size (by repeat (first | (with_reducible first | exact HB.out | apply below_alloc | apply pw_below_drewN | apply below_drew1 | refine below_set ?_ GE898.out) | exact HB.out))) : w.heap.size ≤ gb899)); have n5_ := Aside0.mk ((by rw [hg]; exact Nat.ne_of_lt (blk_lt (g := gb898) (o := .cells #[.int .i64 a0_0, .int .i64 a0_1, .int .i64 a0_2, .int .i64 a0_3, .slice A0_4 l0_4.length c0_4, .slice A0_5 l0_5.length c0_5, .slice A0_6 l0_6.length c0_6] 115 (0, 0)) (by (with_reducible repeat (first | refine blk_drewN ?_ _ | refine blk_drew ?_ | refine blk_alloc ?_ _)); exact BK898.out)) : gb898 ≠ gb899)); have n6_ := Aside0.mk ((by rw [hg]; exact Nat.ne_of_gt (blk_lt (g := gb898) (o := .cells #[.int .i64 a0_0, .int .i64 a0_1, .int .i64 a0_2, .int .i64 a0_3, .slice A0_4 l0_4.length c0_4, .slice A0_5 l0_5.length c0_5, .slice A0_6 l0_6.length c0_6] 115 (0, 0)) (by (with_reducible repeat (first | refine blk_drewN ?_ _ | refine blk_drew ?_ | refine blk_alloc ?_ _)); exact BK898.out)) : gb899 ≠ gb898)); clear BK898; clear HB; have BK898 := n0_; have HB := n1_; have BK899 := n2_; have GW899 := n3_; have GE899 := n4_; have NB898_899 := n5_; have NB899_898 := n6_; clear n0_ n1_ n2_ n3_ n4_ n5_ n6_; clear hb hbox hg; have hnb31 := NB898_899.out; have hnc31 := NB899_898.out; have hcz32_0 : w30.cell? ⟨gb898, 0, none⟩ = some (.int .i64 a0_0) := (blk_cell BK898.out 0).trans rfl; have hcz32_1 : w30.cell? ⟨gb898, 1, none⟩ = some (.int .i64 a0_1) := (blk_cell BK898.out 1).trans rfl; have hcz32_2 : w30.cell? ⟨gb898, 2, none⟩ = some (.int .i64 a0_2) := (blk_cell BK898.out 2).trans rfl; have hcz32_3 : w30.cell? ⟨gb898, 3, none⟩ = some (.int .i64 a0_3) := (blk_cell BK898.out 3).trans rfl; have hcz32_4 : w30.cell? ⟨gb898, 4, none⟩ = some (.slice A0_4 l0_4.length c0_4) := (blk_cell BK898.out 4).trans rfl; have hcz32_5 : w30.cell? ⟨gb898, 5, none⟩ = some (.slice A0_5 l0_5.length c0_5) := (blk_cell BK898.out 5).trans rfl; have hcz32_6 : w30.cell? ⟨gb898, 6, none⟩ = some (.slice A0_6 l0_6.length c0_6) := (blk_cell BK898.out 6).trans rfl; have hfz32_0 := blk_frozen BK898.out 0; have hfz32_1 := blk_frozen BK898.out 1; have hfz32_2 := blk_frozen BK898.out 2; have hfz32_3 := blk_frozen BK898.out 3; have hfz32_4 := blk_frozen BK898.out 4; have hfz32_5 := blk_frozen BK898.out 5; have hfz32_6 := blk_frozen BK898.out 6; have hcz33_0 : w30.cell? ⟨gb899, 0, none⟩ = some (.int .i64 a1_0) := (blk_cell BK899.out 0).trans rfl; have hcz33_1 : w30.cell? ⟨gb899, 1, none⟩ = some (.int .i64 a1_1) := (blk_cell BK899.out 1).trans rfl; have hcz33_2 : w30.cell? ⟨gb899, 2, none⟩ = some (.int .i64 a1_2) := (blk_cell BK899.out 2).trans rfl; have hcz33_3 : w30.cell? ⟨gb899, 3, none⟩ = some (.int .i64 a1_3) := (blk_cell BK899.out 3).trans rfl; have hcz33_4 : w30.cell? ⟨gb899, 4, none⟩ = some (.slice A1_4 l1_4.length c1_4) := (blk_cell BK899.out 4).trans rfl; have hcz33_5 : w30.cell? ⟨gb899, 5, none⟩ = some (.slice A1_5 l1_5.length c1_5) := (blk_cell BK899.out 5).trans rfl; have hcz33_6 : w30.cell? ⟨gb899, 6, none⟩ = some (.slice A1_6 l1_6.length c1_6) := (blk_cell BK899.out 6).trans rfl; have hfz33_0 := blk_frozen BK899.out 0; have hfz33_1 := blk_frozen BK899.out 1; have hfz33_2 := blk_frozen BK899.out 2; have hfz33_3 := blk_frozen BK899.out 3; have hfz33_4 := blk_frozen BK899.out 4; have hfz33_5 := blk_frozen BK899.out 5; have hfz33_6 := blk_frozen BK899.out 6) | ((with_reducible refine gate_callee (f := 19) rfl ?_); refine goesL_ (some 29) rfl rfl Try.func19 (by kernel_rfl) rfl #[.slice A0_4 l0_4.length c0_4, .slice A1_4 l1_4.length c1_4] rfl (by (try simp only [List.map_toArray, List.map_cons, List.map_nil]); first | done | rfl | (simp only [List.length_drop, List.length_take]; rfl)) ?_; (with_reducible refine (laws_eqIntS.calls k _ _ l0_4 _ _ l1_4 true _ ?side1 ?side2 ?side3 ?side4 A7.out).mono ?_); (case side1 => repeat (first | exact (Kd.C_below HR0_4.out HB.out) | (with_reducible refine Kd.C_alloc ?_ _) | (with_reducible refine Kd.C_drewN ?_ _) | (with_reducible refine Kd.C_drew ?_))); (case side2 => exact HC0_4.out); (case side3 => repeat (first | exact (Kd.C_below HR1_4.out HB.out) | (with_reducible refine Kd.C_alloc ?_ _) | (with_reducible refine Kd.C_drewN ?_ _) | (with_reducible refine Kd.C_drew ?_))); (case side4 => exact HC1_4.out); rintro e w' ⟨rfl, ⟨nd, rfl⟩⟩; refine ⟨_, rfl, ?_⟩) | ((with_reducible refine gate_callee (f := 136) rfl ?_); refine goesL_ (some 35) rfl rfl Try.func136 (by kernel_rfl) rfl #[.slice A0_5 l0_5.length c0_5, .slice A1_5 l1_5.length c1_5] rfl (by (try simp only [List.map_toArray, List.map_cons, List.map_nil]); first | done | rfl | (simp only [List.length_drop, List.length_take]; rfl)) ?_; (with_reducible refine (laws_eqClauseS.calls k _ _ l0_5 _ _ l1_5 false _ ?side1 ?side2 ?side3 ?side4 A9.out).mono ?_); (case side1 => repeat (first | exact (Kd.C_below HR0_5.out (by repeat (first | (with_reducible first | exact HB.out | apply below_alloc | apply pw_below_drewN | apply below_drew1 | refine below_set ?_ GE898.out | refine below_set ?_ GE899.out) | exact HB.out))) | (with_reducible refine Kd.C_alloc ?_ _) | (with_reducible refine Kd.C_drewN ?_ _) | (with_reducible refine Kd.C_drew ?_))); (case side2 => exact HC0_5.out); (case side3 => repeat (first | exact (Kd.C_below HR1_5.out (by repeat (first | (with_reducible first | exact HB.out | apply below_alloc | apply pw_below_drewN | apply below_drew1 | refine below_set ?_ GE898.out | refine below_set ?_ GE899.out) | exact HB.out))) | (with_reducible refine Kd.C_alloc ?_ _) | (with_reducible refine Kd.C_drewN ?_ _) | (with_reducible refine Kd.C_drew ?_))); (case side4 => exact HC1_5.out); rintro e w34 ⟨rfl, hb⟩; refine ⟨_, rfl, ?_⟩; have n0_ := Aside0.mk (blk_below (g := gb898) (o := .cells #[.int .i64 a0_0, .int .i64 a0_1, .int .i64 a0_2, .int .i64 a0_3, .slice A0_4 l0_4.length c0_4, .slice A0_5 l0_5.length c0_5, .slice A0_6 l0_6.length c0_6] 115 (0, 0)) (by (with_reducible repeat (first | refine blk_drewN ?_ _ | refine blk_drew ?_ | refine blk_alloc ?_ _)); exact BK898.out) hb); have n1_ := Aside0.mk (blk_below (g := gb899) (o := .cells #[.int .i64 a1_0, .int .i64 a1_1, .int .i64 a1_2, .int .i64 a1_3, .slice A1_4 l1_4.length c1_4, .slice A1_5 l1_5.length c1_5, .slice A1_6 l1_6.length c1_6] 115 (0, 0)) (by (with_reducible repeat (first | refine blk_drewN ?_ _ | refine blk_drew ?_ | refine blk_alloc ?_ _)); exact BK899.out) hb); have n2_ := Aside0.mk (below_step (by repeat (first | (with_reducible first | exact HB.out | apply below_alloc | apply pw_below_drewN | apply below_drew1 | refine below_set ?_ GE898.out | refine below_set ?_ GE899.out) | exact HB.out)) hb); clear BK898; clear BK899; clear HB; have BK898 := n0_; have BK899 := n1_; have HB := n2_; clear n0_ n1_ n2_; (try clear hb); (try clear hb2); (try clear hk); (try clear hi)))
       go_ret
       exact ⟨by first | rfl | (simp [errW_none, errW_some] <;> rfl) | (simp [*, errW_none, errW_some] <;> rfl), by repeat (first | (with_reducible first | exact HB.out | apply below_alloc | apply pw_below_drewN | apply below_drew1 | refine below_set ?_ GE898.out | refine below_set ?_ GE899.out) | exact HB.out)⟩
     ·replace c8 := Bool.eq_false_iff.mpr c8
      subst c8
      have H1 : (some false) = some r := by rw [if_neg (show ¬ (false = true) by decide)] at H; exact H
      clear H
      have H := H1
      clear H1
      obtain rfl := Option.some.inj H
      go_enter Try.func89, Try.ntmps89
      go_wp2_with (first | ((with_reducible refine gate_dst (N := 2) rfl ?_); refine box_event ?hg (N := 2) ?hd (cs := #[.int .i64 a0_0, .int .i64 a0_1, .int .i64 a0_2, .int .i64 a0_3, .slice A0_4 l0_4.length c0_4, .slice A0_5 l0_5.length c0_5, .slice A0_6 l0_6.length c0_6]) (t := 115) ?hr ?_; (case hd => rfl); (case hg => rfl); (case hr => first | (go_simp; done) | (go_simp; rfl)); intro gb898 hg w35 hbox hb; have n0_ := Aside0.mk (below_step (by repeat (first | (with_reducible first | exact HB.out | apply below_alloc | apply pw_below_drewN | apply below_drew1) | exact HB.out)) hb); have n1_ := Aside0.mk (hbox); have n2_ := Aside0.mk ((by rw [hg]; exact (below_size (by repeat (first | (with_reducible first | exact HB.out | apply below_alloc | apply pw_below_drewN | apply below_drew1) | exact HB.out))) : w.heap.size ≤ gb898)); have n3_ := Aside0.mk ((by rw [hg]; exact (below_size (by repeat (first | (with_reducible first | exact HB.out | apply below_alloc | apply pw_below_drewN | apply below_drew1) | exact HB.out))) : w.heap.size ≤ gb898)); clear HB; have HB := n0_; have BK898 := n1_; have GW898 := n2_; have GE898 := n3_; clear n0_ n1_ n2_ n3_; clear hb hbox hg) | ((with_reducible refine gate_dst (N := 3) rfl ?_); refine box_event ?hg (N := 3) ?hd (cs := #[.int .i64 a1_0, .int .i64 a1_1, .int .i64 a1_2, .int .i64 a1_3, .slice A1_4 l1_4.length c1_4, .slice A1_5 l1_5.length c1_5, .slice A1_6 l1_6.length c1_6]) (t := 115) ?hr ?_; (case hd => rfl); (case hg => rfl); (case hr => first | (go_simp; done) | (go_simp; rfl)); intro gb899 hg w36 hbox hb; have n0_ := Aside0.mk (blk_below (g := gb898) (o := .cells #[.int .i64 a0_0, .int .i64 a0_1, .int .i64 a0_2, .int .i64 a0_3, .slice A0_4 l0_4.length c0_4, .slice A0_5 l0_5.length c0_5, .slice A0_6 l0_6.length c0_6] 115 (0, 0)) (by (with_reducible repeat (first | refine blk_drewN ?_ _ | refine blk_drew ?_ | refine blk_alloc ?_ _)); exact BK898.out) hb); have n1_ := Aside0.mk (below_step (by repeat (first | (with_reducible first | exact HB.out | apply below_alloc | apply pw_below_drewN | apply below_drew1 | refine below_set ?_ GE898.out) | exact HB.out)) hb); have n2_ := Aside0.mk (hbox); have n3_ := Aside0.mk ((by rw [hg]; exact (below_size (by repeat (first | (with_reducible first | exact HB.out | apply below_alloc | apply pw_below_drewN | apply below_drew1 | refine below_set ?_ GE898.out) | exact HB.out))) : w.heap.size ≤ gb899)); have n4_ := Aside0.mk ((by rw [hg]; exact (below_size (by repeat (first | (with_reducible first | exact HB.out | apply below_alloc | apply pw_below_drewN | apply below_drew1 | refine below_set ?_ GE898.out) | exact HB.out))) : w.heap.size ≤ gb899)); have n5_ := Aside0.mk ((by rw [hg]; exact Nat.ne_of_lt (blk_lt (g := gb898) (o := .cells #[.int .i64 a0_0, .int .i64 a0_1, .int .i64 a0_2, .int .i64 a0_3, .slice A0_4 l0_4.length c0_4, .slice A0_5 l0_5.length c0_5, .slice A0_6 l0_6.length c0_6] 115 (0, 0)) (by (with_reducible repeat (first | refine blk_drewN ?_ _ | refine blk_drew ?_ | refine blk_alloc ?_ _)); exact BK898.out)) : gb898 ≠ gb899)); have n6_ := Aside0.mk ((by rw [hg]; exact Nat.ne_of_gt (blk_lt (g := gb898) (o := .cells #[.int .i64 a0_0, .int .i64 a0_1, .int .i64 a0_2, .int .i64 a0_3, .slice A0_4 l0_4.length c0_4, .slice A0_5 l0_5.length c0_5, .slice A0_6 l0_6.length c0_6] 115 (0, 0)) (by (with_reducible repeat (first | refine blk_drewN ?_ _ | refine blk_drew ?_ | refine blk_alloc ?_ _)); exact BK898.out)) : gb899 ≠ gb898)); clear BK898; clear HB; have BK898 := n0_; have HB := n1_; have BK899 := n2_; have GW899 := n3_; have GE899 := n4_; have NB898_899 := n5_; have NB899_898 := n6_; clear n0_ n1_ n2_ n3_ n4_ n5_ n6_; clear hb hbox hg; have hnb37 := NB898_899.out; have hnc37 := NB899_898.out; have hcz38_0 : w36.cell? ⟨gb898, 0, none⟩ = some (.int .i64 a0_0) := (blk_cell BK898.out 0).trans rfl; have hcz38_1 : w36.cell? ⟨gb898, 1, none⟩ = some (.int .i64 a0_1) := (blk_cell BK898.out 1).trans rfl; have hcz38_2 : w36.cell? ⟨gb898, 2, none⟩ = some (.int .i64 a0_2) := (blk_cell BK898.out 2).trans rfl; have hcz38_3 : w36.cell? ⟨gb898, 3, none⟩ = some (.int .i64 a0_3) := (blk_cell BK898.out 3).trans rfl; have hcz38_4 : w36.cell? ⟨gb898, 4, none⟩ = some (.slice A0_4 l0_4.length c0_4) := (blk_cell BK898.out 4).trans rfl; have hcz38_5 : w36.cell? ⟨gb898, 5, none⟩ = some (.slice A0_5 l0_5.length c0_5) := (blk_cell BK898.out 5).trans rfl; have hcz38_6 : w36.cell? ⟨gb898, 6, none⟩ = some (.slice A0_6 l0_6.length c0_6) := (blk_cell BK898.out 6).trans rfl; have hfz38_0 := blk_frozen BK898.out 0; have hfz38_1 := blk_frozen BK898.out 1; have hfz38_2 := blk_frozen BK898.out 2; have hfz38_3 := blk_frozen BK898.out 3; have hfz38_4 := blk_frozen BK898.out 4; have hfz38_5 := blk_frozen BK898.out 5; have hfz38_6 := blk_frozen BK898.out 6; have hcz39_0 : w36.cell? ⟨gb899, 0, none⟩ = some (.int .i64 a1_0) := (blk_cell BK899.out 0).trans rfl; have hcz39_1 : w36.cell? ⟨gb899, 1, none⟩ = some (.int .i64 a1_1) := (blk_cell BK899.out 1).trans rfl; have hcz39_2 : w36.cell? ⟨gb899, 2, none⟩ = some (.int .i64 a1_2) := (blk_cell BK899.out 2).trans rfl; have hcz39_3 : w36.cell? ⟨gb899, 3, none⟩ = some (.int .i64 a1_3) := (blk_cell BK899.out 3).trans rfl; have hcz39_4 : w36.cell? ⟨gb899, 4, none⟩ = some (.slice A1_4 l1_4.length c1_4) := (blk_cell BK899.out 4).trans rfl; have hcz39_5 : w36.cell? ⟨gb899, 5, none⟩ = some (.slice A1_5 l1_5.length c1_5) := (blk_cell BK899.out 5).trans rfl; have hcz39_6 : w36.cell? ⟨gb899, 6, none⟩ = some (.slice A1_6 l1_6.length c1_6) := (blk_cell BK899.out 6).trans rfl; have hfz39_0 := blk_frozen BK899.out 0; have hfz39_1 := blk_frozen BK899.out 1; have hfz39_2 := blk_frozen BK899.out 2; have hfz39_3 := blk_frozen BK899.out 3; have hfz39_4 := blk_frozen BK899.out 4; have hfz39_5 := blk_frozen BK899.out 5; have hfz39_6 := blk_frozen BK899.out 6) | ((with_reducible refine gate_callee (f := 19) rfl ?_); refine goesL_ (some 29) rfl rfl Try.func19 (by kernel_rfl) rfl #[.slice A0_4 l0_4.length c0_4, .slice A1_4 l1_4.length c1_4] rfl (by (try simp only [List.map_toArray, List.map_cons, List.map_nil]); first | done | rfl | (simp only [List.length_drop, List.length_take]; rfl)) ?_; (with_reducible refine (laws_eqIntS.calls k _ _ l0_4 _ _ l1_4 false _ ?side1 ?side2 ?side3 ?side4 A7.out).mono ?_); (case side1 => repeat (first | exact (Kd.C_below HR0_4.out HB.out) | (with_reducible refine Kd.C_alloc ?_ _) | (with_reducible refine Kd.C_drewN ?_ _) | (with_reducible refine Kd.C_drew ?_))); (case side2 => exact HC0_4.out); (case side3 => repeat (first | exact (Kd.C_below HR1_4.out HB.out) | (with_reducible refine Kd.C_alloc ?_ _) | (with_reducible refine Kd.C_drewN ?_ _) | (with_reducible refine Kd.C_drew ?_))); (case side4 => exact HC1_4.out); rintro e w' ⟨rfl, ⟨nd, rfl⟩⟩; refine ⟨_, rfl, ?_⟩))
      go_ret
      exact ⟨by first | rfl | (simp [errW_none, errW_some] <;> rfl) | (simp [*, errW_none, errW_some] <;> rfl), by repeat (first | (with_reducible first | exact HB.out | apply below_alloc | apply pw_below_drewN | apply below_drew1 | refine below_set ?_ GE898.out | refine below_set ?_ GE899.out) | exact HB.out)⟩
    ·rw [if_neg c6] at H
     have c6b0 : (a0_3 == a1_3) = false := beq_eq_false_iff_ne.mpr c6
     have c6b1 : (a0_3 != a1_3) = true := bne_iff_ne.mpr c6
     obtain rfl := Option.some.inj H
     go_enter Try.func89, Try.ntmps89
     go_wp2_with (first | ((with_reducible refine gate_dst (N := 2) rfl ?_); refine box_event ?hg (N := 2) ?hd (cs := #[.int .i64 a0_0, .int .i64 a0_1, .int .i64 a0_2, .int .i64 a0_3, .slice A0_4 l0_4.length c0_4, .slice A0_5 l0_5.length c0_5, .slice A0_6 l0_6.length c0_6]) (t := 115) ?hr ?_; (case hd => rfl); (case hg => rfl); (case hr => first | (go_simp; done) | (go_simp; rfl)); intro gb898 hg w40 hbox hb; have n0_ := Aside0.mk (below_step (by repeat (first | (with_reducible first | exact HB.out | apply below_alloc | apply pw_below_drewN | apply below_drew1) | exact HB.out)) hb); have n1_ := Aside0.mk (hbox); have n2_ := Aside0.mk ((by rw [hg]; exact (below_size (by repeat (first | (with_reducible first | exact HB.out | apply below_alloc | apply pw_below_drewN | apply below_drew1) | exact HB.out))) : w.heap.size ≤ gb898)); have n3_ := Aside0.mk ((by rw [hg]; exact (below_size (by repeat (first | (with_reducible first | exact HB.out | apply below_alloc | apply pw_below_drewN | apply below_drew1) | exact HB.out))) : w.heap.size ≤ gb898)); clear HB; have HB := n0_; have BK898 := n1_; have GW898 := n2_; have GE898 := n3_; clear n0_ n1_ n2_ n3_; clear hb hbox hg) | ((with_reducible refine gate_dst (N := 3) rfl ?_); refine box_event ?hg (N := 3) ?hd (cs := #[.int .i64 a1_0, .int .i64 a1_1, .int .i64 a1_2, .int .i64 a1_3, .slice A1_4 l1_4.length c1_4, .slice A1_5 l1_5.length c1_5, .slice A1_6 l1_6.length c1_6]) (t := 115) ?hr ?_; (case hd => rfl); (case hg => rfl); (case hr => first | (go_simp; done) | (go_simp; rfl)); intro gb899 hg w41 hbox hb; have n0_ := Aside0.mk (blk_below (g := gb898) (o := .cells #[.int .i64 a0_0, .int .i64 a0_1, .int .i64 a0_2, .int .i64 a0_3, .slice A0_4 l0_4.length c0_4, .slice A0_5 l0_5.length c0_5, .slice A0_6 l0_6.length c0_6] 115 (0, 0)) (by (with_reducible repeat (first | refine blk_drewN ?_ _ | refine blk_drew ?_ | refine blk_alloc ?_ _)); exact BK898.out) hb); have n1_ := Aside0.mk (below_step (by repeat (first | (with_reducible first | exact HB.out | apply below_alloc | apply pw_below_drewN | apply below_drew1 | refine below_set ?_ GE898.out) | exact HB.out)) hb); have n2_ := Aside0.mk (hbox); have n3_ := Aside0.mk ((by rw [hg]; exact (below_size (by repeat (first | (with_reducible first | exact HB.out | apply below_alloc | apply pw_below_drewN | apply below_drew1 | refine below_set ?_ GE898.out) | exact HB.out))) : w.heap.size ≤ gb899)); have n4_ := Aside0.mk ((by rw [hg]; exact (below_size (by repeat (first | (with_reducible first | exact HB.out | apply below_alloc | apply pw_below_drewN | apply below_drew1 | refine below_set ?_ GE898.out) | exact HB.out))) : w.heap.size ≤ gb899)); have n5_ := Aside0.mk ((by rw [hg]; exact Nat.ne_of_lt (blk_lt (g := gb898) (o := .cells #[.int .i64 a0_0, .int .i64 a0_1, .int .i64 a0_2, .int .i64 a0_3, .slice A0_4 l0_4.length c0_4, .slice A0_5 l0_5.length c0_5, .slice A0_6 l0_6.length c0_6] 115 (0, 0)) (by (with_reducible repeat (first | refine blk_drewN ?_ _ | refine blk_drew ?_ | refine blk_alloc ?_ _)); exact BK898.out)) : gb898 ≠ gb899)); have n6_ := Aside0.mk ((by rw [hg]; exact Nat.ne_of_gt (blk_lt (g := gb898) (o := .cells #[.int .i64 a0_0, .int .i64 a0_1, .int .i64 a0_2, .int .i64 a0_3, .slice A0_4 l0_4.length c0_4, .slice A0_5 l0_5.length c0_5, .slice A0_6 l0_6.length c0_6] 115 (0, 0)) (by (with_reducible repeat (first | refine blk_drewN ?_ _ | refine blk_drew ?_ | refine blk_alloc ?_ _)); exact BK898.out)) : gb899 ≠ gb898)); clear BK898; clear HB; have BK898 := n0_; have HB := n1_; have BK899 := n2_; have GW899 := n3_; have GE899 := n4_; have NB898_899 := n5_; have NB899_898 := n6_; clear n0_ n1_ n2_ n3_ n4_ n5_ n6_; clear hb hbox hg; have hnb42 := NB898_899.out; have hnc42 := NB899_898.out; have hcz43_0 : w41.cell? ⟨gb898, 0, none⟩ = some (.int .i64 a0_0) := (blk_cell BK898.out 0).trans rfl; have hcz43_1 : w41.cell? ⟨gb898, 1, none⟩ = some (.int .i64 a0_1) := (blk_cell BK898.out 1).trans rfl; have hcz43_2 : w41.cell? ⟨gb898, 2, none⟩ = some (.int .i64 a0_2) := (blk_cell BK898.out 2).trans rfl; have hcz43_3 : w41.cell? ⟨gb898, 3, none⟩ = some (.int .i64 a0_3) := (blk_cell BK898.out 3).trans rfl; have hcz43_4 : w41.cell? ⟨gb898, 4, none⟩ = some (.slice A0_4 l0_4.length c0_4) := (blk_cell BK898.out 4).trans rfl; have hcz43_5 : w41.cell? ⟨gb898, 5, none⟩ = some (.slice A0_5 l0_5.length c0_5) := (blk_cell BK898.out 5).trans rfl; have hcz43_6 : w41.cell? ⟨gb898, 6, none⟩ = some (.slice A0_6 l0_6.length c0_6) := (blk_cell BK898.out 6).trans rfl; have hfz43_0 := blk_frozen BK898.out 0; have hfz43_1 := blk_frozen BK898.out 1; have hfz43_2 := blk_frozen BK898.out 2; have hfz43_3 := blk_frozen BK898.out 3; have hfz43_4 := blk_frozen BK898.out 4; have hfz43_5 := blk_frozen BK898.out 5; have hfz43_6 := blk_frozen BK898.out 6; have hcz44_0 : w41.cell? ⟨gb899, 0, none⟩ = some (.int .i64 a1_0) := (blk_cell BK899.out 0).trans rfl; have hcz44_1 : w41.cell? ⟨gb899, 1, none⟩ = some (.int .i64 a1_1) := (blk_cell BK899.out 1).trans rfl; have hcz44_2 : w41.cell? ⟨gb899, 2, none⟩ = some (.int .i64 a1_2) := (blk_cell BK899.out 2).trans rfl; have hcz44_3 : w41.cell? ⟨gb899, 3, none⟩ = some (.int .i64 a1_3) := (blk_cell BK899.out 3).trans rfl; have hcz44_4 : w41.cell? ⟨gb899, 4, none⟩ = some (.slice A1_4 l1_4.length c1_4) := (blk_cell BK899.out 4).trans rfl; have hcz44_5 : w41.cell? ⟨gb899, 5, none⟩ = some (.slice A1_5 l1_5.length c1_5) := (blk_cell BK899.out 5).trans rfl; have hcz44_6 : w41.cell? ⟨gb899, 6, none⟩ = some (.slice A1_6 l1_6.length c1_6) := (blk_cell BK899.out 6).trans rfl; have hfz44_0 := blk_frozen BK899.out 0; have hfz44_1 := blk_frozen BK899.out 1; have hfz44_2 := blk_frozen BK899.out 2; have hfz44_3 := blk_frozen BK899.out 3; have hfz44_4 := blk_frozen BK899.out 4; have hfz44_5 := blk_frozen BK899.out 5; have hfz44_6 := blk_frozen BK899.out 6))
     go_ret
     exact ⟨by first | rfl | (simp [errW_none, errW_some] <;> rfl) | (simp [*, errW_none, errW_some] <;> rfl), by repeat (first | (with_reducible first | exact HB.out | apply below_alloc | apply pw_below_drewN | apply below_drew1 | refine below_set ?_ GE898.out | refine below_set ?_ GE899.out) | exact HB.out)⟩
   ·rw [if_neg c5] at H
    have c5b0 : (a0_2 == a1_2) = false := beq_eq_false_iff_ne.mpr c5
    have c5b1 : (a0_2 != a1_2) = true := bne_iff_ne.mpr c5
    obtain rfl := Option.some.inj H
    go_enter Try.func89, Try.ntmps89
    go_wp2_with (first | ((with_reducible refine gate_dst (N := 2) rfl ?_); refine box_event ?hg (N := 2) ?hd (cs := #[.int .i64 a0_0, .int .i64 a0_1, .int .i64 a0_2, .int .i64 a0_3, .slice A0_4 l0_4.length c0_4, .slice A0_5 l0_5.length c0_5, .slice A0_6 l0_6.length c0_6]) (t := 115) ?hr ?_; (case hd => rfl); (case hg => rfl); (case hr => first | (go_simp; done) | (go_simp; rfl)); intro gb898 hg w45 hbox hb; have n0_ := Aside0.mk (below_step (by repeat (first | (with_reducible first | exact HB.out | apply below_alloc | apply pw_below_drewN | apply below_drew1) | exact HB.out)) hb); have n1_ := Aside0.mk (hbox); have n2_ := Aside0.mk ((by rw [hg]; exact (below_size (by repeat (first | (with_reducible first | exact HB.out | apply below_alloc | apply pw_below_drewN | apply below_drew1) | exact HB.out))) : w.heap.size ≤ gb898)); have n3_ := Aside0.mk ((by rw [hg]; exact (below_size (by repeat (first | (with_reducible first | exact HB.out | apply below_alloc | apply pw_below_drewN | apply below_drew1) | exact HB.out))) : w.heap.size ≤ gb898)); clear HB; have HB := n0_; have BK898 := n1_; have GW898 := n2_; have GE898 := n3_; clear n0_ n1_ n2_ n3_; clear hb hbox hg) | ((with_reducible refine gate_dst (N := 3) rfl ?_); refine box_event ?hg (N := 3) ?hd (cs := #[.int .i64 a1_0, .int .i64 a1_1, .int .i64 a1_2, .int .i64 a1_3, .slice A1_4 l1_4.length c1_4, .slice A1_5 l1_5.length c1_5, .slice A1_6 l1_6.length c1_6]) (t := 115) ?hr ?_; (case hd => rfl); (case hg => rfl); (case hr => first | (go_simp; done) | (go_simp; rfl)); intro gb899 hg w46 hbox hb; have n0_ := Aside0.mk (blk_below (g := gb898) (o := .cells #[.int .i64 a0_0, .int .i64 a0_1, .int .i64 a0_2, .int .i64 a0_3, .slice A0_4 l0_4.length c0_4, .slice A0_5 l0_5.length c0_5, .slice A0_6 l0_6.length c0_6] 115 (0, 0)) (by (with_reducible repeat (first | refine blk_drewN ?_ _ | refine blk_drew ?_ | refine blk_alloc ?_ _)); exact BK898.out) hb); have n1_ := Aside0.mk (below_step (by repeat (first | (with_reducible first | exact HB.out | apply below_alloc | apply pw_below_drewN | apply below_drew1 | refine below_set ?_ GE898.out) | exact HB.out)) hb); have n2_ := Aside0.mk (hbox); have n3_ := Aside0.mk ((by rw [hg]; exact (below_size (by repeat (first | (with_reducible first | exact HB.out | apply below_alloc | apply pw_below_drewN | apply below_drew1 | refine below_set ?_ GE898.out) | exact HB.out))) : w.heap.size ≤ gb899)); have n4_ := Aside0.mk ((by rw [hg]; exact (below_size (by repeat (first | (with_reducible first | exact HB.out | apply below_alloc | apply pw_below_drewN | apply below_drew1 | refine below_set ?_ GE898.out) | exact HB.out))) : w.heap.size ≤ gb899)); have n5_ := Aside0.mk ((by rw [hg]; exact Nat.ne_of_lt (blk_lt (g := gb898) (o := .cells #[.int .i64 a0_0, .int .i64 a0_1, .int .i64 a0_2, .int .i64 a0_3, .slice A0_4 l0_4.length c0_4, .slice A0_5 l0_5.length c0_5, .slice A0_6 l0_6.length c0_6] 115 (0, 0)) (by (with_reducible repeat (first | refine blk_drewN ?_ _ | refine blk_drew ?_ | refine blk_alloc ?_ _)); exact BK898.out)) : gb898 ≠ gb899)); have n6_ := Aside0.mk ((by rw [hg]; exact Nat.ne_of_gt (blk_lt (g := gb898) (o := .cells #[.int .i64 a0_0, .int .i64 a0_1, .int .i64 a0_2, .int .i64 a0_3, .slice A0_4 l0_4.length c0_4, .slice A0_5 l0_5.length c0_5, .slice A0_6 l0_6.length c0_6] 115 (0, 0)) (by (with_reducible repeat (first | refine blk_drewN ?_ _ | refine blk_drew ?_ | refine blk_alloc ?_ _)); exact BK898.out)) : gb899 ≠ gb898)); clear BK898; clear HB; have BK898 := n0_; have HB := n1_; have BK899 := n2_; have GW899 := n3_; have GE899 := n4_; have NB898_899 := n5_; have NB899_898 := n6_; clear n0_ n1_ n2_ n3_ n4_ n5_ n6_; clear hb hbox hg; have hnb47 := NB898_899.out; have hnc47 := NB899_898.out; have hcz48_0 : w46.cell? ⟨gb898, 0, none⟩ = some (.int .i64 a0_0) := (blk_cell BK898.out 0).trans rfl; have hcz48_1 : w46.cell? ⟨gb898, 1, none⟩ = some (.int .i64 a0_1) := (blk_cell BK898.out 1).trans rfl; have hcz48_2 : w46.cell? ⟨gb898, 2, none⟩ = some (.int .i64 a0_2) := (blk_cell BK898.out 2).trans rfl; have hcz48_3 : w46.cell? ⟨gb898, 3, none⟩ = some (.int .i64 a0_3) := (blk_cell BK898.out 3).trans rfl; have hcz48_4 : w46.cell? ⟨gb898, 4, none⟩ = some (.slice A0_4 l0_4.length c0_4) := (blk_cell BK898.out 4).trans rfl; have hcz48_5 : w46.cell? ⟨gb898, 5, none⟩ = some (.slice A0_5 l0_5.length c0_5) := (blk_cell BK898.out 5).trans rfl; have hcz48_6 : w46.cell? ⟨gb898, 6, none⟩ = some (.slice A0_6 l0_6.length c0_6) := (blk_cell BK898.out 6).trans rfl; have hfz48_0 := blk_frozen BK898.out 0; have hfz48_1 := blk_frozen BK898.out 1; have hfz48_2 := blk_frozen BK898.out 2; have hfz48_3 := blk_frozen BK898.out 3; have hfz48_4 := blk_frozen BK898.out 4; have hfz48_5 := blk_frozen BK898.out 5; have hfz48_6 := blk_frozen BK898.out 6; have hcz49_0 : w46.cell? ⟨gb899, 0, none⟩ = some (.int .i64 a1_0) := (blk_cell BK899.out 0).trans rfl; have hcz49_1 : w46.cell? ⟨gb899, 1, none⟩ = some (.int .i64 a1_1) := (blk_cell BK899.out 1).trans rfl; have hcz49_2 : w46.cell? ⟨gb899, 2, none⟩ = some (.int .i64 a1_2) := (blk_cell BK899.out 2).trans rfl; have hcz49_3 : w46.cell? ⟨gb899, 3, none⟩ = some (.int .i64 a1_3) := (blk_cell BK899.out 3).trans rfl; have hcz49_4 : w46.cell? ⟨gb899, 4, none⟩ = some (.slice A1_4 l1_4.length c1_4) := (blk_cell BK899.out 4).trans rfl; have hcz49_5 : w46.cell? ⟨gb899, 5, none⟩ = some (.slice A1_5 l1_5.length c1_5) := (blk_cell BK899.out 5).trans rfl; have hcz49_6 : w46.cell? ⟨gb899, 6, none⟩ = some (.slice A1_6 l1_6.length c1_6) := (blk_cell BK899.out 6).trans rfl; have hfz49_0 := blk_frozen BK899.out 0; have hfz49_1 := blk_frozen BK899.out 1; have hfz49_2 := blk_frozen BK899.out 2; have hfz49_3 := blk_frozen BK899.out 3; have hfz49_4 := blk_frozen BK899.out 4; have hfz49_5 := blk_frozen BK899.out 5; have hfz49_6 := blk_frozen BK899.out 6))
    go_ret
    exact ⟨by first | rfl | (simp [errW_none, errW_some] <;> rfl) | (simp [*, errW_none, errW_some] <;> rfl), by repeat (first | (with_reducible first | exact HB.out | apply below_alloc | apply pw_below_drewN | apply below_drew1 | refine below_set ?_ GE898.out | refine below_set ?_ GE899.out) | exact HB.out)⟩
  ·rw [if_neg c4] at H
   have c4b0 : (a0_1 == a1_1) = false := beq_eq_false_iff_ne.mpr c4
   have c4b1 : (a0_1 != a1_1) = true := bne_iff_ne.mpr c4
   obtain rfl := Option.some.inj H
   go_enter Try.func89, Try.ntmps89
   go_wp2_with (first | ((with_reducible refine gate_dst (N := 2) rfl ?_); refine box_event ?hg (N := 2) ?hd (cs := #[.int .i64 a0_0, .int .i64 a0_1, .int .i64 a0_2, .int .i64 a0_3, .slice A0_4 l0_4.length c0_4, .slice A0_5 l0_5.length c0_5, .slice A0_6 l0_6.length c0_6]) (t := 115) ?hr ?_; (case hd => rfl); (case hg => rfl); (case hr => first | (go_simp; done) | (go_simp; rfl)); intro gb898 hg w50 hbox hb; have n0_ := Aside0.mk (below_step (by repeat (first | (with_reducible first | exact HB.out | apply below_alloc | apply pw_below_drewN | apply below_drew1) | exact HB.out)) hb); have n1_ := Aside0.mk (hbox); have n2_ := Aside0.mk ((by rw [hg]; exact (below_size (by repeat (first | (with_reducible first | exact HB.out | apply below_alloc | apply pw_below_drewN | apply below_drew1) | exact HB.out))) : w.heap.size ≤ gb898)); have n3_ := Aside0.mk ((by rw [hg]; exact (below_size (by repeat (first | (with_reducible first | exact HB.out | apply below_alloc | apply pw_below_drewN | apply below_drew1) | exact HB.out))) : w.heap.size ≤ gb898)); clear HB; have HB := n0_; have BK898 := n1_; have GW898 := n2_; have GE898 := n3_; clear n0_ n1_ n2_ n3_; clear hb hbox hg) | ((with_reducible refine gate_dst (N := 3) rfl ?_); refine box_event ?hg (N := 3) ?hd (cs := #[.int .i64 a1_0, .int .i64 a1_1, .int .i64 a1_2, .int .i64 a1_3, .slice A1_4 l1_4.length c1_4, .slice A1_5 l1_5.length c1_5, .slice A1_6 l1_6.length c1_6]) (t := 115) ?hr ?_; (case hd => rfl); (case hg => rfl); (case hr => first | (go_simp; done) | (go_simp; rfl)); intro gb899 hg w51 hbox hb; have n0_ := Aside0.mk (blk_below (g := gb898) (o := .cells #[.int .i64 a0_0, .int .i64 a0_1, .int .i64 a0_2, .int .i64 a0_3, .slice A0_4 l0_4.length c0_4, .slice A0_5 l0_5.length c0_5, .slice A0_6 l0_6.length c0_6] 115 (0, 0)) (by (with_reducible repeat (first | refine blk_drewN ?_ _ | refine blk_drew ?_ | refine blk_alloc ?_ _)); exact BK898.out) hb); have n1_ := Aside0.mk (below_step (by repeat (first | (with_reducible first | exact HB.out | apply below_alloc | apply pw_below_drewN | apply below_drew1 | refine below_set ?_ GE898.out) | exact HB.out)) hb); have n2_ := Aside0.mk (hbox); have n3_ := Aside0.mk ((by rw [hg]; exact (below_size (by repeat (first | (with_reducible first | exact HB.out | apply below_alloc | apply pw_below_drewN | apply below_drew1 | refine below_set ?_ GE898.out) | exact HB.out))) : w.heap.size ≤ gb899)); have n4_ := Aside0.mk ((by rw [hg]; exact (below_size (by repeat (first | (with_reducible first | exact HB.out | apply below_alloc | apply pw_below_drewN | apply below_drew1 | refine below_set ?_ GE898.out) | exact HB.out))) : w.heap.size ≤ gb899)); have n5_ := Aside0.mk ((by rw [hg]; exact Nat.ne_of_lt (blk_lt (g := gb898) (o := .cells #[.int .i64 a0_0, .int .i64 a0_1, .int .i64 a0_2, .int .i64 a0_3, .slice A0_4 l0_4.length c0_4, .slice A0_5 l0_5.length c0_5, .slice A0_6 l0_6.length c0_6] 115 (0, 0)) (by (with_reducible repeat (first | refine blk_drewN ?_ _ | refine blk_drew ?_ | refine blk_alloc ?_ _)); exact BK898.out)) : gb898 ≠ gb899)); have n6_ := Aside0.mk ((by rw [hg]; exact Nat.ne_of_gt (blk_lt (g := gb898) (o := .cells #[.int .i64 a0_0, .int .i64 a0_1, .int .i64 a0_2, .int .i64 a0_3, .slice A0_4 l0_4.length c0_4, .slice A0_5 l0_5.length c0_5, .slice A0_6 l0_6.length c0_6] 115 (0, 0)) (by (with_reducible repeat (first | refine blk_drewN ?_ _ | refine blk_drew ?_ | refine blk_alloc ?_ _)); exact BK898.out)) : gb899 ≠ gb898)); clear BK898; clear HB; have BK898 := n0_; have HB := n1_; have BK899 := n2_; have GW899 := n3_; have GE899 := n4_; have NB898_899 := n5_; have NB899_898 := n6_; clear n0_ n1_ n2_ n3_ n4_ n5_ n6_; clear hb hbox hg; have hnb52 := NB898_899.out; have hnc52 := NB899_898.out; have hcz53_0 : w51.cell? ⟨gb898, 0, none⟩ = some (.int .i64 a0_0) := (blk_cell BK898.out 0).trans rfl; have hcz53_1 : w51.cell? ⟨gb898, 1, none⟩ = some (.int .i64 a0_1) := (blk_cell BK898.out 1).trans rfl; have hcz53_2 : w51.cell? ⟨gb898, 2, none⟩ = some (.int .i64 a0_2) := (blk_cell BK898.out 2).trans rfl; have hcz53_3 : w51.cell? ⟨gb898, 3, none⟩ = some (.int .i64 a0_3) := (blk_cell BK898.out 3).trans rfl; have hcz53_4 : w51.cell? ⟨gb898, 4, none⟩ = some (.slice A0_4 l0_4.length c0_4) := (blk_cell BK898.out 4).trans rfl; have hcz53_5 : w51.cell? ⟨gb898, 5, none⟩ = some (.slice A0_5 l0_5.length c0_5) := (blk_cell BK898.out 5).trans rfl; have hcz53_6 : w51.cell? ⟨gb898, 6, none⟩ = some (.slice A0_6 l0_6.length c0_6) := (blk_cell BK898.out 6).trans rfl; have hfz53_0 := blk_frozen BK898.out 0; have hfz53_1 := blk_frozen BK898.out 1; have hfz53_2 := blk_frozen BK898.out 2; have hfz53_3 := blk_frozen BK898.out 3; have hfz53_4 := blk_frozen BK898.out 4; have hfz53_5 := blk_frozen BK898.out 5; have hfz53_6 := blk_frozen BK898.out 6; have hcz54_0 : w51.cell? ⟨gb899, 0, none⟩ = some (.int .i64 a1_0) := (blk_cell BK899.out 0).trans rfl; have hcz54_1 : w51.cell? ⟨gb899, 1, none⟩ = some (.int .i64 a1_1) := (blk_cell BK899.out 1).trans rfl; have hcz54_2 : w51.cell? ⟨gb899, 2, none⟩ = some (.int .i64 a1_2) := (blk_cell BK899.out 2).trans rfl; have hcz54_3 : w51.cell? ⟨gb899, 3, none⟩ = some (.int .i64 a1_3) := (blk_cell BK899.out 3).trans rfl; have hcz54_4 : w51.cell? ⟨gb899, 4, none⟩ = some (.slice A1_4 l1_4.length c1_4) := (blk_cell BK899.out 4).trans rfl; have hcz54_5 : w51.cell? ⟨gb899, 5, none⟩ = some (.slice A1_5 l1_5.length c1_5) := (blk_cell BK899.out 5).trans rfl; have hcz54_6 : w51.cell? ⟨gb899, 6, none⟩ = some (.slice A1_6 l1_6.length c1_6) := (blk_cell BK899.out 6).trans rfl; have hfz54_0 := blk_frozen BK899.out 0; have hfz54_1 := blk_frozen BK899.out 1; have hfz54_2 := blk_frozen BK899.out 2; have hfz54_3 := blk_frozen BK899.out 3; have hfz54_4 := blk_frozen BK899.out 4; have hfz54_5 := blk_frozen BK899.out 5; have hfz54_6 := blk_frozen BK899.out 6))
   go_ret
   exact ⟨by first | rfl | (simp [errW_none, errW_some] <;> rfl) | (simp [*, errW_none, errW_some] <;> rfl), by repeat (first | (with_reducible first | exact HB.out | apply below_alloc | apply pw_below_drewN | apply below_drew1 | refine below_set ?_ GE898.out | refine below_set ?_ GE899.out) | exact HB.out)⟩
 ·rw [if_neg c3] at H
  have c3b0 : (a0_0 == a1_0) = false := beq_eq_false_iff_ne.mpr c3
  have c3b1 : (a0_0 != a1_0) = true := bne_iff_ne.mpr c3
  obtain rfl := Option.some.inj H
  go_enter Try.func89, Try.ntmps89
  go_wp2_with (first | ((with_reducible refine gate_dst (N := 2) rfl ?_); refine box_event ?hg (N := 2) ?hd (cs := #[.int .i64 a0_0, .int .i64 a0_1, .int .i64 a0_2, .int .i64 a0_3, .slice A0_4 l0_4.length c0_4, .slice A0_5 l0_5.length c0_5, .slice A0_6 l0_6.length c0_6]) (t := 115) ?hr ?_; (case hd => rfl); (case hg => rfl); (case hr => first | (go_simp; done) | (go_simp; rfl)); intro gb898 hg w55 hbox hb; have n0_ := Aside0.mk (below_step (by repeat (first | (with_reducible first | exact HB.out | apply below_alloc | apply pw_below_drewN | apply below_drew1) | exact HB.out)) hb); have n1_ := Aside0.mk (hbox); have n2_ := Aside0.mk ((by rw [hg]; exact (below_size (by repeat (first | (with_reducible first | exact HB.out | apply below_alloc | apply pw_below_drewN | apply below_drew1) | exact HB.out))) : w.heap.size ≤ gb898)); have n3_ := Aside0.mk ((by rw [hg]; exact (below_size (by repeat (first | (with_reducible first | exact HB.out | apply below_alloc | apply pw_below_drewN | apply below_drew1) | exact HB.out))) : w.heap.size ≤ gb898)); clear HB; have HB := n0_; have BK898 := n1_; have GW898 := n2_; have GE898 := n3_; clear n0_ n1_ n2_ n3_; clear hb hbox hg) | ((with_reducible refine gate_dst (N := 3) rfl ?_); refine box_event ?hg (N := 3) ?hd (cs := #[.int .i64 a1_0, .int .i64 a1_1, .int .i64 a1_2, .int .i64 a1_3, .slice A1_4 l1_4.length c1_4, .slice A1_5 l1_5.length c1_5, .slice A1_6 l1_6.length c1_6]) (t := 115) ?hr ?_; (case hd => rfl); (case hg => rfl); (case hr => first | (go_simp; done) | (go_simp; rfl)); intro gb899 hg w56 hbox hb; have n0_ := Aside0.mk (blk_below (g := gb898) (o := .cells #[.int .i64 a0_0, .int .i64 a0_1, .int .i64 a0_2, .int .i64 a0_3, .slice A0_4 l0_4.length c0_4, .slice A0_5 l0_5.length c0_5, .slice A0_6 l0_6.length c0_6] 115 (0, 0)) (by (with_reducible repeat (first | refine blk_drewN ?_ _ | refine blk_drew ?_ | refine blk_alloc ?_ _)); exact BK898.out) hb); have n1_ := Aside0.mk (below_step (by repeat (first | (with_reducible first | exact HB.out | apply below_alloc | apply pw_below_drewN | apply below_drew1 | refine below_set ?_ GE898.out) | exact HB.out)) hb); have n2_ := Aside0.mk (hbox); have n3_ := Aside0.mk ((by rw [hg]; exact (below_size (by repeat (first | (with_reducible first | exact HB.out | apply below_alloc | apply pw_below_drewN | apply below_drew1 | refine below_set ?_ GE898.out) | exact HB.out))) : w.heap.size ≤ gb899)); have n4_ := Aside0.mk ((by rw [hg]; exact (below_size (by repeat (first | (with_reducible first | exact HB.out | apply below_alloc | apply pw_below_drewN | apply below_drew1 | refine below_set ?_ GE898.out) | exact HB.out))) : w.heap.size ≤ gb899)); have n5_ := Aside0.mk ((by rw [hg]; exact Nat.ne_of_lt (blk_lt (g := gb898) (o := .cells #[.int .i64 a0_0, .int .i64 a0_1, .int .i64 a0_2, .int .i64 a0_3, .slice A0_4 l0_4.length c0_4, .slice A0_5 l0_5.length c0_5, .slice A0_6 l0_6.length c0_6] 115 (0, 0)) (by (with_reducible repeat (first | refine blk_drewN ?_ _ | refine blk_drew ?_ | refine blk_alloc ?_ _)); exact BK898.out)) : gb898 ≠ gb899)); have n6_ := Aside0.mk ((by rw [hg]; exact Nat.ne_of_gt (blk_lt (g := gb898) (o := .cells #[.int .i64 a0_0, .int .i64 a0_1, .int .i64 a0_2, .int .i64 a0_3, .slice A0_4 l0_4.length c0_4, .slice A0_5 l0_5.length c0_5, .slice A0_6 l0_6.length c0_6] 115 (0, 0)) (by (with_reducible repeat (first | refine blk_drewN ?_ _ | refine blk_drew ?_ | refine blk_alloc ?_ _)); exact BK898.out)) : gb899 ≠ gb898)); clear BK898; clear HB; have BK898 := n0_; have HB := n1_; have BK899 := n2_; have GW899 := n3_; have GE899 := n4_; have NB898_899 := n5_; have NB899_898 := n6_; clear n0_ n1_ n2_ n3_ n4_ n5_ n6_; clear hb hbox hg; have hnb57 := NB898_899.out; have hnc57 := NB899_898.out; have hcz58_0 : w56.cell? ⟨gb898, 0, none⟩ = some (.int .i64 a0_0) := (blk_cell BK898.out 0).trans rfl; have hcz58_1 : w56.cell? ⟨gb898, 1, none⟩ = some (.int .i64 a0_1) := (blk_cell BK898.out 1).trans rfl; have hcz58_2 : w56.cell? ⟨gb898, 2, none⟩ = some (.int .i64 a0_2) := (blk_cell BK898.out 2).trans rfl; have hcz58_3 : w56.cell? ⟨gb898, 3, none⟩ = some (.int .i64 a0_3) := (blk_cell BK898.out 3).trans rfl; have hcz58_4 : w56.cell? ⟨gb898, 4, none⟩ = some (.slice A0_4 l0_4.length c0_4) := (blk_cell BK898.out 4).trans rfl; have hcz58_5 : w56.cell? ⟨gb898, 5, none⟩ = some (.slice A0_5 l0_5.length c0_5) := (blk_cell BK898.out 5).trans rfl; have hcz58_6 : w56.cell? ⟨gb898, 6, none⟩ = some (.slice A0_6 l0_6.length c0_6) := (blk_cell BK898.out 6).trans rfl; have hfz58_0 := blk_frozen BK898.out 0; have hfz58_1 := blk_frozen BK898.out 1; have hfz58_2 := blk_frozen BK898.out 2; have hfz58_3 := blk_frozen BK898.out 3; have hfz58_4 := blk_frozen BK898.out 4; have hfz58_5 := blk_frozen BK898.out 5; have hfz58_6 := blk_frozen BK898.out 6; have hcz59_0 : w56.cell? ⟨gb899, 0, none⟩ = some (.int .i64 a1_0) := (blk_cell BK899.out 0).trans rfl; have hcz59_1 : w56.cell? ⟨gb899, 1, none⟩ = some (.int .i64 a1_1) := (blk_cell BK899.out 1).trans rfl; have hcz59_2 : w56.cell? ⟨gb899, 2, none⟩ = some (.int .i64 a1_2) := (blk_cell BK899.out 2).trans rfl; have hcz59_3 : w56.cell? ⟨gb899, 3, none⟩ = some (.int .i64 a1_3) := (blk_cell BK899.out 3).trans rfl; have hcz59_4 : w56.cell? ⟨gb899, 4, none⟩ = some (.slice A1_4 l1_4.length c1_4) := (blk_cell BK899.out 4).trans rfl; have hcz59_5 : w56.cell? ⟨gb899, 5, none⟩ = some (.slice A1_5 l1_5.length c1_5) := (blk_cell BK899.out 5).trans rfl; have hcz59_6 : w56.cell? ⟨gb899, 6, none⟩ = some (.slice A1_6 l1_6.length c1_6) := (blk_cell BK899.out 6).trans rfl; have hfz59_0 := blk_frozen BK899.out 0; have hfz59_1 := blk_frozen BK899.out 1; have hfz59_2 := blk_frozen BK899.out 2; have hfz59_3 := blk_frozen BK899.out 3; have hfz59_4 := blk_frozen BK899.out 4; have hfz59_5 := blk_frozen BK899.out 5; have hfz59_6 := blk_frozen BK899.out 6))
  go_ret
  exact ⟨by first | rfl | (simp [errW_none, errW_some] <;> rfl) | (simp [*, errW_none, errW_some] <;> rfl), by repeat (first | (with_reducible first | exact HB.out | apply below_alloc | apply pw_below_drewN | apply below_drew1 | refine below_set ?_ GE898.out | refine below_set ?_ GE899.out) | exact HB.out)⟩


end Go.Proofs.Ytkpeihdlmjdejaa.P
