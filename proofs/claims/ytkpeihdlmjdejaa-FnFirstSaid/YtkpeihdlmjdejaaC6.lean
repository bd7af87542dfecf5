import Derived.Test.YtkpeihdlmjdejaaCP0
import Derived.Test.YtkpeihdlmjdejaaC0
import Derived.Test.YtkpeihdlmjdejaaC3
import Derived.Test.YtkpeihdlmjdejaaC4
import Derived.Test.YtkpeihdlmjdejaaC5
namespace Go.Proofs.Ytkpeihdlmjdejaa.P
open Go.RowKit Go.Proofs.YtkpeihdlmjdejaaW.PrintWords Go.Proofs.YtkpeihdlmjdejaaW.PrintLast Go.Proofs.YtkpeihdlmjdejaaW.PrintMore
attribute [local go_sem] max2_int min2_int max_two min_two max_three min_three max_four min_four   -- for this text's walks alone
set_option linter.unusedVariables false
set_option linter.unusedSimpArgs false

attribute [local go_sem high] eqA40
def spec_l1Cur_word.l0 : Nat → List Int → Int → List Int → Int → Int → Option (List Int × Int × Int)
 | 0, _, _, _, _, _ => none
 | k + 1, x3, x4, x1000, x1001, x1002 => if x4 > 0 then ((spec_l1Cur_among.f x1000 x1001 x1002 (([97, 97, 98, 98, 99, 65, 12354, 42] : List Int))).bind fun bt701 => (if x3.length < 17592186044416 then (spec_l1Cur_word.l0 k (x3 ++ [bt701.1]) (wrap64 (x4 - 1)) x1000 bt701.2.1 bt701.2.2) else (none))) else ((spec_l1Cur_one.f x1000 x1001 x1002 40).bind fun bt707 => (if bt707.1 = true then ((spec_l1Cur_pick.f x1000 bt707.2.1 bt707.2.2 2).bind fun bt710 => (if 0 ≤ (wrap64 (40 + bt710.1)) then (if (wrap64 (40 + bt710.1) : Int).toNat ≤ 35184372088832 then (some ((List.replicate (wrap64 (40 + bt710.1) : Int).toNat 0), bt710.2.1, bt710.2.2)) else (none)) else (none))) else (some (x3, bt707.2.1, bt707.2.2))))
def spec_l1Cur_word.f (k : Nat) (s0_0 : List Int) (s0_1 : Int) (s0_2 : Int) : Option (List Int × Int × Int) := (spec_l1Cur_pick.f s0_0 s0_1 s0_2 7).bind fun bt695 => (spec_l1Cur_word.l0 k ([] : List Int) bt695.1 s0_0 bt695.2.1 bt695.2.2)
theorem spec_l1Cur_word.mono_l : ∀ k, (∀ y0 y1 y2 y3 y4, LeO (spec_l1Cur_word.l0 k y0 y1 y2 y3 y4) (spec_l1Cur_word.l0 (k + 1) y0 y1 y2 y3 y4))
 | 0 => fun _ _ _ _ _ r h => by simp [spec_l1Cur_word.l0] at h
 | k + 1 => by
  have ih0 := spec_l1Cur_word.mono_l k
  ·intro y0 y1 y2 y3 y4
   unfold spec_l1Cur_word.l0
   repeat' first
   | (with_reducible exact ih0 _ _ _ _ _)
   | (with_reducible exact LeO.refl _)
   | (with_reducible exact LeO.none _)
   | (with_reducible refine LeO.ite ?_ ?_)
   | (with_reducible refine LeO.bind ?_ (fun _ => ?_))
   | exact ih0 _ _ _ _ _
   | exact LeO.none _
   | refine LeO.ite ?_ ?_
   | refine LeO.bind ?_ (fun _ => ?_)
theorem spec_l1Cur_word.mono : ∀ a0 a1 a2 k, LeO (spec_l1Cur_word.f k a0 a1 a2) (spec_l1Cur_word.f (k + 1) a0 a1 a2) := by
 intro a0 a1 a2 k
 have ih0 := spec_l1Cur_word.mono_l k
 unfold spec_l1Cur_word.f
 repeat' first
   | (with_reducible exact ih0 _ _ _ _ _)
   | (with_reducible exact LeO.refl _)
   | (with_reducible exact LeO.none _)
   | (with_reducible refine LeO.ite ?_ ?_)
   | (with_reducible refine LeO.bind ?_ (fun _ => ?_))
   | exact ih0 _ _ _ _ _
   | exact LeO.none _
   | refine LeO.ite ?_ ?_
   | refine LeO.bind ?_ (fun _ => ?_)
set_option maxHeartbeats 8000000 in
set_option maxRecDepth 100000 in
theorem spec_l1Cur_word.calls (k : Nat) (g : Nat) (s0_0 : List Int) (s0_1 : Int) (s0_2 : Int) (r1 : List Int) (r2 : Int) (r3 : Int) (w0 w : World) (hI : IsS104 w0 w g s0_0 s0_1 s0_2) (hB : Below w0.heap.size w0 w) (h : spec_l1Cur_word.f k s0_0 s0_1 s0_2 = some (r1, r2, r3)) :
  Calls Try.prog 127 #[.pointer (some ⟨g, 0, none⟩)] w fun e w' => ∃ v0_ : Value, e = .returned (v0_) ∧ Kd.R (Kd.int .i64) 3 w' w.heap.size (fun _ => True) v0_ r1 ∧ IsS104 w0 w' g s0_0 r2 r3 ∧ Below w0.heap.size w0 w' ∧ KeepBut w w' g none := by
 have HI0 := Aside0.mk hI
 have HK := Aside0.mk (KeepBut.refl w g none)
 have HL := Aside0.mk hB.size
 clear hI
 have HW0 := Aside0.mk hB.size
 have HB := Aside0.mk hB
 clear hB
 have H : ((spec_l1Cur_pick.f s0_0 s0_1 s0_2 7).bind fun bt695 => (spec_l1Cur_word.l0 k ([] : List Int) bt695.1 s0_0 bt695.2.1 bt695.2.2)) = some (r1, r2, r3) := h
 clear h
 replace H := Option.bind_eq_some_iff.mp H
 obtain ⟨⟨t695, t696, t697⟩, A20, H⟩ := H
 replace H : (spec_l1Cur_word.l0 k ([] : List Int) t695 s0_0 t696 t697) = some (r1, r2, r3) := H
 have A2 := Aside0.mk A20
 clear A20
 have H' := Aside0.mk H
 clear H
 go_enter Try.func127, Try.ntmps127
 go_wp2_with (first | ((with_reducible refine gate_callee (f := 78) rfl ?_); refine goesL_ (some 6) rfl rfl Try.func78 (by kernel_rfl) rfl #[.pointer (some ⟨g, 0, none⟩), .int .i64 7] rfl (by simp only [List.map_toArray, List.map_cons, List.map_nil] <;> rfl) ?_; (with_reducible refine (spec_l1Cur_pick.calls g s0_0 s0_1 s0_2 7 t695 t696 t697 w0 _ ?side1 ?side2 A2.out).mono ?_); (case side1 => exact HI0.out); (case side2 => exact HB.out); rintro e w3 ⟨rfl, hi, hb, hk⟩; refine ⟨_, rfl, ?_⟩; have n0_ := Aside0.mk (KeepBut.trans HK.out hk (.inl rfl)); have n1_ := Aside0.mk (hb); have n2_ := Aside0.mk (hi); clear HK; clear HB; clear HI0; have HK := n0_; have HB := n1_; have HI0 := n2_; clear n0_ n1_ n2_))
 go_loopg [3, 4] k (fun kq v3 v4 w' => ∃ (x3_1 : List Int) (x4_1 : Int) (x1001_1 : Int) (x1002_1 : Int), v4 = .int .i64 x4_1 ∧ Aside0 (spec_l1Cur_word.l0 kq x3_1 x4_1 s0_0 x1001_1 x1002_1 = some (r1, r2, r3)) ∧ Aside0 (kq ≤ k) ∧ Aside0 (Kd.R (Kd.int .i64) 3 w' w.heap.size (fun _ => True) v3 x3_1) ∧ Aside0 (IsS104 w0 w' g s0_0 x1001_1 x1002_1) ∧ Aside0 (KeepBut w w' g none) ∧ Aside0 (Below w0.heap.size w0 w'))
 case atStart => exact ⟨(([] : List Int)), (t695), (t696), (t697), (by first | rfl | (simp; done) | (simp [*]; done)), H', ⟨Nat.le_refl _⟩, ⟨by first | exact Kd.R_nil _ _ _ _ _ | exact Kd.N_nil _ _ _ _ _ | exact Kd.V_nil _ _ _ _ _ | exact Kd.Q_nil _ _ _ _ _ | exact Kd.S_nil _ _ _ _ _⟩, ⟨HI0.out⟩, ⟨HK.out⟩, ⟨HB.out⟩⟩
 case round =>
  clear H'
  try clear c1
  try clear p2
  obtain ⟨x3_1, x4_1, x1001_1, x1002_1, rfl, HA, HK1, HO_3, HI0, HK, HB⟩ := hrel
  cases gk with
  | zero => exact absurd HA.out (by simp [spec_l1Cur_word.l0])
  | succ k1 =>
   have H := HA.out
   clear HA
   simp only [spec_l1Cur_word.l0] at H
   by_cases c4 : x4_1 > 0
   ·rw [if_pos c4] at H
    have c4b0 : decide (0 < x4_1) = true := decide_eq_true c4
    clear c4
    obtain ⟨y698, hy698⟩ : ∃ y_ : List Int, y_ = (([97, 97, 98, 98, 99, 65, 12354, 42] : List Int)) := ⟨_, rfl⟩
    replace H : ((spec_l1Cur_among.f s0_0 x1001_1 x1002_1 y698).bind fun bt701 => (if x3_1.length < 17592186044416 then (spec_l1Cur_word.l0 k1 (x3_1 ++ [bt701.1]) (wrap64 (x4_1 - 1)) s0_0 bt701.2.1 bt701.2.2) else (none))) = some (r1, r2, r3) := by rw [hy698]; exact H
    have Ny698 := Aside0.mk hy698
    clear hy698
    replace H := Option.bind_eq_some_iff.mp H
    obtain ⟨⟨t701, t702, t703⟩, A50, H⟩ := H
    replace H : (if x3_1.length < 17592186044416 then (spec_l1Cur_word.l0 k1 (x3_1 ++ [t701]) (wrap64 (x4_1 - 1)) s0_0 t702 t703) else (none)) = some (r1, r2, r3) := H
    have A5 := Aside0.mk A50
    clear A50
    by_cases c6 : x3_1.length < 17592186044416
    ·rw [if_pos c6] at H
     have LMc6 := Aside0.mk c6
     clear c6
     obtain ⟨y704, hy704⟩ : ∃ y_ : List Int, y_ = (x3_1 ++ [t701]) := ⟨_, rfl⟩
     replace H : (spec_l1Cur_word.l0 k1 y704 (wrap64 (x4_1 - 1)) s0_0 t702 t703) = some (r1, r2, r3) := by rw [hy704]; exact H
     have Ny704 := Aside0.mk hy704
     clear hy704
     have H' := Aside0.mk H
     clear H
     go_wp2_with (first | ((with_reducible refine gate_dst (N := 13) rfl ?_); refine Kd.R_lit (Kd.int .i64) _ 3 ?hg (N := 13) ?hd (xs := ([97, 97, 98, 98, 99, 65, 12354, 42] : List Int)) (inner := [.int .i64 97, .int .i64 97, .int .i64 98, .int .i64 98, .int .i64 99, .int .i64 65, .int .i64 12354, .int .i64 42]) (ok := fun _ => True) (okp := fun _ => True) ?hr ?hp (fun _ hk => hk) trivial (Below.refl _ _) (Nat.le_refl _) (by simp) ?_; (case hd => rfl); (case hg => rfl); (case hr => go_simp <;> rfl); (case hp => exact (Reps.one (show Kd.M (Kd.int .i64) _ _ _ 97 [.int .i64 97] from rfl) (Reps.one (show Kd.M (Kd.int .i64) _ _ _ 97 [.int .i64 97] from rfl) (Reps.one (show Kd.M (Kd.int .i64) _ _ _ 98 [.int .i64 98] from rfl) (Reps.one (show Kd.M (Kd.int .i64) _ _ _ 98 [.int .i64 98] from rfl) (Reps.one (show Kd.M (Kd.int .i64) _ _ _ 99 [.int .i64 99] from rfl) (Reps.one (show Kd.M (Kd.int .i64) _ _ _ 65 [.int .i64 65] from rfl) (Reps.one (show Kd.M (Kd.int .i64) _ _ _ 12354 [.int .i64 12354] from rfl) (Reps.one (show Kd.M (Kd.int .i64) _ _ _ 42 [.int .i64 42] from rfl) (Reps.none _ _)))))))))); intro v699 w7 ho8 hb hg_ hnew_; clear hg_ hnew_; (first | rw [← Ny698.out] at ho8 | (simp only [Int.reduceToNat] at ho8; rw [← Ny698.out] at ho8)); have n0_ := Aside0.mk (Kd.R_elder' HO_3.out (Kd.R_base ho8) hb); have n1_ := Aside0.mk (Kd.R_lower (Kd.R_new' ho8 (Kd.R_lt HO_3.out)) (keep_size (w := w) (g := g) (row := none) HK.out)); have n2_ := Aside0.mk (IsS104.below HI0.out hb); have n3_ := Aside0.mk (KeepBut.trans HK.out (KeepBut.of_below hb g none) (.inl rfl)); have n4_ := Aside0.mk (below_step HB.out hb); clear HO_3; clear HI0; clear HK; clear HB; have HO_3 := n0_; have HO700 := n1_; have HI0 := n2_; have HK := n3_; have HB := n4_; clear n0_ n1_ n2_ n3_ n4_; clear hb ho8; obtain ⟨Ao9, co9, eo9⟩ := Kd.R_slice HO700.out; subst eo9) | ((with_reducible refine gate_callee (f := 125) rfl ?_); refine goesL_ (some 14) rfl rfl Try.func125 (by kernel_rfl) rfl #[.pointer (some ⟨g, 0, none⟩), .slice Ao9 y698.length co9] rfl (by simp only [List.map_toArray, List.map_cons, List.map_nil] <;> rfl) ?_; (with_reducible refine (spec_l1Cur_among.calls g s0_0 x1001_1 x1002_1 _ _ y698 t701 t702 t703 w0 _ ?side1 ?side2 ?side3 ?side4 ?side5 A5.out).mono ?_); (case side1 => exact HI0.out); (case side2 => exact HB.out); (case side3 => repeat (first | exact (Kd.R_reads' HO700.out).2.2 | (with_reducible refine Kd.C_alloc ?_ _) | (with_reducible refine Kd.C_drewN ?_ _) | (with_reducible refine Kd.C_drew ?_))); (case side4 => exact (Kd.R_reads' HO700.out).2.1); (case side5 => exact far_slice (IsS104.own_ne HI0.out HO700.out (by decide))); rintro e w10 ⟨rfl, hi, hb, hk⟩; refine ⟨_, rfl, ?_⟩; have n0_ := Aside0.mk (Kd.R_mono (Kd.R_keep (IsS104.apart (show IsS104 w0 _ g s0_0 x1001_1 x1002_1 from by repeat (first | (with_reducible first | exact HI0.out | apply IsS104.alloc | apply IsS104.drewN | apply IsS104.drew | apply IsS104.set_1 | apply IsS104.set_2) | exact HI0.out)) HO_3.out (by decide)) hk (fun _ h => h.2)) (fun _ h => h.1)); have n1_ := Aside0.mk (Kd.R_mono (Kd.R_keep (IsS104.apart (show IsS104 w0 _ g s0_0 x1001_1 x1002_1 from by repeat (first | (with_reducible first | exact HI0.out | apply IsS104.alloc | apply IsS104.drewN | apply IsS104.drew | apply IsS104.set_1 | apply IsS104.set_2) | exact HI0.out)) HO700.out (by decide)) hk (fun _ h => h.2)) (fun _ h => h.1)); have n2_ := Aside0.mk (KeepBut.trans HK.out hk (.inl rfl)); have n3_ := Aside0.mk (hb); have n4_ := Aside0.mk (hi); clear HO_3; clear HO700; clear HK; clear HB; clear HI0; have HO_3 := n0_; have HO700 := n1_; have HK := n2_; have HB := n3_; have HI0 := n4_; clear n0_ n1_ n2_ n3_ n4_) | ((with_reducible refine gate_builtin (b := .append) (xs := #[.tmp 11, .tmp 15]) rfl ?_); at_builtin; refine Kd.R_append (Kd.int .i64) w.heap.size rfl (.tmp 11) (.tmp 15) 23 3 (.int .i64 0) 8 rfl Try.underlying23 info3 rfl (by decide) (by omega) u3 x3_1 t701 [.int .i64 t701] (fun k_ => some k_ ≠ (.slice Ao9 y698.length co9 : Value).ownBlock) (fun _ => False) rfl rfl ?aP (fun _ hk => hk.elim) ?aF ?aO (Below.refl _ _) ?aS ?aL ?_; (case aP => exact rfl); (case aF => exact (fun k_ hk => Kd.fresh' (Kd.R_lt HO700.out) k_ hk)); (case aO => exact (by (with_reducible repeat (first | apply Kd.R_alloc | apply Kd.R_drewN | apply Kd.R_drew)); exact Kd.R_mono HO_3.out (fun _ hk => hk.2))); (case aS => exact (keep_size (w := w) (g := g) (row := none) HK.out)); (case aL => have := LMc6.out; omega); intro v705 w11 ho hb hg hat; rw [← Ny704.out] at ho; have n0_ := Aside0.mk (IsS104.grown HI0.out hg (IsS104.own_ne HI0.out HO_3.out (by decide))); have n1_ := Aside0.mk (Kd.R_after (ok := (fun _ => True)) HO700.out hg hat); have n2_ := Aside0.mk (below_weaken HB.out HL.out hb); have n3_ := Aside0.mk (KeepBut.trans HK.out (KeepBut.of_grown hg g) (Kd.R_base2 HO_3.out)); have n4_ := Aside0.mk (ho); clear HI0; clear HO700; clear HB; clear HK; clear HO_3; have HI0 := n0_; have HO700 := n1_; have HB := n2_; have HK := n3_; have HO706 := n4_; clear n0_ n1_ n2_ n3_ n4_; clear ho hb hg hat))
     go_roundg k1
     case measure => have := HK1.out; omega
     case rel => exact ⟨(y704), (wrap64 (x4_1 - 1)), (t702), (t703), (by first | rfl | (simp; done) | (simp [*]; done)), H', ⟨by have := HK1.out; omega⟩, ⟨by (with_reducible repeat (first | apply Kd.R_alloc | apply Kd.R_drewN | apply Kd.R_drew)); exact Kd.R_mono HO706.out (fun _ hk => trivial)⟩, ⟨HI0.out⟩, ⟨HK.out⟩, ⟨HB.out⟩⟩
    ·rw [if_neg c6] at H
     exact absurd H (by simp)
   ·rw [if_neg c4] at H
    have c4b0 : decide (0 < x4_1) = false := decide_eq_false c4
    clear c4
    replace H := Option.bind_eq_some_iff.mp H
    obtain ⟨⟨t707, t708, t709⟩, A120, H⟩ := H
    replace H : (if t707 = true then ((spec_l1Cur_pick.f s0_0 t708 t709 2).bind fun bt710 => (if 0 ≤ (wrap64 (40 + bt710.1)) then (if (wrap64 (40 + bt710.1) : Int).toNat ≤ 35184372088832 then (some ((List.replicate (wrap64 (40 + bt710.1) : Int).toNat 0), bt710.2.1, bt710.2.2)) else (none)) else (none))) else (some (x3_1, t708, t709))) = some (r1, r2, r3) := H
    have A12 := Aside0.mk A120
    clear A120
    by_cases c13 : t707 = true
    ·subst c13
     have H1 : ((spec_l1Cur_pick.f s0_0 t708 t709 2).bind fun bt710 => (if 0 ≤ (wrap64 (40 + bt710.1)) then (if (wrap64 (40 + bt710.1) : Int).toNat ≤ 35184372088832 then (some ((List.replicate (wrap64 (40 + bt710.1) : Int).toNat 0), bt710.2.1, bt710.2.2)) else (none)) else (none))) = some (r1, r2, r3) := by rw [if_pos rfl] at H; exact H
     clear H
     have H := H1
     clear H1
     replace H := Option.bind_eq_some_iff.mp H
     obtain ⟨⟨t710, t711, t712⟩, A140, H⟩ := H
     replace H : (if 0 ≤ (wrap64 (40 + t710)) then (if (wrap64 (40 + t710) : Int).toNat ≤ 35184372088832 then (some ((List.replicate (wrap64 (40 + t710) : Int).toNat 0), t711, t712)) else (none)) else (none)) = some (r1, r2, r3) := H
     have A14 := Aside0.mk A140
     clear A140
     obtain ⟨ji15, hji15⟩ : ∃ j_ : Int, (wrap64 (40 + t710)) = j_ := ⟨_, rfl⟩
     replace H : (if 0 ≤ (ji15) then (if (ji15 : Int).toNat ≤ 35184372088832 then (some ((List.replicate (ji15 : Int).toNat 0), t711, t712)) else (none)) else (none)) = some (r1, r2, r3) := by first | (rw [hji15] at H; exact H) | (simp only [hji15] at H ⊢; exact H)
     (try rw [hji15] at A12)
     (try rw [hji15] at A14)
     have hji15w : (IntKind.i64.wrap (40 + t710)) = ji15 := (i64_w _).trans hji15
     by_cases c16 : 0 ≤ (ji15)
     ·rw [if_pos c16] at H
      have c16b0 := eq_true c16
      have c16b1 : decide (0 ≤ (ji15)) = true := decide_eq_true c16
      clear c16
      by_cases c17 : (ji15 : Int).toNat ≤ 35184372088832
      ·rw [if_pos c17] at H
       have c17b0 := eq_true c17
       have c17b1 : decide ((ji15 : Int).toNat ≤ 35184372088832) = true := decide_eq_true c17
       clear c17
       obtain ⟨y713, hy713⟩ : ∃ y_ : List Int, y_ = (List.replicate (ji15 : Int).toNat 0) := ⟨_, rfl⟩
       replace H : (some (y713, t711, t712)) = some (r1, r2, r3) := by rw [hy713]; exact H
       have Ny713 := Aside0.mk hy713
       clear hy713
       simp only [Option.some.injEq, Prod.mk.injEq] at H
       obtain ⟨rfl, rfl, rfl⟩ := H
       go_wp2_with (first | ((with_reducible refine gate_callee (f := 122) rfl ?_); refine goesL_ (some 18) rfl rfl Try.func122 (by kernel_rfl) rfl #[.pointer (some ⟨g, 0, none⟩), .int .i64 40] rfl (by simp only [List.map_toArray, List.map_cons, List.map_nil] <;> rfl) ?_; (with_reducible refine (spec_l1Cur_one.calls g s0_0 x1001_1 x1002_1 40 true t708 t709 w0 _ ?side1 ?side2 A12.out).mono ?_); (case side1 => exact HI0.out); (case side2 => exact HB.out); rintro e w18 ⟨rfl, hi, hb, hk⟩; refine ⟨_, rfl, ?_⟩; have n0_ := Aside0.mk (Kd.R_mono (Kd.R_keep (IsS104.apart (show IsS104 w0 _ g s0_0 x1001_1 x1002_1 from by repeat (first | (with_reducible first | exact HI0.out | apply IsS104.alloc | apply IsS104.drewN | apply IsS104.drew | apply IsS104.set_1 | apply IsS104.set_2) | exact HI0.out)) HO_3.out (by decide)) hk (fun _ h => h.2)) (fun _ h => h.1)); have n1_ := Aside0.mk (KeepBut.trans HK.out hk (.inl rfl)); have n2_ := Aside0.mk (hb); have n3_ := Aside0.mk (hi); clear HO_3; clear HK; clear HB; clear HI0; have HO_3 := n0_; have HK := n1_; have HB := n2_; have HI0 := n3_; clear n0_ n1_ n2_ n3_) | ((with_reducible refine gate_callee (f := 78) rfl ?_); refine goesL_ (some 20) rfl rfl Try.func78 (by kernel_rfl) rfl #[.pointer (some ⟨g, 0, none⟩), .int .i64 2] rfl (by simp only [List.map_toArray, List.map_cons, List.map_nil] <;> rfl) ?_; (with_reducible refine (spec_l1Cur_pick.calls g s0_0 t708 t709 2 t710 t711 t712 w0 _ ?side1 ?side2 A14.out).mono ?_); (case side1 => exact HI0.out); (case side2 => exact HB.out); rintro e w19 ⟨rfl, hi, hb, hk⟩; refine ⟨_, rfl, ?_⟩; have n0_ := Aside0.mk (Kd.R_mono (Kd.R_keep (IsS104.apart (show IsS104 w0 _ g s0_0 t708 t709 from by repeat (first | (with_reducible first | exact HI0.out | apply IsS104.alloc | apply IsS104.drewN | apply IsS104.drew | apply IsS104.set_1 | apply IsS104.set_2) | exact HI0.out)) HO_3.out (by decide)) hk (fun _ h => h.2)) (fun _ h => h.1)); have n1_ := Aside0.mk (KeepBut.trans HK.out hk (.inl rfl)); have n2_ := Aside0.mk (hb); have n3_ := Aside0.mk (hi); clear HO_3; clear HK; clear HB; clear HI0; have HO_3 := n0_; have HK := n1_; have HB := n2_; have HI0 := n3_; clear n0_ n1_ n2_ n3_) | ((with_reducible refine gate_dst (N := 22) rfl ?_); refine Kd.R_make (Kd.int .i64) _ 3 rfl (N := 22) rfl 23 _ _ rfl ji15 rfl rfl Try.underlying23 (.int .i64 0) 8 info3 rfl (by decide) (by omega) 0 (ok := fun _ => True) (okp := fun _ => True) rfl (fun _ hk => hk) trivial (of_decide_eq_true (by assumption)) (Nat.le_trans (Nat.mul_le_mul_right _ (of_decide_eq_true (by assumption) : ji15.toNat ≤ 35184372088832)) (by omega)) (Below.refl _ _) (Nat.le_refl _) ?_; intro v714 w20 ho21 hb hg_ hnew_; clear hg_ hnew_; (first | rw [← Ny713.out] at ho21 | (simp only [Int.reduceToNat] at ho21; rw [← Ny713.out] at ho21)); have n0_ := Aside0.mk (Kd.R_elder' HO_3.out (Kd.R_base ho21) hb); have n1_ := Aside0.mk (Kd.R_lower (Kd.R_new' ho21 (Kd.R_lt HO_3.out)) (keep_size (w := w) (g := g) (row := none) HK.out)); have n2_ := Aside0.mk (IsS104.below HI0.out hb); have n3_ := Aside0.mk (KeepBut.trans HK.out (KeepBut.of_below hb g none) (.inl rfl)); have n4_ := Aside0.mk (below_step HB.out hb); clear HO_3; clear HI0; clear HK; clear HB; have HO_3 := n0_; have HO715 := n1_; have HI0 := n2_; have HK := n3_; have HB := n4_; clear n0_ n1_ n2_ n3_ n4_; clear hb ho21))
       go_ret
       exact ⟨_, by first | rfl | (simp [errW_none, errW_some] <;> rfl) | (simp only [← hji15]; first | rfl | (simp [errW_none, errW_some] <;> rfl)) | (simp [*, errW_none, errW_some] <;> rfl), by (with_reducible repeat (first | apply Kd.R_alloc | apply Kd.R_drewN | apply Kd.R_drew)); exact Kd.R_mono HO715.out (fun _ hk => trivial), HI0.out, HB.out, HK.out⟩
      ·rw [if_neg c17] at H
       exact absurd H (by simp)
     ·rw [if_neg c16] at H
      exact absurd H (by simp)
    ·replace c13 := Bool.eq_false_iff.mpr c13
     subst c13
     have H1 : (some (x3_1, t708, t709)) = some (r1, r2, r3) := by rw [if_neg (show ¬ (false = true) by decide)] at H; exact H
     clear H
     have H := H1
     clear H1
     simp only [Option.some.injEq, Prod.mk.injEq] at H
     obtain ⟨rfl, rfl, rfl⟩ := H
     go_wp2_with (first | ((with_reducible refine gate_callee (f := 122) rfl ?_); refine goesL_ (some 18) rfl rfl Try.func122 (by kernel_rfl) rfl #[.pointer (some ⟨g, 0, none⟩), .int .i64 40] rfl (by simp only [List.map_toArray, List.map_cons, List.map_nil] <;> rfl) ?_; (with_reducible refine (spec_l1Cur_one.calls g s0_0 x1001_1 x1002_1 40 false t708 t709 w0 _ ?side1 ?side2 A12.out).mono ?_); (case side1 => exact HI0.out); (case side2 => exact HB.out); rintro e w22 ⟨rfl, hi, hb, hk⟩; refine ⟨_, rfl, ?_⟩; have n0_ := Aside0.mk (Kd.R_mono (Kd.R_keep (IsS104.apart (show IsS104 w0 _ g s0_0 x1001_1 x1002_1 from by repeat (first | (with_reducible first | exact HI0.out | apply IsS104.alloc | apply IsS104.drewN | apply IsS104.drew | apply IsS104.set_1 | apply IsS104.set_2) | exact HI0.out)) HO_3.out (by decide)) hk (fun _ h => h.2)) (fun _ h => h.1)); have n1_ := Aside0.mk (KeepBut.trans HK.out hk (.inl rfl)); have n2_ := Aside0.mk (hb); have n3_ := Aside0.mk (hi); clear HO_3; clear HK; clear HB; clear HI0; have HO_3 := n0_; have HK := n1_; have HB := n2_; have HI0 := n3_; clear n0_ n1_ n2_ n3_))
     go_ret
     exact ⟨_, by first | rfl | (simp [errW_none, errW_some] <;> rfl) | (simp [*, errW_none, errW_some] <;> rfl), by (with_reducible repeat (first | apply Kd.R_alloc | apply Kd.R_drewN | apply Kd.R_drew)); exact HO_3.out, HI0.out, HB.out, HK.out⟩

def spec_l1Cur_stream.l0 : Nat → List Int → Int → List Int → Int → Int → Option (List Int × Int × Int)
 | 0, _, _, _, _, _ => none
 | k + 1, x3, x4, x1000, x1001, x1002 => if x4 > 0 then ((spec_l1Cur_word.f k x1000 x1001 x1002).bind fun bt724 => (if x3.length + bt724.1.length < 17592186044416 then (spec_l1Cur_stream.l0 k (x3 ++ bt724.1) (wrap64 (x4 - 1)) x1000 bt724.2.1 bt724.2.2) else (none))) else (if (x3.length : Int) > 60 then ((spec_l1Cur_one.f x1000 x1001 x1002 20).bind fun bt732 => (if bt732.1 = true then (some (x3, bt732.2.1, bt732.2.2)) else (if 10 ≤ (x3.length : Int) then (some ((x3.take (10 : Int).toNat), bt732.2.1, bt732.2.2)) else (none)))) else (some (x3, x1001, x1002)))
def spec_l1Cur_stream.f (k : Nat) (s0_0 : List Int) (s0_1 : Int) (s0_2 : Int) : Option (List Int × Int × Int) := (spec_l1Cur_word.f k s0_0 s0_1 s0_2).bind fun bt716 => ((spec_l1Cur_pick.f s0_0 bt716.2.1 bt716.2.2 3).bind fun bt721 => (spec_l1Cur_stream.l0 k bt716.1 bt721.1 s0_0 bt721.2.1 bt721.2.2))
theorem spec_l1Cur_stream.mono_l : ∀ k, (∀ y0 y1 y2 y3 y4, LeO (spec_l1Cur_stream.l0 k y0 y1 y2 y3 y4) (spec_l1Cur_stream.l0 (k + 1) y0 y1 y2 y3 y4))
 | 0 => fun _ _ _ _ _ r h => by simp [spec_l1Cur_stream.l0] at h
 | k + 1 => by
  have ih0 := spec_l1Cur_stream.mono_l k
  ·intro y0 y1 y2 y3 y4
   unfold spec_l1Cur_stream.l0
   repeat' first
   | (with_reducible exact ih0 _ _ _ _ _)
   | (with_reducible exact spec_l1Cur_word.mono _ _ _ _)
   | (with_reducible exact LeO.refl _)
   | (with_reducible exact LeO.none _)
   | (with_reducible refine LeO.ite ?_ ?_)
   | (with_reducible refine LeO.bind ?_ (fun _ => ?_))
   | exact ih0 _ _ _ _ _
   | exact spec_l1Cur_word.mono _ _ _ _
   | exact LeO.none _
   | refine LeO.ite ?_ ?_
   | refine LeO.bind ?_ (fun _ => ?_)
theorem spec_l1Cur_stream.mono : ∀ a0 a1 a2 k, LeO (spec_l1Cur_stream.f k a0 a1 a2) (spec_l1Cur_stream.f (k + 1) a0 a1 a2) := by
 intro a0 a1 a2 k
 have ih0 := spec_l1Cur_stream.mono_l k
 unfold spec_l1Cur_stream.f
 repeat' first
   | (with_reducible exact ih0 _ _ _ _ _)
   | (with_reducible exact spec_l1Cur_word.mono _ _ _ _)
   | (with_reducible exact LeO.refl _)
   | (with_reducible exact LeO.none _)
   | (with_reducible refine LeO.ite ?_ ?_)
   | (with_reducible refine LeO.bind ?_ (fun _ => ?_))
   | exact ih0 _ _ _ _ _
   | exact spec_l1Cur_word.mono _ _ _ _
   | exact LeO.none _
   | refine LeO.ite ?_ ?_
   | refine LeO.bind ?_ (fun _ => ?_)
set_option maxHeartbeats 8000000 in
set_option maxRecDepth 100000 in
theorem spec_l1Cur_stream.calls (k : Nat) (g : Nat) (s0_0 : List Int) (s0_1 : Int) (s0_2 : Int) (r1 : List Int) (r2 : Int) (r3 : Int) (w0 w : World) (hI : IsS104 w0 w g s0_0 s0_1 s0_2) (hB : Below w0.heap.size w0 w) (h : spec_l1Cur_stream.f k s0_0 s0_1 s0_2 = some (r1, r2, r3)) :
  Calls Try.prog 80 #[.pointer (some ⟨g, 0, none⟩)] w fun e w' => ∃ v0_ : Value, e = .returned (v0_) ∧ Kd.R (Kd.int .i64) 3 w' w.heap.size (fun _ => True) v0_ r1 ∧ IsS104 w0 w' g s0_0 r2 r3 ∧ Below w0.heap.size w0 w' ∧ KeepBut w w' g none := by
 have HI0 := Aside0.mk hI
 have HK := Aside0.mk (KeepBut.refl w g none)
 have HL := Aside0.mk hB.size
 clear hI
 have HW0 := Aside0.mk hB.size
 have HB := Aside0.mk hB
 clear hB
 have H : ((spec_l1Cur_word.f k s0_0 s0_1 s0_2).bind fun bt716 => ((spec_l1Cur_pick.f s0_0 bt716.2.1 bt716.2.2 3).bind fun bt721 => (spec_l1Cur_stream.l0 k bt716.1 bt721.1 s0_0 bt721.2.1 bt721.2.2))) = some (r1, r2, r3) := h
 clear h
 replace H := Option.bind_eq_some_iff.mp H
 obtain ⟨⟨t716, t719, t720⟩, A20, H⟩ := H
 replace H : ((spec_l1Cur_pick.f s0_0 t719 t720 3).bind fun bt721 => (spec_l1Cur_stream.l0 k t716 bt721.1 s0_0 bt721.2.1 bt721.2.2)) = some (r1, r2, r3) := H
 have A2 := Aside0.mk A20
 clear A20
 replace H := Option.bind_eq_some_iff.mp H
 obtain ⟨⟨t721, t722, t723⟩, A30, H⟩ := H
 replace H : (spec_l1Cur_stream.l0 k t716 t721 s0_0 t722 t723) = some (r1, r2, r3) := H
 have A3 := Aside0.mk A30
 clear A30
 have H' := Aside0.mk H
 clear H
 go_enter Try.func80, Try.ntmps80
 go_wp2_with (first | ((with_reducible refine gate_callee (f := 127) rfl ?_); refine goesL_ (some 6) rfl rfl Try.func127 (by kernel_rfl) rfl #[.pointer (some ⟨g, 0, none⟩)] rfl (by simp only [List.map_toArray, List.map_cons, List.map_nil] <;> rfl) ?_; (with_reducible refine (spec_l1Cur_word.calls k g s0_0 s0_1 s0_2 t716 t719 t720 w0 _ ?side1 ?side2 A2.out).mono ?_); (case side1 => exact HI0.out); (case side2 => exact HB.out); rintro e w4 ⟨v717, rfl, ho0, hi, hb, hk⟩; refine ⟨_, rfl, ?_⟩; have n0_ := Aside0.mk (Kd.R_lower ho0 (keep_size (w := w) (g := g) (row := none) HK.out)); have n1_ := Aside0.mk (KeepBut.trans HK.out hk (.inl rfl)); have n2_ := Aside0.mk (hb); have n3_ := Aside0.mk (hi); clear HK; clear HB; clear HI0; have HO718 := n0_; have HK := n1_; have HB := n2_; have HI0 := n3_; clear n0_ n1_ n2_ n3_) | ((with_reducible refine gate_callee (f := 78) rfl ?_); refine goesL_ (some 8) rfl rfl Try.func78 (by kernel_rfl) rfl #[.pointer (some ⟨g, 0, none⟩), .int .i64 3] rfl (by simp only [List.map_toArray, List.map_cons, List.map_nil] <;> rfl) ?_; (with_reducible refine (spec_l1Cur_pick.calls g s0_0 t719 t720 3 t721 t722 t723 w0 _ ?side1 ?side2 A3.out).mono ?_); (case side1 => exact HI0.out); (case side2 => exact HB.out); rintro e w5 ⟨rfl, hi, hb, hk⟩; refine ⟨_, rfl, ?_⟩; have n0_ := Aside0.mk (Kd.R_mono (Kd.R_keep (IsS104.apart (show IsS104 w0 _ g s0_0 t719 t720 from by repeat (first | (with_reducible first | exact HI0.out | apply IsS104.alloc | apply IsS104.drewN | apply IsS104.drew | apply IsS104.set_1 | apply IsS104.set_2) | exact HI0.out)) HO718.out (by decide)) hk (fun _ h => h.2)) (fun _ h => h.1)); have n1_ := Aside0.mk (KeepBut.trans HK.out hk (.inl rfl)); have n2_ := Aside0.mk (hb); have n3_ := Aside0.mk (hi); clear HO718; clear HK; clear HB; clear HI0; have HO718 := n0_; have HK := n1_; have HB := n2_; have HI0 := n3_; clear n0_ n1_ n2_ n3_))
 go_loopg [3, 4] k (fun kq v3 v4 w' => ∃ (x3_1 : List Int) (x4_1 : Int) (x1001_1 : Int) (x1002_1 : Int), v4 = .int .i64 x4_1 ∧ Aside0 (spec_l1Cur_stream.l0 kq x3_1 x4_1 s0_0 x1001_1 x1002_1 = some (r1, r2, r3)) ∧ Aside0 (kq ≤ k) ∧ Aside0 (Kd.R (Kd.int .i64) 3 w' w.heap.size (fun _ => True) v3 x3_1) ∧ Aside0 (IsS104 w0 w' g s0_0 x1001_1 x1002_1) ∧ Aside0 (KeepBut w w' g none) ∧ Aside0 (Below w0.heap.size w0 w'))
 case atStart => exact ⟨(t716), (t721), (t722), (t723), (by first | rfl | (simp; done) | (simp [*]; done)), H', ⟨Nat.le_refl _⟩, ⟨HO718.out⟩, ⟨HI0.out⟩, ⟨HK.out⟩, ⟨HB.out⟩⟩
 case round =>
  clear H'
  try clear c1
  try clear p2
  obtain ⟨x3_1, x4_1, x1001_1, x1002_1, rfl, HA, HK1, HO_3, HI0, HK, HB⟩ := hrel
  cases gk with
  | zero => exact absurd HA.out (by simp [spec_l1Cur_stream.l0])
  | succ k1 =>
   have H := HA.out
   clear HA
   simp only [spec_l1Cur_stream.l0] at H
   by_cases c6 : x4_1 > 0
   ·rw [if_pos c6] at H
    have c6b0 : decide (0 < x4_1) = true := decide_eq_true c6
    clear c6
    replace H := Option.bind_eq_some_iff.mp H
    obtain ⟨⟨t724, t727, t728⟩, A70, H⟩ := H
    replace H : (if x3_1.length + t724.length < 17592186044416 then (spec_l1Cur_stream.l0 k1 (x3_1 ++ t724) (wrap64 (x4_1 - 1)) s0_0 t727 t728) else (none)) = some (r1, r2, r3) := H
    have A7 := Aside0.mk A70
    clear A70
    by_cases c8 : x3_1.length + t724.length < 17592186044416
    ·rw [if_pos c8] at H
     have LMc8 := Aside0.mk c8
     clear c8
     obtain ⟨y729, hy729⟩ : ∃ y_ : List Int, y_ = (x3_1 ++ t724) := ⟨_, rfl⟩
     replace H : (spec_l1Cur_stream.l0 k1 y729 (wrap64 (x4_1 - 1)) s0_0 t727 t728) = some (r1, r2, r3) := by rw [hy729]; exact H
     have Ny729 := Aside0.mk hy729
     clear hy729
     have H' := Aside0.mk H
     clear H
     go_wp2_with (first | ((with_reducible refine gate_callee (f := 127) rfl ?_); refine goesL_ (some 15) rfl rfl Try.func127 (by kernel_rfl) rfl #[.pointer (some ⟨g, 0, none⟩)] rfl (by simp only [List.map_toArray, List.map_cons, List.map_nil] <;> rfl) ?_; (with_reducible refine (spec_l1Cur_word.calls k1 g s0_0 x1001_1 x1002_1 t724 t727 t728 w0 _ ?side1 ?side2 A7.out).mono ?_); (case side1 => exact HI0.out); (case side2 => exact HB.out); rintro e w9 ⟨v725, rfl, ho0, hi, hb, hk⟩; refine ⟨_, rfl, ?_⟩; have n0_ := Aside0.mk (Kd.R_mono (Kd.R_told (Kd.R_oldK (IsS104.apart (show IsS104 w0 _ g s0_0 x1001_1 x1002_1 from by repeat (first | (with_reducible first | exact HI0.out | apply IsS104.alloc | apply IsS104.drewN | apply IsS104.drew | apply IsS104.set_1 | apply IsS104.set_2) | exact HI0.out)) HO_3.out (by decide)) hk) (Kd.R_base ho0)) (fun _ h_ => h_.1)); have n1_ := Aside0.mk (Kd.R_lower (Kd.R_new' ho0 (Kd.R_lt HO_3.out)) (keep_size (w := w) (g := g) (row := none) HK.out)); have n2_ := Aside0.mk (KeepBut.trans HK.out hk (.inl rfl)); have n3_ := Aside0.mk (hb); have n4_ := Aside0.mk (hi); clear HO_3; clear HK; clear HB; clear HI0; have HO_3 := n0_; have HO726 := n1_; have HK := n2_; have HB := n3_; have HI0 := n4_; clear n0_ n1_ n2_ n3_ n4_; obtain ⟨Ao11, co11, eo11⟩ := Kd.R_slice HO726.out; subst eo11) | ((with_reducible refine gate_builtin (b := .append) (xs := #[.tmp 13, .tmp 15]) rfl ?_); at_builtin; refine Kd.R_append_rows (Kd.int .i64) w.heap.size rfl (.tmp 13) (.tmp 15) 23 3 (.int .i64 0) 8 rfl Try.underlying23 info3 rfl (by decide) (by omega) u3 x3_1 t724 _ _ _ (fun k_ => some k_ ≠ (.slice Ao11 t724.length co11 : Value).ownBlock) (fun _ => False) rfl rfl ?aO ?aR (fun _ _ h => h) (fun _ h => h.elim) ?aF (Below.refl _ _) ?aS ?aL ?_; (case aR => repeat (first | exact (Kd.R_reads' HO726.out).2.2 | (with_reducible refine Kd.C_alloc ?_ _) | (with_reducible refine Kd.C_drewN ?_ _) | (with_reducible refine Kd.C_drew ?_))); (case aF => exact (fun k_ hk => Kd.fresh' (Kd.R_lt HO726.out) k_ hk)); (case aO => exact (by (with_reducible repeat (first | apply Kd.R_alloc | apply Kd.R_drewN | apply Kd.R_drew)); exact Kd.R_mono HO_3.out (fun _ hk => hk.2))); (case aS => exact (keep_size (w := w) (g := g) (row := none) HK.out)); (case aL => have := LMc8.out; omega); intro v730 w10 ho hb hg hat; rw [← Ny729.out] at ho; have n0_ := Aside0.mk (IsS104.grown HI0.out hg (IsS104.own_ne HI0.out HO_3.out (by decide))); have n1_ := Aside0.mk (Kd.R_after (ok := (fun _ => True)) HO726.out hg hat); have n2_ := Aside0.mk (below_weaken HB.out HL.out hb); have n3_ := Aside0.mk (KeepBut.trans HK.out (KeepBut.of_grown hg g) (Kd.R_base2 HO_3.out)); have n4_ := Aside0.mk (ho); clear HI0; clear HO726; clear HB; clear HK; clear HO_3; have HI0 := n0_; have HO726 := n1_; have HB := n2_; have HK := n3_; have HO731 := n4_; clear n0_ n1_ n2_ n3_ n4_; clear ho hb hg hat))
     go_roundg k1
     case measure => have := HK1.out; omega
     case rel => exact ⟨(y729), (wrap64 (x4_1 - 1)), (t727), (t728), (by first | rfl | (simp; done) | (simp [*]; done)), H', ⟨by have := HK1.out; omega⟩, ⟨by (with_reducible repeat (first | apply Kd.R_alloc | apply Kd.R_drewN | apply Kd.R_drew)); exact Kd.R_mono HO731.out (fun _ hk => trivial)⟩, ⟨HI0.out⟩, ⟨HK.out⟩, ⟨HB.out⟩⟩
    ·rw [if_neg c8] at H
     exact absurd H (by simp)
   ·rw [if_neg c6] at H
    have c6b0 : decide (0 < x4_1) = false := decide_eq_false c6
    clear c6
    by_cases c12 : (x3_1.length : Int) > 60
    ·rw [if_pos c12] at H
     have c12b0 : decide (60 < (x3_1.length : Int)) = true := decide_eq_true c12
     have c12b1 : decide (60 < x3_1.length) = true := decide_eq_true (by omega)
     clear c12
     replace H := Option.bind_eq_some_iff.mp H
     obtain ⟨⟨t732, t733, t734⟩, A130, H⟩ := H
     replace H : (if t732 = true then (some (x3_1, t733, t734)) else (if 10 ≤ (x3_1.length : Int) then (some ((x3_1.take (10 : Int).toNat), t733, t734)) else (none))) = some (r1, r2, r3) := H
     have A13 := Aside0.mk A130
     clear A130
     by_cases c14 : t732 = true
     ·subst c14
      have H1 : (some (x3_1, t733, t734)) = some (r1, r2, r3) := by rw [if_pos rfl] at H; exact H
      clear H
      have H := H1
      clear H1
      simp only [Option.some.injEq, Prod.mk.injEq] at H
      obtain ⟨rfl, rfl, rfl⟩ := H
      obtain ⟨Ao15, co15, eo15⟩ := Kd.R_slice HO_3.out
      subst eo15
      go_wp2_with (first | (go_at_call 122; (with_reducible refine (spec_l1Cur_one.calls g s0_0 x1001_1 x1002_1 20 true t733 t734 w0 _ ?side1 ?side2 A13.out).mono ?_); (case side1 => exact HI0.out); (case side2 => exact HB.out); rintro e w16 ⟨rfl, hi, hb, hk⟩; have n0_ := Aside0.mk (Kd.R_mono (Kd.R_keep (IsS104.apart (show IsS104 w0 _ g s0_0 x1001_1 x1002_1 from by repeat (first | (with_reducible first | exact HI0.out | apply IsS104.alloc | apply IsS104.drewN | apply IsS104.drew | apply IsS104.set_1 | apply IsS104.set_2) | exact HI0.out)) HO_3.out (by decide)) hk (fun _ h => h.2)) (fun _ h => h.1)); have n1_ := Aside0.mk (KeepBut.trans HK.out hk (.inl rfl)); have n2_ := Aside0.mk (hb); have n3_ := Aside0.mk (hi); clear HO_3; clear HK; clear HB; clear HI0; have HO_3 := n0_; have HK := n1_; have HB := n2_; have HI0 := n3_; clear n0_ n1_ n2_ n3_))
      go_ret
      exact ⟨_, by first | rfl | (simp [errW_none, errW_some] <;> rfl) | (simp [*, errW_none, errW_some] <;> rfl), by (with_reducible repeat (first | apply Kd.R_alloc | apply Kd.R_drewN | apply Kd.R_drew)); exact HO_3.out, HI0.out, HB.out, HK.out⟩
     ·replace c14 := Bool.eq_false_iff.mpr c14
      subst c14
      have H1 : (if 10 ≤ (x3_1.length : Int) then (some ((x3_1.take (10 : Int).toNat), t733, t734)) else (none)) = some (r1, r2, r3) := by rw [if_neg (show ¬ (false = true) by decide)] at H; exact H
      clear H
      have H := H1
      clear H1
      by_cases c17 : 10 ≤ (x3_1.length : Int)
      ·rw [if_pos c17] at H
       have c17b0 := eq_true c17
       have c17b1 : decide (10 ≤ (x3_1.length : Int)) = true := decide_eq_true c17
       clear c17
       obtain ⟨y735, hy735⟩ : ∃ y_ : List Int, y_ = (x3_1.take (10 : Int).toNat) := ⟨_, rfl⟩
       replace H : (some (y735, t733, t734)) = some (r1, r2, r3) := by rw [hy735]; exact H
       have Ny735 := Aside0.mk hy735
       clear hy735
       simp only [Option.some.injEq, Prod.mk.injEq] at H
       obtain ⟨rfl, rfl, rfl⟩ := H
       obtain ⟨Ao18, co18, eo18⟩ := Kd.R_slice HO_3.out
       subst eo18
       go_wp2_with (first | (go_at_call 122; (with_reducible refine (spec_l1Cur_one.calls g s0_0 x1001_1 x1002_1 20 false t733 t734 w0 _ ?side1 ?side2 A13.out).mono ?_); (case side1 => exact HI0.out); (case side2 => exact HB.out); rintro e w19 ⟨rfl, hi, hb, hk⟩; have n0_ := Aside0.mk (Kd.R_mono (Kd.R_keep (IsS104.apart (show IsS104 w0 _ g s0_0 x1001_1 x1002_1 from by repeat (first | (with_reducible first | exact HI0.out | apply IsS104.alloc | apply IsS104.drewN | apply IsS104.drew | apply IsS104.set_1 | apply IsS104.set_2) | exact HI0.out)) HO_3.out (by decide)) hk (fun _ h => h.2)) (fun _ h => h.1)); have n1_ := Aside0.mk (KeepBut.trans HK.out hk (.inl rfl)); have n2_ := Aside0.mk (hb); have n3_ := Aside0.mk (hi); clear HO_3; clear HK; clear HB; clear HI0; have HO_3 := n0_; have HK := n1_; have HB := n2_; have HI0 := n3_; clear n0_ n1_ n2_ n3_; have q20 : (10 : Int) ≤ ((x3_1.length : Int) : Int) := of_decide_eq_true (by assumption); obtain ⟨i020, hi020, _, hsz20, _⟩ := info_parts info3; have hcut20 := cut_to (P := Try.prog) 23 3 .i64 Try.underlying23 hi020 Ao18 x3_1.length co18 10 (by omega) q20 (Kd.R_reads' HO_3.out).2.1; have hr20 := Kd.R_take (m := (10 : Int).toNat) HO_3.out (by omega); have hy20 : y735.length = (10 : Int).toNat := (by rw [Ny735.out, List.length_take]; omega); rw [← Ny735.out] at hr20; rw [← hy20] at hr20 hcut20; clear hy20 hi020 hsz20 HO_3; have HO737 := Aside0.mk hr20; clear hr20; replace q20 := eq_true q20))
       go_ret
       exact ⟨_, by first | rfl | (simp [errW_none, errW_some] <;> rfl) | (simp [*, errW_none, errW_some] <;> rfl), by (with_reducible repeat (first | apply Kd.R_alloc | apply Kd.R_drewN | apply Kd.R_drew)); exact HO737.out, HI0.out, HB.out, HK.out⟩
      ·rw [if_neg c17] at H
       exact absurd H (by simp)
    ·rw [if_neg c12] at H
     have c12b0 : decide (60 < (x3_1.length : Int)) = false := decide_eq_false c12
     have c12b1 : decide (60 < x3_1.length) = false := decide_eq_false (by omega)
     clear c12
     simp only [Option.some.injEq, Prod.mk.injEq] at H
     obtain ⟨rfl, rfl, rfl⟩ := H
     obtain ⟨Ao21, co21, eo21⟩ := Kd.R_slice HO_3.out
     subst eo21
     go_wp2
     go_ret
     exact ⟨_, by first | rfl | (simp [errW_none, errW_some] <;> rfl) | (simp [*, errW_none, errW_some] <;> rfl), by (with_reducible repeat (first | apply Kd.R_alloc | apply Kd.R_drewN | apply Kd.R_drew)); exact HO_3.out, HI0.out, HB.out, HK.out⟩

def spec_DrawFirstOf.l0 : Nat → List (List (S89)) → Int → List Int → Int → Int → Option ((List (List (S89))) × List Int)
 | 0, _, _, _, _, _ => none
 | k + 1, x5, x6, x739000, x739001, x739002 => if x6 > 0 then ((spec_l1Cur_pick.f x739000 x739001 x739002 3).bind fun bt742 => ((spec_l1Cur_re.f k x739000 bt742.2.1 bt742.2.2 (wrap64 (1 + bt742.1)) true).bind fun bt745 => (if x5.length < 5864062014805 then (spec_DrawFirstOf.l0 k (x5 ++ [bt745.1]) (wrap64 (x6 - 1)) x739000 bt745.2.1 bt745.2.2) else (none)))) else ((spec_l1Cur_stream.f k x739000 x739001 x739002).bind fun bt753 => (some (x5, bt753.1)))
def spec_DrawFirstOf.f (k : Nat) (l0 : List Int) : Option ((List (List (S89))) × List Int) := (spec_l1Cur_pick.f l0 0 0 4).bind fun bt739 => (spec_DrawFirstOf.l0 k ([] : List (List (S89))) bt739.1 l0 bt739.2.1 bt739.2.2)
theorem spec_DrawFirstOf.mono_l : ∀ k, (∀ y0 y1 y2 y3 y4, LeO (spec_DrawFirstOf.l0 k y0 y1 y2 y3 y4) (spec_DrawFirstOf.l0 (k + 1) y0 y1 y2 y3 y4))
 | 0 => fun _ _ _ _ _ r h => by simp [spec_DrawFirstOf.l0] at h
 | k + 1 => by
  have ih0 := spec_DrawFirstOf.mono_l k
  ·intro y0 y1 y2 y3 y4
   unfold spec_DrawFirstOf.l0
   repeat' first
   | (with_reducible exact ih0 _ _ _ _ _)
   | (with_reducible exact spec_l1Cur_re.mono _ _ _ _ _ _)
   | (with_reducible exact spec_l1Cur_stream.mono _ _ _ _)
   | (with_reducible exact LeO.refl _)
   | (with_reducible exact LeO.none _)
   | (with_reducible refine LeO.ite ?_ ?_)
   | (with_reducible refine LeO.bind ?_ (fun _ => ?_))
   | exact ih0 _ _ _ _ _
   | exact spec_l1Cur_re.mono _ _ _ _ _ _
   | exact spec_l1Cur_stream.mono _ _ _ _
   | exact LeO.none _
   | refine LeO.ite ?_ ?_
   | refine LeO.bind ?_ (fun _ => ?_)
theorem spec_DrawFirstOf.mono : ∀ a0 k, LeO (spec_DrawFirstOf.f k a0) (spec_DrawFirstOf.f (k + 1) a0) := by
 intro a0 k
 have ih0 := spec_DrawFirstOf.mono_l k
 unfold spec_DrawFirstOf.f
 repeat' first
   | (with_reducible exact ih0 _ _ _ _ _)
   | (with_reducible exact spec_l1Cur_re.mono _ _ _ _ _ _)
   | (with_reducible exact spec_l1Cur_stream.mono _ _ _ _)
   | (with_reducible exact LeO.refl _)
   | (with_reducible exact LeO.none _)
   | (with_reducible refine LeO.ite ?_ ?_)
   | (with_reducible refine LeO.bind ?_ (fun _ => ?_))
   | exact ih0 _ _ _ _ _
   | exact spec_l1Cur_re.mono _ _ _ _ _ _
   | exact spec_l1Cur_stream.mono _ _ _ _
   | exact LeO.none _
   | refine LeO.ite ?_ ?_
   | refine LeO.bind ?_ (fun _ => ?_)
set_option maxHeartbeats 8000000 in
set_option maxRecDepth 100000 in
theorem spec_DrawFirstOf.calls (k : Nat) (A0 : Option Addr) (c0 : Nat) (l0 : List Int) (r1 : List (List (S89))) (r2 : List Int) (w : World) (hr0 : Kd.C (Kd.int .u8) w A0 l0.length l0) (hc0 : l0.length ≤ c0) (h : spec_DrawFirstOf.f k l0 = some (r1, r2)) :
  Calls Try.prog 38 #[.slice A0 l0.length c0] w fun e w' => ∃ v0_ v1_ : Value, e = .returned (.tuple #[v0_, v1_]) ∧ Kd.N (Kd.slice 89 k89) 27 w' w.heap.size (fun k_ => (w.heap.size ≤ k_) ∧ some k_ ≠ (v1_ : Value).ownBlock) v0_ r1 ∧ Kd.R (Kd.int .i64) 3 w' w.heap.size (fun k_ => (w.heap.size ≤ k_)) v1_ r2 ∧ Below w.heap.size w w' := by
 have hu104 := Try.underlying104
 have HR0 := Aside0.mk hr0
 have HC0 := Aside0.mk hc0
 clear hr0 hc0
 have HB := Aside0.mk (Below.refl w.heap.size w)
 have H : ((spec_l1Cur_pick.f l0 0 0 4).bind fun bt739 => (spec_DrawFirstOf.l0 k ([] : List (List (S89))) bt739.1 l0 bt739.2.1 bt739.2.2)) = some (r1, r2) := h
 clear h
 replace H := Option.bind_eq_some_iff.mp H
 obtain ⟨⟨t739, t740, t741⟩, A20, H⟩ := H
 replace H : (spec_DrawFirstOf.l0 k ([] : List (List (S89))) t739 l0 t740 t741) = some (r1, r2) := H
 have A2 := Aside0.mk A20
 clear A20
 have H' := Aside0.mk H
 clear H
 go_enter Try.func38, Try.ntmps38
 go_wp2_with (first | ((with_reducible refine gate_dst (N := 9) rfl ?_); refine box_event ?hg (N := 9) ?hd (cs := #[.slice A0 l0.length c0, .int .i64 0, .int .u64 0]) (t := 104) ?hr ?_; (case hd => rfl); (case hg => rfl); (case hr => go_simp <;> rfl); intro gb738 hg w3 hbox hb; have n0_ := Aside0.mk (below_step HB.out hb); have n1_ := Aside0.mk ((⟨_, _, hbox, (by rw [hg]; exact (below_size HB.out)), HR0.out⟩ : IsS104 w w3 gb738 l0 0 0)); clear HB; have HB := n0_; have HI738 := n1_; clear n0_ n1_; clear hb hbox hg) | ((with_reducible refine gate_callee (f := 78) rfl ?_); refine goesL_ (some 11) rfl rfl Try.func78 (by kernel_rfl) rfl #[.pointer (some ⟨gb738, 0, none⟩), .int .i64 4] rfl (by simp only [List.map_toArray, List.map_cons, List.map_nil] <;> rfl) ?_; (with_reducible refine (spec_l1Cur_pick.calls gb738 l0 0 0 4 t739 t740 t741 w _ ?side1 ?side2 A2.out).mono ?_); (case side1 => exact HI738.out); (case side2 => exact HB.out); rintro e w4 ⟨rfl, hi, hb, hk⟩; refine ⟨_, rfl, ?_⟩; have n0_ := Aside0.mk (hb); have n1_ := Aside0.mk (hi); clear HB; clear HI738; have HB := n0_; have HI738 := n1_; clear n0_ n1_))
 go_loopg [5, 6] k (fun kq v5 v6 w' => ∃ (x5_1 : List (List (S89))) (x6_1 : Int) (x739001_1 : Int) (x739002_1 : Int), v6 = .int .i64 x6_1 ∧ Aside0 (spec_DrawFirstOf.l0 kq x5_1 x6_1 l0 x739001_1 x739002_1 = some (r1, r2)) ∧ Aside0 (kq ≤ k) ∧ Aside0 (Kd.N (Kd.slice 89 k89) 27 w' w.heap.size (fun k_ => (w.heap.size ≤ k_) ∧ k_ ≠ gb738) v5 x5_1) ∧ Aside0 (IsS104 w w' gb738 l0 x739001_1 x739002_1) ∧ Aside0 (Below w.heap.size w w'))
 case atStart => exact ⟨(([] : List (List (S89)))), (t739), (t740), (t741), (by first | rfl | (simp; done) | (simp [*]; done)), H', ⟨Nat.le_refl _⟩, ⟨by first | exact Kd.R_nil _ _ _ _ _ | exact Kd.N_nil _ _ _ _ _ | exact Kd.V_nil _ _ _ _ _ | exact Kd.Q_nil _ _ _ _ _ | exact Kd.S_nil _ _ _ _ _⟩, ⟨HI738.out⟩, ⟨HB.out⟩⟩
 case round =>
  clear H'
  try clear p2
  try clear c3
  obtain ⟨x5_1, x6_1, x739001_1, x739002_1, rfl, HA, HK1, HO_5, HI738, HB⟩ := hrel
  cases gk with
  | zero => exact absurd HA.out (by simp [spec_DrawFirstOf.l0])
  | succ k1 =>
   have H := HA.out
   clear HA
   simp only [spec_DrawFirstOf.l0] at H
   by_cases c5 : x6_1 > 0
   ·rw [if_pos c5] at H
    have c5b0 : decide (0 < x6_1) = true := decide_eq_true c5
    clear c5
    replace H := Option.bind_eq_some_iff.mp H
    obtain ⟨⟨t742, t743, t744⟩, A60, H⟩ := H
    replace H : ((spec_l1Cur_re.f k1 l0 t743 t744 (wrap64 (1 + t742)) true).bind fun bt745 => (if x5_1.length < 5864062014805 then (spec_DrawFirstOf.l0 k1 (x5_1 ++ [bt745.1]) (wrap64 (x6_1 - 1)) l0 bt745.2.1 bt745.2.2) else (none))) = some (r1, r2) := H
    have A6 := Aside0.mk A60
    clear A60
    replace H := Option.bind_eq_some_iff.mp H
    obtain ⟨⟨t745, t748, t749⟩, A70, H⟩ := H
    replace H : (if x5_1.length < 5864062014805 then (spec_DrawFirstOf.l0 k1 (x5_1 ++ [t745]) (wrap64 (x6_1 - 1)) l0 t748 t749) else (none)) = some (r1, r2) := H
    have A7 := Aside0.mk A70
    clear A70
    by_cases c8 : x5_1.length < 5864062014805
    ·rw [if_pos c8] at H
     have LMc8 := Aside0.mk c8
     clear c8
     obtain ⟨y750, hy750⟩ : ∃ y_ : List (List (S89)), y_ = (x5_1 ++ [t745]) := ⟨_, rfl⟩
     replace H : (spec_DrawFirstOf.l0 k1 y750 (wrap64 (x6_1 - 1)) l0 t748 t749) = some (r1, r2) := by rw [hy750]; exact H
     have Ny750 := Aside0.mk hy750
     clear hy750
     have H' := Aside0.mk H
     clear H
     go_wp2_with (first | ((with_reducible refine gate_callee (f := 78) rfl ?_); refine goesL_ (some 19) rfl rfl Try.func78 (by kernel_rfl) rfl #[.pointer (some ⟨gb738, 0, none⟩), .int .i64 3] rfl (by simp only [List.map_toArray, List.map_cons, List.map_nil] <;> rfl) ?_; (with_reducible refine (spec_l1Cur_pick.calls gb738 l0 x739001_1 x739002_1 3 t742 t743 t744 w _ ?side1 ?side2 A6.out).mono ?_); (case side1 => exact HI738.out); (case side2 => exact HB.out); rintro e w9 ⟨rfl, hi, hb, hk⟩; refine ⟨_, rfl, ?_⟩; have n0_ := Aside0.mk (Kd.N_mono (Kd.N_keep (Kd.N_mono (ok := fun k_ => (((w.heap.size ≤ k_)) ∧ k_ ≠ gb738)) HO_5.out (fun k_ hk_ => (⟨hk_, hk_.2⟩ : _ ∧ k_ ≠ gb738))) hk (fun _ h => h.2)) (fun _ h => h.1)); have n1_ := Aside0.mk (hb); have n2_ := Aside0.mk (hi); clear HO_5; clear HB; clear HI738; have HO_5 := n0_; have HB := n1_; have HI738 := n2_; clear n0_ n1_ n2_) | ((with_reducible refine gate_callee (f := 79) rfl ?_); refine goesL_ (some 21) rfl rfl Try.func79 (by kernel_rfl) rfl #[.pointer (some ⟨gb738, 0, none⟩), .int .i64 (wrap64 (1 + t742)), .bool true] rfl (by simp only [List.map_toArray, List.map_cons, List.map_nil] <;> rfl) ?_; (with_reducible refine (spec_l1Cur_re.calls k1 gb738 l0 t743 t744 (wrap64 (1 + t742)) true t745 t748 t749 w _ ?side1 ?side2 A7.out).mono ?_); (case side1 => exact HI738.out); (case side2 => exact HB.out); rintro e w10 ⟨v746, rfl, ho0, hi, hb, hk⟩; refine ⟨_, rfl, ?_⟩; have n0_ := Aside0.mk (Kd.N_mono (Kd.N_told (Kd.N_oldK (Kd.N_mono (ok := fun k_ => (((w.heap.size ≤ k_)) ∧ k_ ≠ gb738)) HO_5.out (fun k_ hk_ => (⟨hk_, hk_.2⟩ : _ ∧ k_ ≠ gb738))) hk) (Kd.N_base ho0)) (fun _ h_ => h_.1)); have n1_ := Aside0.mk (Kd.N_lower (Kd.N_mono (ok' := fun k_ => (w.heap.size ≤ k_) ∧ some k_ ≠ (u5 : Value).ownBlock ∧ k_ ≠ gb738) ho0 (fun k_ hk_ => ⟨(Nat.le_trans (below_size HB.out) hk_), (Kd.fresh' (Kd.N_lt HO_5.out) k_ hk_), (IsS104.fresh HI738.out k_ hk_)⟩)) (below_size HB.out)); have n2_ := Aside0.mk (hb); have n3_ := Aside0.mk (hi); clear HO_5; clear HB; clear HI738; have HO_5 := n0_; have HO747 := n1_; have HB := n2_; have HI738 := n3_; clear n0_ n1_ n2_ n3_; obtain ⟨Ao12, co12, eo12⟩ := Kd.N_slice HO747.out; subst eo12) | ((with_reducible refine gate_builtin (b := .append) (xs := #[.tmp 16, .tmp 22]) rfl ?_); at_builtin; refine Kd.N_append (Kd.slice 89 k89) (w0 := w) w.heap.size rfl (.tmp 16) (.tmp 22) 43 27 (.slice none 0 0) 24 rfl Try.underlying43 info27 rfl (by decide) (by omega) u5 x5_1 t745 [.slice Ao12 t745.length co12] (fun k_ => (w.heap.size ≤ k_) ∧ k_ ≠ gb738) (fun k_ => ((fun k_ => (w.heap.size ≤ k_) ∧ k_ ≠ gb738)) k_ ∧ some k_ ≠ (u5 : Value).ownBlock) rfl rfl ?aP (fun _ hk => hk) ?aF ?aO ?aB ?aS ?aL ?_; (case aP => exact (Kd.FK_slice_mk (Kd.N_reads' (Kd.N_mono (ok' := (fun k_ => ((fun k_ => (w.heap.size ≤ k_) ∧ k_ ≠ gb738)) k_ ∧ some k_ ≠ (u5 : Value).ownBlock)) (HO747.out) (fun k_ hk => ⟨⟨hk.1, hk.2.2⟩, hk.2.1⟩))).2.1 (Kd.N_F (Kd.N_mono (ok' := (fun k_ => ((fun k_ => (w.heap.size ≤ k_) ∧ k_ ≠ gb738)) k_ ∧ some k_ ≠ (u5 : Value).ownBlock)) (HO747.out) (fun k_ hk => ⟨⟨hk.1, hk.2.2⟩, hk.2.1⟩))))); (case aB => exact HB.out); (case aF => exact (fun k_ hk => ⟨(Nat.le_trans (below_size HB.out) hk), IsS104.fresh HI738.out k_ hk⟩)); (case aO => exact (by (with_reducible repeat (first | apply Kd.N_alloc | apply Kd.N_drewN | apply Kd.N_drew)); exact Kd.N_mono HO_5.out (fun _ hk => ⟨hk.1.1, hk.1.2⟩))); (case aS => exact (below_size HB.out)); (case aL => have := LMc8.out; omega); intro v751 w11 ho hb hg hat; rw [← Ny750.out] at ho; have n0_ := Aside0.mk (IsS104.grown HI738.out hg (IsS104.own_neN HI738.out HO_5.out (by decide))); have n1_ := Aside0.mk (hb); have n2_ := Aside0.mk (ho); clear HI738; clear HB; clear HO_5; clear HO747; have HI738 := n0_; have HB := n1_; have HO752 := n2_; clear n0_ n1_ n2_; clear ho hb hg hat))
     go_roundg k1
     case measure => have := HK1.out; omega
     case rel => exact ⟨(y750), (wrap64 (x6_1 - 1)), (t748), (t749), (by first | rfl | (simp; done) | (simp [*]; done)), H', ⟨by have := HK1.out; omega⟩, ⟨HO752.out⟩, ⟨HI738.out⟩, ⟨HB.out⟩⟩
    ·rw [if_neg c8] at H
     exact absurd H (by simp)
   ·rw [if_neg c5] at H
    have c5b0 : decide (0 < x6_1) = false := decide_eq_false c5
    clear c5
    replace H := Option.bind_eq_some_iff.mp H
    obtain ⟨⟨t753, t756, t757⟩, A130, H⟩ := H
    replace H : (some (x5_1, t753)) = some (r1, r2) := H
    have A13 := Aside0.mk A130
    clear A130
    simp only [Option.some.injEq, Prod.mk.injEq] at H
    obtain ⟨rfl, rfl⟩ := H
    go_wp2_with (first | ((with_reducible refine gate_callee (f := 80) rfl ?_); refine goesL_ (some 26) rfl rfl Try.func80 (by kernel_rfl) rfl #[.pointer (some ⟨gb738, 0, none⟩)] rfl (by simp only [List.map_toArray, List.map_cons, List.map_nil] <;> rfl) ?_; (with_reducible refine (spec_l1Cur_stream.calls k1 gb738 l0 x739001_1 x739002_1 t753 t756 t757 w _ ?side1 ?side2 A13.out).mono ?_); (case side1 => exact HI738.out); (case side2 => exact HB.out); rintro e w14 ⟨v754, rfl, ho0, hi, hb, hk⟩; refine ⟨_, rfl, ?_⟩; have n0_ := Aside0.mk (Kd.N_mono (Kd.N_told (Kd.N_oldK (Kd.N_mono (ok := fun k_ => (((w.heap.size ≤ k_)) ∧ k_ ≠ gb738)) HO_5.out (fun k_ hk_ => (⟨hk_, hk_.2⟩ : _ ∧ k_ ≠ gb738))) hk) (Kd.R_base ho0)) (fun _ h_ => h_.1)); have n1_ := Aside0.mk (Kd.R_lower (Kd.R_newM (M := fun k_ => (w.heap.size ≤ k_)) ho0 (below_size HB.out) (fun k_ h_ => h_)) (below_size HB.out)); have n2_ := Aside0.mk (hb); have n3_ := Aside0.mk (hi); clear HO_5; clear HB; clear HI738; have HO_5 := n0_; have HO755 := n1_; have HB := n2_; have HI738 := n3_; clear n0_ n1_ n2_ n3_))
    go_ret2
    exact ⟨_, _, by first | rfl | (simp [errW_none, errW_some] <;> rfl) | (simp [*, errW_none, errW_some] <;> rfl), by (with_reducible repeat (first | apply Kd.N_alloc | apply Kd.N_drewN | apply Kd.N_drew)); exact Kd.N_mono HO_5.out (fun _ hk => ⟨hk.1.1, hk.2⟩), by (with_reducible repeat (first | apply Kd.R_alloc | apply Kd.R_drewN | apply Kd.R_drew)); exact Kd.R_mono HO755.out (fun _ hk => hk.1), HB.out⟩

mutual
def laws_FnFirst.j0 : Nat → List (List (S89)) → List Int → Bool → Bool → Int → Int → Int → Option (Bool)
 | 0, _, _, _, _, _, _, _ => none
 | k + 1, x5, x6, x8, x43, x770000, x770001, x770002 => if x43 = true then (some false) else (laws_FnFirst.l0 k x6 x8 x5 (x5.length : Int) 0 x770000 x770001 x770002)
def laws_FnFirst.l0 : Nat → List Int → Bool → List (List (S89)) → Int → Int → Int → Int → Int → Option (Bool)
 | 0, _, _, _, _, _, _, _, _ => none
 | k + 1, x6, x8, x44, x45, x46, x770000, x770001, x770002 => if x46 < x45 then (if 0 ≤ x46 then (if x46 < (x44.length : Int) then ((impl_FindIn.f k (rd_L8 x44 x46) x6).bind fun bt776 => (if bt776.2.2 = true then (if x8 = true then (if bt776.1 < x770001 then (some false) else (if bt776.1 = x770001 then (if x46 < x770000 then (some false) else (if x46 = x770000 then (if bt776.2.1 = x770002 then (laws_FnFirst.l0 k x6 x8 x44 x45 (wrap64 (x46 + 1)) x770000 x770001 x770002) else (some false)) else (laws_FnFirst.l0 k x6 x8 x44 x45 (wrap64 (x46 + 1)) x770000 x770001 x770002))) else (if x46 = x770000 then (some false) else (laws_FnFirst.l0 k x6 x8 x44 x45 (wrap64 (x46 + 1)) x770000 x770001 x770002)))) else (some false)) else (laws_FnFirst.l0 k x6 x8 x44 x45 (wrap64 (x46 + 1)) x770000 x770001 x770002))) else (none)) else (none)) else (some true)
end
def laws_FnFirst.f (k : Nat) (l0 : List Int) (l1 : List Int) : Option (Bool) := (laws_big.f l0 l1).bind fun t758 => (if t758 = true then (some true) else ((spec_DrawFirstOf.f k l0).bind fun bt759 => ((impl_FirstOf.f k bt759.1 bt759.2).bind fun bt765 => ((spec_FirstOf.f k bt759.1 bt759.2).bind fun bt770 => (if (bt765.2.2.2 != bt770.2.2.2) = true then (laws_FnFirst.j0 k bt759.1 bt759.2 bt765.2.2.2 true bt765.1 bt765.2.1 bt765.2.2.1) else (laws_FnFirst.j0 k bt759.1 bt759.2 bt765.2.2.2 (!(bt765.1 == bt770.1) || (!(bt765.2.1 == bt770.2.1) || (!(bt765.2.2.1 == bt770.2.2.1)))) bt765.1 bt765.2.1 bt765.2.2.1))))))
theorem laws_FnFirst.mono_l : ∀ k, (∀ y0 y1 y2 y3 y4 y5 y6, LeO (laws_FnFirst.j0 k y0 y1 y2 y3 y4 y5 y6) (laws_FnFirst.j0 (k + 1) y0 y1 y2 y3 y4 y5 y6)) ∧ (∀ y0 y1 y2 y3 y4 y5 y6 y7, LeO (laws_FnFirst.l0 k y0 y1 y2 y3 y4 y5 y6 y7) (laws_FnFirst.l0 (k + 1) y0 y1 y2 y3 y4 y5 y6 y7))
 | 0 => ⟨fun _ _ _ _ _ _ _ r h => by simp [laws_FnFirst.j0] at h, fun _ _ _ _ _ _ _ _ r h => by simp [laws_FnFirst.l0] at h⟩
 | k + 1 => by
  obtain ⟨ih0, ih1⟩ := laws_FnFirst.mono_l k
  refine ⟨?_, ?_⟩
  ·intro y0 y1 y2 y3 y4 y5 y6
   unfold laws_FnFirst.j0
   repeat' first
   | (with_reducible exact ih0 _ _ _ _ _ _ _)
   | (with_reducible exact ih1 _ _ _ _ _ _ _ _)
   | (with_reducible exact impl_FindIn.mono _ _ _)
   | (with_reducible exact impl_FirstOf.mono _ _ _)
   | (with_reducible exact spec_DrawFirstOf.mono _ _)
   | (with_reducible exact spec_FirstOf.mono _ _ _)
   | (with_reducible exact LeO.refl _)
   | (with_reducible exact LeO.none _)
   | (with_reducible refine LeO.ite ?_ ?_)
   | (with_reducible refine LeO.bind ?_ (fun _ => ?_))
   | exact ih0 _ _ _ _ _ _ _
   | exact ih1 _ _ _ _ _ _ _ _
   | exact impl_FindIn.mono _ _ _
   | exact impl_FirstOf.mono _ _ _
   | exact spec_DrawFirstOf.mono _ _
   | exact spec_FirstOf.mono _ _ _
   | exact LeO.none _
   | refine LeO.ite ?_ ?_
   | refine LeO.bind ?_ (fun _ => ?_)
  ·intro y0 y1 y2 y3 y4 y5 y6 y7
   unfold laws_FnFirst.l0
   repeat' first
   | (with_reducible exact ih0 _ _ _ _ _ _ _)
   | (with_reducible exact ih1 _ _ _ _ _ _ _ _)
   | (with_reducible exact impl_FindIn.mono _ _ _)
   | (with_reducible exact impl_FirstOf.mono _ _ _)
   | (with_reducible exact spec_DrawFirstOf.mono _ _)
   | (with_reducible exact spec_FirstOf.mono _ _ _)
   | (with_reducible exact LeO.refl _)
   | (with_reducible exact LeO.none _)
   | (with_reducible refine LeO.ite ?_ ?_)
   | (with_reducible refine LeO.bind ?_ (fun _ => ?_))
   | exact ih0 _ _ _ _ _ _ _
   | exact ih1 _ _ _ _ _ _ _ _
   | exact impl_FindIn.mono _ _ _
   | exact impl_FirstOf.mono _ _ _
   | exact spec_DrawFirstOf.mono _ _
   | exact spec_FirstOf.mono _ _ _
   | exact LeO.none _
   | refine LeO.ite ?_ ?_
   | refine LeO.bind ?_ (fun _ => ?_)
theorem laws_FnFirst.mono : ∀ a0 a1 k, LeO (laws_FnFirst.f k a0 a1) (laws_FnFirst.f (k + 1) a0 a1) := by
 intro a0 a1 k
 obtain ⟨ih0, ih1⟩ := laws_FnFirst.mono_l k
 unfold laws_FnFirst.f
 repeat' first
   | (with_reducible exact ih0 _ _ _ _ _ _ _)
   | (with_reducible exact ih1 _ _ _ _ _ _ _ _)
   | (with_reducible exact impl_FindIn.mono _ _ _)
   | (with_reducible exact impl_FirstOf.mono _ _ _)
   | (with_reducible exact spec_DrawFirstOf.mono _ _)
   | (with_reducible exact spec_FirstOf.mono _ _ _)
   | (with_reducible exact LeO.refl _)
   | (with_reducible exact LeO.none _)
   | (with_reducible refine LeO.ite ?_ ?_)
   | (with_reducible refine LeO.bind ?_ (fun _ => ?_))
   | exact ih0 _ _ _ _ _ _ _
   | exact ih1 _ _ _ _ _ _ _ _
   | exact impl_FindIn.mono _ _ _
   | exact impl_FirstOf.mono _ _ _
   | exact spec_DrawFirstOf.mono _ _
   | exact spec_FirstOf.mono _ _ _
   | exact LeO.none _
   | refine LeO.ite ?_ ?_
   | refine LeO.bind ?_ (fun _ => ?_)
set_option maxHeartbeats 8000000 in
set_option maxRecDepth 100000 in
theorem laws_FnFirst.calls (k : Nat) (A0 : Option Addr) (c0 : Nat) (l0 : List Int) (A1 : Option Addr) (c1 : Nat) (l1 : List Int) (r : Bool) (w : World) (hr0 : Kd.C (Kd.int .u8) w A0 l0.length l0) (hc0 : l0.length ≤ c0) (hr1 : Kd.C (Kd.int .u8) w A1 l1.length l1) (hc1 : l1.length ≤ c1) (h : laws_FnFirst.f k l0 l1 = some r) :
  Calls Try.prog 8 #[.slice A0 l0.length c0, .slice A1 l1.length c1] w fun e w' => e = .returned (.bool r) ∧ Below w.heap.size w w' := by
 have hu40 := Try.underlying40
 have HR0 := Aside0.mk hr0
 have HC0 := Aside0.mk hc0
 clear hr0 hc0
 have HR1 := Aside0.mk hr1
 have HC1 := Aside0.mk hc1
 clear hr1 hc1
 have HB := Aside0.mk (Below.refl w.heap.size w)
 have H : ((laws_big.f l0 l1).bind fun t758 => (if t758 = true then (some true) else ((spec_DrawFirstOf.f k l0).bind fun bt759 => ((impl_FirstOf.f k bt759.1 bt759.2).bind fun bt765 => ((spec_FirstOf.f k bt759.1 bt759.2).bind fun bt770 => (if (bt765.2.2.2 != bt770.2.2.2) = true then (laws_FnFirst.j0 k bt759.1 bt759.2 bt765.2.2.2 true bt765.1 bt765.2.1 bt765.2.2.1) else (laws_FnFirst.j0 k bt759.1 bt759.2 bt765.2.2.2 (!(bt765.1 == bt770.1) || (!(bt765.2.1 == bt770.2.1) || (!(bt765.2.2.1 == bt770.2.2.1)))) bt765.1 bt765.2.1 bt765.2.2.1))))))) = some r := h
 clear h
 replace H := Option.bind_eq_some_iff.mp H
 obtain ⟨t758, A30, H⟩ := H
 replace H : (if t758 = true then (some true) else ((spec_DrawFirstOf.f k l0).bind fun bt759 => ((impl_FirstOf.f k bt759.1 bt759.2).bind fun bt765 => ((spec_FirstOf.f k bt759.1 bt759.2).bind fun bt770 => (if (bt765.2.2.2 != bt770.2.2.2) = true then (laws_FnFirst.j0 k bt759.1 bt759.2 bt765.2.2.2 true bt765.1 bt765.2.1 bt765.2.2.1) else (laws_FnFirst.j0 k bt759.1 bt759.2 bt765.2.2.2 (!(bt765.1 == bt770.1) || (!(bt765.2.1 == bt770.2.1) || (!(bt765.2.2.1 == bt770.2.2.1)))) bt765.1 bt765.2.1 bt765.2.2.1)))))) = some r := H
 have A3 := Aside0.mk A30
 clear A30
 by_cases c4 : t758 = true
 ·subst c4
  have H1 : (some true) = some r := by rw [if_pos rfl] at H; exact H
  clear H
  have H := H1
  clear H1
  obtain rfl := Option.some.inj H
  go_enter Try.func8, Try.ntmps8
  go_wp2_with (first | ((with_reducible refine gate_callee (f := 37) rfl ?_); refine goesL_ (some 18) rfl rfl Try.func37 (by kernel_rfl) rfl #[.slice A0 l0.length c0, .slice A1 l1.length c1] rfl (by simp only [List.map_toArray, List.map_cons, List.map_nil] <;> rfl) ?_; (with_reducible refine (laws_big.calls _ _ l0 _ _ l1 true _ ?side1 ?side2 ?side3 ?side4 A3.out).mono ?_); (case side1 => repeat (first | exact HR0.out | (with_reducible refine Kd.C_alloc ?_ _) | (with_reducible refine Kd.C_drewN ?_ _) | (with_reducible refine Kd.C_drew ?_))); (case side2 => exact HC0.out); (case side3 => repeat (first | exact HR1.out | (with_reducible refine Kd.C_alloc ?_ _) | (with_reducible refine Kd.C_drewN ?_ _) | (with_reducible refine Kd.C_drew ?_))); (case side4 => exact HC1.out); rintro e w' ⟨rfl, ⟨nd, rfl⟩⟩; refine ⟨_, rfl, ?_⟩))
  go_ret
  exact ⟨by first | rfl | (simp [errW_none, errW_some] <;> rfl) | (simp [*, errW_none, errW_some] <;> rfl), by repeat (first | (with_reducible first | exact HB.out | apply below_alloc | apply pw_below_drewN | apply below_drew1) | exact HB.out)⟩
 ·replace c4 := Bool.eq_false_iff.mpr c4
  subst c4
  have H1 : ((spec_DrawFirstOf.f k l0).bind fun bt759 => ((impl_FirstOf.f k bt759.1 bt759.2).bind fun bt765 => ((spec_FirstOf.f k bt759.1 bt759.2).bind fun bt770 => (if (bt765.2.2.2 != bt770.2.2.2) = true then (laws_FnFirst.j0 k bt759.1 bt759.2 bt765.2.2.2 true bt765.1 bt765.2.1 bt765.2.2.1) else (laws_FnFirst.j0 k bt759.1 bt759.2 bt765.2.2.2 (!(bt765.1 == bt770.1) || (!(bt765.2.1 == bt770.2.1) || (!(bt765.2.2.1 == bt770.2.2.1)))) bt765.1 bt765.2.1 bt765.2.2.1))))) = some r := by rw [if_neg (show ¬ (false = true) by decide)] at H; exact H
  clear H
  have H := H1
  clear H1
  replace H := Option.bind_eq_some_iff.mp H
  obtain ⟨⟨t759, t762⟩, A50, H⟩ := H
  replace H : ((impl_FirstOf.f k t759 t762).bind fun bt765 => ((spec_FirstOf.f k t759 t762).bind fun bt770 => (if (bt765.2.2.2 != bt770.2.2.2) = true then (laws_FnFirst.j0 k t759 t762 bt765.2.2.2 true bt765.1 bt765.2.1 bt765.2.2.1) else (laws_FnFirst.j0 k t759 t762 bt765.2.2.2 (!(bt765.1 == bt770.1) || (!(bt765.2.1 == bt770.2.1) || (!(bt765.2.2.1 == bt770.2.2.1)))) bt765.1 bt765.2.1 bt765.2.2.1)))) = some r := H
  have A5 := Aside0.mk A50
  clear A50
  replace H := Option.bind_eq_some_iff.mp H
  obtain ⟨⟨t765, t766, t767, t768⟩, A60, H⟩ := H
  replace H : ((spec_FirstOf.f k t759 t762).bind fun bt770 => (if (t768 != bt770.2.2.2) = true then (laws_FnFirst.j0 k t759 t762 t768 true t765 t766 t767) else (laws_FnFirst.j0 k t759 t762 t768 (!(t765 == bt770.1) || (!(t766 == bt770.2.1) || (!(t767 == bt770.2.2.1)))) t765 t766 t767))) = some r := H
  have A6 := Aside0.mk A60
  clear A60
  replace H := Option.bind_eq_some_iff.mp H
  obtain ⟨⟨t770, t771, t772, t773⟩, A70, H⟩ := H
  replace H : (if (t768 != t773) = true then (laws_FnFirst.j0 k t759 t762 t768 true t765 t766 t767) else (laws_FnFirst.j0 k t759 t762 t768 (!(t765 == t770) || (!(t766 == t771) || (!(t767 == t772)))) t765 t766 t767)) = some r := H
  have A7 := Aside0.mk A70
  clear A70
  have HC8 := Aside0.mk H
  clear H
  go_enter Try.func8, Try.ntmps8
  go_upto_region 6 with (first | ((with_reducible refine gate_callee (f := 37) rfl ?_); refine goesL_ (some 18) rfl rfl Try.func37 (by kernel_rfl) rfl #[.slice A0 l0.length c0, .slice A1 l1.length c1] rfl (by simp only [List.map_toArray, List.map_cons, List.map_nil] <;> rfl) ?_; (with_reducible refine (laws_big.calls _ _ l0 _ _ l1 false _ ?side1 ?side2 ?side3 ?side4 A3.out).mono ?_); (case side1 => repeat (first | exact HR0.out | (with_reducible refine Kd.C_alloc ?_ _) | (with_reducible refine Kd.C_drewN ?_ _) | (with_reducible refine Kd.C_drew ?_))); (case side2 => exact HC0.out); (case side3 => repeat (first | exact HR1.out | (with_reducible refine Kd.C_alloc ?_ _) | (with_reducible refine Kd.C_drewN ?_ _) | (with_reducible refine Kd.C_drew ?_))); (case side4 => exact HC1.out); rintro e w' ⟨rfl, ⟨nd, rfl⟩⟩; refine ⟨_, rfl, ?_⟩) | ((with_reducible refine gate_callee (f := 38) rfl ?_); refine goesL_ (some 21) rfl rfl Try.func38 (by kernel_rfl) rfl #[.slice A0 l0.length c0] rfl (by simp only [List.map_toArray, List.map_cons, List.map_nil] <;> rfl) ?_; (with_reducible refine (spec_DrawFirstOf.calls k _ _ l0 t759 t762 _ ?side1 ?side2 A5.out).mono ?_); (case side1 => repeat (first | exact HR0.out | (with_reducible refine Kd.C_alloc ?_ _) | (with_reducible refine Kd.C_drewN ?_ _) | (with_reducible refine Kd.C_drew ?_))); (case side2 => exact HC0.out); rintro e w9 ⟨v760, v763, rfl, ho0, ho1, hb⟩; refine ⟨_, rfl, ?_⟩; have n0_ := Aside0.mk (Kd.N_lower (Kd.N_mono (ok' := fun k_ => some k_ ≠ (v763 : Value).ownBlock) ho0 (fun k_ hk_ => hk_.2)) (below_size (by repeat (first | (with_reducible first | exact HB.out | apply below_alloc | apply pw_below_drewN | apply below_drew1) | exact HB.out)))); have n1_ := Aside0.mk (Kd.R_lower (Kd.R_mono (ok' := fun k_ => True) ho1 (fun _ hk_ => trivial)) (below_size (by repeat (first | (with_reducible first | exact HB.out | apply below_alloc | apply pw_below_drewN | apply below_drew1) | exact HB.out)))); have n2_ := Aside0.mk (below_step (by repeat (first | (with_reducible first | exact HB.out | apply below_alloc | apply pw_below_drewN | apply below_drew1) | exact HB.out)) hb); clear HB; have HO761 := n0_; have HO764 := n1_; have HB := n2_; clear n0_ n1_ n2_; obtain ⟨Ao10, co10, eo10⟩ := Kd.N_slice HO761.out; subst eo10; obtain ⟨Ao11, co11, eo11⟩ := Kd.R_slice HO764.out; subst eo11) | ((with_reducible refine gate_callee (f := 27) rfl ?_); refine goesL_ (some 27) rfl rfl Try.func27 (by kernel_rfl) rfl #[.slice Ao10 t759.length co10, .slice Ao11 t762.length co11] rfl (by simp only [List.map_toArray, List.map_cons, List.map_nil] <;> rfl) ?_; (with_reducible refine (impl_FirstOf.calls k _ _ t759 _ _ t762 t765 t766 t767 t768 _ ?side1 ?side2 ?side3 ?side4 A6.out).mono ?_); (case side1 => repeat (first | exact (Kd.N_reads' HO761.out).2.2 | (with_reducible refine Kd.C_alloc ?_ _) | (with_reducible refine Kd.C_drewN ?_ _) | (with_reducible refine Kd.C_drew ?_))); (case side2 => exact (Kd.N_reads' HO761.out).2.1); (case side3 => repeat (first | exact (Kd.R_reads' HO764.out).2.2 | (with_reducible refine Kd.C_alloc ?_ _) | (with_reducible refine Kd.C_drewN ?_ _) | (with_reducible refine Kd.C_drew ?_))); (case side4 => exact (Kd.R_reads' HO764.out).2.1); rintro e w12 ⟨rfl, hb⟩; refine ⟨_, rfl, ?_⟩; have n0_ := Aside0.mk (Kd.N_below HO761.out hb); have n1_ := Aside0.mk (Kd.R_below HO764.out hb); have n2_ := Aside0.mk (below_step (by repeat (first | (with_reducible first | exact HB.out | apply below_alloc | apply pw_below_drewN | apply below_drew1) | exact HB.out)) hb); clear HO761; clear HO764; clear HB; have HO761 := n0_; have HO764 := n1_; have HB := n2_; clear n0_ n1_ n2_) | ((with_reducible refine gate_dst (N := 7) rfl ?_); refine box_event ?hg (N := 7) ?hd (cs := #[.int .i64 0, .int .i64 0, .int .i64 0]) (t := 40) ?hr ?_; (case hd => rfl); (case hg => rfl); (case hr => go_simp <;> rfl); intro gb769 hg w13 hbox hb; have n0_ := Aside0.mk (Kd.N_below (Kd.N_elderB HO761.out gb769 (Nat.le_of_eq hg.symm)) hb); have n1_ := Aside0.mk (Kd.R_below HO764.out hb); have n2_ := Aside0.mk (below_step (by repeat (first | (with_reducible first | exact HB.out | apply below_alloc | apply pw_below_drewN | apply below_drew1) | exact HB.out)) hb); have n3_ := Aside0.mk (hbox); have n4_ := Aside0.mk ((by rw [hg]; exact (below_size (by repeat (first | (with_reducible first | exact HB.out | apply below_alloc | apply pw_below_drewN | apply below_drew1) | exact HB.out))) : w.heap.size ≤ gb769)); have n5_ := Aside0.mk ((by rw [hg]; exact (below_size (by repeat (first | (with_reducible first | exact HB.out | apply below_alloc | apply pw_below_drewN | apply below_drew1) | exact HB.out))) : w.heap.size ≤ gb769)); clear HO761; clear HO764; clear HB; have HO761 := n0_; have HO764 := n1_; have HB := n2_; have BK769 := n3_; have GW769 := n4_; have GE769 := n5_; clear n0_ n1_ n2_ n3_ n4_ n5_; clear hb hbox hg; have hcz14_0 : w13.cell? ⟨gb769, 0, none⟩ = some (.int .i64 0) := (blk_cell BK769.out 0).trans rfl; have hcz14_1 : w13.cell? ⟨gb769, 1, none⟩ = some (.int .i64 0) := (blk_cell BK769.out 1).trans rfl; have hcz14_2 : w13.cell? ⟨gb769, 2, none⟩ = some (.int .i64 0) := (blk_cell BK769.out 2).trans rfl; have hfz14_0 := blk_frozen BK769.out 0; have hfz14_1 := blk_frozen BK769.out 1; have hfz14_2 := blk_frozen BK769.out 2) | ((with_reducible refine gate_callee (f := 25) rfl ?_); refine goesL_ (some 33) rfl rfl Try.func25 (by kernel_rfl) rfl #[.slice Ao10 t759.length co10, .slice Ao11 t762.length co11] rfl (by simp only [List.map_toArray, List.map_cons, List.map_nil] <;> rfl) ?_; (with_reducible refine (spec_FirstOf.calls k _ _ t759 _ _ t762 t770 t771 t772 t773 _ ?side1 ?side2 ?side3 ?side4 A7.out).mono ?_); (case side1 => refine (Kd.N_reads' (e := 27) (base := w.heap.size) (ok := fun k_ => (some k_ ≠ (.slice Ao11 t762.length co11 : Value).ownBlock ∧ k_ ≠ gb769)) (n := t759.length) (c := co10) ?_).2.2; exact (by (with_reducible repeat (first | apply Kd.N_alloc | apply Kd.N_drewN | apply Kd.N_drew)); exact (Kd.N_mono (Kd.N_far (p := ⟨gb769, 2, none⟩) (Kd.N_far (p := ⟨gb769, 1, none⟩) (Kd.N_far (p := ⟨gb769, 0, none⟩) (Kd.N_mono HO761.out (fun k_ hk => (⟨hk, hk.2⟩ : _ ∧ k_ ≠ gb769))) (fun _ hk => hk.2) (.int .i64 t765)) (fun _ hk => hk.2) (.int .i64 t766)) (fun _ hk => hk.2) (.int .i64 t767)) (fun _ h_ => h_.1)))); (case side2 => exact (Kd.N_reads' HO761.out).2.1); (case side3 => refine (Kd.R_reads' (e := 3) (base := w.heap.size) (ok := fun k_ => True) (n := t762.length) (c := co11) ?_).2.2; exact (by (with_reducible repeat (first | apply Kd.R_alloc | apply Kd.R_drewN | apply Kd.R_drew)); exact (Kd.R_mono (Kd.R_far (p := ⟨gb769, 2, none⟩) (Kd.R_far (p := ⟨gb769, 1, none⟩) (Kd.R_far (p := ⟨gb769, 0, none⟩) (Kd.R_types HO764.out BK769.out (by decide)) (fun _ hk => hk.2) (.int .i64 t765)) (fun _ hk => hk.2) (.int .i64 t766)) (fun _ hk => hk.2) (.int .i64 t767)) (fun _ h_ => h_.1)))); (case side4 => exact (Kd.R_reads' HO764.out).2.1); rintro e w15 ⟨rfl, hb⟩; refine ⟨_, rfl, ?_⟩; have n0_ := Aside0.mk (Kd.N_below (by (with_reducible repeat (first | apply Kd.N_alloc | apply Kd.N_drewN | apply Kd.N_drew)); exact (Kd.N_mono (Kd.N_far (p := ⟨gb769, 2, none⟩) (Kd.N_far (p := ⟨gb769, 1, none⟩) (Kd.N_far (p := ⟨gb769, 0, none⟩) (Kd.N_mono HO761.out (fun k_ hk => (⟨hk, hk.2⟩ : _ ∧ k_ ≠ gb769))) (fun _ hk => hk.2) (.int .i64 t765)) (fun _ hk => hk.2) (.int .i64 t766)) (fun _ hk => hk.2) (.int .i64 t767)) (fun _ h_ => h_.1))) hb); have n1_ := Aside0.mk (Kd.R_below (by (with_reducible repeat (first | apply Kd.R_alloc | apply Kd.R_drewN | apply Kd.R_drew)); exact (Kd.R_mono (Kd.R_far (p := ⟨gb769, 2, none⟩) (Kd.R_far (p := ⟨gb769, 1, none⟩) (Kd.R_far (p := ⟨gb769, 0, none⟩) (Kd.R_types HO764.out BK769.out (by decide)) (fun _ hk => hk.2) (.int .i64 t765)) (fun _ hk => hk.2) (.int .i64 t766)) (fun _ hk => hk.2) (.int .i64 t767)) (fun _ h_ => h_.1))) hb); have n2_ := Aside0.mk (blk_below (g := gb769) (o := .cells #[.int .i64 t765, .int .i64 t766, .int .i64 t767] 40 (0, 0)) (by (with_reducible repeat (first | refine blk_drewN ?_ _ | refine blk_drew ?_ | refine blk_alloc ?_ _)); refine blk_put (cs := #[.int .i64 t765, .int .i64 t766, .int .i64 0]) ?_ 2 _ rfl; (with_reducible repeat (first | refine blk_drewN ?_ _ | refine blk_drew ?_ | refine blk_alloc ?_ _)); refine blk_put (cs := #[.int .i64 t765, .int .i64 0, .int .i64 0]) ?_ 1 _ rfl; (with_reducible repeat (first | refine blk_drewN ?_ _ | refine blk_drew ?_ | refine blk_alloc ?_ _)); refine blk_put (cs := #[.int .i64 0, .int .i64 0, .int .i64 0]) ?_ 0 _ rfl; (with_reducible repeat (first | refine blk_drewN ?_ _ | refine blk_drew ?_ | refine blk_alloc ?_ _)); exact BK769.out) hb); have n3_ := Aside0.mk (below_step (by repeat (first | (with_reducible first | exact HB.out | apply below_alloc | apply pw_below_drewN | apply below_drew1 | refine below_set ?_ GE769.out) | exact HB.out)) hb); clear HO761; clear HO764; clear BK769; clear HB; have HO761 := n0_; have HO764 := n1_; have BK769 := n2_; have HB := n3_; clear n0_ n1_ n2_ n3_) | ((with_reducible refine gate_dst (N := 9) rfl ?_); refine box_event ?hg (N := 9) ?hd (cs := #[.int .i64 0, .int .i64 0, .int .i64 0]) (t := 40) ?hr ?_; (case hd => rfl); (case hg => rfl); (case hr => go_simp <;> rfl); intro gb774 hg w16 hbox hb; have n0_ := Aside0.mk (Kd.N_below (Kd.N_elderB HO761.out gb774 (Nat.le_of_eq hg.symm)) hb); have n1_ := Aside0.mk (Kd.R_below HO764.out hb); have n2_ := Aside0.mk (blk_below (g := gb769) (o := .cells #[.int .i64 t765, .int .i64 t766, .int .i64 t767] 40 (0, 0)) (by (with_reducible repeat (first | refine blk_drewN ?_ _ | refine blk_drew ?_ | refine blk_alloc ?_ _)); exact BK769.out) hb); have n3_ := Aside0.mk (below_step (by repeat (first | (with_reducible first | exact HB.out | apply below_alloc | apply pw_below_drewN | apply below_drew1 | refine below_set ?_ GE769.out) | exact HB.out)) hb); have n4_ := Aside0.mk (hbox); have n5_ := Aside0.mk ((by rw [hg]; exact (below_size (by repeat (first | (with_reducible first | exact HB.out | apply below_alloc | apply pw_below_drewN | apply below_drew1 | refine below_set ?_ GE769.out) | exact HB.out))) : w.heap.size ≤ gb774)); have n6_ := Aside0.mk ((by rw [hg]; exact (below_size (by repeat (first | (with_reducible first | exact HB.out | apply below_alloc | apply pw_below_drewN | apply below_drew1 | refine below_set ?_ GE769.out) | exact HB.out))) : w.heap.size ≤ gb774)); have n7_ := Aside0.mk ((by rw [hg]; exact Nat.ne_of_lt (blk_lt (g := gb769) (o := .cells #[.int .i64 t765, .int .i64 t766, .int .i64 t767] 40 (0, 0)) (by (with_reducible repeat (first | refine blk_drewN ?_ _ | refine blk_drew ?_ | refine blk_alloc ?_ _)); exact BK769.out)) : gb769 ≠ gb774)); have n8_ := Aside0.mk ((by rw [hg]; exact Nat.ne_of_gt (blk_lt (g := gb769) (o := .cells #[.int .i64 t765, .int .i64 t766, .int .i64 t767] 40 (0, 0)) (by (with_reducible repeat (first | refine blk_drewN ?_ _ | refine blk_drew ?_ | refine blk_alloc ?_ _)); exact BK769.out)) : gb774 ≠ gb769)); clear HO761; clear HO764; clear BK769; clear HB; have HO761 := n0_; have HO764 := n1_; have BK769 := n2_; have HB := n3_; have BK774 := n4_; have GW774 := n5_; have GE774 := n6_; have NB769_774 := n7_; have NB774_769 := n8_; clear n0_ n1_ n2_ n3_ n4_ n5_ n6_ n7_ n8_; clear hb hbox hg; have hnb17 := NB774_769.out; have hnc17 := NB769_774.out; have hcz18_0 : w16.cell? ⟨gb774, 0, none⟩ = some (.int .i64 0) := (blk_cell BK774.out 0).trans rfl; have hcz18_1 : w16.cell? ⟨gb774, 1, none⟩ = some (.int .i64 0) := (blk_cell BK774.out 1).trans rfl; have hcz18_2 : w16.cell? ⟨gb774, 2, none⟩ = some (.int .i64 0) := (blk_cell BK774.out 2).trans rfl; have hfz18_0 := blk_frozen BK774.out 0; have hfz18_1 := blk_frozen BK774.out 1; have hfz18_2 := blk_frozen BK774.out 2))
  (try simp only [Act.put, List.setIfInBounds_toArray, List.set_cons_zero, List.set_cons_succ])
  go_cut [43] (fun v43 wc => ∃ (kq : Nat) (x43_7 : Bool), v43 = .bool x43_7 ∧ Aside0 (laws_FnFirst.j0 kq t759 t762 t768 x43_7 t765 t766 t767 = some r) ∧ Aside0 (kq ≤ k) ∧ Aside0 (Kd.N (Kd.slice 89 k89) 27 wc w.heap.size (fun k_ => some k_ ≠ ((.slice Ao11 t762.length co11) : Value).ownBlock ∧ k_ ≠ gb769 ∧ k_ ≠ gb774) (.slice Ao10 t759.length co10) t759) ∧ Aside0 (Kd.R (Kd.int .i64) 3 wc w.heap.size (fun _ => True) (.slice Ao11 t762.length co11) t762) ∧ Aside0 (wc.heap[gb769]? = some (.cells #[.int .i64 t765, .int .i64 t766, .int .i64 t767] 40 (0, 0))) ∧ Aside0 (wc.heap[gb774]? = some (.cells #[.int .i64 t770, .int .i64 t771, .int .i64 t772] 40 (0, 0))) ∧ Aside0 (Below w.heap.size w wc))
  case first =>
   have H := HC8.out
   clear HC8
   by_cases c19 : (t768 != t773) = true
   ·rw [if_pos c19] at H
    have c19b0 : (t768 != t773) = true := c19
    (try (have c19b1 : decide (t768 = t773) = false := by simpa using c19))
    (try (have c19b2 : (t768 == t773) = false := by simpa using c19))
    (try (have c19b3 : ¬ (t768 = t773) := by simpa using c19))
    clear c19
    (first | rw [c19b0] | (simp only [i64_w, i32_w]; rw [c19b0]) | skip)
    have H' := Aside0.mk H
    clear H
    go_wp2
    go_meet
    case rel => exact ⟨_, (true), (by first | rfl | (simp; done) | (simp [*]; done)), H', ⟨by first | omega | exact Nat.le_refl _⟩, ⟨by (with_reducible repeat (first | apply Kd.N_alloc | apply Kd.N_drewN | apply Kd.N_drew)); exact Kd.N_mono (Kd.N_far (p := ⟨gb774, 2, none⟩) (Kd.N_far (p := ⟨gb774, 1, none⟩) (Kd.N_far (p := ⟨gb774, 0, none⟩) (Kd.N_mono HO761.out (fun k_ hk => (⟨hk, hk.2⟩ : _ ∧ k_ ≠ gb774))) (fun _ hk => hk.2) (.int .i64 t770)) (fun _ hk => hk.2) (.int .i64 t771)) (fun _ hk => hk.2) (.int .i64 t772)) (fun _ hk => ⟨hk.1.1.1, ⟨hk.1.1.2, hk.1.2⟩⟩)⟩, ⟨by (with_reducible repeat (first | apply Kd.R_alloc | apply Kd.R_drewN | apply Kd.R_drew)); exact Kd.R_mono (Kd.R_far (p := ⟨gb774, 2, none⟩) (Kd.R_far (p := ⟨gb774, 1, none⟩) (Kd.R_far (p := ⟨gb774, 0, none⟩) (Kd.R_types HO764.out BK774.out (by decide)) (fun _ hk => hk.2) (.int .i64 t770)) (fun _ hk => hk.2) (.int .i64 t771)) (fun _ hk => hk.2) (.int .i64 t772)) (fun _ hk => trivial)⟩, ⟨by (with_reducible repeat (first | refine blk_drewN ?_ _ | refine blk_drew ?_ | refine blk_alloc ?_ _)); refine blk_far ?_ NB769_774.out _; (with_reducible repeat (first | refine blk_drewN ?_ _ | refine blk_drew ?_ | refine blk_alloc ?_ _)); refine blk_far ?_ NB769_774.out _; (with_reducible repeat (first | refine blk_drewN ?_ _ | refine blk_drew ?_ | refine blk_alloc ?_ _)); refine blk_far ?_ NB769_774.out _; (with_reducible repeat (first | refine blk_drewN ?_ _ | refine blk_drew ?_ | refine blk_alloc ?_ _)); exact BK769.out⟩, ⟨by (with_reducible repeat (first | refine blk_drewN ?_ _ | refine blk_drew ?_ | refine blk_alloc ?_ _)); refine blk_put (cs := #[.int .i64 t770, .int .i64 t771, .int .i64 0]) ?_ 2 _ rfl; (with_reducible repeat (first | refine blk_drewN ?_ _ | refine blk_drew ?_ | refine blk_alloc ?_ _)); refine blk_put (cs := #[.int .i64 t770, .int .i64 0, .int .i64 0]) ?_ 1 _ rfl; (with_reducible repeat (first | refine blk_drewN ?_ _ | refine blk_drew ?_ | refine blk_alloc ?_ _)); refine blk_put (cs := #[.int .i64 0, .int .i64 0, .int .i64 0]) ?_ 0 _ rfl; (with_reducible repeat (first | refine blk_drewN ?_ _ | refine blk_drew ?_ | refine blk_alloc ?_ _)); exact BK774.out⟩, ⟨by repeat (first | (with_reducible first | exact HB.out | apply below_alloc | apply pw_below_drewN | apply below_drew1 | refine below_set ?_ GE769.out | refine below_set ?_ GE774.out) | exact HB.out)⟩⟩
   ·rw [if_neg c19] at H
    have c19b0 : (t768 != t773) = false := by simpa using c19
    (try (have c19b1 : decide (t768 = t773) = true := by simpa using c19))
    (try (have c19b2 : (t768 == t773) = true := by simpa using c19))
    clear c19
    (first | rw [c19b0] | (simp only [i64_w, i32_w]; rw [c19b0]) | skip)
    have H' := Aside0.mk H
    clear H
    have hnb20 := NB769_774.out
    have hnc20 := NB774_769.out
    have hcz21_0 : w16.cell? ⟨gb769, 0, none⟩ = some (.int .i64 t765) := (blk_cell BK769.out 0).trans rfl
    have hcz21_1 : w16.cell? ⟨gb769, 1, none⟩ = some (.int .i64 t766) := (blk_cell BK769.out 1).trans rfl
    have hcz21_2 : w16.cell? ⟨gb769, 2, none⟩ = some (.int .i64 t767) := (blk_cell BK769.out 2).trans rfl
    have hfz21_0 := blk_frozen BK769.out 0
    have hfz21_1 := blk_frozen BK769.out 1
    have hfz21_2 := blk_frozen BK769.out 2
    have hcz22_0 : w16.cell? ⟨gb774, 0, none⟩ = some (.int .i64 0) := (blk_cell BK774.out 0).trans rfl
    have hcz22_1 : w16.cell? ⟨gb774, 1, none⟩ = some (.int .i64 0) := (blk_cell BK774.out 1).trans rfl
    have hcz22_2 : w16.cell? ⟨gb774, 2, none⟩ = some (.int .i64 0) := (blk_cell BK774.out 2).trans rfl
    have hfz22_0 := blk_frozen BK774.out 0
    have hfz22_1 := blk_frozen BK774.out 1
    have hfz22_2 := blk_frozen BK774.out 2
    go_wp2
    go_meet
    case rel => exact ⟨_, ((!(t765 == t770) || (!(t766 == t771) || (!(t767 == t772))))), (by first | rfl | (simp; done) | (simp [*]; done)), H', ⟨by first | omega | exact Nat.le_refl _⟩, ⟨by (with_reducible repeat (first | apply Kd.N_alloc | apply Kd.N_drewN | apply Kd.N_drew)); exact Kd.N_mono (Kd.N_far (p := ⟨gb774, 2, none⟩) (Kd.N_far (p := ⟨gb774, 1, none⟩) (Kd.N_far (p := ⟨gb774, 0, none⟩) (Kd.N_mono HO761.out (fun k_ hk => (⟨hk, hk.2⟩ : _ ∧ k_ ≠ gb774))) (fun _ hk => hk.2) (.int .i64 t770)) (fun _ hk => hk.2) (.int .i64 t771)) (fun _ hk => hk.2) (.int .i64 t772)) (fun _ hk => ⟨hk.1.1.1, ⟨hk.1.1.2, hk.1.2⟩⟩)⟩, ⟨by (with_reducible repeat (first | apply Kd.R_alloc | apply Kd.R_drewN | apply Kd.R_drew)); exact Kd.R_mono (Kd.R_far (p := ⟨gb774, 2, none⟩) (Kd.R_far (p := ⟨gb774, 1, none⟩) (Kd.R_far (p := ⟨gb774, 0, none⟩) (Kd.R_types HO764.out BK774.out (by decide)) (fun _ hk => hk.2) (.int .i64 t770)) (fun _ hk => hk.2) (.int .i64 t771)) (fun _ hk => hk.2) (.int .i64 t772)) (fun _ hk => trivial)⟩, ⟨by (with_reducible repeat (first | refine blk_drewN ?_ _ | refine blk_drew ?_ | refine blk_alloc ?_ _)); refine blk_far ?_ NB769_774.out _; (with_reducible repeat (first | refine blk_drewN ?_ _ | refine blk_drew ?_ | refine blk_alloc ?_ _)); refine blk_far ?_ NB769_774.out _; (with_reducible repeat (first | refine blk_drewN ?_ _ | refine blk_drew ?_ | refine blk_alloc ?_ _)); refine blk_far ?_ NB769_774.out _; (with_reducible repeat (first | refine blk_drewN ?_ _ | refine blk_drew ?_ | refine blk_alloc ?_ _)); exact BK769.out⟩, ⟨by (with_reducible repeat (first | refine blk_drewN ?_ _ | refine blk_drew ?_ | refine blk_alloc ?_ _)); refine blk_put (cs := #[.int .i64 t770, .int .i64 t771, .int .i64 0]) ?_ 2 _ rfl; (with_reducible repeat (first | refine blk_drewN ?_ _ | refine blk_drew ?_ | refine blk_alloc ?_ _)); refine blk_put (cs := #[.int .i64 t770, .int .i64 0, .int .i64 0]) ?_ 1 _ rfl; (with_reducible repeat (first | refine blk_drewN ?_ _ | refine blk_drew ?_ | refine blk_alloc ?_ _)); refine blk_put (cs := #[.int .i64 0, .int .i64 0, .int .i64 0]) ?_ 0 _ rfl; (with_reducible repeat (first | refine blk_drewN ?_ _ | refine blk_drew ?_ | refine blk_alloc ?_ _)); exact BK774.out⟩, ⟨by repeat (first | (with_reducible first | exact HB.out | apply below_alloc | apply pw_below_drewN | apply below_drew1 | refine below_set ?_ GE769.out | refine below_set ?_ GE774.out) | exact HB.out)⟩⟩
  case rest =>
   clear HC8
   try clear c1
   try clear c2
   try clear p2
   try clear c3
   try clear c4
   try clear c8
   try clear c17
   try clear c19
   try clear c19b0
   try clear c19b1
   try clear c19b2
   try clear c20
   try clear hcz14_0
   try clear hcz14_1
   try clear hcz14_2
   try clear hcz18_0
   try clear hcz18_1
   try clear hcz18_2
   try clear hcz21_0
   try clear hcz21_1
   try clear hcz21_2
   try clear hcz22_0
   try clear hcz22_1
   try clear hcz22_2
   try clear hfz14_0
   try clear hfz14_1
   try clear hfz14_2
   try clear hfz18_0
   try clear hfz18_1
   try clear hfz18_2
   try clear hfz21_0
   try clear hfz21_1
   try clear hfz21_2
   try clear hfz22_0
   try clear hfz22_1
   try clear hfz22_2
   obtain ⟨kq, x43_7, rfl, HA, HJ7, HO_5, HO_6, BK769, BK774, HB⟩ := hcut
   cases kq with
   | zero => exact absurd HA.out (by simp [laws_FnFirst.j0])
   | succ kj7 =>
    have H := HA.out
    clear HA
    simp only [laws_FnFirst.j0] at H
    by_cases c23 : x43_7 = true
    ·subst c23
     have H1 : (some false) = some r := by rw [if_pos rfl] at H; exact H
     clear H
     have H := H1
     clear H1
     obtain rfl := Option.some.inj H
     go_wp2
     go_ret
     exact ⟨by first | rfl | (simp [errW_none, errW_some] <;> rfl) | (simp [*, errW_none, errW_some] <;> rfl), HB.out⟩
    ·replace c23 := Bool.eq_false_iff.mpr c23
     subst c23
     have H1 : (laws_FnFirst.l0 kj7 t762 t768 t759 (t759.length : Int) 0 t765 t766 t767) = some r := by rw [if_neg (show ¬ (false = true) by decide)] at H; exact H
     clear H
     have H := H1
     clear H1
     have H' := Aside0.mk H
     clear H
     go_wp2
     go_loopg [46] kj7 (fun kq v46 w' => ∃ (x46_2 : Int), v46 = .int .i64 x46_2 ∧ Aside0 (laws_FnFirst.l0 kq t762 t768 t759 (t759.length : Int) x46_2 t765 t766 t767 = some r) ∧ Aside0 (kq ≤ kj7) ∧ Aside0 (Kd.R (Kd.int .i64) 3 w' w.heap.size (fun _ => True) (.slice Ao11 t762.length co11) t762) ∧ Aside0 (Kd.N (Kd.slice 89 k89) 27 w' w.heap.size (fun k_ => some k_ ≠ ((.slice Ao11 t762.length co11) : Value).ownBlock ∧ k_ ≠ gb769 ∧ k_ ≠ gb774) (.slice Ao10 t759.length co10) t759) ∧ Aside0 (w'.heap[gb769]? = some (.cells #[.int .i64 t765, .int .i64 t766, .int .i64 t767] 40 (0, 0))) ∧ Aside0 (w'.heap[gb774]? = some (.cells #[.int .i64 t770, .int .i64 t771, .int .i64 t772] 40 (0, 0))) ∧ Aside0 (Below w.heap.size w w'))
     case atStart => exact ⟨(0), (by first | rfl | (simp; done) | (simp [*]; done)), H', ⟨Nat.le_refl _⟩, ⟨HO_6.out⟩, ⟨HO_5.out⟩, ⟨by (with_reducible repeat (first | refine blk_drewN ?_ _ | refine blk_drew ?_ | refine blk_alloc ?_ _)); exact BK769.out⟩, ⟨by (with_reducible repeat (first | refine blk_drewN ?_ _ | refine blk_drew ?_ | refine blk_alloc ?_ _)); exact BK774.out⟩, ⟨HB.out⟩⟩
     case round =>
      clear H'
      try clear c1
      try clear c2
      try clear p2
      try clear c3
      try clear c4
      try clear c8
      try clear c17
      try clear c19
      try clear c19b0
      try clear c19b1
      try clear c19b2
      try clear c20
      try clear c23
      try clear hcz14_0
      try clear hcz14_1
      try clear hcz14_2
      try clear hcz18_0
      try clear hcz18_1
      try clear hcz18_2
      try clear hcz21_0
      try clear hcz21_1
      try clear hcz21_2
      try clear hcz22_0
      try clear hcz22_1
      try clear hcz22_2
      try clear hfz14_0
      try clear hfz14_1
      try clear hfz14_2
      try clear hfz18_0
      try clear hfz18_1
      try clear hfz18_2
      try clear hfz21_0
      try clear hfz21_1
      try clear hfz21_2
      try clear hfz22_0
      try clear hfz22_1
      try clear hfz22_2
      try clear p2
      obtain ⟨x46_2, rfl, HA, HK2, HO_6, HO_44, BK769, BK774, HB⟩ := hrel
      cases gk with
      | zero => exact absurd HA.out (by simp [laws_FnFirst.l0])
      | succ k2 =>
       have H := HA.out
       clear HA
       simp only [laws_FnFirst.l0] at H
       by_cases c24 : x46_2 < (t759.length : Int)
       ·rw [if_pos c24] at H
        have c24b0 : decide (x46_2 < (t759.length : Int)) = true := decide_eq_true c24
        clear c24
        by_cases c25 : 0 ≤ x46_2
        ·rw [if_pos c25] at H
         have c25b0 : decide (0 ≤ x46_2) = true := decide_eq_true c25
         clear c25
         by_cases c26 : x46_2 < (t759.length : Int)
         ·rw [if_pos c26] at H
          have c26b0 : decide (x46_2 < (t759.length : Int)) = true := decide_eq_true c26
          clear c26
          replace H := Option.bind_eq_some_iff.mp H
          obtain ⟨⟨t776, t777, t778⟩, A270, H⟩ := H
          replace H : (if t778 = true then (if t768 = true then (if t776 < t766 then (some false) else (if t776 = t766 then (if x46_2 < t765 then (some false) else (if x46_2 = t765 then (if t777 = t767 then (laws_FnFirst.l0 k2 t762 t768 t759 (t759.length : Int) (wrap64 (x46_2 + 1)) t765 t766 t767) else (some false)) else (laws_FnFirst.l0 k2 t762 t768 t759 (t759.length : Int) (wrap64 (x46_2 + 1)) t765 t766 t767))) else (if x46_2 = t765 then (some false) else (laws_FnFirst.l0 k2 t762 t768 t759 (t759.length : Int) (wrap64 (x46_2 + 1)) t765 t766 t767)))) else (some false)) else (laws_FnFirst.l0 k2 t762 t768 t759 (t759.length : Int) (wrap64 (x46_2 + 1)) t765 t766 t767)) = some r := H
          have A27 := Aside0.mk A270
          clear A270
          by_cases c28 : t778 = true
          ·subst c28
           have H1 : (if t768 = true then (if t776 < t766 then (some false) else (if t776 = t766 then (if x46_2 < t765 then (some false) else (if x46_2 = t765 then (if t777 = t767 then (laws_FnFirst.l0 k2 t762 t768 t759 (t759.length : Int) (wrap64 (x46_2 + 1)) t765 t766 t767) else (some false)) else (laws_FnFirst.l0 k2 t762 t768 t759 (t759.length : Int) (wrap64 (x46_2 + 1)) t765 t766 t767))) else (if x46_2 = t765 then (some false) else (laws_FnFirst.l0 k2 t762 t768 t759 (t759.length : Int) (wrap64 (x46_2 + 1)) t765 t766 t767)))) else (some false)) = some r := by rw [if_pos rfl] at H; exact H
           clear H
           have H := H1
           clear H1
           by_cases c29 : t768 = true
           ·subst c29
            have H1 : (if t776 < t766 then (some false) else (if t776 = t766 then (if x46_2 < t765 then (some false) else (if x46_2 = t765 then (if t777 = t767 then (laws_FnFirst.l0 k2 t762 true t759 (t759.length : Int) (wrap64 (x46_2 + 1)) t765 t766 t767) else (some false)) else (laws_FnFirst.l0 k2 t762 true t759 (t759.length : Int) (wrap64 (x46_2 + 1)) t765 t766 t767))) else (if x46_2 = t765 then (some false) else (laws_FnFirst.l0 k2 t762 true t759 (t759.length : Int) (wrap64 (x46_2 + 1)) t765 t766 t767)))) = some r := by rw [if_pos rfl] at H; exact H
            clear H
            have H := H1
            clear H1
            by_cases c30 : t776 < t766
            ·rw [if_pos c30] at H
             have c30b0 : decide (t776 < t766) = true := decide_eq_true c30
             clear c30
             obtain rfl := Option.some.inj H
             have p775 : 0 ≤ (x46_2 : Int) := of_decide_eq_true (by assumption)
             have q775 : x46_2 < (t759.length : Int) := of_decide_eq_true (by assumption)
             obtain ⟨ad775, A775_0, c775_0, e775, hx775_0, hl775_0, hi775_0⟩ := at_L8 (Kd.N_reads' HO_44.out).2.2 x46_2 p775 q775
             cases e775
             obtain ⟨ce775, hce775, hMe775, hcc775⟩ := Kd.N_get HO_44.out [] x46_2 p775 (by first | exact q775 | exact of_decide_eq_true (by assumption) | (have e_ := (Kd.N_reads' HO_44.out).1; omega))
             obtain ⟨ua775_0, uc775_0, rfl, ul775_0, ge775_0⟩ := Kd.FK_slice_open hMe775
             have hv775_0 := hcc775 0 _ rfl
             rw [Nat.add_zero, show ((Kd.slice 89 k89)).sz = 1 from rfl, Nat.mul_one] at hv775_0
             replace hv775_0 := Option.some.inj (hv775_0.symm.trans hx775_0)
             injection hv775_0 with hva_ hvn_ hvc_
             rw [hva_] at ge775_0
             rw [hvc_] at ul775_0
             have HL775_0 := Aside0.mk (show Kd.V k89 89 _ w.heap.size _ _ (rd_L8 t759 x46_2) from Kd.V_mk ul775_0 ge775_0)
             clear hva_ hvn_ hvc_ ge775_0 ul775_0
             clear hcc775 hce775
             have HR775_0 := Aside0.mk hi775_0
             have HC775_0 := Aside0.mk hl775_0
             clear hi775_0 hl775_0
             replace p775 := eq_true p775
             replace q775 := eq_true q775
             go_wp2_with (first | ((with_reducible refine gate_callee (f := 17) rfl ?_); refine goesL_ (some 54) rfl rfl Try.func17 (by kernel_rfl) rfl #[.slice A775_0 (rd_L8 t759 x46_2).length c775_0, .slice Ao11 t762.length co11] rfl (by simp only [List.map_toArray, List.map_cons, List.map_nil] <;> rfl) ?_; (with_reducible refine (impl_FindIn.calls k2 _ _ (rd_L8 t759 x46_2) _ _ t762 t776 t777 true _ ?side1 ?side2 ?side3 ?side4 A27.out).mono ?_); (case side1 => repeat (first | exact (by repeat (first | (with_reducible exact HR775_0.out) | (with_reducible refine Kd.C_alloc ?_ _) | (with_reducible refine Kd.C_drewN ?_ _) | (with_reducible refine Kd.C_drew ?_) | exact HR775_0.out)) | (with_reducible refine Kd.C_alloc ?_ _) | (with_reducible refine Kd.C_drewN ?_ _) | (with_reducible refine Kd.C_drew ?_))); (case side2 => exact HC775_0.out); (case side3 => repeat (first | exact (Kd.R_reads' HO_6.out).2.2 | (with_reducible refine Kd.C_alloc ?_ _) | (with_reducible refine Kd.C_drewN ?_ _) | (with_reducible refine Kd.C_drew ?_))); (case side4 => exact (Kd.R_reads' HO_6.out).2.1); rintro e w31 ⟨rfl, hb⟩; refine ⟨_, rfl, ?_⟩; have n0_ := Aside0.mk (Kd.R_below HO_6.out hb); have n1_ := Aside0.mk (Kd.N_below HO_44.out hb); have n2_ := Aside0.mk (Kd.V_below HL775_0.out hb); have n3_ := Aside0.mk (blk_below (g := gb769) (o := .cells #[.int .i64 t765, .int .i64 t766, .int .i64 t767] 40 (0, 0)) (by (with_reducible repeat (first | refine blk_drewN ?_ _ | refine blk_drew ?_ | refine blk_alloc ?_ _)); exact BK769.out) hb); have n4_ := Aside0.mk (blk_below (g := gb774) (o := .cells #[.int .i64 t770, .int .i64 t771, .int .i64 t772] 40 (0, 0)) (by (with_reducible repeat (first | refine blk_drewN ?_ _ | refine blk_drew ?_ | refine blk_alloc ?_ _)); exact BK774.out) hb); have n5_ := Aside0.mk (Kd.C_below (by repeat (first | (with_reducible exact HR775_0.out) | (with_reducible refine Kd.C_alloc ?_ _) | (with_reducible refine Kd.C_drewN ?_ _) | (with_reducible refine Kd.C_drew ?_) | exact HR775_0.out)) hb); have n6_ := Aside0.mk (below_step HB.out hb); clear HO_6; clear HO_44; clear HL775_0; clear BK769; clear BK774; clear HR775_0; clear HB; have HO_6 := n0_; have HO_44 := n1_; have HL775_0 := n2_; have BK769 := n3_; have BK774 := n4_; have HR775_0 := n5_; have HB := n6_; clear n0_ n1_ n2_ n3_ n4_ n5_ n6_; have hnb32 := NB769_774.out; have hnc32 := NB774_769.out; have hcz33_0 : w31.cell? ⟨gb769, 0, none⟩ = some (.int .i64 t765) := (blk_cell BK769.out 0).trans rfl; have hcz33_1 : w31.cell? ⟨gb769, 1, none⟩ = some (.int .i64 t766) := (blk_cell BK769.out 1).trans rfl; have hcz33_2 : w31.cell? ⟨gb769, 2, none⟩ = some (.int .i64 t767) := (blk_cell BK769.out 2).trans rfl; have hfz33_0 := blk_frozen BK769.out 0; have hfz33_1 := blk_frozen BK769.out 1; have hfz33_2 := blk_frozen BK769.out 2))
             go_ret
             exact ⟨by first | rfl | (simp [errW_none, errW_some] <;> rfl) | (simp [*, errW_none, errW_some] <;> rfl), HB.out⟩
            ·rw [if_neg c30] at H
             have c30b0 : decide (t776 < t766) = false := decide_eq_false c30
             clear c30
             by_cases c34 : t776 = t766
             ·rw [if_pos c34] at H
              have c34b0 : (t776 == t766) = true := beq_iff_eq.mpr c34
              have c34b1 : (t776 != t766) = false := bne_eq_false_iff_eq.mpr c34
              clear c34
              by_cases c35 : x46_2 < t765
              ·rw [if_pos c35] at H
               have c35b0 : decide (x46_2 < t765) = true := decide_eq_true c35
               clear c35
               obtain rfl := Option.some.inj H
               have p775 : 0 ≤ (x46_2 : Int) := of_decide_eq_true (by assumption)
               have q775 : x46_2 < (t759.length : Int) := of_decide_eq_true (by assumption)
               obtain ⟨ad775, A775_0, c775_0, e775, hx775_0, hl775_0, hi775_0⟩ := at_L8 (Kd.N_reads' HO_44.out).2.2 x46_2 p775 q775
               cases e775
               obtain ⟨ce775, hce775, hMe775, hcc775⟩ := Kd.N_get HO_44.out [] x46_2 p775 (by first | exact q775 | exact of_decide_eq_true (by assumption) | (have e_ := (Kd.N_reads' HO_44.out).1; omega))
               obtain ⟨ua775_0, uc775_0, rfl, ul775_0, ge775_0⟩ := Kd.FK_slice_open hMe775
               have hv775_0 := hcc775 0 _ rfl
               rw [Nat.add_zero, show ((Kd.slice 89 k89)).sz = 1 from rfl, Nat.mul_one] at hv775_0
               replace hv775_0 := Option.some.inj (hv775_0.symm.trans hx775_0)
               injection hv775_0 with hva_ hvn_ hvc_
               rw [hva_] at ge775_0
               rw [hvc_] at ul775_0
               have HL775_0 := Aside0.mk (show Kd.V k89 89 _ w.heap.size _ _ (rd_L8 t759 x46_2) from Kd.V_mk ul775_0 ge775_0)
               clear hva_ hvn_ hvc_ ge775_0 ul775_0
               clear hcc775 hce775
               have HR775_0 := Aside0.mk hi775_0
               have HC775_0 := Aside0.mk hl775_0
               clear hi775_0 hl775_0
               replace p775 := eq_true p775
               replace q775 := eq_true q775
               go_wp2_with (first | ((with_reducible refine gate_callee (f := 17) rfl ?_); refine goesL_ (some 54) rfl rfl Try.func17 (by kernel_rfl) rfl #[.slice A775_0 (rd_L8 t759 x46_2).length c775_0, .slice Ao11 t762.length co11] rfl (by simp only [List.map_toArray, List.map_cons, List.map_nil] <;> rfl) ?_; (with_reducible refine (impl_FindIn.calls k2 _ _ (rd_L8 t759 x46_2) _ _ t762 t776 t777 true _ ?side1 ?side2 ?side3 ?side4 A27.out).mono ?_); (case side1 => repeat (first | exact (by repeat (first | (with_reducible exact HR775_0.out) | (with_reducible refine Kd.C_alloc ?_ _) | (with_reducible refine Kd.C_drewN ?_ _) | (with_reducible refine Kd.C_drew ?_) | exact HR775_0.out)) | (with_reducible refine Kd.C_alloc ?_ _) | (with_reducible refine Kd.C_drewN ?_ _) | (with_reducible refine Kd.C_drew ?_))); (case side2 => exact HC775_0.out); (case side3 => repeat (first | exact (Kd.R_reads' HO_6.out).2.2 | (with_reducible refine Kd.C_alloc ?_ _) | (with_reducible refine Kd.C_drewN ?_ _) | (with_reducible refine Kd.C_drew ?_))); (case side4 => exact (Kd.R_reads' HO_6.out).2.1); rintro e w36 ⟨rfl, hb⟩; refine ⟨_, rfl, ?_⟩; have n0_ := Aside0.mk (Kd.R_below HO_6.out hb); have n1_ := Aside0.mk (Kd.N_below HO_44.out hb); have n2_ := Aside0.mk (Kd.V_below HL775_0.out hb); have n3_ := Aside0.mk (blk_below (g := gb769) (o := .cells #[.int .i64 t765, .int .i64 t766, .int .i64 t767] 40 (0, 0)) (by (with_reducible repeat (first | refine blk_drewN ?_ _ | refine blk_drew ?_ | refine blk_alloc ?_ _)); exact BK769.out) hb); have n4_ := Aside0.mk (blk_below (g := gb774) (o := .cells #[.int .i64 t770, .int .i64 t771, .int .i64 t772] 40 (0, 0)) (by (with_reducible repeat (first | refine blk_drewN ?_ _ | refine blk_drew ?_ | refine blk_alloc ?_ _)); exact BK774.out) hb); have n5_ := Aside0.mk (Kd.C_below (by repeat (first | (with_reducible exact HR775_0.out) | (with_reducible refine Kd.C_alloc ?_ _) | (with_reducible refine Kd.C_drewN ?_ _) | (with_reducible refine Kd.C_drew ?_) | exact HR775_0.out)) hb); have n6_ := Aside0.mk (below_step HB.out hb); clear HO_6; clear HO_44; clear HL775_0; clear BK769; clear BK774; clear HR775_0; clear HB; have HO_6 := n0_; have HO_44 := n1_; have HL775_0 := n2_; have BK769 := n3_; have BK774 := n4_; have HR775_0 := n5_; have HB := n6_; clear n0_ n1_ n2_ n3_ n4_ n5_ n6_; have hnb37 := NB769_774.out; have hnc37 := NB774_769.out; have hcz38_0 : w36.cell? ⟨gb769, 0, none⟩ = some (.int .i64 t765) := (blk_cell BK769.out 0).trans rfl; have hcz38_1 : w36.cell? ⟨gb769, 1, none⟩ = some (.int .i64 t766) := (blk_cell BK769.out 1).trans rfl; have hcz38_2 : w36.cell? ⟨gb769, 2, none⟩ = some (.int .i64 t767) := (blk_cell BK769.out 2).trans rfl; have hfz38_0 := blk_frozen BK769.out 0; have hfz38_1 := blk_frozen BK769.out 1; have hfz38_2 := blk_frozen BK769.out 2))
               go_ret
               exact ⟨by first | rfl | (simp [errW_none, errW_some] <;> rfl) | (simp [*, errW_none, errW_some] <;> rfl), HB.out⟩
              ·rw [if_neg c35] at H
               have c35b0 : decide (x46_2 < t765) = false := decide_eq_false c35
               clear c35
               by_cases c39 : x46_2 = t765
               ·rw [if_pos c39] at H
                have c39b0 : (x46_2 == t765) = true := beq_iff_eq.mpr c39
                have c39b1 : (x46_2 != t765) = false := bne_eq_false_iff_eq.mpr c39
                clear c39
                by_cases c40 : t777 = t767
                ·rw [if_pos c40] at H
                 have c40b0 : (t777 == t767) = true := beq_iff_eq.mpr c40
                 have c40b1 : (t777 != t767) = false := bne_eq_false_iff_eq.mpr c40
                 clear c40
                 have H' := Aside0.mk H
                 clear H
                 have p775 : 0 ≤ (x46_2 : Int) := of_decide_eq_true (by assumption)
                 have q775 : x46_2 < (t759.length : Int) := of_decide_eq_true (by assumption)
                 obtain ⟨ad775, A775_0, c775_0, e775, hx775_0, hl775_0, hi775_0⟩ := at_L8 (Kd.N_reads' HO_44.out).2.2 x46_2 p775 q775
                 cases e775
                 obtain ⟨ce775, hce775, hMe775, hcc775⟩ := Kd.N_get HO_44.out [] x46_2 p775 (by first | exact q775 | exact of_decide_eq_true (by assumption) | (have e_ := (Kd.N_reads' HO_44.out).1; omega))
                 obtain ⟨ua775_0, uc775_0, rfl, ul775_0, ge775_0⟩ := Kd.FK_slice_open hMe775
                 have hv775_0 := hcc775 0 _ rfl
                 rw [Nat.add_zero, show ((Kd.slice 89 k89)).sz = 1 from rfl, Nat.mul_one] at hv775_0
                 replace hv775_0 := Option.some.inj (hv775_0.symm.trans hx775_0)
                 injection hv775_0 with hva_ hvn_ hvc_
                 rw [hva_] at ge775_0
                 rw [hvc_] at ul775_0
                 have HL775_0 := Aside0.mk (show Kd.V k89 89 _ w.heap.size _ _ (rd_L8 t759 x46_2) from Kd.V_mk ul775_0 ge775_0)
                 clear hva_ hvn_ hvc_ ge775_0 ul775_0
                 clear hcc775 hce775
                 have HR775_0 := Aside0.mk hi775_0
                 have HC775_0 := Aside0.mk hl775_0
                 clear hi775_0 hl775_0
                 replace p775 := eq_true p775
                 replace q775 := eq_true q775
                 go_wp2_with (first | ((with_reducible refine gate_callee (f := 17) rfl ?_); refine goesL_ (some 54) rfl rfl Try.func17 (by kernel_rfl) rfl #[.slice A775_0 (rd_L8 t759 x46_2).length c775_0, .slice Ao11 t762.length co11] rfl (by simp only [List.map_toArray, List.map_cons, List.map_nil] <;> rfl) ?_; (with_reducible refine (impl_FindIn.calls k2 _ _ (rd_L8 t759 x46_2) _ _ t762 t776 t777 true _ ?side1 ?side2 ?side3 ?side4 A27.out).mono ?_); (case side1 => repeat (first | exact (by repeat (first | (with_reducible exact HR775_0.out) | (with_reducible refine Kd.C_alloc ?_ _) | (with_reducible refine Kd.C_drewN ?_ _) | (with_reducible refine Kd.C_drew ?_) | exact HR775_0.out)) | (with_reducible refine Kd.C_alloc ?_ _) | (with_reducible refine Kd.C_drewN ?_ _) | (with_reducible refine Kd.C_drew ?_))); (case side2 => exact HC775_0.out); (case side3 => repeat (first | exact (Kd.R_reads' HO_6.out).2.2 | (with_reducible refine Kd.C_alloc ?_ _) | (with_reducible refine Kd.C_drewN ?_ _) | (with_reducible refine Kd.C_drew ?_))); (case side4 => exact (Kd.R_reads' HO_6.out).2.1); rintro e w41 ⟨rfl, hb⟩; refine ⟨_, rfl, ?_⟩; have n0_ := Aside0.mk (Kd.R_below HO_6.out hb); have n1_ := Aside0.mk (Kd.N_below HO_44.out hb); have n2_ := Aside0.mk (Kd.V_below HL775_0.out hb); have n3_ := Aside0.mk (blk_below (g := gb769) (o := .cells #[.int .i64 t765, .int .i64 t766, .int .i64 t767] 40 (0, 0)) (by (with_reducible repeat (first | refine blk_drewN ?_ _ | refine blk_drew ?_ | refine blk_alloc ?_ _)); exact BK769.out) hb); have n4_ := Aside0.mk (blk_below (g := gb774) (o := .cells #[.int .i64 t770, .int .i64 t771, .int .i64 t772] 40 (0, 0)) (by (with_reducible repeat (first | refine blk_drewN ?_ _ | refine blk_drew ?_ | refine blk_alloc ?_ _)); exact BK774.out) hb); have n5_ := Aside0.mk (Kd.C_below (by repeat (first | (with_reducible exact HR775_0.out) | (with_reducible refine Kd.C_alloc ?_ _) | (with_reducible refine Kd.C_drewN ?_ _) | (with_reducible refine Kd.C_drew ?_) | exact HR775_0.out)) hb); have n6_ := Aside0.mk (below_step HB.out hb); clear HO_6; clear HO_44; clear HL775_0; clear BK769; clear BK774; clear HR775_0; clear HB; have HO_6 := n0_; have HO_44 := n1_; have HL775_0 := n2_; have BK769 := n3_; have BK774 := n4_; have HR775_0 := n5_; have HB := n6_; clear n0_ n1_ n2_ n3_ n4_ n5_ n6_; have hnb42 := NB769_774.out; have hnc42 := NB774_769.out; have hcz43_0 : w41.cell? ⟨gb769, 0, none⟩ = some (.int .i64 t765) := (blk_cell BK769.out 0).trans rfl; have hcz43_1 : w41.cell? ⟨gb769, 1, none⟩ = some (.int .i64 t766) := (blk_cell BK769.out 1).trans rfl; have hcz43_2 : w41.cell? ⟨gb769, 2, none⟩ = some (.int .i64 t767) := (blk_cell BK769.out 2).trans rfl; have hfz43_0 := blk_frozen BK769.out 0; have hfz43_1 := blk_frozen BK769.out 1; have hfz43_2 := blk_frozen BK769.out 2))
                 go_roundg k2
                 case measure => have := HJ7.out; have := HK2.out; omega
                 case rel => exact ⟨(wrap64 (x46_2 + 1)), (by first | rfl | (simp; done) | (simp [*]; done)), H', ⟨by have := HJ7.out; have := HK2.out; omega⟩, ⟨HO_6.out⟩, ⟨HO_44.out⟩, ⟨by (with_reducible repeat (first | refine blk_drewN ?_ _ | refine blk_drew ?_ | refine blk_alloc ?_ _)); exact BK769.out⟩, ⟨by (with_reducible repeat (first | refine blk_drewN ?_ _ | refine blk_drew ?_ | refine blk_alloc ?_ _)); exact BK774.out⟩, ⟨HB.out⟩⟩
                ·rw [if_neg c40] at H
                 have c40b0 : (t777 == t767) = false := beq_eq_false_iff_ne.mpr c40
                 have c40b1 : (t777 != t767) = true := bne_iff_ne.mpr c40
                 obtain rfl := Option.some.inj H
                 have p775 : 0 ≤ (x46_2 : Int) := of_decide_eq_true (by assumption)
                 have q775 : x46_2 < (t759.length : Int) := of_decide_eq_true (by assumption)
                 obtain ⟨ad775, A775_0, c775_0, e775, hx775_0, hl775_0, hi775_0⟩ := at_L8 (Kd.N_reads' HO_44.out).2.2 x46_2 p775 q775
                 cases e775
                 obtain ⟨ce775, hce775, hMe775, hcc775⟩ := Kd.N_get HO_44.out [] x46_2 p775 (by first | exact q775 | exact of_decide_eq_true (by assumption) | (have e_ := (Kd.N_reads' HO_44.out).1; omega))
                 obtain ⟨ua775_0, uc775_0, rfl, ul775_0, ge775_0⟩ := Kd.FK_slice_open hMe775
                 have hv775_0 := hcc775 0 _ rfl
                 rw [Nat.add_zero, show ((Kd.slice 89 k89)).sz = 1 from rfl, Nat.mul_one] at hv775_0
                 replace hv775_0 := Option.some.inj (hv775_0.symm.trans hx775_0)
                 injection hv775_0 with hva_ hvn_ hvc_
                 rw [hva_] at ge775_0
                 rw [hvc_] at ul775_0
                 have HL775_0 := Aside0.mk (show Kd.V k89 89 _ w.heap.size _ _ (rd_L8 t759 x46_2) from Kd.V_mk ul775_0 ge775_0)
                 clear hva_ hvn_ hvc_ ge775_0 ul775_0
                 clear hcc775 hce775
                 have HR775_0 := Aside0.mk hi775_0
                 have HC775_0 := Aside0.mk hl775_0
                 clear hi775_0 hl775_0
                 replace p775 := eq_true p775
                 replace q775 := eq_true q775
                 go_wp2_with (first | ((with_reducible refine gate_callee (f := 17) rfl ?_); refine goesL_ (some 54) rfl rfl Try.func17 (by kernel_rfl) rfl #[.slice A775_0 (rd_L8 t759 x46_2).length c775_0, .slice Ao11 t762.length co11] rfl (by simp only [List.map_toArray, List.map_cons, List.map_nil] <;> rfl) ?_; (with_reducible refine (impl_FindIn.calls k2 _ _ (rd_L8 t759 x46_2) _ _ t762 t776 t777 true _ ?side1 ?side2 ?side3 ?side4 A27.out).mono ?_); (case side1 => repeat (first | exact (by repeat (first | (with_reducible exact HR775_0.out) | (with_reducible refine Kd.C_alloc ?_ _) | (with_reducible refine Kd.C_drewN ?_ _) | (with_reducible refine Kd.C_drew ?_) | exact HR775_0.out)) | (with_reducible refine Kd.C_alloc ?_ _) | (with_reducible refine Kd.C_drewN ?_ _) | (with_reducible refine Kd.C_drew ?_))); (case side2 => exact HC775_0.out); (case side3 => repeat (first | exact (Kd.R_reads' HO_6.out).2.2 | (with_reducible refine Kd.C_alloc ?_ _) | (with_reducible refine Kd.C_drewN ?_ _) | (with_reducible refine Kd.C_drew ?_))); (case side4 => exact (Kd.R_reads' HO_6.out).2.1); rintro e w44 ⟨rfl, hb⟩; refine ⟨_, rfl, ?_⟩; have n0_ := Aside0.mk (Kd.R_below HO_6.out hb); have n1_ := Aside0.mk (Kd.N_below HO_44.out hb); have n2_ := Aside0.mk (Kd.V_below HL775_0.out hb); have n3_ := Aside0.mk (blk_below (g := gb769) (o := .cells #[.int .i64 t765, .int .i64 t766, .int .i64 t767] 40 (0, 0)) (by (with_reducible repeat (first | refine blk_drewN ?_ _ | refine blk_drew ?_ | refine blk_alloc ?_ _)); exact BK769.out) hb); have n4_ := Aside0.mk (blk_below (g := gb774) (o := .cells #[.int .i64 t770, .int .i64 t771, .int .i64 t772] 40 (0, 0)) (by (with_reducible repeat (first | refine blk_drewN ?_ _ | refine blk_drew ?_ | refine blk_alloc ?_ _)); exact BK774.out) hb); have n5_ := Aside0.mk (Kd.C_below (by repeat (first | (with_reducible exact HR775_0.out) | (with_reducible refine Kd.C_alloc ?_ _) | (with_reducible refine Kd.C_drewN ?_ _) | (with_reducible refine Kd.C_drew ?_) | exact HR775_0.out)) hb); have n6_ := Aside0.mk (below_step HB.out hb); clear HO_6; clear HO_44; clear HL775_0; clear BK769; clear BK774; clear HR775_0; clear HB; have HO_6 := n0_; have HO_44 := n1_; have HL775_0 := n2_; have BK769 := n3_; have BK774 := n4_; have HR775_0 := n5_; have HB := n6_; clear n0_ n1_ n2_ n3_ n4_ n5_ n6_; have hnb45 := NB769_774.out; have hnc45 := NB774_769.out; have hcz46_0 : w44.cell? ⟨gb769, 0, none⟩ = some (.int .i64 t765) := (blk_cell BK769.out 0).trans rfl; have hcz46_1 : w44.cell? ⟨gb769, 1, none⟩ = some (.int .i64 t766) := (blk_cell BK769.out 1).trans rfl; have hcz46_2 : w44.cell? ⟨gb769, 2, none⟩ = some (.int .i64 t767) := (blk_cell BK769.out 2).trans rfl; have hfz46_0 := blk_frozen BK769.out 0; have hfz46_1 := blk_frozen BK769.out 1; have hfz46_2 := blk_frozen BK769.out 2))
                 go_ret
                 exact ⟨by first | rfl | (simp [errW_none, errW_some] <;> rfl) | (simp [*, errW_none, errW_some] <;> rfl), HB.out⟩
               ·rw [if_neg c39] at H
                have c39b0 : (x46_2 == t765) = false := beq_eq_false_iff_ne.mpr c39
                have c39b1 : (x46_2 != t765) = true := bne_iff_ne.mpr c39
                have H' := Aside0.mk H
                clear H
                have p775 : 0 ≤ (x46_2 : Int) := of_decide_eq_true (by assumption)
                have q775 : x46_2 < (t759.length : Int) := of_decide_eq_true (by assumption)
                obtain ⟨ad775, A775_0, c775_0, e775, hx775_0, hl775_0, hi775_0⟩ := at_L8 (Kd.N_reads' HO_44.out).2.2 x46_2 p775 q775
                cases e775
                obtain ⟨ce775, hce775, hMe775, hcc775⟩ := Kd.N_get HO_44.out [] x46_2 p775 (by first | exact q775 | exact of_decide_eq_true (by assumption) | (have e_ := (Kd.N_reads' HO_44.out).1; omega))
                obtain ⟨ua775_0, uc775_0, rfl, ul775_0, ge775_0⟩ := Kd.FK_slice_open hMe775
                have hv775_0 := hcc775 0 _ rfl
                rw [Nat.add_zero, show ((Kd.slice 89 k89)).sz = 1 from rfl, Nat.mul_one] at hv775_0
                replace hv775_0 := Option.some.inj (hv775_0.symm.trans hx775_0)
                injection hv775_0 with hva_ hvn_ hvc_
                rw [hva_] at ge775_0
                rw [hvc_] at ul775_0
                have HL775_0 := Aside0.mk (show Kd.V k89 89 _ w.heap.size _ _ (rd_L8 t759 x46_2) from Kd.V_mk ul775_0 ge775_0)
                clear hva_ hvn_ hvc_ ge775_0 ul775_0
                clear hcc775 hce775
                have HR775_0 := Aside0.mk hi775_0
                have HC775_0 := Aside0.mk hl775_0
                clear hi775_0 hl775_0
                replace p775 := eq_true p775
                replace q775 := eq_true q775
                go_wp2_with (first | ((with_reducible refine gate_callee (f := 17) rfl ?_); refine goesL_ (some 54) rfl rfl Try.func17 (by kernel_rfl) rfl #[.slice A775_0 (rd_L8 t759 x46_2).length c775_0, .slice Ao11 t762.length co11] rfl (by simp only [List.map_toArray, List.map_cons, List.map_nil] <;> rfl) ?_; (with_reducible refine (impl_FindIn.calls k2 _ _ (rd_L8 t759 x46_2) _ _ t762 t776 t777 true _ ?side1 ?side2 ?side3 ?side4 A27.out).mono ?_); (case side1 => repeat (first | exact (by repeat (first | (with_reducible exact HR775_0.out) | (with_reducible refine Kd.C_alloc ?_ _) | (with_reducible refine Kd.C_drewN ?_ _) | (with_reducible refine Kd.C_drew ?_) | exact HR775_0.out)) | (with_reducible refine Kd.C_alloc ?_ _) | (with_reducible refine Kd.C_drewN ?_ _) | (with_reducible refine Kd.C_drew ?_))); (case side2 => exact HC775_0.out); (case side3 => repeat (first | exact (Kd.R_reads' HO_6.out).2.2 | (with_reducible refine Kd.C_alloc ?_ _) | (with_reducible refine Kd.C_drewN ?_ _) | (with_reducible refine Kd.C_drew ?_))); (case side4 => exact (Kd.R_reads' HO_6.out).2.1); rintro e w47 ⟨rfl, hb⟩; refine ⟨_, rfl, ?_⟩; have n0_ := Aside0.mk (Kd.R_below HO_6.out hb); have n1_ := Aside0.mk (Kd.N_below HO_44.out hb); have n2_ := Aside0.mk (Kd.V_below HL775_0.out hb); have n3_ := Aside0.mk (blk_below (g := gb769) (o := .cells #[.int .i64 t765, .int .i64 t766, .int .i64 t767] 40 (0, 0)) (by (with_reducible repeat (first | refine blk_drewN ?_ _ | refine blk_drew ?_ | refine blk_alloc ?_ _)); exact BK769.out) hb); have n4_ := Aside0.mk (blk_below (g := gb774) (o := .cells #[.int .i64 t770, .int .i64 t771, .int .i64 t772] 40 (0, 0)) (by (with_reducible repeat (first | refine blk_drewN ?_ _ | refine blk_drew ?_ | refine blk_alloc ?_ _)); exact BK774.out) hb); have n5_ := Aside0.mk (Kd.C_below (by repeat (first | (with_reducible exact HR775_0.out) | (with_reducible refine Kd.C_alloc ?_ _) | (with_reducible refine Kd.C_drewN ?_ _) | (with_reducible refine Kd.C_drew ?_) | exact HR775_0.out)) hb); have n6_ := Aside0.mk (below_step HB.out hb); clear HO_6; clear HO_44; clear HL775_0; clear BK769; clear BK774; clear HR775_0; clear HB; have HO_6 := n0_; have HO_44 := n1_; have HL775_0 := n2_; have BK769 := n3_; have BK774 := n4_; have HR775_0 := n5_; have HB := n6_; clear n0_ n1_ n2_ n3_ n4_ n5_ n6_; have hnb48 := NB769_774.out; have hnc48 := NB774_769.out; have hcz49_0 : w47.cell? ⟨gb769, 0, none⟩ = some (.int .i64 t765) := (blk_cell BK769.out 0).trans rfl; have hcz49_1 : w47.cell? ⟨gb769, 1, none⟩ = some (.int .i64 t766) := (blk_cell BK769.out 1).trans rfl; have hcz49_2 : w47.cell? ⟨gb769, 2, none⟩ = some (.int .i64 t767) := (blk_cell BK769.out 2).trans rfl; have hfz49_0 := blk_frozen BK769.out 0; have hfz49_1 := blk_frozen BK769.out 1; have hfz49_2 := blk_frozen BK769.out 2))
                go_roundg k2
                case measure => have := HJ7.out; have := HK2.out; omega
                case rel => exact ⟨(wrap64 (x46_2 + 1)), (by first | rfl | (simp; done) | (simp [*]; done)), H', ⟨by have := HJ7.out; have := HK2.out; omega⟩, ⟨HO_6.out⟩, ⟨HO_44.out⟩, ⟨by (with_reducible repeat (first | refine blk_drewN ?_ _ | refine blk_drew ?_ | refine blk_alloc ?_ _)); exact BK769.out⟩, ⟨by (with_reducible repeat (first | refine blk_drewN ?_ _ | refine blk_drew ?_ | refine blk_alloc ?_ _)); exact BK774.out⟩, ⟨HB.out⟩⟩
             ·rw [if_neg c34] at H
              have c34b0 : (t776 == t766) = false := beq_eq_false_iff_ne.mpr c34
              have c34b1 : (t776 != t766) = true := bne_iff_ne.mpr c34
              by_cases c50 : x46_2 = t765
              ·rw [if_pos c50] at H
               have c50b0 : (x46_2 == t765) = true := beq_iff_eq.mpr c50
               have c50b1 : (x46_2 != t765) = false := bne_eq_false_iff_eq.mpr c50
               clear c50
               obtain rfl := Option.some.inj H
               have p775 : 0 ≤ (x46_2 : Int) := of_decide_eq_true (by assumption)
               have q775 : x46_2 < (t759.length : Int) := of_decide_eq_true (by assumption)
               obtain ⟨ad775, A775_0, c775_0, e775, hx775_0, hl775_0, hi775_0⟩ := at_L8 (Kd.N_reads' HO_44.out).2.2 x46_2 p775 q775
               cases e775
               obtain ⟨ce775, hce775, hMe775, hcc775⟩ := Kd.N_get HO_44.out [] x46_2 p775 (by first | exact q775 | exact of_decide_eq_true (by assumption) | (have e_ := (Kd.N_reads' HO_44.out).1; omega))
               obtain ⟨ua775_0, uc775_0, rfl, ul775_0, ge775_0⟩ := Kd.FK_slice_open hMe775
               have hv775_0 := hcc775 0 _ rfl
               rw [Nat.add_zero, show ((Kd.slice 89 k89)).sz = 1 from rfl, Nat.mul_one] at hv775_0
               replace hv775_0 := Option.some.inj (hv775_0.symm.trans hx775_0)
               injection hv775_0 with hva_ hvn_ hvc_
               rw [hva_] at ge775_0
               rw [hvc_] at ul775_0
               have HL775_0 := Aside0.mk (show Kd.V k89 89 _ w.heap.size _ _ (rd_L8 t759 x46_2) from Kd.V_mk ul775_0 ge775_0)
               clear hva_ hvn_ hvc_ ge775_0 ul775_0
               clear hcc775 hce775
               have HR775_0 := Aside0.mk hi775_0
               have HC775_0 := Aside0.mk hl775_0
               clear hi775_0 hl775_0
               replace p775 := eq_true p775
               replace q775 := eq_true q775
               go_wp2_with (first | ((with_reducible refine gate_callee (f := 17) rfl ?_); refine goesL_ (some 54) rfl rfl Try.func17 (by kernel_rfl) rfl #[.slice A775_0 (rd_L8 t759 x46_2).length c775_0, .slice Ao11 t762.length co11] rfl (by simp only [List.map_toArray, List.map_cons, List.map_nil] <;> rfl) ?_; (with_reducible refine (impl_FindIn.calls k2 _ _ (rd_L8 t759 x46_2) _ _ t762 t776 t777 true _ ?side1 ?side2 ?side3 ?side4 A27.out).mono ?_); (case side1 => repeat (first | exact (by repeat (first | (with_reducible exact HR775_0.out) | (with_reducible refine Kd.C_alloc ?_ _) | (with_reducible refine Kd.C_drewN ?_ _) | (with_reducible refine Kd.C_drew ?_) | exact HR775_0.out)) | (with_reducible refine Kd.C_alloc ?_ _) | (with_reducible refine Kd.C_drewN ?_ _) | (with_reducible refine Kd.C_drew ?_))); (case side2 => exact HC775_0.out); (case side3 => repeat (first | exact (Kd.R_reads' HO_6.out).2.2 | (with_reducible refine Kd.C_alloc ?_ _) | (with_reducible refine Kd.C_drewN ?_ _) | (with_reducible refine Kd.C_drew ?_))); (case side4 => exact (Kd.R_reads' HO_6.out).2.1); rintro e w51 ⟨rfl, hb⟩; refine ⟨_, rfl, ?_⟩; have n0_ := Aside0.mk (Kd.R_below HO_6.out hb); have n1_ := Aside0.mk (Kd.N_below HO_44.out hb); have n2_ := Aside0.mk (Kd.V_below HL775_0.out hb); have n3_ := Aside0.mk (blk_below (g := gb769) (o := .cells #[.int .i64 t765, .int .i64 t766, .int .i64 t767] 40 (0, 0)) (by (with_reducible repeat (first | refine blk_drewN ?_ _ | refine blk_drew ?_ | refine blk_alloc ?_ _)); exact BK769.out) hb); have n4_ := Aside0.mk (blk_below (g := gb774) (o := .cells #[.int .i64 t770, .int .i64 t771, .int .i64 t772] 40 (0, 0)) (by (with_reducible repeat (first | refine blk_drewN ?_ _ | refine blk_drew ?_ | refine blk_alloc ?_ _)); exact BK774.out) hb); have n5_ := Aside0.mk (Kd.C_below (by repeat (first | (with_reducible exact HR775_0.out) | (with_reducible refine Kd.C_alloc ?_ _) | (with_reducible refine Kd.C_drewN ?_ _) | (with_reducible refine Kd.C_drew ?_) | exact HR775_0.out)) hb); have n6_ := Aside0.mk (below_step HB.out hb); clear HO_6; clear HO_44; clear HL775_0; clear BK769; clear BK774; clear HR775_0; clear HB; have HO_6 := n0_; have HO_44 := n1_; have HL775_0 := n2_; have BK769 := n3_; have BK774 := n4_; have HR775_0 := n5_; have HB := n6_; clear n0_ n1_ n2_ n3_ n4_ n5_ n6_; have hnb52 := NB769_774.out; have hnc52 := NB774_769.out; have hcz53_0 : w51.cell? ⟨gb769, 0, none⟩ = some (.int .i64 t765) := (blk_cell BK769.out 0).trans rfl; have hcz53_1 : w51.cell? ⟨gb769, 1, none⟩ = some (.int .i64 t766) := (blk_cell BK769.out 1).trans rfl; have hcz53_2 : w51.cell? ⟨gb769, 2, none⟩ = some (.int .i64 t767) := (blk_cell BK769.out 2).trans rfl; have hfz53_0 := blk_frozen BK769.out 0; have hfz53_1 := blk_frozen BK769.out 1; have hfz53_2 := blk_frozen BK769.out 2))
               go_ret
               exact ⟨by first | rfl | (simp [errW_none, errW_some] <;> rfl) | (simp [*, errW_none, errW_some] <;> rfl), HB.out⟩
              ·rw [if_neg c50] at H
               have c50b0 : (x46_2 == t765) = false := beq_eq_false_iff_ne.mpr c50
               have c50b1 : (x46_2 != t765) = true := bne_iff_ne.mpr c50
               have H' := Aside0.mk H
               clear H
               have p775 : 0 ≤ (x46_2 : Int) := of_decide_eq_true (by assumption)
               have q775 : x46_2 < (t759.length : Int) := of_decide_eq_true (by assumption)
               obtain ⟨ad775, A775_0, c775_0, e775, hx775_0, hl775_0, hi775_0⟩ := at_L8 (Kd.N_reads' HO_44.out).2.2 x46_2 p775 q775
               cases e775
               obtain ⟨ce775, hce775, hMe775, hcc775⟩ := Kd.N_get HO_44.out [] x46_2 p775 (by first | exact q775 | exact of_decide_eq_true (by assumption) | (have e_ := (Kd.N_reads' HO_44.out).1; omega))
               obtain ⟨ua775_0, uc775_0, rfl, ul775_0, ge775_0⟩ := Kd.FK_slice_open hMe775
               have hv775_0 := hcc775 0 _ rfl
               rw [Nat.add_zero, show ((Kd.slice 89 k89)).sz = 1 from rfl, Nat.mul_one] at hv775_0
               replace hv775_0 := Option.some.inj (hv775_0.symm.trans hx775_0)
               injection hv775_0 with hva_ hvn_ hvc_
               rw [hva_] at ge775_0
               rw [hvc_] at ul775_0
               have HL775_0 := Aside0.mk (show Kd.V k89 89 _ w.heap.size _ _ (rd_L8 t759 x46_2) from Kd.V_mk ul775_0 ge775_0)
               clear hva_ hvn_ hvc_ ge775_0 ul775_0
               clear hcc775 hce775
               have HR775_0 := Aside0.mk hi775_0
               have HC775_0 := Aside0.mk hl775_0
               clear hi775_0 hl775_0
               replace p775 := eq_true p775
               replace q775 := eq_true q775
               go_wp2_with (first | ((with_reducible refine gate_callee (f := 17) rfl ?_); refine goesL_ (some 54) rfl rfl Try.func17 (by kernel_rfl) rfl #[.slice A775_0 (rd_L8 t759 x46_2).length c775_0, .slice Ao11 t762.length co11] rfl (by simp only [List.map_toArray, List.map_cons, List.map_nil] <;> rfl) ?_; (with_reducible refine (impl_FindIn.calls k2 _ _ (rd_L8 t759 x46_2) _ _ t762 t776 t777 true _ ?side1 ?side2 ?side3 ?side4 A27.out).mono ?_); (case side1 => repeat (first | exact (by repeat (first | (with_reducible exact HR775_0.out) | (with_reducible refine Kd.C_alloc ?_ _) | (with_reducible refine Kd.C_drewN ?_ _) | (with_reducible refine Kd.C_drew ?_) | exact HR775_0.out)) | (with_reducible refine Kd.C_alloc ?_ _) | (with_reducible refine Kd.C_drewN ?_ _) | (with_reducible refine Kd.C_drew ?_))); (case side2 => exact HC775_0.out); (case side3 => repeat (first | exact (Kd.R_reads' HO_6.out).2.2 | (with_reducible refine Kd.C_alloc ?_ _) | (with_reducible refine Kd.C_drewN ?_ _) | (with_reducible refine Kd.C_drew ?_))); (case side4 => exact (Kd.R_reads' HO_6.out).2.1); rintro e w54 ⟨rfl, hb⟩; refine ⟨_, rfl, ?_⟩; have n0_ := Aside0.mk (Kd.R_below HO_6.out hb); have n1_ := Aside0.mk (Kd.N_below HO_44.out hb); have n2_ := Aside0.mk (Kd.V_below HL775_0.out hb); have n3_ := Aside0.mk (blk_below (g := gb769) (o := .cells #[.int .i64 t765, .int .i64 t766, .int .i64 t767] 40 (0, 0)) (by (with_reducible repeat (first | refine blk_drewN ?_ _ | refine blk_drew ?_ | refine blk_alloc ?_ _)); exact BK769.out) hb); have n4_ := Aside0.mk (blk_below (g := gb774) (o := .cells #[.int .i64 t770, .int .i64 t771, .int .i64 t772] 40 (0, 0)) (by (with_reducible repeat (first | refine blk_drewN ?_ _ | refine blk_drew ?_ | refine blk_alloc ?_ _)); exact BK774.out) hb); have n5_ := Aside0.mk (Kd.C_below (by repeat (first | (with_reducible exact HR775_0.out) | (with_reducible refine Kd.C_alloc ?_ _) | (with_reducible refine Kd.C_drewN ?_ _) | (with_reducible refine Kd.C_drew ?_) | exact HR775_0.out)) hb); have n6_ := Aside0.mk (below_step HB.out hb); clear HO_6; clear HO_44; clear HL775_0; clear BK769; clear BK774; clear HR775_0; clear HB; have HO_6 := n0_; have HO_44 := n1_; have HL775_0 := n2_; have BK769 := n3_; have BK774 := n4_; have HR775_0 := n5_; have HB := n6_; clear n0_ n1_ n2_ n3_ n4_ n5_ n6_; have hnb55 := NB769_774.out; have hnc55 := NB774_769.out; have hcz56_0 : w54.cell? ⟨gb769, 0, none⟩ = some (.int .i64 t765) := (blk_cell BK769.out 0).trans rfl; have hcz56_1 : w54.cell? ⟨gb769, 1, none⟩ = some (.int .i64 t766) := (blk_cell BK769.out 1).trans rfl; have hcz56_2 : w54.cell? ⟨gb769, 2, none⟩ = some (.int .i64 t767) := (blk_cell BK769.out 2).trans rfl; have hfz56_0 := blk_frozen BK769.out 0; have hfz56_1 := blk_frozen BK769.out 1; have hfz56_2 := blk_frozen BK769.out 2))
               go_roundg k2
               case measure => have := HJ7.out; have := HK2.out; omega
               case rel => exact ⟨(wrap64 (x46_2 + 1)), (by first | rfl | (simp; done) | (simp [*]; done)), H', ⟨by have := HJ7.out; have := HK2.out; omega⟩, ⟨HO_6.out⟩, ⟨HO_44.out⟩, ⟨by (with_reducible repeat (first | refine blk_drewN ?_ _ | refine blk_drew ?_ | refine blk_alloc ?_ _)); exact BK769.out⟩, ⟨by (with_reducible repeat (first | refine blk_drewN ?_ _ | refine blk_drew ?_ | refine blk_alloc ?_ _)); exact BK774.out⟩, ⟨HB.out⟩⟩
           ·replace c29 := Bool.eq_false_iff.mpr c29
            subst c29
            have H1 : (some false) = some r := by rw [if_neg (show ¬ (false = true) by decide)] at H; exact H
            clear H
            have H := H1
            clear H1
            obtain rfl := Option.some.inj H
            have p775 : 0 ≤ (x46_2 : Int) := of_decide_eq_true (by assumption)
            have q775 : x46_2 < (t759.length : Int) := of_decide_eq_true (by assumption)
            obtain ⟨ad775, A775_0, c775_0, e775, hx775_0, hl775_0, hi775_0⟩ := at_L8 (Kd.N_reads' HO_44.out).2.2 x46_2 p775 q775
            cases e775
            obtain ⟨ce775, hce775, hMe775, hcc775⟩ := Kd.N_get HO_44.out [] x46_2 p775 (by first | exact q775 | exact of_decide_eq_true (by assumption) | (have e_ := (Kd.N_reads' HO_44.out).1; omega))
            obtain ⟨ua775_0, uc775_0, rfl, ul775_0, ge775_0⟩ := Kd.FK_slice_open hMe775
            have hv775_0 := hcc775 0 _ rfl
            rw [Nat.add_zero, show ((Kd.slice 89 k89)).sz = 1 from rfl, Nat.mul_one] at hv775_0
            replace hv775_0 := Option.some.inj (hv775_0.symm.trans hx775_0)
            injection hv775_0 with hva_ hvn_ hvc_
            rw [hva_] at ge775_0
            rw [hvc_] at ul775_0
            have HL775_0 := Aside0.mk (show Kd.V k89 89 _ w.heap.size _ _ (rd_L8 t759 x46_2) from Kd.V_mk ul775_0 ge775_0)
            clear hva_ hvn_ hvc_ ge775_0 ul775_0
            clear hcc775 hce775
            have HR775_0 := Aside0.mk hi775_0
            have HC775_0 := Aside0.mk hl775_0
            clear hi775_0 hl775_0
            replace p775 := eq_true p775
            replace q775 := eq_true q775
            go_wp2_with (first | ((with_reducible refine gate_callee (f := 17) rfl ?_); refine goesL_ (some 54) rfl rfl Try.func17 (by kernel_rfl) rfl #[.slice A775_0 (rd_L8 t759 x46_2).length c775_0, .slice Ao11 t762.length co11] rfl (by simp only [List.map_toArray, List.map_cons, List.map_nil] <;> rfl) ?_; (with_reducible refine (impl_FindIn.calls k2 _ _ (rd_L8 t759 x46_2) _ _ t762 t776 t777 true _ ?side1 ?side2 ?side3 ?side4 A27.out).mono ?_); (case side1 => repeat (first | exact (by repeat (first | (with_reducible exact HR775_0.out) | (with_reducible refine Kd.C_alloc ?_ _) | (with_reducible refine Kd.C_drewN ?_ _) | (with_reducible refine Kd.C_drew ?_) | exact HR775_0.out)) | (with_reducible refine Kd.C_alloc ?_ _) | (with_reducible refine Kd.C_drewN ?_ _) | (with_reducible refine Kd.C_drew ?_))); (case side2 => exact HC775_0.out); (case side3 => repeat (first | exact (Kd.R_reads' HO_6.out).2.2 | (with_reducible refine Kd.C_alloc ?_ _) | (with_reducible refine Kd.C_drewN ?_ _) | (with_reducible refine Kd.C_drew ?_))); (case side4 => exact (Kd.R_reads' HO_6.out).2.1); rintro e w57 ⟨rfl, hb⟩; refine ⟨_, rfl, ?_⟩; have n0_ := Aside0.mk (Kd.R_below HO_6.out hb); have n1_ := Aside0.mk (Kd.N_below HO_44.out hb); have n2_ := Aside0.mk (Kd.V_below HL775_0.out hb); have n3_ := Aside0.mk (blk_below (g := gb769) (o := .cells #[.int .i64 t765, .int .i64 t766, .int .i64 t767] 40 (0, 0)) (by (with_reducible repeat (first | refine blk_drewN ?_ _ | refine blk_drew ?_ | refine blk_alloc ?_ _)); exact BK769.out) hb); have n4_ := Aside0.mk (blk_below (g := gb774) (o := .cells #[.int .i64 t770, .int .i64 t771, .int .i64 t772] 40 (0, 0)) (by (with_reducible repeat (first | refine blk_drewN ?_ _ | refine blk_drew ?_ | refine blk_alloc ?_ _)); exact BK774.out) hb); have n5_ := Aside0.mk (Kd.C_below (by repeat (first | (with_reducible exact HR775_0.out) | (with_reducible refine Kd.C_alloc ?_ _) | (with_reducible refine Kd.C_drewN ?_ _) | (with_reducible refine Kd.C_drew ?_) | exact HR775_0.out)) hb); have n6_ := Aside0.mk (below_step HB.out hb); clear HO_6; clear HO_44; clear HL775_0; clear BK769; clear BK774; clear HR775_0; clear HB; have HO_6 := n0_; have HO_44 := n1_; have HL775_0 := n2_; have BK769 := n3_; have BK774 := n4_; have HR775_0 := n5_; have HB := n6_; clear n0_ n1_ n2_ n3_ n4_ n5_ n6_))
            go_ret
            exact ⟨by first | rfl | (simp [errW_none, errW_some] <;> rfl) | (simp [*, errW_none, errW_some] <;> rfl), HB.out⟩
          ·replace c28 := Bool.eq_false_iff.mpr c28
           subst c28
           have H1 : (laws_FnFirst.l0 k2 t762 t768 t759 (t759.length : Int) (wrap64 (x46_2 + 1)) t765 t766 t767) = some r := by rw [if_neg (show ¬ (false = true) by decide)] at H; exact H
           clear H
           have H := H1
           clear H1
           have H' := Aside0.mk H
           clear H
           have p775 : 0 ≤ (x46_2 : Int) := of_decide_eq_true (by assumption)
           have q775 : x46_2 < (t759.length : Int) := of_decide_eq_true (by assumption)
           obtain ⟨ad775, A775_0, c775_0, e775, hx775_0, hl775_0, hi775_0⟩ := at_L8 (Kd.N_reads' HO_44.out).2.2 x46_2 p775 q775
           cases e775
           obtain ⟨ce775, hce775, hMe775, hcc775⟩ := Kd.N_get HO_44.out [] x46_2 p775 (by first | exact q775 | exact of_decide_eq_true (by assumption) | (have e_ := (Kd.N_reads' HO_44.out).1; omega))
           obtain ⟨ua775_0, uc775_0, rfl, ul775_0, ge775_0⟩ := Kd.FK_slice_open hMe775
           have hv775_0 := hcc775 0 _ rfl
           rw [Nat.add_zero, show ((Kd.slice 89 k89)).sz = 1 from rfl, Nat.mul_one] at hv775_0
           replace hv775_0 := Option.some.inj (hv775_0.symm.trans hx775_0)
           injection hv775_0 with hva_ hvn_ hvc_
           rw [hva_] at ge775_0
           rw [hvc_] at ul775_0
           have HL775_0 := Aside0.mk (show Kd.V k89 89 _ w.heap.size _ _ (rd_L8 t759 x46_2) from Kd.V_mk ul775_0 ge775_0)
           clear hva_ hvn_ hvc_ ge775_0 ul775_0
           clear hcc775 hce775
           have HR775_0 := Aside0.mk hi775_0
           have HC775_0 := Aside0.mk hl775_0
           clear hi775_0 hl775_0
           replace p775 := eq_true p775
           replace q775 := eq_true q775
           go_wp2_with (first | ((with_reducible refine gate_callee (f := 17) rfl ?_); refine goesL_ (some 54) rfl rfl Try.func17 (by kernel_rfl) rfl #[.slice A775_0 (rd_L8 t759 x46_2).length c775_0, .slice Ao11 t762.length co11] rfl (by simp only [List.map_toArray, List.map_cons, List.map_nil] <;> rfl) ?_; (with_reducible refine (impl_FindIn.calls k2 _ _ (rd_L8 t759 x46_2) _ _ t762 t776 t777 false _ ?side1 ?side2 ?side3 ?side4 A27.out).mono ?_); (case side1 => repeat (first | exact (by repeat (first | (with_reducible exact HR775_0.out) | (with_reducible refine Kd.C_alloc ?_ _) | (with_reducible refine Kd.C_drewN ?_ _) | (with_reducible refine Kd.C_drew ?_) | exact HR775_0.out)) | (with_reducible refine Kd.C_alloc ?_ _) | (with_reducible refine Kd.C_drewN ?_ _) | (with_reducible refine Kd.C_drew ?_))); (case side2 => exact HC775_0.out); (case side3 => repeat (first | exact (Kd.R_reads' HO_6.out).2.2 | (with_reducible refine Kd.C_alloc ?_ _) | (with_reducible refine Kd.C_drewN ?_ _) | (with_reducible refine Kd.C_drew ?_))); (case side4 => exact (Kd.R_reads' HO_6.out).2.1); rintro e w58 ⟨rfl, hb⟩; refine ⟨_, rfl, ?_⟩; have n0_ := Aside0.mk (Kd.R_below HO_6.out hb); have n1_ := Aside0.mk (Kd.N_below HO_44.out hb); have n2_ := Aside0.mk (Kd.V_below HL775_0.out hb); have n3_ := Aside0.mk (blk_below (g := gb769) (o := .cells #[.int .i64 t765, .int .i64 t766, .int .i64 t767] 40 (0, 0)) (by (with_reducible repeat (first | refine blk_drewN ?_ _ | refine blk_drew ?_ | refine blk_alloc ?_ _)); exact BK769.out) hb); have n4_ := Aside0.mk (blk_below (g := gb774) (o := .cells #[.int .i64 t770, .int .i64 t771, .int .i64 t772] 40 (0, 0)) (by (with_reducible repeat (first | refine blk_drewN ?_ _ | refine blk_drew ?_ | refine blk_alloc ?_ _)); exact BK774.out) hb); have n5_ := Aside0.mk (Kd.C_below (by repeat (first | (with_reducible exact HR775_0.out) | (with_reducible refine Kd.C_alloc ?_ _) | (with_reducible refine Kd.C_drewN ?_ _) | (with_reducible refine Kd.C_drew ?_) | exact HR775_0.out)) hb); have n6_ := Aside0.mk (below_step HB.out hb); clear HO_6; clear HO_44; clear HL775_0; clear BK769; clear BK774; clear HR775_0; clear HB; have HO_6 := n0_; have HO_44 := n1_; have HL775_0 := n2_; have BK769 := n3_; have BK774 := n4_; have HR775_0 := n5_; have HB := n6_; clear n0_ n1_ n2_ n3_ n4_ n5_ n6_))
           go_roundg k2
           case measure => have := HJ7.out; have := HK2.out; omega
           case rel => exact ⟨(wrap64 (x46_2 + 1)), (by first | rfl | (simp; done) | (simp [*]; done)), H', ⟨by have := HJ7.out; have := HK2.out; omega⟩, ⟨HO_6.out⟩, ⟨HO_44.out⟩, ⟨by (with_reducible repeat (first | refine blk_drewN ?_ _ | refine blk_drew ?_ | refine blk_alloc ?_ _)); exact BK769.out⟩, ⟨by (with_reducible repeat (first | refine blk_drewN ?_ _ | refine blk_drew ?_ | refine blk_alloc ?_ _)); exact BK774.out⟩, ⟨HB.out⟩⟩
         ·rw [if_neg c26] at H
          exact absurd H (by simp)
        ·rw [if_neg c25] at H
         exact absurd H (by simp)
       ·rw [if_neg c24] at H
        have c24b0 : decide (x46_2 < (t759.length : Int)) = false := decide_eq_false c24
        clear c24
        obtain rfl := Option.some.inj H
        go_wp2
        go_ret
        exact ⟨by first | rfl | (simp [errW_none, errW_some] <;> rfl) | (simp [*, errW_none, errW_some] <;> rfl), HB.out⟩


end Go.Proofs.Ytkpeihdlmjdejaa.P
