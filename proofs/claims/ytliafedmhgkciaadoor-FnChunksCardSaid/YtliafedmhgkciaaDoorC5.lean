import Derived.Test.YtliafedmhgkciaaDoorCP0
import Derived.Test.YtliafedmhgkciaaDoorC0
import Derived.Test.YtliafedmhgkciaaDoorC2
import Derived.Test.YtliafedmhgkciaaDoorC3
import Derived.Test.YtliafedmhgkciaaDoorC4
namespace Go.Proofs.YtliafedmhgkciaaDoor.P
open Go.RowKit Go.Proofs.YtliafedmhgkciaaDoorW.PrintWords Go.Proofs.YtliafedmhgkciaaDoorW.PrintLast Go.Proofs.YtliafedmhgkciaaDoorW.PrintMore
attribute [local go_sem] max2_int min2_int max_two min_two max_three min_three max_four min_four   -- for this text's walks alone
set_option linter.unusedVariables false
set_option linter.unusedSimpArgs false

set_option maxHeartbeats 16000000
set_option maxRecDepth 1000000

theorem Zb8_0 {p : Prop} (h : p := by repeat (first | (with_reducible first | exact HB.out | apply below_alloc | apply pw_below_drewN | apply below_drew1 | refine below_set ?_ (IsS25.ge HI436.out) | refine below_set ?_ GE437.out) | exact HB.out)) : p := h
theorem Zb8_1 {p : Prop} (h : p := by first | exact Kd.R_nil _ _ _ _ _ | exact Kd.N_nil _ _ _ _ _ | exact Kd.V_nil _ _ _ _ _ | exact Kd.Q_nil _ _ _ _ _ | exact Kd.S_nil _ _ _ _ _) : p := h
theorem Zb8_2 {p : Prop} (h : p := by repeat (first | (with_reducible first | exact HI436.out | apply IsS25.alloc | apply IsS25.drewN | apply IsS25.drew | apply IsS25.set_0 | apply IsS25.set_1 | apply IsS25.set_2 | apply IsS25.set_3) | exact HI436.out)) : p := h
theorem Zb8_3 {p : Prop} (h : p := by simp only [List.map_toArray, List.map_cons, List.map_nil] <;> rfl) : p := h
def impl_FeedDecoder.j0 : Nat → ByteArray → Bool → Int → Int → Int → ByteArray → Option (Int × Int × Int × ByteArray × List Int × List Int × Bool)
 | 0, _, _, _, _, _, _ => none
 | k + 1, x1, x17, x437000, x437001, x437002, x437003 => if x17 = true then (some (0, 0, 0, (⟨#[]⟩ : ByteArray), ([] : List Int), ([] : List Int), false)) else ((impl_Decoder_feed.f k x437000 x437001 x437002 x437003 x1).bind fun bt439 => (if bt439.2.2.2.2.1 > 1000 then (some (0, 0, 0, (⟨#[]⟩ : ByteArray), ([] : List Int), ([] : List Int), false)) else (some (bt439.2.2.1, bt439.2.2.2.1, bt439.2.2.2.2.1, bt439.2.2.2.2.2, bt439.1, bt439.2.1, true))))
def impl_FeedDecoder.f (k : Nat) (a0_0 : Int) (a0_1 : Int) (a0_2 : Int) (a0_3 : ByteArray) (a1 : ByteArray) : Option (Int × Int × Int × ByteArray × List Int × List Int × Bool) := (impl_GoodDecoder.f k a0_0 a0_1 a0_2 a0_3).bind fun t438 => (if t438 = true then (impl_FeedDecoder.j0 k a1 (decide ((a1.size : Int) > 1000)) a0_0 a0_1 a0_2 a0_3) else (impl_FeedDecoder.j0 k a1 true a0_0 a0_1 a0_2 a0_3))
theorem impl_FeedDecoder.mono_l : ∀ k, (∀ y0 y1 y2 y3 y4 y5, LeO (impl_FeedDecoder.j0 k y0 y1 y2 y3 y4 y5) (impl_FeedDecoder.j0 (k + 1) y0 y1 y2 y3 y4 y5))
 | 0 => fun _ _ _ _ _ _ r h => by simp [impl_FeedDecoder.j0] at h
 | k + 1 => by
  have ih0 := impl_FeedDecoder.mono_l k
  ·intro y0 y1 y2 y3 y4 y5
   unfold impl_FeedDecoder.j0
   with_reducible repeat' first | exact ih0 _ _ _ _ _ _ | exact impl_Decoder_feed.mono _ _ _ _ _ _ | exact impl_GoodDecoder.mono _ _ _ _ _ | exact LeO.refl _ | exact LeO.none _ | refine LeO.ite ?_ ?_ | refine LeO.bind ?_ (fun _ => ?_)
theorem impl_FeedDecoder.mono : ∀ a0 a1 a2 a3 a4 k, LeO (impl_FeedDecoder.f k a0 a1 a2 a3 a4) (impl_FeedDecoder.f (k + 1) a0 a1 a2 a3 a4) := by
 intro a0 a1 a2 a3 a4 k
 have ih0 := impl_FeedDecoder.mono_l k
 unfold impl_FeedDecoder.f
 with_reducible repeat' first | exact ih0 _ _ _ _ _ _ | exact impl_Decoder_feed.mono _ _ _ _ _ _ | exact impl_GoodDecoder.mono _ _ _ _ _ | exact LeO.refl _ | exact LeO.none _ | refine LeO.ite ?_ ?_ | refine LeO.bind ?_ (fun _ => ?_)
theorem impl_FeedDecoder.calls (k : Nat) (a0_0 : Int) (a0_1 : Int) (a0_2 : Int) (a0_3 : ByteArray) (a1 : ByteArray) (r1 : Int) (r2 : Int) (r3 : Int) (r4 : ByteArray) (r5 : List Int) (r6 : List Int) (r7 : Bool) (w : World) (hT : Lib.Utf8Tabs 0 1 w) (h : impl_FeedDecoder.f k a0_0 a0_1 a0_2 a0_3 a1 = some (r1, r2, r3, r4, r5, r6, r7)) :
  Calls Tryd.prog 8 #[.agg #[.int .i64 a0_0, .int .i64 a0_1, .int .i64 a0_2, .string a0_3], .string a1] w fun e w' => ∃ v4_ v5_ : Value, e = .returned (.tuple #[.agg #[.int .i64 r1, .int .i64 r2, .int .i64 r3, .string r4], v4_, v5_, .bool r7]) ∧ Kd.R (Kd.int .i64) 3 w' w.heap.size (fun k_ => some k_ ≠ (v5_ : Value).ownBlock) v4_ r5 ∧ Kd.R (Kd.int .i64) 3 w' w.heap.size (fun k_ => some k_ ≠ (v4_ : Value).ownBlock) v5_ r6 ∧ Below w.heap.size w w' := by
 have HT := Aside0.mk hT
 clear hT
 have hu25 := Tryd.underlying25
 have HB := Aside0.mk (Below.refl w.heap.size w)
 have H : ((impl_GoodDecoder.f k a0_0 a0_1 a0_2 a0_3).bind fun t438 => (if t438 = true then (impl_FeedDecoder.j0 k a1 (decide ((a1.size : Int) > 1000)) a0_0 a0_1 a0_2 a0_3) else (impl_FeedDecoder.j0 k a1 true a0_0 a0_1 a0_2 a0_3))) = some (r1, r2, r3, r4, r5, r6, r7) := h
 clear h
 have HC3 := Aside0.mk H
 clear H
 go_enter Tryd.func8, Tryd.ntmps8
 go_upto_region 1 with (first | ((with_reducible refine gate_dst (N := 2) rfl ?_); (try (refine gate_guard (by rfl) ?_; dsimp only)); refine box_event ?hg (N := 2) ?hd (cs := #[.int .i64 a0_0, .int .i64 a0_1, .int .i64 a0_2, .string a0_3]) (t := 25) ?hr ?_; (case hd => rfl); (case hg => rfl); (case hr => go_simp <;> rfl); intro gb436 hg w4 hbox hb; have n0_ := Aside0.mk (below_step Sw.hb hb); have n1_ := Aside0.mk (show IsS25 w w4 gb436 a0_0 a0_1 a0_2 a0_3 from ⟨hbox, (by rw [hg]; exact (below_size Sw.hb))⟩); clear HB; have HB := n0_; have HI436 := n1_; clear n0_ n1_; clear hb hbox hg) | ((with_reducible refine gate_dst (N := 4) rfl ?_); (try (refine gate_guard (by rfl) ?_; dsimp only)); refine box_event ?hg (N := 4) ?hd (cs := #[.int .i64 0, .int .i64 0, .int .i64 0, .string (⟨#[]⟩ : ByteArray)]) (t := 25) ?hr ?_; (case hd => rfl); (case hg => rfl); (case hr => go_simp <;> rfl); intro gb437 hg w5 hbox hb; have n0_ := Aside0.mk (IsS25.below HI436.out hb); have n1_ := Aside0.mk (below_step HB.out hb); have n2_ := Aside0.mk (hbox); have n3_ := Aside0.mk ((by rw [hg]; exact (below_size HB.out) : w.heap.size ≤ gb437)); have n4_ := Aside0.mk ((by rw [hg]; exact (below_size HB.out) : w.heap.size ≤ gb437)); have n5_ := Aside0.mk ((by rw [hg]; exact Nat.ne_of_lt (IsS25.lt (show IsS25 w _ gb436 a0_0 a0_1 a0_2 a0_3 from Zb8_2)) : gb436 ≠ gb437)); have n6_ := Aside0.mk ((by rw [hg]; exact Nat.ne_of_gt (IsS25.lt (show IsS25 w _ gb436 a0_0 a0_1 a0_2 a0_3 from Zb8_2)) : gb437 ≠ gb436)); clear HI436; clear HB; have HI436 := n0_; have HB := n1_; have BK437 := n2_; have GW437 := n3_; have GE437 := n4_; have NB436_437 := n5_; have NB437_436 := n6_; clear n0_ n1_ n2_ n3_ n4_ n5_ n6_; clear hb hbox hg))
 (try simp only [Act.put, List.setIfInBounds_toArray, List.set_cons_zero, List.set_cons_succ])
 go_cut [17] (fun v17 wc => ∃ (kq : Nat) (x17_2 : Bool), v17 = .bool x17_2 ∧ Aside0 (impl_FeedDecoder.j0 kq a1 x17_2 a0_0 a0_1 a0_2 a0_3 = some (r1, r2, r3, r4, r5, r6, r7)) ∧ Aside0 (kq ≤ k) ∧ Aside0 (wc.heap[gb437]? = some (.cells #[.int .i64 0, .int .i64 0, .int .i64 0, .string (⟨#[]⟩ : ByteArray)] 25 (0, 0))) ∧ Aside0 (IsS25 w wc gb436 a0_0 a0_1 a0_2 a0_3) ∧ Aside0 (Below w.heap.size w wc))
 case first =>
  have H := HC3.out
  clear HC3
  replace H := Option.bind_eq_some_iff.mp H
  obtain ⟨t438, A60, H⟩ := H
  replace H : (if t438 = true then (impl_FeedDecoder.j0 k a1 (decide ((a1.size : Int) > 1000)) a0_0 a0_1 a0_2 a0_3) else (impl_FeedDecoder.j0 k a1 true a0_0 a0_1 a0_2 a0_3)) = some (r1, r2, r3, r4, r5, r6, r7) := H
  have A6 := Aside0.mk A60
  clear A60
  by_cases c7 : t438 = true
  ·subst c7
   have H1 : (impl_FeedDecoder.j0 k a1 (decide ((a1.size : Int) > 1000)) a0_0 a0_1 a0_2 a0_3) = some (r1, r2, r3, r4, r5, r6, r7) := by rw [if_pos rfl] at H; exact H
   clear H
   have H := H1
   clear H1
   have H' := Aside0.mk H
   clear H
   obtain ⟨HGz8, hgz8⟩ := HI436.out
   have hcz8_0 := cellS25_0 HGz8
   have hcz8_1 := cellS25_1 HGz8
   have hcz8_2 := cellS25_2 HGz8
   have hcz8_3 := cellS25_3 HGz8
   have hfz8_0 := blk_frozen HGz8 0
   have hfz8_1 := blk_frozen HGz8 1
   have hfz8_2 := blk_frozen HGz8 2
   have hfz8_3 := blk_frozen HGz8 3
   clear HGz8 hgz8
   go_wp2_with (first | ((with_reducible refine gate_callee (f := 11) rfl ?_); refine goesL_ (some 11) rfl rfl Tryd.func11 (by kernel_rfl) rfl #[.agg #[.int .i64 a0_0, .int .i64 a0_1, .int .i64 a0_2, .string a0_3]] rfl Zb8_3 ?_; (with_reducible refine (impl_GoodDecoder.calls k a0_0 a0_1 a0_2 a0_3 true _ Sw.ht A6.out).mono ?_); rintro e w9 ⟨rfl, hb⟩; refine ⟨_, rfl, ?_⟩; replace BK437 := Aside0.mk (Sw.bl BK437.out hb); replace HB := Aside0.mk (below_step HB.out hb); replace HI436 := Aside0.mk (IsS25.below HI436.out hb)))
   go_meet
   case rel => exact ⟨_, (decide ((a1.size : Int) > 1000)), Sw.r, H', ⟨by first | omega | exact Nat.le_refl _⟩, ⟨Sw.bk BK437.out⟩, ⟨HI436.out⟩, ⟨HB.out⟩⟩
  ·replace c7 := Bool.eq_false_iff.mpr c7
   subst c7
   have H1 : (impl_FeedDecoder.j0 k a1 true a0_0 a0_1 a0_2 a0_3) = some (r1, r2, r3, r4, r5, r6, r7) := by rw [if_neg (show ¬ (false = true) by decide)] at H; exact H
   clear H
   have H := H1
   clear H1
   have H' := Aside0.mk H
   clear H
   obtain ⟨HGz10, hgz10⟩ := HI436.out
   have hcz10_0 := cellS25_0 HGz10
   have hcz10_1 := cellS25_1 HGz10
   have hcz10_2 := cellS25_2 HGz10
   have hcz10_3 := cellS25_3 HGz10
   have hfz10_0 := blk_frozen HGz10 0
   have hfz10_1 := blk_frozen HGz10 1
   have hfz10_2 := blk_frozen HGz10 2
   have hfz10_3 := blk_frozen HGz10 3
   clear HGz10 hgz10
   go_wp2_with (first | ((with_reducible refine gate_callee (f := 11) rfl ?_); refine goesL_ (some 11) rfl rfl Tryd.func11 (by kernel_rfl) rfl #[.agg #[.int .i64 a0_0, .int .i64 a0_1, .int .i64 a0_2, .string a0_3]] rfl Zb8_3 ?_; (with_reducible refine (impl_GoodDecoder.calls k a0_0 a0_1 a0_2 a0_3 false _ Sw.ht A6.out).mono ?_); rintro e w11 ⟨rfl, hb⟩; refine ⟨_, rfl, ?_⟩; replace BK437 := Aside0.mk (Sw.bl BK437.out hb); replace HB := Aside0.mk (below_step HB.out hb); replace HI436 := Aside0.mk (IsS25.below HI436.out hb)))
   go_meet
   case rel => exact ⟨_, (true), Sw.r, H', ⟨by first | omega | exact Nat.le_refl _⟩, ⟨Sw.bk BK437.out⟩, ⟨HI436.out⟩, ⟨HB.out⟩⟩
 case rest =>
  clear HC3
  try clear c1
  try clear p2
  try clear c7
  try clear c8
  try clear c11
  try clear hcz10_0 hcz10_1 hcz10_2 hcz10_3
  try clear hcz8_0 hcz8_1 hcz8_2 hcz8_3
  try clear hfz10_0 hfz10_1 hfz10_2 hfz10_3
  try clear hfz8_0 hfz8_1 hfz8_2 hfz8_3
  obtain ⟨kq, x17_2, rfl, HA, HJ2, BK437, HI436, HB⟩ := hcut
  cases kq with
  | zero => exact absurd HA.out (by simp [impl_FeedDecoder.j0])
  | succ kj2 =>
   have H := HA.out
   clear HA
   simp only [impl_FeedDecoder.j0] at H
   by_cases c12 : x17_2 = true
   ·subst c12
    have H1 : (some (0, 0, 0, (⟨#[]⟩ : ByteArray), ([] : List Int), ([] : List Int), false)) = some (r1, r2, r3, r4, r5, r6, r7) := by rw [if_pos rfl] at H; exact H
    clear H
    have H := H1
    clear H1
    simp only [Option.some.injEq, Prod.mk.injEq] at H
    obtain ⟨rfl, rfl, rfl, rfl, rfl, rfl, rfl⟩ := H
    have hnb13 := NB437_436.out
    have hnc13 := NB436_437.out
    obtain ⟨hcz14_0, hcz14_1, hcz14_2, hcz14_3⟩ := Sw.cz4 BK437.out
    obtain ⟨hfz14_0, hfz14_1, hfz14_2, hfz14_3⟩ := Sw.fz4 BK437.out
    go_wp2
    refine bodyPost_ret (results_list (rs := [.cell 4 25, .tmp 5, .tmp 6, .tmp 7]) rfl (by simp) (.cell gb437 25 #[.int .i64 0, .int .i64 0, .int .i64 0, .string (⟨#[]⟩ : ByteArray)] (0, 0) _ rfl (Sw.bp (Sw.p0_1_2_3 BK437.out)) Tryd.underlying25 rfl (by kernel_rfl) (.tmp (.tmp (.tmp .nil))))) rfl ?_
    exact ⟨_, _, Sw.e, Zb8_1, Zb8_1, Zb8_0⟩
   ·replace c12 := Bool.eq_false_iff.mpr c12
    subst c12
    have H1 : ((impl_Decoder_feed.f kj2 a0_0 a0_1 a0_2 a0_3 a1).bind fun bt439 => (if bt439.2.2.2.2.1 > 1000 then (some (0, 0, 0, (⟨#[]⟩ : ByteArray), ([] : List Int), ([] : List Int), false)) else (some (bt439.2.2.1, bt439.2.2.2.1, bt439.2.2.2.2.1, bt439.2.2.2.2.2, bt439.1, bt439.2.1, true)))) = some (r1, r2, r3, r4, r5, r6, r7) := by rw [if_neg (show ¬ (false = true) by decide)] at H; exact H
    clear H
    have H := H1
    clear H1
    replace H := Option.bind_eq_some_iff.mp H
    obtain ⟨⟨t439, t442, t445, t446, t447, t448⟩, A150, H⟩ := H
    replace H : (if t447 > 1000 then (some (0, 0, 0, (⟨#[]⟩ : ByteArray), ([] : List Int), ([] : List Int), false)) else (some (t445, t446, t447, t448, t439, t442, true))) = some (r1, r2, r3, r4, r5, r6, r7) := H
    have A15 := Aside0.mk A150
    clear A150
    by_cases c16 : t447 > 1000
    ·rw [if_pos c16] at H
     have c16b0 : decide (1000 < t447) = true := decide_eq_true c16
     clear c16
     simp only [Option.some.injEq, Prod.mk.injEq] at H
     obtain ⟨rfl, rfl, rfl, rfl, rfl, rfl, rfl⟩ := H
     go_wp2_with (first | ((with_reducible refine gate_callee (f := 51) rfl ?_); refine goesL_ (some 21) rfl rfl Tryd.func51 (by kernel_rfl) rfl #[.pointer (some ⟨gb436, 0, none⟩), .string a1] rfl Zb8_3 ?_; (with_reducible refine (impl_Decoder_feed.calls kj2 gb436 a0_0 a0_1 a0_2 a0_3 a1 t439 t442 t445 t446 t447 t448 w _ ?side1 ?side2 Sw.ht A15.out).mono ?_); (case side1 => exact HI436.out); (case side2 => exact HB.out); rintro e w17 ⟨v440, v443, rfl, ho0, ho1, hi, hb, hk⟩; refine ⟨_, rfl, ?_⟩; replace BK437 := Aside0.mk (KeepBut.blk hk (g' := gb437) (o := .cells #[.int .i64 0, .int .i64 0, .int .i64 0, .string (⟨#[]⟩ : ByteArray)] 25 (0, 0)) (Sw.bk BK437.out) NB437_436.out (by simp)); have HO441 := Aside0.mk (Kd.R_lower ho0 (below_size HB.out)); have HO444 := Aside0.mk (Kd.R_lower ho1 (below_size HB.out)); replace HB := Aside0.mk (hb); replace HI436 := Aside0.mk (hi); obtain ⟨HGz18, hgz18⟩ := HI436.out; have hcz18_0 := cellS25_0 HGz18; have hcz18_1 := cellS25_1 HGz18; have hcz18_2 := cellS25_2 HGz18; have hcz18_3 := cellS25_3 HGz18; have hfz18_0 := blk_frozen HGz18 0; have hfz18_1 := blk_frozen HGz18 1; have hfz18_2 := blk_frozen HGz18 2; have hfz18_3 := blk_frozen HGz18 3; clear HGz18 hgz18; have hnb19 := NB437_436.out; have hnc19 := NB436_437.out; obtain ⟨hcz20_0, hcz20_1, hcz20_2, hcz20_3⟩ := Sw.cz4 BK437.out; obtain ⟨hfz20_0, hfz20_1, hfz20_2, hfz20_3⟩ := Sw.fz4 BK437.out))
     refine bodyPost_ret (results_list (rs := [.cell 4 25, .tmp 5, .tmp 6, .tmp 7]) rfl (by simp) (.cell gb437 25 #[.int .i64 0, .int .i64 0, .int .i64 0, .string (⟨#[]⟩ : ByteArray)] (0, 0) _ rfl (Sw.bp (Sw.p0_1_2_3 BK437.out)) Tryd.underlying25 rfl (by kernel_rfl) (.tmp (.tmp (.tmp .nil))))) rfl ?_
     exact ⟨_, _, Sw.e, Zb8_1, Zb8_1, Zb8_0⟩
    ·rw [if_neg c16] at H
     have c16b0 : decide (1000 < t447) = false := decide_eq_false c16
     clear c16
     simp only [Option.some.injEq, Prod.mk.injEq] at H
     obtain ⟨rfl, rfl, rfl, rfl, rfl, rfl, rfl⟩ := H
     go_wp2_with (first | ((with_reducible refine gate_callee (f := 51) rfl ?_); refine goesL_ (some 21) rfl rfl Tryd.func51 (by kernel_rfl) rfl #[.pointer (some ⟨gb436, 0, none⟩), .string a1] rfl Zb8_3 ?_; (with_reducible refine (impl_Decoder_feed.calls kj2 gb436 a0_0 a0_1 a0_2 a0_3 a1 t439 t442 t445 t446 t447 t448 w _ ?side1 ?side2 Sw.ht A15.out).mono ?_); (case side1 => exact HI436.out); (case side2 => exact HB.out); rintro e w21 ⟨v440, v443, rfl, ho0, ho1, hi, hb, hk⟩; refine ⟨_, rfl, ?_⟩; replace BK437 := Aside0.mk (KeepBut.blk hk (g' := gb437) (o := .cells #[.int .i64 0, .int .i64 0, .int .i64 0, .string (⟨#[]⟩ : ByteArray)] 25 (0, 0)) (Sw.bk BK437.out) NB437_436.out (by simp)); have HO441 := Aside0.mk (Kd.R_lower ho0 (below_size HB.out)); have HO444 := Aside0.mk (Kd.R_lower ho1 (below_size HB.out)); replace HB := Aside0.mk (hb); replace HI436 := Aside0.mk (hi); obtain ⟨HGz22, hgz22⟩ := HI436.out; have hcz22_0 := cellS25_0 HGz22; have hcz22_1 := cellS25_1 HGz22; have hcz22_2 := cellS25_2 HGz22; have hcz22_3 := cellS25_3 HGz22; have hfz22_0 := blk_frozen HGz22 0; have hfz22_1 := blk_frozen HGz22 1; have hfz22_2 := blk_frozen HGz22 2; have hfz22_3 := blk_frozen HGz22 3; clear HGz22 hgz22; have hnb23 := NB437_436.out; have hnc23 := NB436_437.out; obtain ⟨hcz24_0, hcz24_1, hcz24_2, hcz24_3⟩ := Sw.cz4 BK437.out; obtain ⟨hfz24_0, hfz24_1, hfz24_2, hfz24_3⟩ := Sw.fz4 BK437.out))
     refine bodyPost_ret (results_list (rs := [.cell 4 25, .tmp 5, .tmp 6, .tmp 7]) rfl (by simp) (.cell gb437 25 #[.int .i64 t445, .int .i64 t446, .int .i64 t447, .string t448] (0, 0) _ rfl (Sw.bp (Sw.p0_1_2_3 BK437.out)) Tryd.underlying25 rfl (by kernel_rfl) (.tmp (.tmp (.tmp .nil))))) rfl ?_
     exact ⟨_, _, Sw.e, by (with_reducible repeat (first | apply Kd.R_alloc | apply Kd.R_drewN | apply Kd.R_drew)); exact Kd.R_mono (Sw.f0_1_2_3 HO441.out BK437.out) (fun _ hk => hk.1), by (with_reducible repeat (first | apply Kd.R_alloc | apply Kd.R_drewN | apply Kd.R_drew)); exact Kd.R_mono (Sw.f0_1_2_3 HO444.out BK437.out) (fun _ hk => hk.1), Zb8_0⟩

theorem Zb10_0 {p : Prop} (h : p := by first | (with_reducible assumption) | assumption) : p := h
def laws_sameInts.l0 : Nat → List Int → List Int → Int → Int → Option (Bool)
 | 0, _, _, _, _ => none
 | k + 1, x0, x1, x12, x13 => if x13 < x12 then (if 0 ≤ x13 then (if x13 < (x0.length : Int) then (if x13 < (x1.length : Int) then (if (rd x0 x13) = (rd x1 x13) then (laws_sameInts.l0 k x0 x1 x12 (wrap64 (x13 + 1))) else (some false)) else (none)) else (none)) else (none)) else (some true)
def laws_sameInts.f (k : Nat) (l0 : List Int) (l1 : List Int) : Option (Bool) := if (l0.length : Int) = (l1.length : Int) then (laws_sameInts.l0 k l0 l1 (l0.length : Int) 0) else (some false)
theorem laws_sameInts.mono_l : ∀ k, (∀ y0 y1 y2 y3, LeO (laws_sameInts.l0 k y0 y1 y2 y3) (laws_sameInts.l0 (k + 1) y0 y1 y2 y3))
 | 0 => fun _ _ _ _ r h => by simp [laws_sameInts.l0] at h
 | k + 1 => by
  have ih0 := laws_sameInts.mono_l k
  ·intro y0 y1 y2 y3
   unfold laws_sameInts.l0
   with_reducible repeat' first | exact ih0 _ _ _ _ | exact LeO.refl _ | exact LeO.none _ | refine LeO.ite ?_ ?_ | refine LeO.bind ?_ (fun _ => ?_)
theorem laws_sameInts.mono : ∀ a0 a1 k, LeO (laws_sameInts.f k a0 a1) (laws_sameInts.f (k + 1) a0 a1) := by
 intro a0 a1 k
 have ih0 := laws_sameInts.mono_l k
 unfold laws_sameInts.f
 with_reducible repeat' first | exact ih0 _ _ _ _ | exact LeO.refl _ | exact LeO.none _ | refine LeO.ite ?_ ?_ | refine LeO.bind ?_ (fun _ => ?_)
theorem laws_sameInts.calls (k : Nat) (A0 : Option Addr) (c0 : Nat) (l0 : List Int) (A1 : Option Addr) (c1 : Nat) (l1 : List Int) (r : Bool) (w : World) (hr0 : Kd.C (Kd.int .i64) w A0 l0.length l0) (hc0 : l0.length ≤ c0) (hr1 : Kd.C (Kd.int .i64) w A1 l1.length l1) (hc1 : l1.length ≤ c1) (h : laws_sameInts.f k l0 l1 = some r) :
  Calls Tryd.prog 10 #[.slice A0 l0.length c0, .slice A1 l1.length c1] w fun e w' => e = .returned (.bool r) ∧ Drawn0 w w' := by
 have HR0 := Aside0.mk hr0
 have HC0 := Aside0.mk hc0
 clear hr0 hc0
 have HR1 := Aside0.mk hr1
 have HC1 := Aside0.mk hc1
 clear hr1 hc1
 have H : (if (l0.length : Int) = (l1.length : Int) then (laws_sameInts.l0 k l0 l1 (l0.length : Int) 0) else (some false)) = some r := h
 clear h
 by_cases c3 : (l0.length : Int) = (l1.length : Int)
 ·rw [if_pos c3] at H
  have c3b0 : ((l0.length : Int) == (l1.length : Int)) = true := beq_iff_eq.mpr c3
  have c3b1 : ((l0.length : Int) != (l1.length : Int)) = false := bne_eq_false_iff_eq.mpr c3
  have c3b2 : (l0.length == l1.length) = true := by first | simpa using c3 | (simp at c3 ⊢; omega)
  clear c3
  have H' := Aside0.mk H
  clear H
  go_enter Tryd.func10, Tryd.ntmps10
  go_wp2
  repeat (go_quiet (fail); try go_wp2)
  go_loopg [13] k (fun kq v13 w' => ∃ (x13_1 : Int), v13 = .int .i64 x13_1 ∧ Aside0 (laws_sameInts.l0 kq l0 l1 (l0.length : Int) x13_1 = some r) ∧ Aside0 (kq ≤ k) ∧ Drawn0 w w')
  case atStart => exact ⟨(0), Sw.r, H', ⟨Nat.le_refl _⟩, Sw.dr⟩
  case round =>
   clear H'
   try clear c1
   try clear p2
   try clear c3
   try clear c3b0
   try clear c3b1
   try clear c3b2
   obtain ⟨x13_1, rfl, HA, HK1, ⟨m1, rfl⟩⟩ := hrel
   cases gk with
   | zero => exact absurd HA.out (by simp [laws_sameInts.l0])
   | succ k1 =>
    have H := HA.out
    clear HA
    simp only [laws_sameInts.l0] at H
    by_cases c4 : x13_1 < (l0.length : Int)
    ·rw [if_pos c4] at H
     have c4b0 : decide (x13_1 < (l0.length : Int)) = true := decide_eq_true c4
     clear c4
     by_cases c5 : 0 ≤ x13_1
     ·rw [if_pos c5] at H
      have c5b0 : decide (0 ≤ x13_1) = true := decide_eq_true c5
      clear c5
      by_cases c6 : x13_1 < (l0.length : Int)
      ·rw [if_pos c6] at H
       have c6b0 : decide (x13_1 < (l0.length : Int)) = true := decide_eq_true c6
       clear c6
       by_cases c7 : x13_1 < (l1.length : Int)
       ·rw [if_pos c7] at H
        have c7b0 : decide (x13_1 < (l1.length : Int)) = true := decide_eq_true c7
        clear c7
        by_cases c8 : (rd l0 x13_1) = (rd l1 x13_1)
        ·rw [if_pos c8] at H
         have c8b0 : ((rd l0 x13_1) == (rd l1 x13_1)) = true := beq_iff_eq.mpr c8
         have c8b1 : ((rd l0 x13_1) != (rd l1 x13_1)) = false := bne_eq_false_iff_eq.mpr c8
         clear c8
         have H' := Aside0.mk H
         clear H
         have p449 : 0 ≤ (x13_1 : Int) := of_decide_eq_true Zb10_0
         have q449 : x13_1 < (l0.length : Int) := of_decide_eq_true Zb10_0
         obtain ⟨ad449, e449, hx449_0⟩ := Kd.at_int HR0.out x13_1 p449 q449
         cases e449
         replace p449 := eq_true p449
         replace q449 := eq_true q449
         have p450 : 0 ≤ (x13_1 : Int) := of_decide_eq_true Zb10_0
         have q450 : x13_1 < (l1.length : Int) := of_decide_eq_true Zb10_0
         obtain ⟨ad450, e450, hx450_0⟩ := Kd.at_int HR1.out x13_1 p450 q450
         cases e450
         replace p450 := eq_true p450
         replace q450 := eq_true q450
         go_wp2
         repeat (go_quiet (fail); try go_wp2)
         go_roundg k1
         case measure => have := HK1.out; omega
         case rel => exact ⟨(wrap64 (x13_1 + 1)), Sw.r, H', ⟨by have := HK1.out; omega⟩, Sw.dr⟩
        ·rw [if_neg c8] at H
         have c8b0 : ((rd l0 x13_1) == (rd l1 x13_1)) = false := beq_eq_false_iff_ne.mpr c8
         have c8b1 : ((rd l0 x13_1) != (rd l1 x13_1)) = true := bne_iff_ne.mpr c8
         obtain rfl := Option.some.inj H
         have p449 : 0 ≤ (x13_1 : Int) := of_decide_eq_true Zb10_0
         have q449 : x13_1 < (l0.length : Int) := of_decide_eq_true Zb10_0
         obtain ⟨ad449, e449, hx449_0⟩ := Kd.at_int HR0.out x13_1 p449 q449
         cases e449
         replace p449 := eq_true p449
         replace q449 := eq_true q449
         have p450 : 0 ≤ (x13_1 : Int) := of_decide_eq_true Zb10_0
         have q450 : x13_1 < (l1.length : Int) := of_decide_eq_true Zb10_0
         obtain ⟨ad450, e450, hx450_0⟩ := Kd.at_int HR1.out x13_1 p450 q450
         cases e450
         replace p450 := eq_true p450
         replace q450 := eq_true q450
         go_wp2
         repeat (go_quiet (fail); try go_wp2)
         go_ret
         exact ⟨Sw.r, Sw.dr⟩
       ·rw [if_neg c7] at H
        exact absurd H (by simp)
      ·rw [if_neg c6] at H
       exact absurd H (by simp)
     ·rw [if_neg c5] at H
      exact absurd H (by simp)
    ·rw [if_neg c4] at H
     have c4b0 : decide (x13_1 < (l0.length : Int)) = false := decide_eq_false c4
     clear c4
     obtain rfl := Option.some.inj H
     go_wp2
     repeat (go_quiet (fail); try go_wp2)
     go_ret
     exact ⟨Sw.r, Sw.dr⟩
 ·rw [if_neg c3] at H
  have c3b0 : ((l0.length : Int) == (l1.length : Int)) = false := beq_eq_false_iff_ne.mpr c3
  have c3b1 : ((l0.length : Int) != (l1.length : Int)) = true := bne_iff_ne.mpr c3
  have c3b2 : (l0.length == l1.length) = false := by first | simpa using c3 | (simp at c3 ⊢; omega)
  obtain rfl := Option.some.inj H
  go_enter Tryd.func10, Tryd.ntmps10
  go_wp2
  repeat (go_quiet (fail); try go_wp2)
  go_ret
  exact ⟨Sw.r, Sw.dr⟩

def laws_numberOf.l0 : Nat → Int → List Int → Int → Int → Option (Int)
  | 0, _, _, _, _ => none
  | k + 1, x3, x6, x7, x8 => if x8 < x7 then (if 0 ≤ x8 then (if x8 < (x6.length : Int) then (laws_numberOf.l0 k (Int.tmod (wrap64 ((wrap64 (31 * x3)) + (wrap64 (rd x6 x8)))) 1000003) x6 x7 (wrap64 (x8 + 1))) else (none)) else (none)) else (some x3)
def laws_numberOf.f (k : Nat) (l0 : List Int) : Option (Int) := laws_numberOf.l0 k 0 l0 (l0.length : Int) 0
theorem laws_numberOf.mono_l : ∀ k, (∀ y0 y1 y2 y3, LeO (laws_numberOf.l0 k y0 y1 y2 y3) (laws_numberOf.l0 (k + 1) y0 y1 y2 y3))
  | 0 => fun _ _ _ _ r h => by simp [laws_numberOf.l0] at h
  | k + 1 => by
    have ih0 := laws_numberOf.mono_l k
    · intro y0 y1 y2 y3
      unfold laws_numberOf.l0
      with_reducible repeat' first | exact ih0 _ _ _ _ | exact LeO.refl _ | exact LeO.none _ | refine LeO.ite ?_ ?_ | refine LeO.bind ?_ (fun _ => ?_)
theorem laws_numberOf.mono : ∀ a0 k, LeO (laws_numberOf.f k a0) (laws_numberOf.f (k + 1) a0) := by
  intro a0 k
  have ih0 := laws_numberOf.mono_l k
  unfold laws_numberOf.f
  with_reducible repeat' first | exact ih0 _ _ _ _ | exact LeO.refl _ | exact LeO.none _ | refine LeO.ite ?_ ?_ | refine LeO.bind ?_ (fun _ => ?_)
theorem laws_numberOf.calls (k : Nat) (A0 : Option Addr) (c0 : Nat) (l0 : List Int) (r : Int) (w : World) (hr0 : Kd.C (Kd.int .u8) w A0 l0.length l0) (hc0 : l0.length ≤ c0) (h : laws_numberOf.f k l0 = some r) :
    Calls Tryd.prog 13 #[.slice A0 l0.length c0] w fun e w' => e = .returned (.int .i64 r) ∧ Drawn0 w w' := by
  have HR0 := Aside0.mk hr0
  have HC0 := Aside0.mk hc0
  clear hr0 hc0
  have H : (laws_numberOf.l0 k 0 l0 (l0.length : Int) 0) = some r := h
  clear h
  have H' := Aside0.mk H
  clear H
  go_enter Tryd.func13, Tryd.ntmps13
  go_wp2
  go_loopg [3, 8] k (fun kq v3 v8 w' => ∃ (x3_1 : Int) (x8_1 : Int), v3 = .int .i64 x3_1 ∧ v8 = .int .i64 x8_1 ∧ Aside0 (laws_numberOf.l0 kq x3_1 l0 (l0.length : Int) x8_1 = some r) ∧ Aside0 (kq ≤ k) ∧ Drawn0 w w')
  case atStart => exact ⟨(0), (0), Sw.r, Sw.r, H', ⟨Nat.le_refl _⟩, Sw.dr⟩
  case round =>
    clear H'
    try clear c1
    obtain ⟨x3_1, x8_1, rfl, rfl, HA, HK1, ⟨m1, rfl⟩⟩ := hrel
    cases gk with
    | zero => exact absurd HA.out (by simp [laws_numberOf.l0])
    | succ k1 =>
      have H := HA.out
      clear HA
      simp only [laws_numberOf.l0] at H
      by_cases c2 : x8_1 < (l0.length : Int)
      · rw [if_pos c2] at H
        have c2b0 : decide (x8_1 < (l0.length : Int)) = true := decide_eq_true c2
        clear c2
        by_cases c3 : 0 ≤ x8_1
        · rw [if_pos c3] at H
          have c3b0 : decide (0 ≤ x8_1) = true := decide_eq_true c3
          clear c3
          by_cases c4 : x8_1 < (l0.length : Int)
          · rw [if_pos c4] at H
            have c4b0 : decide (x8_1 < (l0.length : Int)) = true := decide_eq_true c4
            clear c4
            have H' := Aside0.mk H
            clear H
            have p451 : 0 ≤ (x8_1 : Int) := of_decide_eq_true (by first | (with_reducible assumption) | assumption)
            have q451 : x8_1 < (l0.length : Int) := of_decide_eq_true (by first | (with_reducible assumption) | assumption)
            obtain ⟨ad451, e451, hx451_0⟩ := Kd.at_int HR0.out x8_1 p451 q451
            cases e451
            replace p451 := eq_true p451
            replace q451 := eq_true q451
            go_wp2
            go_roundg k1
            case measure => have := HK1.out; omega
            case rel => exact ⟨(Int.tmod (wrap64 ((wrap64 (31 * x3_1)) + (wrap64 (rd l0 x8_1)))) 1000003), (wrap64 (x8_1 + 1)), Sw.r, Sw.r, H', ⟨by have := HK1.out; omega⟩, Sw.dr⟩
          · rw [if_neg c4] at H
            exact absurd H (by simp)
        · rw [if_neg c3] at H
          exact absurd H (by simp)
      · rw [if_neg c2] at H
        have c2b0 : decide (x8_1 < (l0.length : Int)) = false := decide_eq_false c2
        clear c2
        obtain rfl := Option.some.inj H
        go_wp2
        go_ret
        exact ⟨Sw.r, Sw.dr⟩

def laws_sum.l0 : Nat → Int → List Int → Int → Int → Option (Int)
  | 0, _, _, _, _ => none
  | k + 1, x3, x6, x7, x8 => if x8 < x7 then (if 0 ≤ x8 then (if x8 < (x6.length : Int) then (laws_sum.l0 k (wrap64 (x3 + (rd x6 x8))) x6 x7 (wrap64 (x8 + 1))) else (none)) else (none)) else (some x3)
def laws_sum.f (k : Nat) (l0 : List Int) : Option (Int) := laws_sum.l0 k 0 l0 (l0.length : Int) 0
theorem laws_sum.mono_l : ∀ k, (∀ y0 y1 y2 y3, LeO (laws_sum.l0 k y0 y1 y2 y3) (laws_sum.l0 (k + 1) y0 y1 y2 y3))
  | 0 => fun _ _ _ _ r h => by simp [laws_sum.l0] at h
  | k + 1 => by
    have ih0 := laws_sum.mono_l k
    · intro y0 y1 y2 y3
      unfold laws_sum.l0
      with_reducible repeat' first | exact ih0 _ _ _ _ | exact LeO.refl _ | exact LeO.none _ | refine LeO.ite ?_ ?_ | refine LeO.bind ?_ (fun _ => ?_)
theorem laws_sum.mono : ∀ a0 k, LeO (laws_sum.f k a0) (laws_sum.f (k + 1) a0) := by
  intro a0 k
  have ih0 := laws_sum.mono_l k
  unfold laws_sum.f
  with_reducible repeat' first | exact ih0 _ _ _ _ | exact LeO.refl _ | exact LeO.none _ | refine LeO.ite ?_ ?_ | refine LeO.bind ?_ (fun _ => ?_)
theorem laws_sum.calls (k : Nat) (A0 : Option Addr) (c0 : Nat) (l0 : List Int) (r : Int) (w : World) (hr0 : Kd.C (Kd.int .i64) w A0 l0.length l0) (hc0 : l0.length ≤ c0) (h : laws_sum.f k l0 = some r) :
    Calls Tryd.prog 14 #[.slice A0 l0.length c0] w fun e w' => e = .returned (.int .i64 r) ∧ Drawn0 w w' := by
  have HR0 := Aside0.mk hr0
  have HC0 := Aside0.mk hc0
  clear hr0 hc0
  have H : (laws_sum.l0 k 0 l0 (l0.length : Int) 0) = some r := h
  clear h
  have H' := Aside0.mk H
  clear H
  go_enter Tryd.func14, Tryd.ntmps14
  go_wp2
  go_loopg [3, 8] k (fun kq v3 v8 w' => ∃ (x3_1 : Int) (x8_1 : Int), v3 = .int .i64 x3_1 ∧ v8 = .int .i64 x8_1 ∧ Aside0 (laws_sum.l0 kq x3_1 l0 (l0.length : Int) x8_1 = some r) ∧ Aside0 (kq ≤ k) ∧ Drawn0 w w')
  case atStart => exact ⟨(0), (0), Sw.r, Sw.r, H', ⟨Nat.le_refl _⟩, Sw.dr⟩
  case round =>
    clear H'
    try clear c1
    obtain ⟨x3_1, x8_1, rfl, rfl, HA, HK1, ⟨m1, rfl⟩⟩ := hrel
    cases gk with
    | zero => exact absurd HA.out (by simp [laws_sum.l0])
    | succ k1 =>
      have H := HA.out
      clear HA
      simp only [laws_sum.l0] at H
      by_cases c2 : x8_1 < (l0.length : Int)
      · rw [if_pos c2] at H
        have c2b0 : decide (x8_1 < (l0.length : Int)) = true := decide_eq_true c2
        clear c2
        by_cases c3 : 0 ≤ x8_1
        · rw [if_pos c3] at H
          have c3b0 : decide (0 ≤ x8_1) = true := decide_eq_true c3
          clear c3
          by_cases c4 : x8_1 < (l0.length : Int)
          · rw [if_pos c4] at H
            have c4b0 : decide (x8_1 < (l0.length : Int)) = true := decide_eq_true c4
            clear c4
            have H' := Aside0.mk H
            clear H
            have p452 : 0 ≤ (x8_1 : Int) := of_decide_eq_true (by first | (with_reducible assumption) | assumption)
            have q452 : x8_1 < (l0.length : Int) := of_decide_eq_true (by first | (with_reducible assumption) | assumption)
            obtain ⟨ad452, e452, hx452_0⟩ := Kd.at_int HR0.out x8_1 p452 q452
            cases e452
            replace p452 := eq_true p452
            replace q452 := eq_true q452
            go_wp2
            go_roundg k1
            case measure => have := HK1.out; omega
            case rel => exact ⟨(wrap64 (x3_1 + (rd l0 x8_1))), (wrap64 (x8_1 + 1)), Sw.r, Sw.r, H', ⟨by have := HK1.out; omega⟩, Sw.dr⟩
          · rw [if_neg c4] at H
            exact absurd H (by simp)
        · rw [if_neg c3] at H
          exact absurd H (by simp)
      · rw [if_neg c2] at H
        have c2b0 : decide (x8_1 < (l0.length : Int)) = false := decide_eq_false c2
        clear c2
        obtain rfl := Option.some.inj H
        go_wp2
        go_ret
        exact ⟨Sw.r, Sw.dr⟩

def spec_DrawGoodDecoder.f (k : Nat) (l0 : List Int) : Option (Int × Int × Int × ByteArray) := (spec_l1Cur_decoder.f k l0 0 0).bind fun b => some (b.1, b.2.1, b.2.2.1, b.2.2.2.1)
theorem spec_DrawGoodDecoder.mono : ∀ a0 k, LeO (spec_DrawGoodDecoder.f k a0) (spec_DrawGoodDecoder.f (k + 1) a0) := by
  intro a0 k
  unfold spec_DrawGoodDecoder.f
  exact LeO.bind (spec_l1Cur_decoder.mono _ _ _ _) (fun _ => LeO.refl _)
theorem spec_DrawGoodDecoder.calls (k : Nat) (A0 : Option Addr) (c0 : Nat) (l0 : List Int) (r1 : Int) (r2 : Int) (r3 : Int) (r4 : ByteArray) (w : World) (hr0 : Kd.C (Kd.int .u8) w A0 l0.length l0) (hc0 : l0.length ≤ c0) (h : spec_DrawGoodDecoder.f k l0 = some (r1, r2, r3, r4)) :
    Calls Tryd.prog 65 #[.slice A0 l0.length c0] w fun e w' => e = .returned (.agg #[.int .i64 r1, .int .i64 r2, .int .i64 r3, .string r4]) ∧ Below w.heap.size w w' := by
  have hu25 := Tryd.underlying25
  have hu64 := Tryd.underlying64
  obtain ⟨⟨t1, t2, t3, t4, t5, t6⟩, hd, h⟩ := Option.bind_eq_some_iff.mp h
  replace h : some (t1, t2, t3, t4) = some (r1, r2, r3, r4) := h
  simp only [Option.some.injEq, Prod.mk.injEq] at h
  obtain ⟨rfl, rfl, rfl, rfl⟩ := h
  have HD := Aside0.mk hd
  clear hd
  have HR0 := Aside0.mk hr0
  clear hr0
  have HB := Aside0.mk (Below.refl w.heap.size w)
  go_enter Tryd.func65, Tryd.ntmps65
  go_wp2_with (first
    | ((with_reducible refine gate_dst (N := 2) rfl ?_); refine box_event ?hg (N := 2) ?hd (cs := #[.int .i64 0, .int .i64 0, .int .i64 0, .string (⟨#[]⟩ : ByteArray)]) (t := 25) ?hr ?_; (case hd => rfl); (case hg => rfl); (case hr => first | (go_simp; done) | (go_simp; rfl)); intro ga hg w4 hbox hb; have HB4 := Aside0.mk (below_step HB.out hb); have BK := Aside0.mk hbox; have GE := Aside0.mk (by rw [hg]; exact Nat.le_refl _ : w.heap.size ≤ ga); clear hb hbox hg)
    | ((with_reducible refine gate_dst (N := 6) rfl ?_); refine box_event ?hg2 (N := 6) ?hd2 (cs := #[.slice A0 l0.length c0, .int .i64 0, .int .u64 0]) (t := 64) ?hr2 ?_; (case hd2 => rfl); (case hg2 => rfl); (case hr2 => first | (go_simp; done) | (go_simp; rfl)); intro gb hg w5 hbox hb; have HB5 := Aside0.mk (below_step HB4.out hb); have NE := Aside0.mk (by rw [hg]; exact Nat.ne_of_lt (blk_lt BK.out) : ga ≠ gb); have BK5 := Aside0.mk (blk_below BK.out hb); have HI := Aside0.mk (show IsS64 w w5 gb l0 0 0 from ⟨_, _, hbox, (by rw [hg]; exact below_size HB4.out), HR0.out⟩); clear hb hbox hg BK)
    | (go_at_call 49; (with_reducible refine (spec_l1Cur_decoder.calls k gb l0 0 0 t1 t2 t3 t4 t5 t6 w _ HI.out HB5.out HD.out).mono ?_); rintro e w6 ⟨rfl, hi, hb, hk⟩; have BK6 := Aside0.mk (KeepBut.blk hk BK5.out NE.out (by simp)); have HB6 := Aside0.mk hb; have z0 := (blk_cell BK6.out 0).trans rfl; have z1 := (blk_cell BK6.out 1).trans rfl; have z2 := (blk_cell BK6.out 2).trans rfl; have z3 := (blk_cell BK6.out 3).trans rfl; have f0 := blk_frozen BK6.out 0; have f1 := blk_frozen BK6.out 1; have f2 := blk_frozen BK6.out 2; have f3 := blk_frozen BK6.out 3; clear hi hb hk))
  refine bodyPost_ret (results_cell_row rfl _ _ ga 25 #[.int .i64 t1, .int .i64 t2, .int .i64 t3, .string t4] (0, 0) _ rfl (by refine blk_put (cs := #[.int .i64 t1, .int .i64 t2, .int .i64 t3, .string (⟨#[]⟩ : ByteArray)]) ?_ 3 _ rfl; refine blk_put (cs := #[.int .i64 t1, .int .i64 t2, .int .i64 0, .string (⟨#[]⟩ : ByteArray)]) ?_ 2 _ rfl; refine blk_put (cs := #[.int .i64 t1, .int .i64 0, .int .i64 0, .string (⟨#[]⟩ : ByteArray)]) ?_ 1 _ rfl; refine blk_put (cs := #[.int .i64 0, .int .i64 0, .int .i64 0, .string (⟨#[]⟩ : ByteArray)]) ?_ 0 _ rfl; exact BK6.out) Tryd.underlying25 rfl (by kernel_rfl)) rfl ?_
  exact ⟨rfl, by repeat (first | exact HB6.out | refine below_set ?_ GE.out)⟩

theorem Zb15_0 {p : Prop} (h : p := by repeat (first | (with_reducible first | exact HB.out | apply below_alloc | apply pw_below_drewN | apply below_drew1) | exact HB.out)) : p := h
theorem Zb15_1 {p : Prop} (h : p := by repeat (first | (with_reducible first | exact HB.out | apply below_alloc | apply pw_below_drewN | apply below_drew1 | refine below_set ?_ GE453.out) | exact HB.out)) : p := h
def spec_DrawFlushDecoder.f (k : Nat) (l0 : List Int) : Option (Int × Int × Int × ByteArray) := (spec_DrawGoodDecoder.f k l0).bind fun bt454 => (some (bt454.1, bt454.2.1, bt454.2.2.1, bt454.2.2.2))
theorem spec_DrawFlushDecoder.mono : ∀ a0 k, LeO (spec_DrawFlushDecoder.f k a0) (spec_DrawFlushDecoder.f (k + 1) a0) := by
 intro a0 k
 unfold spec_DrawFlushDecoder.f
 with_reducible repeat' first | exact spec_DrawGoodDecoder.mono _ _ | exact LeO.refl _ | exact LeO.none _ | refine LeO.ite ?_ ?_ | refine LeO.bind ?_ (fun _ => ?_)
theorem spec_DrawFlushDecoder.calls (k : Nat) (A0 : Option Addr) (c0 : Nat) (l0 : List Int) (r1 : Int) (r2 : Int) (r3 : Int) (r4 : ByteArray) (w : World) (hr0 : Kd.C (Kd.int .u8) w A0 l0.length l0) (hc0 : l0.length ≤ c0) (h : spec_DrawFlushDecoder.f k l0 = some (r1, r2, r3, r4)) :
  Calls Tryd.prog 15 #[.slice A0 l0.length c0] w fun e w' => e = .returned (.agg #[.int .i64 r1, .int .i64 r2, .int .i64 r3, .string r4]) ∧ Below w.heap.size w w' := by
 have hu25 := Tryd.underlying25
 have HR0 := Aside0.mk hr0
 have HC0 := Aside0.mk hc0
 clear hr0 hc0
 have HB := Aside0.mk (Below.refl w.heap.size w)
 have H : ((spec_DrawGoodDecoder.f k l0).bind fun bt454 => (some (bt454.1, bt454.2.1, bt454.2.2.1, bt454.2.2.2))) = some (r1, r2, r3, r4) := h
 clear h
 replace H := Option.bind_eq_some_iff.mp H
 obtain ⟨⟨t454, t455, t456, t457⟩, A20, H⟩ := H
 replace H : (some (t454, t455, t456, t457)) = some (r1, r2, r3, r4) := H
 have A2 := Aside0.mk A20
 clear A20
 simp only [Option.some.injEq, Prod.mk.injEq] at H
 obtain ⟨rfl, rfl, rfl, rfl⟩ := H
 go_enter Tryd.func15, Tryd.ntmps15
 go_wp2_with (first | ((with_reducible refine gate_dst (N := 2) rfl ?_); refine box_event ?hg (N := 2) ?hd (cs := #[.int .i64 0, .int .i64 0, .int .i64 0, .string (⟨#[]⟩ : ByteArray)]) (t := 25) ?hr ?_; (case hd => rfl); (case hg => rfl); (case hr => first | (go_simp; done) | (go_simp; rfl)); intro gb453 hg w3 hbox hb; have n0_ := Aside0.mk (below_step Zb15_0 hb); have n1_ := Aside0.mk (hbox); have n2_ := Aside0.mk ((by rw [hg]; exact (below_size Zb15_0) : w.heap.size ≤ gb453)); have n3_ := Aside0.mk ((by rw [hg]; exact (below_size Zb15_0) : w.heap.size ≤ gb453)); clear HB; have HB := n0_; have BK453 := n1_; have GW453 := n2_; have GE453 := n3_; clear n0_ n1_ n2_ n3_; clear hb hbox hg) | ((with_reducible refine gate_callee (f := 65) rfl ?_); refine goesL_ (some 4) rfl rfl Tryd.func65 (by kernel_rfl) rfl #[.slice A0 l0.length c0] rfl (by (try simp only [List.map_toArray, List.map_cons, List.map_nil]); first | done | rfl | (simp only [List.length_drop, List.length_take]; rfl)) ?_; (with_reducible refine (spec_DrawGoodDecoder.calls k _ _ l0 t454 t455 t456 t457 _ ?side1 ?side2 A2.out).mono ?_); (case side1 => repeat (first | exact (Kd.C_below HR0.out HB.out) | (with_reducible refine Kd.C_alloc ?_ _) | (with_reducible refine Kd.C_drewN ?_ _) | (with_reducible refine Kd.C_drew ?_))); (case side2 => exact HC0.out); rintro e w4 ⟨rfl, hb⟩; refine ⟨_, rfl, ?_⟩; have n0_ := Aside0.mk (blk_below (g := gb453) (o := .cells #[.int .i64 0, .int .i64 0, .int .i64 0, .string (⟨#[]⟩ : ByteArray)] 25 (0, 0)) (by (with_reducible repeat (first | refine blk_drewN ?_ _ | refine blk_drew ?_ | refine blk_alloc ?_ _)); exact BK453.out) hb); have n1_ := Aside0.mk (below_step Zb15_1 hb); clear BK453; clear HB; have BK453 := n0_; have HB := n1_; clear n0_ n1_; (try clear hb); (try clear hb2); (try clear hk); (try clear hi); obtain ⟨hcz5_0, hcz5_1, hcz5_2, hcz5_3⟩ := Sw.cz4 BK453.out; obtain ⟨hfz5_0, hfz5_1, hfz5_2, hfz5_3⟩ := Sw.fz4 BK453.out))
 refine bodyPost_ret (results_cell_row rfl _ _ gb453 25 #[.int .i64 t454, .int .i64 t455, .int .i64 t456, .string t457] (0, 0) _ rfl (by (with_reducible repeat (first | refine blk_drewN ?_ _ | refine blk_drew ?_ | refine blk_alloc ?_ _)); refine blk_put (cs := #[.int .i64 t454, .int .i64 t455, .int .i64 t456, .string (⟨#[]⟩ : ByteArray)]) ?_ 3 _ rfl; (with_reducible repeat (first | refine blk_drewN ?_ _ | refine blk_drew ?_ | refine blk_alloc ?_ _)); refine blk_put (cs := #[.int .i64 t454, .int .i64 t455, .int .i64 0, .string (⟨#[]⟩ : ByteArray)]) ?_ 2 _ rfl; (with_reducible repeat (first | refine blk_drewN ?_ _ | refine blk_drew ?_ | refine blk_alloc ?_ _)); refine blk_put (cs := #[.int .i64 t454, .int .i64 0, .int .i64 0, .string (⟨#[]⟩ : ByteArray)]) ?_ 1 _ rfl; (with_reducible repeat (first | refine blk_drewN ?_ _ | refine blk_drew ?_ | refine blk_alloc ?_ _)); refine blk_put (cs := #[.int .i64 0, .int .i64 0, .int .i64 0, .string (⟨#[]⟩ : ByteArray)]) ?_ 0 _ rfl; (with_reducible repeat (first | refine blk_drewN ?_ _ | refine blk_drew ?_ | refine blk_alloc ?_ _)); exact BK453.out) Tryd.underlying25 rfl (by kernel_rfl)) rfl ?_
 exact ⟨Sw.e, Zb15_1⟩

theorem Zb66_0 {p : Prop} (h : p := by repeat (first | (with_reducible first | exact HI0.out | apply IsS25.alloc | apply IsS25.drewN | apply IsS25.drew | apply IsS25.set_0 | apply IsS25.set_1 | apply IsS25.set_2 | apply IsS25.set_3) | exact HI0.out)) : p := h
theorem Zb66_1 {p : Prop} (h : p := by repeat (first | (with_reducible first | exact HB.out | apply below_alloc | apply pw_below_drewN | apply below_drew1 | refine below_set ?_ (IsS25.ge HI0.out)) | exact HB.out)) : p := h
theorem Zb66_2 {p : Prop} (h : p := by repeat (first | (with_reducible first | exact HK.out | apply KeepBut.set_ | apply keep_drewN | apply keep_drew | apply keep_alloc) | exact HK.out)) : p := h
mutual
def impl_Decoder_flush.j0 : Nat → List Int → List Int → Int → Int → Int → Int → ByteArray → Option (List Int × List Int × Int × Int × Int × ByteArray)
 | 0, _, _, _, _, _, _, _ => none
 | k + 1, x4, x5, x6, x1000, x1001, x1002, x1003 => impl_Decoder_flush.l0 k x4 x5 x6 x1000 x1001 x1002 x1003
def impl_Decoder_flush.l0 : Nat → List Int → List Int → Int → Int → Int → Int → ByteArray → Option (List Int × List Int × Int × Int × Int × ByteArray)
 | 0, _, _, _, _, _, _, _ => none
 | k + 1, x4, x5, x6, x1000, x1001, x1002, x1003 => if x1003.toList = ([] : List UInt8) then (some (x4, x5, x1000, x1001, x1002, x1003)) else (if x4.length < 17592186044416 then (if x5.length < 17592186044416 then (if 0 ≤ (mn x6 (x1003.size : Int)) then (if (mn x6 (x1003.size : Int)) ≤ (x1003.size : Int) then (impl_Decoder_flush.l0 k (x4 ++ [65533]) (x5 ++ [mn x6 (x1003.size : Int)]) x6 x1000 x1001 x1002 (x1003.extract ((mn x6 (x1003.size : Int)) : Int).toNat x1003.size)) else (none)) else (none)) else (none)) else (none))
end
def impl_Decoder_flush.f (k : Nat) (s0_0 : Int) (s0_1 : Int) (s0_2 : Int) (s0_3 : ByteArray) : Option (List Int × List Int × Int × Int × Int × ByteArray) := (some (([] : List Int) : List Int)).bind fun y458 => ((some (([] : List Int) : List Int)).bind fun y461 => ((impl_isUnits.f s0_0).bind fun t464 => (if t464 = true then (impl_Decoder_flush.j0 k y458 y461 2 s0_0 s0_1 s0_2 s0_3) else (impl_Decoder_flush.j0 k y458 y461 1 s0_0 s0_1 s0_2 s0_3))))
theorem impl_Decoder_flush.mono_l : ∀ k, (∀ y0 y1 y2 y3 y4 y5 y6, LeO (impl_Decoder_flush.j0 k y0 y1 y2 y3 y4 y5 y6) (impl_Decoder_flush.j0 (k + 1) y0 y1 y2 y3 y4 y5 y6)) ∧ (∀ y0 y1 y2 y3 y4 y5 y6, LeO (impl_Decoder_flush.l0 k y0 y1 y2 y3 y4 y5 y6) (impl_Decoder_flush.l0 (k + 1) y0 y1 y2 y3 y4 y5 y6))
 | 0 => ⟨fun _ _ _ _ _ _ _ r h => by simp [impl_Decoder_flush.j0] at h, fun _ _ _ _ _ _ _ r h => by simp [impl_Decoder_flush.l0] at h⟩
 | k + 1 => by
  obtain ⟨ih0, ih1⟩ := impl_Decoder_flush.mono_l k
  refine ⟨?_, ?_⟩
  ·intro y0 y1 y2 y3 y4 y5 y6
   unfold impl_Decoder_flush.j0
   with_reducible repeat' first | exact ih0 _ _ _ _ _ _ _ | exact ih1 _ _ _ _ _ _ _ | exact LeO.refl _ | exact LeO.none _ | refine LeO.ite ?_ ?_ | refine LeO.bind ?_ (fun _ => ?_)
  ·intro y0 y1 y2 y3 y4 y5 y6
   unfold impl_Decoder_flush.l0
   with_reducible repeat' first | exact ih0 _ _ _ _ _ _ _ | exact ih1 _ _ _ _ _ _ _ | exact LeO.refl _ | exact LeO.none _ | refine LeO.ite ?_ ?_ | refine LeO.bind ?_ (fun _ => ?_)
theorem impl_Decoder_flush.mono : ∀ a0 a1 a2 a3 k, LeO (impl_Decoder_flush.f k a0 a1 a2 a3) (impl_Decoder_flush.f (k + 1) a0 a1 a2 a3) := by
 intro a0 a1 a2 a3 k
 obtain ⟨ih0, ih1⟩ := impl_Decoder_flush.mono_l k
 unfold impl_Decoder_flush.f
 with_reducible repeat' first | exact ih0 _ _ _ _ _ _ _ | exact ih1 _ _ _ _ _ _ _ | exact LeO.refl _ | exact LeO.none _ | refine LeO.ite ?_ ?_ | refine LeO.bind ?_ (fun _ => ?_)
theorem impl_Decoder_flush.calls (k : Nat) (g : Nat) (s0_0 : Int) (s0_1 : Int) (s0_2 : Int) (s0_3 : ByteArray) (r1 : List Int) (r2 : List Int) (r3 : Int) (r4 : Int) (r5 : Int) (r6 : ByteArray) (w0 w : World) (hI : IsS25 w0 w g s0_0 s0_1 s0_2 s0_3) (hB : Below w0.heap.size w0 w) (h : impl_Decoder_flush.f k s0_0 s0_1 s0_2 s0_3 = some (r1, r2, r3, r4, r5, r6)) :
  Calls Tryd.prog 66 #[.pointer (some ⟨g, 0, none⟩)] w fun e w' => ∃ v0_ v1_ : Value, e = .returned (.tuple #[v0_, v1_]) ∧ Kd.R (Kd.int .i64) 3 w' w.heap.size (fun k_ => some k_ ≠ (v1_ : Value).ownBlock) v0_ r1 ∧ Kd.R (Kd.int .i64) 3 w' w.heap.size (fun k_ => some k_ ≠ (v0_ : Value).ownBlock) v1_ r2 ∧ IsS25 w0 w' g r3 r4 r5 r6 ∧ Below w0.heap.size w0 w' ∧ KeepBut w w' g none := by
 have HI0 := Aside0.mk hI
 have HK := Aside0.mk (KeepBut.refl w g none)
 have HL := Aside0.mk hB.size
 clear hI
 have HW0 := Aside0.mk hB.size
 have HB := Aside0.mk hB
 clear hB
 have H : ((some (([] : List Int) : List Int)).bind fun y458 => ((some (([] : List Int) : List Int)).bind fun y461 => ((impl_isUnits.f s0_0).bind fun t464 => (if t464 = true then (impl_Decoder_flush.j0 k y458 y461 2 s0_0 s0_1 s0_2 s0_3) else (impl_Decoder_flush.j0 k y458 y461 1 s0_0 s0_1 s0_2 s0_3))))) = some (r1, r2, r3, r4, r5, r6) := h
 clear h
 obtain ⟨y458, hy458⟩ : ∃ y_ : List Int, y_ = (([] : List Int)) := ⟨_, rfl⟩
 replace H : ((some (([] : List Int) : List Int)).bind fun y461 => ((impl_isUnits.f s0_0).bind fun t464 => (if t464 = true then (impl_Decoder_flush.j0 k y458 y461 2 s0_0 s0_1 s0_2 s0_3) else (impl_Decoder_flush.j0 k y458 y461 1 s0_0 s0_1 s0_2 s0_3)))) = some (r1, r2, r3, r4, r5, r6) := by rw [hy458]; exact H
 have Ny458 := Aside0.mk hy458
 clear hy458
 obtain ⟨y461, hy461⟩ : ∃ y_ : List Int, y_ = (([] : List Int)) := ⟨_, rfl⟩
 replace H : ((impl_isUnits.f s0_0).bind fun t464 => (if t464 = true then (impl_Decoder_flush.j0 k y458 y461 2 s0_0 s0_1 s0_2 s0_3) else (impl_Decoder_flush.j0 k y458 y461 1 s0_0 s0_1 s0_2 s0_3))) = some (r1, r2, r3, r4, r5, r6) := by rw [hy461]; exact H
 have Ny461 := Aside0.mk hy461
 clear hy461
 replace H := Option.bind_eq_some_iff.mp H
 obtain ⟨t464, A20, H⟩ := H
 replace H : (if t464 = true then (impl_Decoder_flush.j0 k y458 y461 2 s0_0 s0_1 s0_2 s0_3) else (impl_Decoder_flush.j0 k y458 y461 1 s0_0 s0_1 s0_2 s0_3)) = some (r1, r2, r3, r4, r5, r6) := H
 have A2 := Aside0.mk A20
 clear A20
 have HC3 := Aside0.mk H
 clear H
 go_enter Tryd.func66, Tryd.ntmps66
 go_upto_if 14 with (first | ((with_reducible refine gate_dst (N := 8) rfl ?_); refine Kd.R_lit (Kd.int .i64) _ 3 ?hg (N := 8) ?hd (xs := ([] : List Int)) (inner := []) (ok := fun _ => True) (okp := fun _ => True) ?hr ?hp (fun _ hk => hk) trivial (Below.refl _ _) (Nat.le_refl _) (by simp) ?_; (case hd => rfl); (case hg => rfl); (case hr => go_simp <;> rfl); (case hp => exact (Reps.none _ _)); intro v459 w4 ho5 hb hg_ hnew_; clear hg_ hnew_; (first | rw [← Ny458.out] at ho5 | (simp only [Int.reduceToNat] at ho5; rw [← Ny458.out] at ho5)); have HO460 := Aside0.mk (Kd.R_lower ho5 (keep_size (w := w) (g := g) (row := none) HK.out)); replace HK := Aside0.mk (KeepBut.trans HK.out (KeepBut.of_below hb g none) (.inl rfl)); replace HB := Aside0.mk (below_step HB.out hb); replace HI0 := Aside0.mk (IsS25.below HI0.out hb); clear hb ho5) | ((with_reducible refine gate_dst (N := 9) rfl ?_); refine Kd.R_lit (Kd.int .i64) _ 3 ?hg (N := 9) ?hd (xs := ([] : List Int)) (inner := []) (ok := fun _ => True) (okp := fun _ => True) ?hr ?hp (fun _ hk => hk) trivial (Below.refl _ _) (Nat.le_refl _) (by simp) ?_; (case hd => rfl); (case hg => rfl); (case hr => go_simp <;> rfl); (case hp => exact (Reps.none _ _)); intro v462 w6 ho7 hb hg_ hnew_; clear hg_ hnew_; (first | rw [← Ny461.out] at ho7 | (simp only [Int.reduceToNat] at ho7; rw [← Ny461.out] at ho7)); have HO463 := Aside0.mk (Kd.R_lower (Kd.R_new' ho7 (Kd.R_lt (Sw.rt HO460.out))) (keep_size (w := w) (g := g) (row := none) HK.out)); replace HO460 := Aside0.mk (Kd.R_elder' (Sw.rt HO460.out) (Kd.R_base ho7) hb); replace HK := Aside0.mk (KeepBut.trans HK.out (KeepBut.of_below hb g none) (.inl rfl)); replace HB := Aside0.mk (below_step HB.out hb); replace HI0 := Aside0.mk (IsS25.below HI0.out hb); clear hb ho7; obtain ⟨HGz8, hgz8⟩ := HI0.out; have hcz8_0 := cellS25_0 HGz8; have hcz8_1 := cellS25_1 HGz8; have hcz8_2 := cellS25_2 HGz8; have hcz8_3 := cellS25_3 HGz8; have hfz8_0 := blk_frozen HGz8 0; have hfz8_1 := blk_frozen HGz8 1; have hfz8_2 := blk_frozen HGz8 2; have hfz8_3 := blk_frozen HGz8 3; clear HGz8 hgz8) | ((with_reducible refine gate_callee (f := 56) rfl ?_); refine goesL_ (some 14) rfl rfl Tryd.func56 (by kernel_rfl) rfl #[.int .i64 s0_0] rfl (by simp only [List.map_toArray, List.map_cons, List.map_nil] <;> rfl) ?_; (with_reducible refine (impl_isUnits.calls s0_0 t464 _ A2.out).mono ?_); rintro e w' ⟨rfl, ⟨nd, rfl⟩⟩; refine ⟨_, rfl, ?_⟩))
 (try simp only [Act.put, List.setIfInBounds_toArray, List.set_cons_zero, List.set_cons_succ])
 go_cut [6] (fun v6 wc => ∃ (kq : Nat) (x6_2 : Int), v6 = .int .i64 x6_2 ∧ Aside0 (impl_Decoder_flush.j0 kq y458 y461 x6_2 s0_0 s0_1 s0_2 s0_3 = some (r1, r2, r3, r4, r5, r6)) ∧ Aside0 (kq ≤ k) ∧ Aside0 (Kd.R (Kd.int .i64) 3 wc w.heap.size (fun k_ => some k_ ≠ (v462 : Value).ownBlock) v459 y458) ∧ Aside0 (Kd.R (Kd.int .i64) 3 wc w.heap.size (fun k_ => some k_ ≠ (v459 : Value).ownBlock) v462 y461) ∧ Aside0 (IsS25 w0 wc g s0_0 s0_1 s0_2 s0_3) ∧ Aside0 (KeepBut w wc g none) ∧ Aside0 (Below w0.heap.size w0 wc))
 case first =>
  have H := HC3.out
  clear HC3
  by_cases c9 : t464 = true
  ·subst c9
   have H1 : (impl_Decoder_flush.j0 k y458 y461 2 s0_0 s0_1 s0_2 s0_3) = some (r1, r2, r3, r4, r5, r6) := by rw [if_pos rfl] at H; exact H
   clear H
   have H := H1
   clear H1
   have H' := Aside0.mk H
   clear H
   go_wp2
   go_meet
   case rel => exact ⟨_, (2), Sw.r, H', ⟨by first | omega | exact Nat.le_refl _⟩, ⟨Sw.rt (Kd.R_mono HO460.out (fun _ hk => hk.2))⟩, ⟨Sw.rt (Kd.R_mono HO463.out (fun _ hk => hk.2))⟩, ⟨Zb66_0⟩, ⟨Zb66_2⟩, ⟨Zb66_1⟩⟩
  ·replace c9 := Bool.eq_false_iff.mpr c9
   subst c9
   have H1 : (impl_Decoder_flush.j0 k y458 y461 1 s0_0 s0_1 s0_2 s0_3) = some (r1, r2, r3, r4, r5, r6) := by rw [if_neg (show ¬ (false = true) by decide)] at H; exact H
   clear H
   have H := H1
   clear H1
   have H' := Aside0.mk H
   clear H
   go_wp2
   go_meet
   case rel => exact ⟨_, (1), Sw.r, H', ⟨by first | omega | exact Nat.le_refl _⟩, ⟨Sw.rt (Kd.R_mono HO460.out (fun _ hk => hk.2))⟩, ⟨Sw.rt (Kd.R_mono HO463.out (fun _ hk => hk.2))⟩, ⟨Zb66_0⟩, ⟨Zb66_2⟩, ⟨Zb66_1⟩⟩
 case rest =>
  clear HC3
  try clear p2
  try clear c5
  try clear c6
  try clear c9
  try clear hcz8_0 hcz8_1 hcz8_2 hcz8_3
  try clear hfz8_0 hfz8_1 hfz8_2 hfz8_3
  obtain ⟨kq, x6_2, rfl, HA, HJ2, HO_4, HO_5, HI0, HK, HB⟩ := hcut
  cases kq with
  | zero => exact absurd HA.out (by simp [impl_Decoder_flush.j0])
  | succ kj2 =>
   have H := HA.out
   clear HA
   simp only [impl_Decoder_flush.j0] at H
   have H' := Aside0.mk H
   clear H
   go_wp2
   go_loopg [4, 5] kj2 (fun kq v4 v5 w' => ∃ (x4_2 : List Int) (x5_2 : List Int) (x1003_2 : ByteArray), Aside0 (impl_Decoder_flush.l0 kq x4_2 x5_2 x6_2 s0_0 s0_1 s0_2 x1003_2 = some (r1, r2, r3, r4, r5, r6)) ∧ Aside0 (kq ≤ kj2) ∧ Aside0 (Kd.R (Kd.int .i64) 3 w' w.heap.size (fun k_ => some k_ ≠ (v5 : Value).ownBlock) v4 x4_2) ∧ Aside0 (Kd.R (Kd.int .i64) 3 w' w.heap.size (fun k_ => some k_ ≠ (v4 : Value).ownBlock) v5 x5_2) ∧ Aside0 (IsS25 w0 w' g s0_0 s0_1 s0_2 x1003_2) ∧ Aside0 (KeepBut w w' g none) ∧ Aside0 (Below w0.heap.size w0 w'))
   case atStart => exact ⟨(y458), (y461), (s0_3), H', ⟨Nat.le_refl _⟩, ⟨Sw.rt HO_4.out⟩, ⟨Sw.rt HO_5.out⟩, ⟨HI0.out⟩, ⟨HK.out⟩, ⟨HB.out⟩⟩
   case round =>
    clear H'
    try clear p2
    try clear c5
    try clear c6
    try clear c9
    try clear hcz8_0 hcz8_1 hcz8_2 hcz8_3
    try clear hfz8_0 hfz8_1 hfz8_2 hfz8_3
    try clear p2
    obtain ⟨x4_2, x5_2, x1003_2, HA, HK2, HO_4, HO_5, HI0, HK, HB⟩ := hrel
    cases gk with
    | zero => exact absurd HA.out (by simp [impl_Decoder_flush.l0])
    | succ k2 =>
     have H := HA.out
     clear HA
     simp only [impl_Decoder_flush.l0] at H
     by_cases c10 : x1003_2.toList = ([] : List UInt8)
     ·rw [if_pos c10] at H
      have c10b0 : (x1003_2.toList == ([] : List UInt8)) = true := beq_iff_eq.mpr c10
      have c10b1 : (x1003_2.toList != ([] : List UInt8)) = false := bne_eq_false_iff_eq.mpr c10
      clear c10
      simp only [Option.some.injEq, Prod.mk.injEq] at H
      obtain ⟨rfl, rfl, rfl, rfl, rfl, rfl⟩ := H
      obtain ⟨HGz11, hgz11⟩ := HI0.out
      have hcz11_0 := cellS25_0 HGz11
      have hcz11_1 := cellS25_1 HGz11
      have hcz11_2 := cellS25_2 HGz11
      have hcz11_3 := cellS25_3 HGz11
      have hfz11_0 := blk_frozen HGz11 0
      have hfz11_1 := blk_frozen HGz11 1
      have hfz11_2 := blk_frozen HGz11 2
      have hfz11_3 := blk_frozen HGz11 3
      clear HGz11 hgz11
      go_wp2
      go_ret2
      exact ⟨_, _, Sw.e, by (with_reducible repeat (first | apply Kd.R_alloc | apply Kd.R_drewN | apply Kd.R_drew)); exact HO_4.out, by (with_reducible repeat (first | apply Kd.R_alloc | apply Kd.R_drewN | apply Kd.R_drew)); exact HO_5.out, HI0.out, HB.out, HK.out⟩
     ·rw [if_neg c10] at H
      have c10b0 : (x1003_2.toList == ([] : List UInt8)) = false := beq_eq_false_iff_ne.mpr c10
      have c10b1 : (x1003_2.toList != ([] : List UInt8)) = true := bne_iff_ne.mpr c10
      obtain ⟨ji12, hji12⟩ : ∃ j_ : Int, (mn x6_2 (x1003_2.size : Int)) = j_ := ⟨_, rfl⟩
      replace H : (if x4_2.length < 17592186044416 then (if x5_2.length < 17592186044416 then (if 0 ≤ (ji12) then (if (ji12) ≤ (x1003_2.size : Int) then (impl_Decoder_flush.l0 k2 (x4_2 ++ [65533]) (x5_2 ++ [ji12]) x6_2 s0_0 s0_1 s0_2 (x1003_2.extract ((ji12) : Int).toNat x1003_2.size)) else (none)) else (none)) else (none)) else (none)) = some (r1, r2, r3, r4, r5, r6) := by first | (rw [hji12] at H; exact H) | (simp only [hji12] at H ⊢; exact H)
      have hji12_ : (if (x1003_2.size : Int) < x6_2 then (x1003_2.size : Int) else x6_2) = ji12 := hji12
      by_cases c13 : x4_2.length < 17592186044416
      ·rw [if_pos c13] at H
       have LMc13 := Aside0.mk c13
       clear c13
       obtain ⟨y465, hy465⟩ : ∃ y_ : List Int, y_ = (x4_2 ++ [65533]) := ⟨_, rfl⟩
       replace H : (if x5_2.length < 17592186044416 then (if 0 ≤ (ji12) then (if (ji12) ≤ (x1003_2.size : Int) then (impl_Decoder_flush.l0 k2 y465 (x5_2 ++ [ji12]) x6_2 s0_0 s0_1 s0_2 (x1003_2.extract ((ji12) : Int).toNat x1003_2.size)) else (none)) else (none)) else (none)) = some (r1, r2, r3, r4, r5, r6) := by rw [hy465]; exact H
       have Ny465 := Aside0.mk hy465
       clear hy465
       by_cases c14 : x5_2.length < 17592186044416
       ·rw [if_pos c14] at H
        have LMc14 := Aside0.mk c14
        clear c14
        obtain ⟨y468, hy468⟩ : ∃ y_ : List Int, y_ = (x5_2 ++ [ji12]) := ⟨_, rfl⟩
        replace H : (if 0 ≤ (ji12) then (if (ji12) ≤ (x1003_2.size : Int) then (impl_Decoder_flush.l0 k2 y465 y468 x6_2 s0_0 s0_1 s0_2 (x1003_2.extract ((ji12) : Int).toNat x1003_2.size)) else (none)) else (none)) = some (r1, r2, r3, r4, r5, r6) := by rw [hy468]; exact H
        have Ny468 := Aside0.mk hy468
        clear hy468
        by_cases c15 : 0 ≤ (ji12)
        ·rw [if_pos c15] at H
         have c15b0 := eq_true c15
         have c15b1 : decide (0 ≤ (ji12)) = true := decide_eq_true c15
         clear c15
         by_cases c16 : (ji12) ≤ (x1003_2.size : Int)
         ·rw [if_pos c16] at H
          have c16b0 := eq_true c16
          have c16b1 : decide ((ji12) ≤ (x1003_2.size : Int)) = true := decide_eq_true c16
          clear c16
          have H' := Aside0.mk H
          clear H
          obtain ⟨HGz17, hgz17⟩ := HI0.out
          have hcz17_0 := cellS25_0 HGz17
          have hcz17_1 := cellS25_1 HGz17
          have hcz17_2 := cellS25_2 HGz17
          have hcz17_3 := cellS25_3 HGz17
          have hfz17_0 := blk_frozen HGz17 0
          have hfz17_1 := blk_frozen HGz17 1
          have hfz17_2 := blk_frozen HGz17 2
          have hfz17_3 := blk_frozen HGz17 3
          clear HGz17 hgz17
          go_wp2_with (first | ((with_reducible refine gate_builtin (b := .append) (xs := #[.tmp 27, .tmp 28]) rfl ?_); at_builtin; refine Kd.R_append (Kd.int .i64) w.heap.size rfl (.tmp 27) (.tmp 28) 28 3 (.int .i64 0) 8 rfl Tryd.underlying28 info3 rfl (by decide) (by omega) u4 x4_2 65533 [.int .i64 65533] (fun k_ => some k_ ≠ (u5 : Value).ownBlock) (fun _ => False) rfl rfl ?aP (fun _ hk => hk.elim) ?aF ?aO (Below.refl _ _) ?aS ?aL ?_; (case aP => exact rfl); (case aF => exact (fun k_ hk => Kd.fresh' (Kd.R_lt (Sw.rt HO_5.out)) k_ hk)); (case aO => exact (Sw.rt HO_4.out)); (case aS => exact (keep_size (w := w) (g := g) (row := none) HK.out)); (case aL => have := LMc13.out; omega); intro v466 w18 ho hb hg hat; rw [← Ny465.out] at ho; replace HO_5 := Aside0.mk (Kd.R_after (ok := (fun _ => True)) (Sw.rt (Kd.R_mono HO_5.out (fun _ hk => ⟨trivial, hk⟩))) hg hat); replace HB := Aside0.mk (below_weaken HB.out HL.out hb); replace HI0 := Aside0.mk (IsS25.grown HI0.out hg (IsS25.own_ne HI0.out HO_4.out (by decide))); replace HK := Aside0.mk (KeepBut.trans HK.out (KeepBut.of_grown hg g) (Kd.R_base2 HO_4.out)); have HO467 := Aside0.mk (ho); clear HO_4; clear ho hb hg hat) | ((with_reducible refine gate_builtin (b := .append) (xs := #[.tmp 30, .tmp 32]) rfl ?_); at_builtin; refine Kd.R_append (Kd.int .i64) w.heap.size rfl (.tmp 30) (.tmp 32) 28 3 (.int .i64 0) 8 rfl Tryd.underlying28 info3 rfl (by decide) (by omega) u5 x5_2 ji12 [.int .i64 ji12] (fun k_ => some k_ ≠ (v466 : Value).ownBlock) (fun _ => False) rfl rfl ?aP (fun _ hk => hk.elim) ?aF ?aO (Below.refl _ _) ?aS ?aL ?_; (case aP => exact rfl); (case aF => exact (fun k_ hk => Kd.fresh' (Kd.R_lt (Sw.rt HO467.out)) k_ hk)); (case aO => exact (Sw.rt (Kd.R_mono HO_5.out (fun _ hk => hk.2)))); (case aS => exact (keep_size (w := w) (g := g) (row := none) HK.out)); (case aL => have := LMc14.out; omega); intro v469 w19 ho hb hg hat; rw [← Ny468.out] at ho; replace HO467 := Aside0.mk (Kd.R_after (ok := (fun _ => True)) (Sw.rt (Kd.R_mono HO467.out (fun _ hk => ⟨trivial, hk⟩))) hg hat); replace HB := Aside0.mk (below_weaken HB.out HL.out hb); replace HI0 := Aside0.mk (IsS25.grown HI0.out hg (IsS25.own_ne HI0.out HO_5.out (by decide))); replace HK := Aside0.mk (KeepBut.trans HK.out (KeepBut.of_grown hg g) (Kd.R_base2 HO_5.out)); have HO470 := Aside0.mk (ho); clear HO_5; clear ho hb hg hat; obtain ⟨HGz20, hgz20⟩ := HI0.out; have hcz20_0 := cellS25_0 HGz20; have hcz20_1 := cellS25_1 HGz20; have hcz20_2 := cellS25_2 HGz20; have hcz20_3 := cellS25_3 HGz20; have hfz20_0 := blk_frozen HGz20 0; have hfz20_1 := blk_frozen HGz20 1; have hfz20_2 := blk_frozen HGz20 2; have hfz20_3 := blk_frozen HGz20 3; clear HGz20 hgz20))
          go_roundg k2
          case measure => have := HJ2.out; have := HK2.out; omega
          case rel => exact ⟨(y465), (y468), (x1003_2.extract ((ji12) : Int).toNat x1003_2.size), H', ⟨by have := HJ2.out; have := HK2.out; omega⟩, ⟨Sw.rt (Kd.R_mono (Kd.R_far (p := ⟨g, 3, none⟩) (IsS25.apart HI0.out HO467.out (by decide)) (fun _ hk => hk.2) (.string (x1003_2.extract ((ji12) : Int).toNat x1003_2.size))) (fun _ hk => hk.1.2))⟩, ⟨Sw.rt (Kd.R_mono (Kd.R_far (p := ⟨g, 3, none⟩) (IsS25.apart HI0.out HO470.out (by decide)) (fun _ hk => hk.2) (.string (x1003_2.extract ((ji12) : Int).toNat x1003_2.size))) (fun _ hk => hk.1))⟩, ⟨Zb66_0⟩, ⟨Zb66_2⟩, ⟨Zb66_1⟩⟩
         ·rw [if_neg c16] at H
          exact absurd H (by simp)
        ·rw [if_neg c15] at H
         exact absurd H (by simp)
       ·rw [if_neg c14] at H
        exact absurd H (by simp)
      ·rw [if_neg c13] at H
       exact absurd H (by simp)

theorem Zb16_0 {p : Prop} (h : p := by repeat (first | (with_reducible first | exact HI471.out | apply IsS25.alloc | apply IsS25.drewN | apply IsS25.drew | apply IsS25.set_0 | apply IsS25.set_1 | apply IsS25.set_2 | apply IsS25.set_3) | exact HI471.out)) : p := h
theorem Zb16_1 {p : Prop} (h : p := by repeat (first | (with_reducible first | exact HB.out | apply below_alloc | apply pw_below_drewN | apply below_drew1 | refine below_set ?_ (IsS25.ge HI471.out) | refine below_set ?_ GE472.out) | exact HB.out)) : p := h
theorem Zb16_2 {p : Prop} (h : p := by first | exact Kd.R_nil _ _ _ _ _ | exact Kd.N_nil _ _ _ _ _ | exact Kd.V_nil _ _ _ _ _ | exact Kd.Q_nil _ _ _ _ _ | exact Kd.S_nil _ _ _ _ _) : p := h
theorem Zb16_3 {p : Prop} (h : p := by simp only [List.map_toArray, List.map_cons, List.map_nil] <;> rfl) : p := h
def impl_FlushDecoder.f (k : Nat) (a0_0 : Int) (a0_1 : Int) (a0_2 : Int) (a0_3 : ByteArray) : Option (Int × Int × Int × ByteArray × List Int × List Int × Bool) := (impl_GoodDecoder.f k a0_0 a0_1 a0_2 a0_3).bind fun t473 => (if t473 = true then ((impl_Decoder_flush.f k a0_0 a0_1 a0_2 a0_3).bind fun bt474 => (some (bt474.2.2.1, bt474.2.2.2.1, bt474.2.2.2.2.1, bt474.2.2.2.2.2, bt474.1, bt474.2.1, true))) else (some (0, 0, 0, (⟨#[]⟩ : ByteArray), ([] : List Int), ([] : List Int), false)))
theorem impl_FlushDecoder.mono : ∀ a0 a1 a2 a3 k, LeO (impl_FlushDecoder.f k a0 a1 a2 a3) (impl_FlushDecoder.f (k + 1) a0 a1 a2 a3) := by
 intro a0 a1 a2 a3 k
 unfold impl_FlushDecoder.f
 with_reducible repeat' first | exact impl_Decoder_flush.mono _ _ _ _ _ | exact impl_GoodDecoder.mono _ _ _ _ _ | exact LeO.refl _ | exact LeO.none _ | refine LeO.ite ?_ ?_ | refine LeO.bind ?_ (fun _ => ?_)
theorem impl_FlushDecoder.calls (k : Nat) (a0_0 : Int) (a0_1 : Int) (a0_2 : Int) (a0_3 : ByteArray) (r1 : Int) (r2 : Int) (r3 : Int) (r4 : ByteArray) (r5 : List Int) (r6 : List Int) (r7 : Bool) (w : World) (hT : Lib.Utf8Tabs 0 1 w) (h : impl_FlushDecoder.f k a0_0 a0_1 a0_2 a0_3 = some (r1, r2, r3, r4, r5, r6, r7)) :
  Calls Tryd.prog 16 #[.agg #[.int .i64 a0_0, .int .i64 a0_1, .int .i64 a0_2, .string a0_3]] w fun e w' => ∃ v4_ v5_ : Value, e = .returned (.tuple #[.agg #[.int .i64 r1, .int .i64 r2, .int .i64 r3, .string r4], v4_, v5_, .bool r7]) ∧ Kd.R (Kd.int .i64) 3 w' w.heap.size (fun k_ => some k_ ≠ (v5_ : Value).ownBlock) v4_ r5 ∧ Kd.R (Kd.int .i64) 3 w' w.heap.size (fun k_ => some k_ ≠ (v4_ : Value).ownBlock) v5_ r6 ∧ Below w.heap.size w w' := by
 have HT := Aside0.mk hT
 clear hT
 have hu25 := Tryd.underlying25
 have HB := Aside0.mk (Below.refl w.heap.size w)
 have H : ((impl_GoodDecoder.f k a0_0 a0_1 a0_2 a0_3).bind fun t473 => (if t473 = true then ((impl_Decoder_flush.f k a0_0 a0_1 a0_2 a0_3).bind fun bt474 => (some (bt474.2.2.1, bt474.2.2.2.1, bt474.2.2.2.2.1, bt474.2.2.2.2.2, bt474.1, bt474.2.1, true))) else (some (0, 0, 0, (⟨#[]⟩ : ByteArray), ([] : List Int), ([] : List Int), false)))) = some (r1, r2, r3, r4, r5, r6, r7) := h
 clear h
 replace H := Option.bind_eq_some_iff.mp H
 obtain ⟨t473, A20, H⟩ := H
 replace H : (if t473 = true then ((impl_Decoder_flush.f k a0_0 a0_1 a0_2 a0_3).bind fun bt474 => (some (bt474.2.2.1, bt474.2.2.2.1, bt474.2.2.2.2.1, bt474.2.2.2.2.2, bt474.1, bt474.2.1, true))) else (some (0, 0, 0, (⟨#[]⟩ : ByteArray), ([] : List Int), ([] : List Int), false))) = some (r1, r2, r3, r4, r5, r6, r7) := H
 have A2 := Aside0.mk A20
 clear A20
 by_cases c3 : t473 = true
 ·subst c3
  have H1 : ((impl_Decoder_flush.f k a0_0 a0_1 a0_2 a0_3).bind fun bt474 => (some (bt474.2.2.1, bt474.2.2.2.1, bt474.2.2.2.2.1, bt474.2.2.2.2.2, bt474.1, bt474.2.1, true))) = some (r1, r2, r3, r4, r5, r6, r7) := by rw [if_pos rfl] at H; exact H
  clear H
  have H := H1
  clear H1
  replace H := Option.bind_eq_some_iff.mp H
  obtain ⟨⟨t474, t477, t480, t481, t482, t483⟩, A40, H⟩ := H
  replace H : (some (t480, t481, t482, t483, t474, t477, true)) = some (r1, r2, r3, r4, r5, r6, r7) := H
  have A4 := Aside0.mk A40
  clear A40
  simp only [Option.some.injEq, Prod.mk.injEq] at H
  obtain ⟨rfl, rfl, rfl, rfl, rfl, rfl, rfl⟩ := H
  go_enter Tryd.func16, Tryd.ntmps16
  go_wp2_with (first | ((with_reducible refine gate_dst (N := 1) rfl ?_); refine box_event ?hg (N := 1) ?hd (cs := #[.int .i64 a0_0, .int .i64 a0_1, .int .i64 a0_2, .string a0_3]) (t := 25) ?hr ?_; (case hd => rfl); (case hg => rfl); (case hr => go_simp <;> rfl); intro gb471 hg w5 hbox hb; have n0_ := Aside0.mk (below_step Sw.hb hb); have n1_ := Aside0.mk (show IsS25 w w5 gb471 a0_0 a0_1 a0_2 a0_3 from ⟨hbox, (by rw [hg]; exact (below_size Sw.hb))⟩); clear HB; have HB := n0_; have HI471 := n1_; clear n0_ n1_; clear hb hbox hg) | ((with_reducible refine gate_dst (N := 2) rfl ?_); refine box_event ?hg (N := 2) ?hd (cs := #[.int .i64 0, .int .i64 0, .int .i64 0, .string (⟨#[]⟩ : ByteArray)]) (t := 25) ?hr ?_; (case hd => rfl); (case hg => rfl); (case hr => go_simp <;> rfl); intro gb472 hg w6 hbox hb; have n0_ := Aside0.mk (IsS25.below HI471.out hb); have n1_ := Aside0.mk (below_step HB.out hb); have n2_ := Aside0.mk (hbox); have n3_ := Aside0.mk ((by rw [hg]; exact (below_size HB.out) : w.heap.size ≤ gb472)); have n4_ := Aside0.mk ((by rw [hg]; exact (below_size HB.out) : w.heap.size ≤ gb472)); have n5_ := Aside0.mk ((by rw [hg]; exact Nat.ne_of_lt (IsS25.lt (show IsS25 w _ gb471 a0_0 a0_1 a0_2 a0_3 from Zb16_0)) : gb471 ≠ gb472)); have n6_ := Aside0.mk ((by rw [hg]; exact Nat.ne_of_gt (IsS25.lt (show IsS25 w _ gb471 a0_0 a0_1 a0_2 a0_3 from Zb16_0)) : gb472 ≠ gb471)); clear HI471; clear HB; have HI471 := n0_; have HB := n1_; have BK472 := n2_; have GW472 := n3_; have GE472 := n4_; have NB471_472 := n5_; have NB472_471 := n6_; clear n0_ n1_ n2_ n3_ n4_ n5_ n6_; clear hb hbox hg; obtain ⟨HGz7, hgz7⟩ := HI471.out; have hcz7_0 := cellS25_0 HGz7; have hcz7_1 := cellS25_1 HGz7; have hcz7_2 := cellS25_2 HGz7; have hcz7_3 := cellS25_3 HGz7; have hfz7_0 := blk_frozen HGz7 0; have hfz7_1 := blk_frozen HGz7 1; have hfz7_2 := blk_frozen HGz7 2; have hfz7_3 := blk_frozen HGz7 3; clear HGz7 hgz7) | ((with_reducible refine gate_callee (f := 11) rfl ?_); refine goesL_ (some 9) rfl rfl Tryd.func11 (by kernel_rfl) rfl #[.agg #[.int .i64 a0_0, .int .i64 a0_1, .int .i64 a0_2, .string a0_3]] rfl Zb16_3 ?_; (with_reducible refine (impl_GoodDecoder.calls k a0_0 a0_1 a0_2 a0_3 true _ Sw.ht A2.out).mono ?_); rintro e w8 ⟨rfl, hb⟩; refine ⟨_, rfl, ?_⟩; replace BK472 := Aside0.mk (Sw.bl BK472.out hb); replace HB := Aside0.mk (below_step HB.out hb); replace HI471 := Aside0.mk (IsS25.below HI471.out hb)) | ((with_reducible refine gate_callee (f := 66) rfl ?_); refine goesL_ (some 13) rfl rfl Tryd.func66 (by kernel_rfl) rfl #[.pointer (some ⟨gb471, 0, none⟩)] rfl Zb16_3 ?_; (with_reducible refine (impl_Decoder_flush.calls k gb471 a0_0 a0_1 a0_2 a0_3 t474 t477 t480 t481 t482 t483 w _ ?side1 ?side2 A4.out).mono ?_); (case side1 => exact HI471.out); (case side2 => exact HB.out); rintro e w9 ⟨v475, v478, rfl, ho0, ho1, hi, hb, hk⟩; refine ⟨_, rfl, ?_⟩; replace BK472 := Aside0.mk (KeepBut.blk hk (g' := gb472) (o := .cells #[.int .i64 0, .int .i64 0, .int .i64 0, .string (⟨#[]⟩ : ByteArray)] 25 (0, 0)) (Sw.bk BK472.out) NB472_471.out (by simp)); have HO476 := Aside0.mk (Kd.R_lower ho0 (below_size HB.out)); have HO479 := Aside0.mk (Kd.R_lower ho1 (below_size HB.out)); replace HB := Aside0.mk (hb); replace HI471 := Aside0.mk (hi); obtain ⟨HGz10, hgz10⟩ := HI471.out; have hcz10_0 := cellS25_0 HGz10; have hcz10_1 := cellS25_1 HGz10; have hcz10_2 := cellS25_2 HGz10; have hcz10_3 := cellS25_3 HGz10; have hfz10_0 := blk_frozen HGz10 0; have hfz10_1 := blk_frozen HGz10 1; have hfz10_2 := blk_frozen HGz10 2; have hfz10_3 := blk_frozen HGz10 3; clear HGz10 hgz10; have hnb11 := NB472_471.out; have hnc11 := NB471_472.out; obtain ⟨hcz12_0, hcz12_1, hcz12_2, hcz12_3⟩ := Sw.cz4 BK472.out; obtain ⟨hfz12_0, hfz12_1, hfz12_2, hfz12_3⟩ := Sw.fz4 BK472.out))
  refine bodyPost_ret (results_list (rs := [.cell 2 25, .tmp 3, .tmp 4, .tmp 5]) rfl (by simp) (.cell gb472 25 #[.int .i64 t480, .int .i64 t481, .int .i64 t482, .string t483] (0, 0) _ rfl (Sw.bp (Sw.p0_1_2_3 BK472.out)) Tryd.underlying25 rfl (by kernel_rfl) (.tmp (.tmp (.tmp .nil))))) rfl ?_
  exact ⟨_, _, Sw.e, by (with_reducible repeat (first | apply Kd.R_alloc | apply Kd.R_drewN | apply Kd.R_drew)); exact Kd.R_mono (Sw.f0_1_2_3 HO476.out BK472.out) (fun _ hk => hk.1), by (with_reducible repeat (first | apply Kd.R_alloc | apply Kd.R_drewN | apply Kd.R_drew)); exact Kd.R_mono (Sw.f0_1_2_3 HO479.out BK472.out) (fun _ hk => hk.1), Zb16_1⟩
 ·replace c3 := Bool.eq_false_iff.mpr c3
  subst c3
  have H1 : (some (0, 0, 0, (⟨#[]⟩ : ByteArray), ([] : List Int), ([] : List Int), false)) = some (r1, r2, r3, r4, r5, r6, r7) := by rw [if_neg (show ¬ (false = true) by decide)] at H; exact H
  clear H
  have H := H1
  clear H1
  simp only [Option.some.injEq, Prod.mk.injEq] at H
  obtain ⟨rfl, rfl, rfl, rfl, rfl, rfl, rfl⟩ := H
  go_enter Tryd.func16, Tryd.ntmps16
  go_wp2_with (first | ((with_reducible refine gate_dst (N := 1) rfl ?_); refine box_event ?hg (N := 1) ?hd (cs := #[.int .i64 a0_0, .int .i64 a0_1, .int .i64 a0_2, .string a0_3]) (t := 25) ?hr ?_; (case hd => rfl); (case hg => rfl); (case hr => go_simp <;> rfl); intro gb471 hg w13 hbox hb; have n0_ := Aside0.mk (below_step Sw.hb hb); have n1_ := Aside0.mk (show IsS25 w w13 gb471 a0_0 a0_1 a0_2 a0_3 from ⟨hbox, (by rw [hg]; exact (below_size Sw.hb))⟩); clear HB; have HB := n0_; have HI471 := n1_; clear n0_ n1_; clear hb hbox hg) | ((with_reducible refine gate_dst (N := 2) rfl ?_); refine box_event ?hg (N := 2) ?hd (cs := #[.int .i64 0, .int .i64 0, .int .i64 0, .string (⟨#[]⟩ : ByteArray)]) (t := 25) ?hr ?_; (case hd => rfl); (case hg => rfl); (case hr => go_simp <;> rfl); intro gb472 hg w14 hbox hb; have n0_ := Aside0.mk (IsS25.below HI471.out hb); have n1_ := Aside0.mk (below_step HB.out hb); have n2_ := Aside0.mk (hbox); have n3_ := Aside0.mk ((by rw [hg]; exact (below_size HB.out) : w.heap.size ≤ gb472)); have n4_ := Aside0.mk ((by rw [hg]; exact (below_size HB.out) : w.heap.size ≤ gb472)); have n5_ := Aside0.mk ((by rw [hg]; exact Nat.ne_of_lt (IsS25.lt (show IsS25 w _ gb471 a0_0 a0_1 a0_2 a0_3 from Zb16_0)) : gb471 ≠ gb472)); have n6_ := Aside0.mk ((by rw [hg]; exact Nat.ne_of_gt (IsS25.lt (show IsS25 w _ gb471 a0_0 a0_1 a0_2 a0_3 from Zb16_0)) : gb472 ≠ gb471)); clear HI471; clear HB; have HI471 := n0_; have HB := n1_; have BK472 := n2_; have GW472 := n3_; have GE472 := n4_; have NB471_472 := n5_; have NB472_471 := n6_; clear n0_ n1_ n2_ n3_ n4_ n5_ n6_; clear hb hbox hg; obtain ⟨HGz15, hgz15⟩ := HI471.out; have hcz15_0 := cellS25_0 HGz15; have hcz15_1 := cellS25_1 HGz15; have hcz15_2 := cellS25_2 HGz15; have hcz15_3 := cellS25_3 HGz15; have hfz15_0 := blk_frozen HGz15 0; have hfz15_1 := blk_frozen HGz15 1; have hfz15_2 := blk_frozen HGz15 2; have hfz15_3 := blk_frozen HGz15 3; clear HGz15 hgz15) | ((with_reducible refine gate_callee (f := 11) rfl ?_); refine goesL_ (some 9) rfl rfl Tryd.func11 (by kernel_rfl) rfl #[.agg #[.int .i64 a0_0, .int .i64 a0_1, .int .i64 a0_2, .string a0_3]] rfl Zb16_3 ?_; (with_reducible refine (impl_GoodDecoder.calls k a0_0 a0_1 a0_2 a0_3 false _ Sw.ht A2.out).mono ?_); rintro e w16 ⟨rfl, hb⟩; refine ⟨_, rfl, ?_⟩; replace BK472 := Aside0.mk (Sw.bl BK472.out hb); replace HB := Aside0.mk (below_step HB.out hb); replace HI471 := Aside0.mk (IsS25.below HI471.out hb); have hnb17 := NB472_471.out; have hnc17 := NB471_472.out; obtain ⟨hcz18_0, hcz18_1, hcz18_2, hcz18_3⟩ := Sw.cz4 BK472.out; obtain ⟨hfz18_0, hfz18_1, hfz18_2, hfz18_3⟩ := Sw.fz4 BK472.out))
  refine bodyPost_ret (results_list (rs := [.cell 2 25, .tmp 3, .tmp 4, .tmp 5]) rfl (by simp) (.cell gb472 25 #[.int .i64 0, .int .i64 0, .int .i64 0, .string (⟨#[]⟩ : ByteArray)] (0, 0) _ rfl (Sw.bp (Sw.p0_1_2_3 BK472.out)) Tryd.underlying25 rfl (by kernel_rfl) (.tmp (.tmp (.tmp .nil))))) rfl ?_
  exact ⟨_, _, Sw.e, Zb16_2, Zb16_2, Zb16_1⟩

theorem Zb67_0 {p : Prop} (h : p := by first | exact Kd.R_nil _ _ _ _ _ | exact Kd.N_nil _ _ _ _ _ | exact Kd.V_nil _ _ _ _ _ | exact Kd.Q_nil _ _ _ _ _ | exact Kd.S_nil _ _ _ _ _) : p := h
theorem Zb67_1 {p : Prop} (h : p := by simp only [List.map_toArray, List.map_cons, List.map_nil] <;> rfl) : p := h
def spec_l2Flush.l0 : Nat → List Int → List Int → ByteArray → Int → Int → Int → ByteArray → Option (Int × Int × Int × ByteArray × List Int × List Int)
 | 0, _, _, _, _, _, _, _ => none
 | k + 1, x5, x6, x7, x485000, x485001, x485002, x485003 => if x7.toList = ([] : List UInt8) then (some (x485000, x485001, x485002, (⟨#[]⟩ : ByteArray), x5, x6)) else ((spec_l2Units.f x485000).bind fun t486 => (if t486 = true then (if (x7.size : Int) > 1 then (if x5.length < 17592186044416 then (if x6.length < 17592186044416 then (if 2 ≤ (x7.size : Int) then (spec_l2Flush.l0 k (x5 ++ [65533]) (x6 ++ [2]) (x7.extract 2 x7.size) x485000 x485001 x485002 x485003) else (none)) else (none)) else (none)) else (if x5.length < 17592186044416 then (if x6.length < 17592186044416 then (if 1 ≤ (x7.size : Int) then (spec_l2Flush.l0 k (x5 ++ [65533]) (x6 ++ [1]) (x7.extract 1 x7.size) x485000 x485001 x485002 x485003) else (none)) else (none)) else (none))) else (if x5.length < 17592186044416 then (if x6.length < 17592186044416 then (if 1 ≤ (x7.size : Int) then (spec_l2Flush.l0 k (x5 ++ [65533]) (x6 ++ [1]) (x7.extract 1 x7.size) x485000 x485001 x485002 x485003) else (none)) else (none)) else (none))))
def spec_l2Flush.f (k : Nat) (a0_0 : Int) (a0_1 : Int) (a0_2 : Int) (a0_3 : ByteArray) : Option (Int × Int × Int × ByteArray × List Int × List Int) := spec_l2Flush.l0 k ([] : List Int) ([] : List Int) a0_3 a0_0 a0_1 a0_2 a0_3
theorem spec_l2Flush.mono_l : ∀ k, (∀ y0 y1 y2 y3 y4 y5 y6, LeO (spec_l2Flush.l0 k y0 y1 y2 y3 y4 y5 y6) (spec_l2Flush.l0 (k + 1) y0 y1 y2 y3 y4 y5 y6))
 | 0 => fun _ _ _ _ _ _ _ r h => by simp [spec_l2Flush.l0] at h
 | k + 1 => by
  have ih0 := spec_l2Flush.mono_l k
  ·intro y0 y1 y2 y3 y4 y5 y6
   unfold spec_l2Flush.l0
   with_reducible repeat' first | exact ih0 _ _ _ _ _ _ _ | exact LeO.refl _ | exact LeO.none _ | refine LeO.ite ?_ ?_ | refine LeO.bind ?_ (fun _ => ?_)
theorem spec_l2Flush.mono : ∀ a0 a1 a2 a3 k, LeO (spec_l2Flush.f k a0 a1 a2 a3) (spec_l2Flush.f (k + 1) a0 a1 a2 a3) := by
 intro a0 a1 a2 a3 k
 have ih0 := spec_l2Flush.mono_l k
 unfold spec_l2Flush.f
 with_reducible repeat' first | exact ih0 _ _ _ _ _ _ _ | exact LeO.refl _ | exact LeO.none _ | refine LeO.ite ?_ ?_ | refine LeO.bind ?_ (fun _ => ?_)
theorem spec_l2Flush.calls (k : Nat) (a0_0 : Int) (a0_1 : Int) (a0_2 : Int) (a0_3 : ByteArray) (r1 : Int) (r2 : Int) (r3 : Int) (r4 : ByteArray) (r5 : List Int) (r6 : List Int) (w : World) (h : spec_l2Flush.f k a0_0 a0_1 a0_2 a0_3 = some (r1, r2, r3, r4, r5, r6)) :
  Calls Tryd.prog 67 #[.agg #[.int .i64 a0_0, .int .i64 a0_1, .int .i64 a0_2, .string a0_3]] w fun e w' => ∃ v4_ v5_ : Value, e = .returned (.tuple #[.agg #[.int .i64 r1, .int .i64 r2, .int .i64 r3, .string r4], v4_, v5_]) ∧ Kd.R (Kd.int .i64) 3 w' w.heap.size (fun k_ => some k_ ≠ (v5_ : Value).ownBlock) v4_ r5 ∧ Kd.R (Kd.int .i64) 3 w' w.heap.size (fun k_ => some k_ ≠ (v4_ : Value).ownBlock) v5_ r6 ∧ Below w.heap.size w w' := by
 have hu25 := Tryd.underlying25
 have HB := Aside0.mk (Below.refl w.heap.size w)
 have H : (spec_l2Flush.l0 k ([] : List Int) ([] : List Int) a0_3 a0_0 a0_1 a0_2 a0_3) = some (r1, r2, r3, r4, r5, r6) := h
 clear h
 have H' := Aside0.mk H
 clear H
 go_enter Tryd.func67, Tryd.ntmps67
 go_wp2_with (first | ((with_reducible refine gate_dst (N := 1) rfl ?_); (try (refine gate_guard (by rfl) ?_; dsimp only)); refine box_event ?hg (N := 1) ?hd (cs := #[.int .i64 a0_0, .int .i64 a0_1, .int .i64 a0_2, .string a0_3]) (t := 25) ?hr ?_; (case hd => rfl); (case hg => rfl); (case hr => go_simp <;> rfl); intro gb484 hg w2 hbox hb; have BK484 := Aside0.mk (hbox); have GW484 := Aside0.mk ((Sw.gs hg)); have GE484 := Aside0.mk ((Sw.gs hg)); replace HB := Aside0.mk (below_step Sw.hb hb); clear hb hbox hg) | ((with_reducible refine gate_dst (N := 2) rfl ?_); (try (refine gate_guard (by rfl) ?_; dsimp only)); refine box_event ?hg (N := 2) ?hd (cs := #[.int .i64 0, .int .i64 0, .int .i64 0, .string (⟨#[]⟩ : ByteArray)]) (t := 25) ?hr ?_; (case hd => rfl); (case hg => rfl); (case hr => go_simp <;> rfl); intro gb485 hg w3 hbox hb; have BK485 := Aside0.mk (hbox); have GW485 := Aside0.mk ((Sw.gs hg)); have GE485 := Aside0.mk ((Sw.gs hg)); replace HB := Aside0.mk (below_step Sw.hb hb); have NB484_485 := Aside0.mk (Sw.nl hg BK484.out); have NB485_484 := Aside0.mk (Sw.ng hg BK484.out); replace BK484 := Aside0.mk (Sw.bl BK484.out hb); clear hb hbox hg; have hnb4 := NB484_485.out; have hnc4 := NB485_484.out; obtain ⟨hcz5_0, hcz5_1, hcz5_2, hcz5_3⟩ := Sw.cz4 BK484.out; obtain ⟨hfz5_0, hfz5_1, hfz5_2, hfz5_3⟩ := Sw.fz4 BK484.out))
 go_loopg [5, 6, 7] k (fun kq v5 v6 v7 w' => ∃ (x5_1 : List Int) (x6_1 : List Int) (x7_1 : ByteArray), v7 = .string x7_1 ∧ Aside0 (spec_l2Flush.l0 kq x5_1 x6_1 x7_1 a0_0 a0_1 a0_2 a0_3 = some (r1, r2, r3, r4, r5, r6)) ∧ Aside0 (kq ≤ k) ∧ Aside0 (Kd.R (Kd.int .i64) 3 w' w.heap.size (fun k_ => some k_ ≠ (v6 : Value).ownBlock) v5 x5_1) ∧ Aside0 (Kd.R (Kd.int .i64) 3 w' w.heap.size (fun k_ => some k_ ≠ (v5 : Value).ownBlock) v6 x6_1) ∧ Aside0 (w'.heap[gb484]? = some (.cells #[.int .i64 a0_0, .int .i64 a0_1, .int .i64 a0_2, .string a0_3] 25 (0, 0))) ∧ Aside0 (w'.heap[gb485]? = some (.cells #[.int .i64 0, .int .i64 0, .int .i64 0, .string (⟨#[]⟩ : ByteArray)] 25 (0, 0))) ∧ Aside0 (Below w.heap.size w w'))
 case atStart => exact ⟨(([] : List Int)), (([] : List Int)), (a0_3), Sw.r, H', ⟨Nat.le_refl _⟩, ⟨Zb67_0⟩, ⟨Zb67_0⟩, ⟨Sw.bk BK484.out⟩, ⟨Sw.bk BK485.out⟩, ⟨Sw.hb⟩⟩
 case round =>
  clear H'
  try clear p2
  try clear c4
  try clear hcz5_0 hcz5_1 hcz5_2 hcz5_3
  try clear hfz5_0 hfz5_1 hfz5_2 hfz5_3
  obtain ⟨x5_1, x6_1, x7_1, rfl, HA, HK1, HO_5, HO_6, BK484, BK485, HB⟩ := hrel
  cases gk with
  | zero => exact absurd HA.out (by simp [spec_l2Flush.l0])
  | succ k1 =>
   have H := HA.out
   clear HA
   simp only [spec_l2Flush.l0] at H
   by_cases c6 : x7_1.toList = ([] : List UInt8)
   ·rw [if_pos c6] at H
    have c6b0 : (x7_1.toList == ([] : List UInt8)) = true := beq_iff_eq.mpr c6
    have c6b1 : (x7_1.toList != ([] : List UInt8)) = false := bne_eq_false_iff_eq.mpr c6
    clear c6
    simp only [Option.some.injEq, Prod.mk.injEq] at H
    obtain ⟨rfl, rfl, rfl, rfl, rfl, rfl⟩ := H
    have hnb7 := NB484_485.out
    have hnc7 := NB485_484.out
    obtain ⟨hcz8_0, hcz8_1, hcz8_2, hcz8_3⟩ := Sw.cz4 BK484.out
    obtain ⟨hfz8_0, hfz8_1, hfz8_2, hfz8_3⟩ := Sw.fz4 BK484.out
    obtain ⟨hcz9_0, hcz9_1, hcz9_2, hcz9_3⟩ := Sw.cz4 BK485.out
    obtain ⟨hfz9_0, hfz9_1, hfz9_2, hfz9_3⟩ := Sw.fz4 BK485.out
    go_wp2
    refine bodyPost_ret (results_ctt rfl _ _ gb485 25 #[.int .i64 a0_0, .int .i64 a0_1, .int .i64 a0_2, .string (⟨#[]⟩ : ByteArray)] (0, 0) _ rfl (by (with_reducible repeat (first | refine blk_drewN ?_ _ | refine blk_drew ?_ | refine blk_alloc ?_ _)); refine blk_put (cs := #[.int .i64 a0_0, .int .i64 a0_1, .int .i64 a0_2, .string (⟨#[]⟩ : ByteArray)]) ?_ 3 _ rfl; (with_reducible repeat (first | refine blk_drewN ?_ _ | refine blk_drew ?_ | refine blk_alloc ?_ _)); refine blk_put (cs := #[.int .i64 a0_0, .int .i64 a0_1, .int .i64 0, .string (⟨#[]⟩ : ByteArray)]) ?_ 2 _ rfl; (with_reducible repeat (first | refine blk_drewN ?_ _ | refine blk_drew ?_ | refine blk_alloc ?_ _)); refine blk_put (cs := #[.int .i64 a0_0, .int .i64 0, .int .i64 0, .string (⟨#[]⟩ : ByteArray)]) ?_ 1 _ rfl; (with_reducible repeat (first | refine blk_drewN ?_ _ | refine blk_drew ?_ | refine blk_alloc ?_ _)); refine blk_put (cs := #[.int .i64 0, .int .i64 0, .int .i64 0, .string (⟨#[]⟩ : ByteArray)]) ?_ 0 _ rfl; (with_reducible repeat (first | refine blk_drewN ?_ _ | refine blk_drew ?_ | refine blk_alloc ?_ _)); refine blk_far ?_ NB485_484.out _; (with_reducible repeat (first | refine blk_drewN ?_ _ | refine blk_drew ?_ | refine blk_alloc ?_ _)); exact BK485.out) Tryd.underlying25 rfl (by kernel_rfl)) rfl ?_
    exact ⟨_, _, Sw.e, by (with_reducible repeat (first | apply Kd.R_alloc | apply Kd.R_drewN | apply Kd.R_drew)); exact Kd.R_mono (Kd.R_far (p := ⟨gb485, 3, none⟩) (Kd.R_far (p := ⟨gb485, 2, none⟩) (Kd.R_far (p := ⟨gb485, 1, none⟩) (Kd.R_far (p := ⟨gb485, 0, none⟩) (Kd.R_far (p := ⟨gb484, 3, none⟩) (Kd.R_types (Kd.R_types HO_5.out BK484.out (by decide)) BK485.out (by decide)) (fun _ hk => hk.1.2) (.string (⟨#[]⟩ : ByteArray))) (fun _ hk => hk.2) (.int .i64 a0_0)) (fun _ hk => hk.2) (.int .i64 a0_1)) (fun _ hk => hk.2) (.int .i64 a0_2)) (fun _ hk => hk.2) (.string (⟨#[]⟩ : ByteArray))) (fun _ hk => hk.1.1), by (with_reducible repeat (first | apply Kd.R_alloc | apply Kd.R_drewN | apply Kd.R_drew)); exact Kd.R_mono (Kd.R_far (p := ⟨gb485, 3, none⟩) (Kd.R_far (p := ⟨gb485, 2, none⟩) (Kd.R_far (p := ⟨gb485, 1, none⟩) (Kd.R_far (p := ⟨gb485, 0, none⟩) (Kd.R_far (p := ⟨gb484, 3, none⟩) (Kd.R_types (Kd.R_types HO_6.out BK484.out (by decide)) BK485.out (by decide)) (fun _ hk => hk.1.2) (.string (⟨#[]⟩ : ByteArray))) (fun _ hk => hk.2) (.int .i64 a0_0)) (fun _ hk => hk.2) (.int .i64 a0_1)) (fun _ hk => hk.2) (.int .i64 a0_2)) (fun _ hk => hk.2) (.string (⟨#[]⟩ : ByteArray))) (fun _ hk => hk.1.1), by repeat (first | (with_reducible first | exact HB.out | apply below_alloc | apply pw_below_drewN | apply below_drew1 | refine below_set ?_ GE484.out | refine below_set ?_ GE485.out) | exact HB.out)⟩
   ·rw [if_neg c6] at H
    have c6b0 : (x7_1.toList == ([] : List UInt8)) = false := beq_eq_false_iff_ne.mpr c6
    have c6b1 : (x7_1.toList != ([] : List UInt8)) = true := bne_iff_ne.mpr c6
    replace H := Option.bind_eq_some_iff.mp H
    obtain ⟨t486, A100, H⟩ := H
    replace H : (if t486 = true then (if (x7_1.size : Int) > 1 then (if x5_1.length < 17592186044416 then (if x6_1.length < 17592186044416 then (if 2 ≤ (x7_1.size : Int) then (spec_l2Flush.l0 k1 (x5_1 ++ [65533]) (x6_1 ++ [2]) (x7_1.extract 2 x7_1.size) a0_0 a0_1 a0_2 a0_3) else (none)) else (none)) else (none)) else (if x5_1.length < 17592186044416 then (if x6_1.length < 17592186044416 then (if 1 ≤ (x7_1.size : Int) then (spec_l2Flush.l0 k1 (x5_1 ++ [65533]) (x6_1 ++ [1]) (x7_1.extract 1 x7_1.size) a0_0 a0_1 a0_2 a0_3) else (none)) else (none)) else (none))) else (if x5_1.length < 17592186044416 then (if x6_1.length < 17592186044416 then (if 1 ≤ (x7_1.size : Int) then (spec_l2Flush.l0 k1 (x5_1 ++ [65533]) (x6_1 ++ [1]) (x7_1.extract 1 x7_1.size) a0_0 a0_1 a0_2 a0_3) else (none)) else (none)) else (none))) = some (r1, r2, r3, r4, r5, r6) := H
    have A10 := Aside0.mk A100
    clear A100
    by_cases c11 : t486 = true
    ·subst c11
     have H1 : (if (x7_1.size : Int) > 1 then (if x5_1.length < 17592186044416 then (if x6_1.length < 17592186044416 then (if 2 ≤ (x7_1.size : Int) then (spec_l2Flush.l0 k1 (x5_1 ++ [65533]) (x6_1 ++ [2]) (x7_1.extract 2 x7_1.size) a0_0 a0_1 a0_2 a0_3) else (none)) else (none)) else (none)) else (if x5_1.length < 17592186044416 then (if x6_1.length < 17592186044416 then (if 1 ≤ (x7_1.size : Int) then (spec_l2Flush.l0 k1 (x5_1 ++ [65533]) (x6_1 ++ [1]) (x7_1.extract 1 x7_1.size) a0_0 a0_1 a0_2 a0_3) else (none)) else (none)) else (none))) = some (r1, r2, r3, r4, r5, r6) := by rw [if_pos rfl] at H; exact H
     clear H
     have H := H1
     clear H1
     by_cases c12 : (x7_1.size : Int) > 1
     ·rw [if_pos c12] at H
      have c12b0 : decide (1 < (x7_1.size : Int)) = true := decide_eq_true c12
      have c12b1 : decide (1 < x7_1.size) = true := decide_eq_true (by omega)
      clear c12
      by_cases c13 : x5_1.length < 17592186044416
      ·rw [if_pos c13] at H
       have LMc13 := Aside0.mk c13
       clear c13
       obtain ⟨y487, hy487⟩ : ∃ y_ : List Int, y_ = (x5_1 ++ [65533]) := ⟨_, rfl⟩
       replace H : (if x6_1.length < 17592186044416 then (if 2 ≤ (x7_1.size : Int) then (spec_l2Flush.l0 k1 y487 (x6_1 ++ [2]) (x7_1.extract 2 x7_1.size) a0_0 a0_1 a0_2 a0_3) else (none)) else (none)) = some (r1, r2, r3, r4, r5, r6) := by rw [hy487]; exact H
       have Ny487 := Aside0.mk hy487
       clear hy487
       by_cases c14 : x6_1.length < 17592186044416
       ·rw [if_pos c14] at H
        have LMc14 := Aside0.mk c14
        clear c14
        obtain ⟨y490, hy490⟩ : ∃ y_ : List Int, y_ = (x6_1 ++ [2]) := ⟨_, rfl⟩
        replace H : (if 2 ≤ (x7_1.size : Int) then (spec_l2Flush.l0 k1 y487 y490 (x7_1.extract 2 x7_1.size) a0_0 a0_1 a0_2 a0_3) else (none)) = some (r1, r2, r3, r4, r5, r6) := by rw [hy490]; exact H
        have Ny490 := Aside0.mk hy490
        clear hy490
        by_cases c15 : 2 ≤ (x7_1.size : Int)
        ·rw [if_pos c15] at H
         have c15b0 := eq_true c15
         have c15b1 : decide (2 ≤ (x7_1.size : Int)) = true := decide_eq_true c15
         clear c15
         have H' := Aside0.mk H
         clear H
         have hnb16 := NB484_485.out
         have hnc16 := NB485_484.out
         obtain ⟨hcz17_0, hcz17_1, hcz17_2, hcz17_3⟩ := Sw.cz4 BK484.out
         obtain ⟨hfz17_0, hfz17_1, hfz17_2, hfz17_3⟩ := Sw.fz4 BK484.out
         go_wp2_with (first | ((with_reducible refine gate_callee (f := 62) rfl ?_); refine goesL_ (some 15) rfl rfl Tryd.func62 (by kernel_rfl) rfl #[.int .i64 a0_0] rfl Zb67_1 ?_; (with_reducible refine (spec_l2Units.calls a0_0 true _ A10.out).mono ?_); rintro e w' ⟨rfl, ⟨nd, rfl⟩⟩; refine ⟨_, rfl, ?_⟩) | ((with_reducible refine gate_builtin (b := .append) (xs := #[.tmp 21, .tmp 22]) rfl ?_); (try (refine gate_guard (by rfl) ?_; dsimp only)); at_builtin; refine Kd.R_append (Kd.int .i64) (w0 := w) w.heap.size rfl (.tmp 21) (.tmp 22) 28 3 (.int .i64 0) 8 rfl Tryd.underlying28 info3 rfl (by decide) (by omega) u5 x5_1 65533 [.int .i64 65533] (fun k_ => some k_ ≠ (u6 : Value).ownBlock) (fun _ => False) rfl rfl ?aP (fun _ hk => hk.elim) ?aF ?aO ?aB ?aS ?aL ?_; (case aP => exact rfl); (case aB => exact Sw.hb); (case aF => exact (fun k_ hk => Kd.fresh' (Kd.R_lt (Sw.rt HO_6.out)) k_ hk)); (case aO => exact (Sw.rt HO_5.out)); (case aS => exact (below_size Sw.hb)); (case aL => have := LMc13.out; omega); intro v488 w18 ho hb hg hat; rw [← Ny487.out] at ho; replace HO_6 := Aside0.mk (Kd.R_after (ok := (fun _ => True)) (Sw.rt (Kd.R_mono HO_6.out (fun _ hk => ⟨trivial, hk⟩))) hg hat); replace BK484 := Aside0.mk (blk_grown (g := gb484) (o := .cells #[.int .i64 a0_0, .int .i64 a0_1, .int .i64 a0_2, .string a0_3] 25 (0, 0)) (Sw.bk BK484.out) hg (Kd.R_ne HO_5.out BK484.out (by decide))); replace BK485 := Aside0.mk (blk_grown (g := gb485) (o := .cells #[.int .i64 0, .int .i64 0, .int .i64 0, .string (⟨#[]⟩ : ByteArray)] 25 (0, 0)) (Sw.bk BK485.out) hg (Kd.R_ne HO_5.out BK485.out (by decide))); replace HB := Aside0.mk (hb); have HO489 := Aside0.mk (ho); clear HO_5; clear ho hb hg hat) | ((with_reducible refine gate_builtin (b := .append) (xs := #[.tmp 24, .tmp 26]) rfl ?_); (try (refine gate_guard (by rfl) ?_; dsimp only)); at_builtin; refine Kd.R_append (Kd.int .i64) (w0 := w) w.heap.size rfl (.tmp 24) (.tmp 26) 28 3 (.int .i64 0) 8 rfl Tryd.underlying28 info3 rfl (by decide) (by omega) u6 x6_1 2 [.int .i64 2] (fun k_ => some k_ ≠ (v488 : Value).ownBlock) (fun _ => False) rfl rfl ?aP (fun _ hk => hk.elim) ?aF ?aO ?aB ?aS ?aL ?_; (case aP => exact rfl); (case aB => exact Sw.hb); (case aF => exact (fun k_ hk => Kd.fresh' (Kd.R_lt (Sw.rt HO489.out)) k_ hk)); (case aO => exact (Sw.rt (Kd.R_mono HO_6.out (fun _ hk => hk.2)))); (case aS => exact (below_size Sw.hb)); (case aL => have := LMc14.out; omega); intro v491 w19 ho hb hg hat; rw [← Ny490.out] at ho; replace BK484 := Aside0.mk (blk_grown (g := gb484) (o := .cells #[.int .i64 a0_0, .int .i64 a0_1, .int .i64 a0_2, .string a0_3] 25 (0, 0)) (Sw.bk BK484.out) hg (Kd.R_ne HO_6.out BK484.out (by decide))); replace BK485 := Aside0.mk (blk_grown (g := gb485) (o := .cells #[.int .i64 0, .int .i64 0, .int .i64 0, .string (⟨#[]⟩ : ByteArray)] 25 (0, 0)) (Sw.bk BK485.out) hg (Kd.R_ne HO_6.out BK485.out (by decide))); replace HO489 := Aside0.mk (Kd.R_after (ok := (fun _ => True)) (Sw.rt (Kd.R_mono HO489.out (fun _ hk => ⟨trivial, hk⟩))) hg hat); replace HB := Aside0.mk (hb); have HO492 := Aside0.mk (ho); clear HO_6; clear ho hb hg hat))
         go_roundg k1
         case measure => have := HK1.out; omega
         case rel => exact ⟨(y487), (y490), (x7_1.extract 2 x7_1.size), Sw.r, H', ⟨by have := HK1.out; omega⟩, ⟨Sw.rt (Kd.R_mono HO489.out (fun _ hk => hk.2))⟩, ⟨Sw.rt HO492.out⟩, ⟨Sw.bk BK484.out⟩, ⟨Sw.bk BK485.out⟩, ⟨Sw.hb⟩⟩
        ·rw [if_neg c15] at H
         exact absurd H (by simp)
       ·rw [if_neg c14] at H
        exact absurd H (by simp)
      ·rw [if_neg c13] at H
       exact absurd H (by simp)
     ·rw [if_neg c12] at H
      have c12b0 : decide (1 < (x7_1.size : Int)) = false := decide_eq_false c12
      have c12b1 : decide (1 < x7_1.size) = false := decide_eq_false (by omega)
      clear c12
      by_cases c20 : x5_1.length < 17592186044416
      ·rw [if_pos c20] at H
       have LMc20 := Aside0.mk c20
       clear c20
       obtain ⟨y493, hy493⟩ : ∃ y_ : List Int, y_ = (x5_1 ++ [65533]) := ⟨_, rfl⟩
       replace H : (if x6_1.length < 17592186044416 then (if 1 ≤ (x7_1.size : Int) then (spec_l2Flush.l0 k1 y493 (x6_1 ++ [1]) (x7_1.extract 1 x7_1.size) a0_0 a0_1 a0_2 a0_3) else (none)) else (none)) = some (r1, r2, r3, r4, r5, r6) := by rw [hy493]; exact H
       have Ny493 := Aside0.mk hy493
       clear hy493
       by_cases c21 : x6_1.length < 17592186044416
       ·rw [if_pos c21] at H
        have LMc21 := Aside0.mk c21
        clear c21
        obtain ⟨y496, hy496⟩ : ∃ y_ : List Int, y_ = (x6_1 ++ [1]) := ⟨_, rfl⟩
        replace H : (if 1 ≤ (x7_1.size : Int) then (spec_l2Flush.l0 k1 y493 y496 (x7_1.extract 1 x7_1.size) a0_0 a0_1 a0_2 a0_3) else (none)) = some (r1, r2, r3, r4, r5, r6) := by rw [hy496]; exact H
        have Ny496 := Aside0.mk hy496
        clear hy496
        by_cases c22 : 1 ≤ (x7_1.size : Int)
        ·rw [if_pos c22] at H
         have c22b0 := eq_true c22
         have c22b1 : decide (1 ≤ (x7_1.size : Int)) = true := decide_eq_true c22
         clear c22
         have H' := Aside0.mk H
         clear H
         have hnb23 := NB484_485.out
         have hnc23 := NB485_484.out
         obtain ⟨hcz24_0, hcz24_1, hcz24_2, hcz24_3⟩ := Sw.cz4 BK484.out
         obtain ⟨hfz24_0, hfz24_1, hfz24_2, hfz24_3⟩ := Sw.fz4 BK484.out
         go_wp2_with (first | ((with_reducible refine gate_callee (f := 62) rfl ?_); refine goesL_ (some 15) rfl rfl Tryd.func62 (by kernel_rfl) rfl #[.int .i64 a0_0] rfl Zb67_1 ?_; (with_reducible refine (spec_l2Units.calls a0_0 true _ A10.out).mono ?_); rintro e w' ⟨rfl, ⟨nd, rfl⟩⟩; refine ⟨_, rfl, ?_⟩) | ((with_reducible refine gate_builtin (b := .append) (xs := #[.tmp 21, .tmp 22]) rfl ?_); (try (refine gate_guard (by rfl) ?_; dsimp only)); at_builtin; refine Kd.R_append (Kd.int .i64) (w0 := w) w.heap.size rfl (.tmp 21) (.tmp 22) 28 3 (.int .i64 0) 8 rfl Tryd.underlying28 info3 rfl (by decide) (by omega) u5 x5_1 65533 [.int .i64 65533] (fun k_ => some k_ ≠ (u6 : Value).ownBlock) (fun _ => False) rfl rfl ?aP (fun _ hk => hk.elim) ?aF ?aO ?aB ?aS ?aL ?_; (case aP => exact rfl); (case aB => exact Sw.hb); (case aF => exact (fun k_ hk => Kd.fresh' (Kd.R_lt (Sw.rt HO_6.out)) k_ hk)); (case aO => exact (Sw.rt HO_5.out)); (case aS => exact (below_size Sw.hb)); (case aL => have := LMc20.out; omega); intro v494 w25 ho hb hg hat; rw [← Ny493.out] at ho; replace HO_6 := Aside0.mk (Kd.R_after (ok := (fun _ => True)) (Sw.rt (Kd.R_mono HO_6.out (fun _ hk => ⟨trivial, hk⟩))) hg hat); replace BK484 := Aside0.mk (blk_grown (g := gb484) (o := .cells #[.int .i64 a0_0, .int .i64 a0_1, .int .i64 a0_2, .string a0_3] 25 (0, 0)) (Sw.bk BK484.out) hg (Kd.R_ne HO_5.out BK484.out (by decide))); replace BK485 := Aside0.mk (blk_grown (g := gb485) (o := .cells #[.int .i64 0, .int .i64 0, .int .i64 0, .string (⟨#[]⟩ : ByteArray)] 25 (0, 0)) (Sw.bk BK485.out) hg (Kd.R_ne HO_5.out BK485.out (by decide))); replace HB := Aside0.mk (hb); have HO495 := Aside0.mk (ho); clear HO_5; clear ho hb hg hat) | ((with_reducible refine gate_builtin (b := .append) (xs := #[.tmp 24, .tmp 26]) rfl ?_); (try (refine gate_guard (by rfl) ?_; dsimp only)); at_builtin; refine Kd.R_append (Kd.int .i64) (w0 := w) w.heap.size rfl (.tmp 24) (.tmp 26) 28 3 (.int .i64 0) 8 rfl Tryd.underlying28 info3 rfl (by decide) (by omega) u6 x6_1 1 [.int .i64 1] (fun k_ => some k_ ≠ (v494 : Value).ownBlock) (fun _ => False) rfl rfl ?aP (fun _ hk => hk.elim) ?aF ?aO ?aB ?aS ?aL ?_; (case aP => exact rfl); (case aB => exact Sw.hb); (case aF => exact (fun k_ hk => Kd.fresh' (Kd.R_lt (Sw.rt HO495.out)) k_ hk)); (case aO => exact (Sw.rt (Kd.R_mono HO_6.out (fun _ hk => hk.2)))); (case aS => exact (below_size Sw.hb)); (case aL => have := LMc21.out; omega); intro v497 w26 ho hb hg hat; rw [← Ny496.out] at ho; replace BK484 := Aside0.mk (blk_grown (g := gb484) (o := .cells #[.int .i64 a0_0, .int .i64 a0_1, .int .i64 a0_2, .string a0_3] 25 (0, 0)) (Sw.bk BK484.out) hg (Kd.R_ne HO_6.out BK484.out (by decide))); replace BK485 := Aside0.mk (blk_grown (g := gb485) (o := .cells #[.int .i64 0, .int .i64 0, .int .i64 0, .string (⟨#[]⟩ : ByteArray)] 25 (0, 0)) (Sw.bk BK485.out) hg (Kd.R_ne HO_6.out BK485.out (by decide))); replace HO495 := Aside0.mk (Kd.R_after (ok := (fun _ => True)) (Sw.rt (Kd.R_mono HO495.out (fun _ hk => ⟨trivial, hk⟩))) hg hat); replace HB := Aside0.mk (hb); have HO498 := Aside0.mk (ho); clear HO_6; clear ho hb hg hat))
         go_roundg k1
         case measure => have := HK1.out; omega
         case rel => exact ⟨(y493), (y496), (x7_1.extract 1 x7_1.size), Sw.r, H', ⟨by have := HK1.out; omega⟩, ⟨Sw.rt (Kd.R_mono HO495.out (fun _ hk => hk.2))⟩, ⟨Sw.rt HO498.out⟩, ⟨Sw.bk BK484.out⟩, ⟨Sw.bk BK485.out⟩, ⟨Sw.hb⟩⟩
        ·rw [if_neg c22] at H
         exact absurd H (by simp)
       ·rw [if_neg c21] at H
        exact absurd H (by simp)
      ·rw [if_neg c20] at H
       exact absurd H (by simp)
    ·replace c11 := Bool.eq_false_iff.mpr c11
     subst c11
     have H1 : (if x5_1.length < 17592186044416 then (if x6_1.length < 17592186044416 then (if 1 ≤ (x7_1.size : Int) then (spec_l2Flush.l0 k1 (x5_1 ++ [65533]) (x6_1 ++ [1]) (x7_1.extract 1 x7_1.size) a0_0 a0_1 a0_2 a0_3) else (none)) else (none)) else (none)) = some (r1, r2, r3, r4, r5, r6) := by rw [if_neg (show ¬ (false = true) by decide)] at H; exact H
     clear H
     have H := H1
     clear H1
     by_cases c27 : x5_1.length < 17592186044416
     ·rw [if_pos c27] at H
      have LMc27 := Aside0.mk c27
      clear c27
      obtain ⟨y499, hy499⟩ : ∃ y_ : List Int, y_ = (x5_1 ++ [65533]) := ⟨_, rfl⟩
      replace H : (if x6_1.length < 17592186044416 then (if 1 ≤ (x7_1.size : Int) then (spec_l2Flush.l0 k1 y499 (x6_1 ++ [1]) (x7_1.extract 1 x7_1.size) a0_0 a0_1 a0_2 a0_3) else (none)) else (none)) = some (r1, r2, r3, r4, r5, r6) := by rw [hy499]; exact H
      have Ny499 := Aside0.mk hy499
      clear hy499
      by_cases c28 : x6_1.length < 17592186044416
      ·rw [if_pos c28] at H
       have LMc28 := Aside0.mk c28
       clear c28
       obtain ⟨y502, hy502⟩ : ∃ y_ : List Int, y_ = (x6_1 ++ [1]) := ⟨_, rfl⟩
       replace H : (if 1 ≤ (x7_1.size : Int) then (spec_l2Flush.l0 k1 y499 y502 (x7_1.extract 1 x7_1.size) a0_0 a0_1 a0_2 a0_3) else (none)) = some (r1, r2, r3, r4, r5, r6) := by rw [hy502]; exact H
       have Ny502 := Aside0.mk hy502
       clear hy502
       by_cases c29 : 1 ≤ (x7_1.size : Int)
       ·rw [if_pos c29] at H
        have c29b0 := eq_true c29
        have c29b1 : decide (1 ≤ (x7_1.size : Int)) = true := decide_eq_true c29
        clear c29
        have H' := Aside0.mk H
        clear H
        have hnb30 := NB484_485.out
        have hnc30 := NB485_484.out
        obtain ⟨hcz31_0, hcz31_1, hcz31_2, hcz31_3⟩ := Sw.cz4 BK484.out
        obtain ⟨hfz31_0, hfz31_1, hfz31_2, hfz31_3⟩ := Sw.fz4 BK484.out
        go_wp2_with (first | ((with_reducible refine gate_callee (f := 62) rfl ?_); refine goesL_ (some 15) rfl rfl Tryd.func62 (by kernel_rfl) rfl #[.int .i64 a0_0] rfl Zb67_1 ?_; (with_reducible refine (spec_l2Units.calls a0_0 false _ A10.out).mono ?_); rintro e w' ⟨rfl, ⟨nd, rfl⟩⟩; refine ⟨_, rfl, ?_⟩) | ((with_reducible refine gate_builtin (b := .append) (xs := #[.tmp 21, .tmp 22]) rfl ?_); (try (refine gate_guard (by rfl) ?_; dsimp only)); at_builtin; refine Kd.R_append (Kd.int .i64) (w0 := w) w.heap.size rfl (.tmp 21) (.tmp 22) 28 3 (.int .i64 0) 8 rfl Tryd.underlying28 info3 rfl (by decide) (by omega) u5 x5_1 65533 [.int .i64 65533] (fun k_ => some k_ ≠ (u6 : Value).ownBlock) (fun _ => False) rfl rfl ?aP (fun _ hk => hk.elim) ?aF ?aO ?aB ?aS ?aL ?_; (case aP => exact rfl); (case aB => exact Sw.hb); (case aF => exact (fun k_ hk => Kd.fresh' (Kd.R_lt (Sw.rt HO_6.out)) k_ hk)); (case aO => exact (Sw.rt HO_5.out)); (case aS => exact (below_size Sw.hb)); (case aL => have := LMc27.out; omega); intro v500 w32 ho hb hg hat; rw [← Ny499.out] at ho; replace HO_6 := Aside0.mk (Kd.R_after (ok := (fun _ => True)) (Sw.rt (Kd.R_mono HO_6.out (fun _ hk => ⟨trivial, hk⟩))) hg hat); replace BK484 := Aside0.mk (blk_grown (g := gb484) (o := .cells #[.int .i64 a0_0, .int .i64 a0_1, .int .i64 a0_2, .string a0_3] 25 (0, 0)) (Sw.bk BK484.out) hg (Kd.R_ne HO_5.out BK484.out (by decide))); replace BK485 := Aside0.mk (blk_grown (g := gb485) (o := .cells #[.int .i64 0, .int .i64 0, .int .i64 0, .string (⟨#[]⟩ : ByteArray)] 25 (0, 0)) (Sw.bk BK485.out) hg (Kd.R_ne HO_5.out BK485.out (by decide))); replace HB := Aside0.mk (hb); have HO501 := Aside0.mk (ho); clear HO_5; clear ho hb hg hat) | ((with_reducible refine gate_builtin (b := .append) (xs := #[.tmp 24, .tmp 26]) rfl ?_); (try (refine gate_guard (by rfl) ?_; dsimp only)); at_builtin; refine Kd.R_append (Kd.int .i64) (w0 := w) w.heap.size rfl (.tmp 24) (.tmp 26) 28 3 (.int .i64 0) 8 rfl Tryd.underlying28 info3 rfl (by decide) (by omega) u6 x6_1 1 [.int .i64 1] (fun k_ => some k_ ≠ (v500 : Value).ownBlock) (fun _ => False) rfl rfl ?aP (fun _ hk => hk.elim) ?aF ?aO ?aB ?aS ?aL ?_; (case aP => exact rfl); (case aB => exact Sw.hb); (case aF => exact (fun k_ hk => Kd.fresh' (Kd.R_lt (Sw.rt HO501.out)) k_ hk)); (case aO => exact (Sw.rt (Kd.R_mono HO_6.out (fun _ hk => hk.2)))); (case aS => exact (below_size Sw.hb)); (case aL => have := LMc28.out; omega); intro v503 w33 ho hb hg hat; rw [← Ny502.out] at ho; replace BK484 := Aside0.mk (blk_grown (g := gb484) (o := .cells #[.int .i64 a0_0, .int .i64 a0_1, .int .i64 a0_2, .string a0_3] 25 (0, 0)) (Sw.bk BK484.out) hg (Kd.R_ne HO_6.out BK484.out (by decide))); replace BK485 := Aside0.mk (blk_grown (g := gb485) (o := .cells #[.int .i64 0, .int .i64 0, .int .i64 0, .string (⟨#[]⟩ : ByteArray)] 25 (0, 0)) (Sw.bk BK485.out) hg (Kd.R_ne HO_6.out BK485.out (by decide))); replace HO501 := Aside0.mk (Kd.R_after (ok := (fun _ => True)) (Sw.rt (Kd.R_mono HO501.out (fun _ hk => ⟨trivial, hk⟩))) hg hat); replace HB := Aside0.mk (hb); have HO504 := Aside0.mk (ho); clear HO_6; clear ho hb hg hat))
        go_roundg k1
        case measure => have := HK1.out; omega
        case rel => exact ⟨(y499), (y502), (x7_1.extract 1 x7_1.size), Sw.r, H', ⟨by have := HK1.out; omega⟩, ⟨Sw.rt (Kd.R_mono HO501.out (fun _ hk => hk.2))⟩, ⟨Sw.rt HO504.out⟩, ⟨Sw.bk BK484.out⟩, ⟨Sw.bk BK485.out⟩, ⟨Sw.hb⟩⟩
       ·rw [if_neg c29] at H
        exact absurd H (by simp)
      ·rw [if_neg c28] at H
       exact absurd H (by simp)
     ·rw [if_neg c27] at H
      exact absurd H (by simp)

theorem Zb17_0 {p : Prop} (h : p := by (try simp only [List.map_toArray, List.map_cons, List.map_nil]); first | done | rfl | (simp only [List.length_drop, List.length_take]; rfl)) : p := h
theorem Zb17_1 {p : Prop} (h : p := by first | exact Kd.R_nil _ _ _ _ _ | exact Kd.N_nil _ _ _ _ _ | exact Kd.V_nil _ _ _ _ _ | exact Kd.Q_nil _ _ _ _ _ | exact Kd.S_nil _ _ _ _ _) : p := h
def spec_FlushDecoder.f (k : Nat) (a0_0 : Int) (a0_1 : Int) (a0_2 : Int) (a0_3 : ByteArray) : Option (Int × Int × Int × ByteArray × List Int × List Int × Bool) := (spec_GoodDecoder.f k a0_0 a0_1 a0_2 a0_3).bind fun t507 => (if t507 = true then ((spec_l2Flush.f k a0_0 a0_1 a0_2 a0_3).bind fun bt508 => (some (bt508.1, bt508.2.1, bt508.2.2.1, bt508.2.2.2.1, bt508.2.2.2.2.1, bt508.2.2.2.2.2, true))) else (some (0, 0, 0, (⟨#[]⟩ : ByteArray), ([] : List Int), ([] : List Int), false)))
theorem spec_FlushDecoder.mono : ∀ a0 a1 a2 a3 k, LeO (spec_FlushDecoder.f k a0 a1 a2 a3) (spec_FlushDecoder.f (k + 1) a0 a1 a2 a3) := by
 intro a0 a1 a2 a3 k
 unfold spec_FlushDecoder.f
 with_reducible repeat' first | exact spec_GoodDecoder.mono _ _ _ _ _ | exact spec_l2Flush.mono _ _ _ _ _ | exact LeO.refl _ | exact LeO.none _ | refine LeO.ite ?_ ?_ | refine LeO.bind ?_ (fun _ => ?_)
theorem spec_FlushDecoder.calls (k : Nat) (a0_0 : Int) (a0_1 : Int) (a0_2 : Int) (a0_3 : ByteArray) (r1 : Int) (r2 : Int) (r3 : Int) (r4 : ByteArray) (r5 : List Int) (r6 : List Int) (r7 : Bool) (w : World) (h : spec_FlushDecoder.f k a0_0 a0_1 a0_2 a0_3 = some (r1, r2, r3, r4, r5, r6, r7)) :
  Calls Tryd.prog 17 #[.agg #[.int .i64 a0_0, .int .i64 a0_1, .int .i64 a0_2, .string a0_3]] w fun e w' => ∃ v4_ v5_ : Value, e = .returned (.tuple #[.agg #[.int .i64 r1, .int .i64 r2, .int .i64 r3, .string r4], v4_, v5_, .bool r7]) ∧ Kd.R (Kd.int .i64) 3 w' w.heap.size (fun k_ => some k_ ≠ (v5_ : Value).ownBlock) v4_ r5 ∧ Kd.R (Kd.int .i64) 3 w' w.heap.size (fun k_ => some k_ ≠ (v4_ : Value).ownBlock) v5_ r6 ∧ Below w.heap.size w w' := by
 have hu25 := Tryd.underlying25
 have HB := Aside0.mk (Below.refl w.heap.size w)
 have H : ((spec_GoodDecoder.f k a0_0 a0_1 a0_2 a0_3).bind fun t507 => (if t507 = true then ((spec_l2Flush.f k a0_0 a0_1 a0_2 a0_3).bind fun bt508 => (some (bt508.1, bt508.2.1, bt508.2.2.1, bt508.2.2.2.1, bt508.2.2.2.2.1, bt508.2.2.2.2.2, true))) else (some (0, 0, 0, (⟨#[]⟩ : ByteArray), ([] : List Int), ([] : List Int), false)))) = some (r1, r2, r3, r4, r5, r6, r7) := h
 clear h
 replace H := Option.bind_eq_some_iff.mp H
 obtain ⟨t507, A20, H⟩ := H
 replace H : (if t507 = true then ((spec_l2Flush.f k a0_0 a0_1 a0_2 a0_3).bind fun bt508 => (some (bt508.1, bt508.2.1, bt508.2.2.1, bt508.2.2.2.1, bt508.2.2.2.2.1, bt508.2.2.2.2.2, true))) else (some (0, 0, 0, (⟨#[]⟩ : ByteArray), ([] : List Int), ([] : List Int), false))) = some (r1, r2, r3, r4, r5, r6, r7) := H
 have A2 := Aside0.mk A20
 clear A20
 by_cases c3 : t507 = true
 ·subst c3
  have H1 : ((spec_l2Flush.f k a0_0 a0_1 a0_2 a0_3).bind fun bt508 => (some (bt508.1, bt508.2.1, bt508.2.2.1, bt508.2.2.2.1, bt508.2.2.2.2.1, bt508.2.2.2.2.2, true))) = some (r1, r2, r3, r4, r5, r6, r7) := by rw [if_pos rfl] at H; exact H
  clear H
  have H := H1
  clear H1
  replace H := Option.bind_eq_some_iff.mp H
  obtain ⟨⟨t508, t509, t510, t511, t512, t515⟩, A40, H⟩ := H
  replace H : (some (t508, t509, t510, t511, t512, t515, true)) = some (r1, r2, r3, r4, r5, r6, r7) := H
  have A4 := Aside0.mk A40
  clear A40
  simp only [Option.some.injEq, Prod.mk.injEq] at H
  obtain ⟨rfl, rfl, rfl, rfl, rfl, rfl, rfl⟩ := H
  go_enter Tryd.func17, Tryd.ntmps17
  go_wp2_with (first | ((with_reducible refine gate_dst (N := 1) rfl ?_); refine box_event ?hg (N := 1) ?hd (cs := #[.int .i64 a0_0, .int .i64 a0_1, .int .i64 a0_2, .string a0_3]) (t := 25) ?hr ?_; (case hd => rfl); (case hg => rfl); (case hr => first | (go_simp; done) | (go_simp; rfl)); intro gb505 hg w5 hbox hb; have BK505 := Aside0.mk (hbox); have GW505 := Aside0.mk ((Sw.gs hg)); have GE505 := Aside0.mk ((Sw.gs hg)); replace HB := Aside0.mk (below_step Sw.hb hb); clear hb hbox hg) | ((with_reducible refine gate_dst (N := 2) rfl ?_); refine box_event ?hg (N := 2) ?hd (cs := #[.int .i64 0, .int .i64 0, .int .i64 0, .string (⟨#[]⟩ : ByteArray)]) (t := 25) ?hr ?_; (case hd => rfl); (case hg => rfl); (case hr => first | (go_simp; done) | (go_simp; rfl)); intro gb506 hg w6 hbox hb; have BK506 := Aside0.mk (hbox); have GW506 := Aside0.mk ((Sw.gs hg)); have GE506 := Aside0.mk ((Sw.gs hg)); replace HB := Aside0.mk (below_step Sw.hb hb); have NB505_506 := Aside0.mk (Sw.nl hg BK505.out); have NB506_505 := Aside0.mk (Sw.ng hg BK505.out); replace BK505 := Aside0.mk (Sw.bl BK505.out hb); clear hb hbox hg; have hnb7 := NB505_506.out; have hnc7 := NB506_505.out; obtain ⟨hcz8_0, hcz8_1, hcz8_2, hcz8_3⟩ := Sw.cz4 BK505.out; obtain ⟨hfz8_0, hfz8_1, hfz8_2, hfz8_3⟩ := Sw.fz4 BK505.out) | ((with_reducible refine gate_callee (f := 12) rfl ?_); refine goesL_ (some 10) rfl rfl Tryd.func12 (by kernel_rfl) rfl #[.agg #[.int .i64 a0_0, .int .i64 a0_1, .int .i64 a0_2, .string a0_3]] rfl Zb17_0 ?_; (with_reducible refine (spec_GoodDecoder.calls k a0_0 a0_1 a0_2 a0_3 true _ A2.out).mono ?_); rintro e w9 ⟨rfl, hb⟩; refine ⟨_, rfl, ?_⟩; replace BK505 := Aside0.mk (Sw.bl BK505.out hb); replace BK506 := Aside0.mk (Sw.bl BK506.out hb); replace HB := Aside0.mk (below_step Sw.hb hb); (try clear hb); (try clear hb2); (try clear hk); (try clear hi); obtain ⟨hcz10_0, hcz10_1, hcz10_2, hcz10_3⟩ := Sw.cz4 BK505.out; obtain ⟨hfz10_0, hfz10_1, hfz10_2, hfz10_3⟩ := Sw.fz4 BK505.out) | ((with_reducible refine gate_callee (f := 67) rfl ?_); refine goesL_ (some 15) rfl rfl Tryd.func67 (by kernel_rfl) rfl #[.agg #[.int .i64 a0_0, .int .i64 a0_1, .int .i64 a0_2, .string a0_3]] rfl Zb17_0 ?_; (with_reducible refine (spec_l2Flush.calls k a0_0 a0_1 a0_2 a0_3 t508 t509 t510 t511 t512 t515 _ A4.out).mono ?_); rintro e w11 ⟨v513, v516, rfl, ho0, ho1, hb⟩; refine ⟨_, rfl, ?_⟩; have HO514 := Aside0.mk (Kd.R_lower ho0 (below_size Sw.hb)); have HO517 := Aside0.mk (Kd.R_lower ho1 (below_size Sw.hb)); replace BK505 := Aside0.mk (Sw.bl BK505.out hb); replace BK506 := Aside0.mk (Sw.bl BK506.out hb); replace HB := Aside0.mk (below_step Sw.hb hb); (try clear hb); (try clear hb2); (try clear hk); (try clear hi); (try clear ho0); (try clear ho1)) | ((with_reducible refine gate_dst (N := 6) rfl ?_); refine box_event ?hg (N := 6) ?hd (cs := #[.int .i64 0, .int .i64 0, .int .i64 0, .string (⟨#[]⟩ : ByteArray)]) (t := 25) ?hr ?_; (case hd => rfl); (case hg => rfl); (case hr => first | (go_simp; done) | (go_simp; rfl)); intro gb518 hg w12 hbox hb; replace HO514 := Aside0.mk (Kd.R_below (Sw.rt HO514.out) hb); replace HO517 := Aside0.mk (Kd.R_below (Sw.rt HO517.out) hb); have BK518 := Aside0.mk (hbox); have GW518 := Aside0.mk ((Sw.gs hg)); have GE518 := Aside0.mk ((Sw.gs hg)); replace HB := Aside0.mk (below_step Sw.hb hb); have NB505_518 := Aside0.mk (Sw.nl hg BK505.out); have NB518_505 := Aside0.mk (Sw.ng hg BK505.out); replace BK505 := Aside0.mk (Sw.bl BK505.out hb); have NB506_518 := Aside0.mk (Sw.nl hg BK506.out); have NB518_506 := Aside0.mk (Sw.ng hg BK506.out); replace BK506 := Aside0.mk (Sw.bl BK506.out hb); clear hb hbox hg; have hnb13 := NB518_505.out; have hnc13 := NB505_518.out; have hnb14 := NB518_506.out; have hnc14 := NB506_518.out; obtain ⟨hcz15_0, hcz15_1, hcz15_2, hcz15_3⟩ := Sw.cz4 BK518.out; obtain ⟨hfz15_0, hfz15_1, hfz15_2, hfz15_3⟩ := Sw.fz4 BK518.out; obtain ⟨hcz16_0, hcz16_1, hcz16_2, hcz16_3⟩ := Sw.cz4 BK506.out; obtain ⟨hfz16_0, hfz16_1, hfz16_2, hfz16_3⟩ := Sw.fz4 BK506.out))
  refine bodyPost_ret (results_list (rs := [.cell 2 25, .tmp 3, .tmp 4, .tmp 5]) rfl (by simp) (.cell gb506 25 #[.int .i64 t508, .int .i64 t509, .int .i64 t510, .string t511] (0, 0) _ rfl (by (with_reducible repeat (first | refine blk_drewN ?_ _ | refine blk_drew ?_ | refine blk_alloc ?_ _)); refine blk_put (cs := #[.int .i64 t508, .int .i64 t509, .int .i64 t510, .string (⟨#[]⟩ : ByteArray)]) ?_ 3 _ rfl; (with_reducible repeat (first | refine blk_drewN ?_ _ | refine blk_drew ?_ | refine blk_alloc ?_ _)); refine blk_put (cs := #[.int .i64 t508, .int .i64 t509, .int .i64 0, .string (⟨#[]⟩ : ByteArray)]) ?_ 2 _ rfl; (with_reducible repeat (first | refine blk_drewN ?_ _ | refine blk_drew ?_ | refine blk_alloc ?_ _)); refine blk_put (cs := #[.int .i64 t508, .int .i64 0, .int .i64 0, .string (⟨#[]⟩ : ByteArray)]) ?_ 1 _ rfl; (with_reducible repeat (first | refine blk_drewN ?_ _ | refine blk_drew ?_ | refine blk_alloc ?_ _)); refine blk_put (cs := #[.int .i64 0, .int .i64 0, .int .i64 0, .string (⟨#[]⟩ : ByteArray)]) ?_ 0 _ rfl; (with_reducible repeat (first | refine blk_drewN ?_ _ | refine blk_drew ?_ | refine blk_alloc ?_ _)); refine blk_far ?_ NB506_518.out _; (with_reducible repeat (first | refine blk_drewN ?_ _ | refine blk_drew ?_ | refine blk_alloc ?_ _)); refine blk_far ?_ NB506_518.out _; (with_reducible repeat (first | refine blk_drewN ?_ _ | refine blk_drew ?_ | refine blk_alloc ?_ _)); refine blk_far ?_ NB506_518.out _; (with_reducible repeat (first | refine blk_drewN ?_ _ | refine blk_drew ?_ | refine blk_alloc ?_ _)); refine blk_far ?_ NB506_518.out _; (with_reducible repeat (first | refine blk_drewN ?_ _ | refine blk_drew ?_ | refine blk_alloc ?_ _)); exact BK506.out) Tryd.underlying25 rfl (by kernel_rfl) (.tmp (.tmp (.tmp .nil))))) rfl ?_
  exact ⟨_, _, Sw.e, by (with_reducible repeat (first | apply Kd.R_alloc | apply Kd.R_drewN | apply Kd.R_drew)); exact Kd.R_mono (Kd.R_far (p := ⟨gb506, 3, none⟩) (Kd.R_far (p := ⟨gb506, 2, none⟩) (Kd.R_far (p := ⟨gb506, 1, none⟩) (Kd.R_far (p := ⟨gb506, 0, none⟩) (Kd.R_far (p := ⟨gb518, 3, none⟩) (Kd.R_far (p := ⟨gb518, 2, none⟩) (Kd.R_far (p := ⟨gb518, 1, none⟩) (Kd.R_far (p := ⟨gb518, 0, none⟩) (Kd.R_types (Kd.R_types HO514.out BK518.out (by decide)) BK506.out (by decide)) (fun _ hk => hk.1.2) (.int .i64 t508)) (fun _ hk => hk.1.2) (.int .i64 t509)) (fun _ hk => hk.1.2) (.int .i64 t510)) (fun _ hk => hk.1.2) (.string t511)) (fun _ hk => hk.2) (.int .i64 t508)) (fun _ hk => hk.2) (.int .i64 t509)) (fun _ hk => hk.2) (.int .i64 t510)) (fun _ hk => hk.2) (.string t511)) (fun _ hk => hk.1.1), by (with_reducible repeat (first | apply Kd.R_alloc | apply Kd.R_drewN | apply Kd.R_drew)); exact Kd.R_mono (Kd.R_far (p := ⟨gb506, 3, none⟩) (Kd.R_far (p := ⟨gb506, 2, none⟩) (Kd.R_far (p := ⟨gb506, 1, none⟩) (Kd.R_far (p := ⟨gb506, 0, none⟩) (Kd.R_far (p := ⟨gb518, 3, none⟩) (Kd.R_far (p := ⟨gb518, 2, none⟩) (Kd.R_far (p := ⟨gb518, 1, none⟩) (Kd.R_far (p := ⟨gb518, 0, none⟩) (Kd.R_types (Kd.R_types HO517.out BK518.out (by decide)) BK506.out (by decide)) (fun _ hk => hk.1.2) (.int .i64 t508)) (fun _ hk => hk.1.2) (.int .i64 t509)) (fun _ hk => hk.1.2) (.int .i64 t510)) (fun _ hk => hk.1.2) (.string t511)) (fun _ hk => hk.2) (.int .i64 t508)) (fun _ hk => hk.2) (.int .i64 t509)) (fun _ hk => hk.2) (.int .i64 t510)) (fun _ hk => hk.2) (.string t511)) (fun _ hk => hk.1.1), by repeat (first | (with_reducible first | exact HB.out | apply below_alloc | apply pw_below_drewN | apply below_drew1 | refine below_set ?_ GE505.out | refine below_set ?_ GE506.out | refine below_set ?_ GE518.out) | exact HB.out)⟩
 ·replace c3 := Bool.eq_false_iff.mpr c3
  subst c3
  have H1 : (some (0, 0, 0, (⟨#[]⟩ : ByteArray), ([] : List Int), ([] : List Int), false)) = some (r1, r2, r3, r4, r5, r6, r7) := by rw [if_neg (show ¬ (false = true) by decide)] at H; exact H
  clear H
  have H := H1
  clear H1
  simp only [Option.some.injEq, Prod.mk.injEq] at H
  obtain ⟨rfl, rfl, rfl, rfl, rfl, rfl, rfl⟩ := H
  go_enter Tryd.func17, Tryd.ntmps17
  go_wp2_with (first | ((with_reducible refine gate_dst (N := 1) rfl ?_); refine box_event ?hg (N := 1) ?hd (cs := #[.int .i64 a0_0, .int .i64 a0_1, .int .i64 a0_2, .string a0_3]) (t := 25) ?hr ?_; (case hd => rfl); (case hg => rfl); (case hr => first | (go_simp; done) | (go_simp; rfl)); intro gb505 hg w17 hbox hb; have BK505 := Aside0.mk (hbox); have GW505 := Aside0.mk ((Sw.gs hg)); have GE505 := Aside0.mk ((Sw.gs hg)); replace HB := Aside0.mk (below_step Sw.hb hb); clear hb hbox hg) | ((with_reducible refine gate_dst (N := 2) rfl ?_); refine box_event ?hg (N := 2) ?hd (cs := #[.int .i64 0, .int .i64 0, .int .i64 0, .string (⟨#[]⟩ : ByteArray)]) (t := 25) ?hr ?_; (case hd => rfl); (case hg => rfl); (case hr => first | (go_simp; done) | (go_simp; rfl)); intro gb506 hg w18 hbox hb; have BK506 := Aside0.mk (hbox); have GW506 := Aside0.mk ((Sw.gs hg)); have GE506 := Aside0.mk ((Sw.gs hg)); replace HB := Aside0.mk (below_step Sw.hb hb); have NB505_506 := Aside0.mk (Sw.nl hg BK505.out); have NB506_505 := Aside0.mk (Sw.ng hg BK505.out); replace BK505 := Aside0.mk (Sw.bl BK505.out hb); clear hb hbox hg; have hnb19 := NB505_506.out; have hnc19 := NB506_505.out; obtain ⟨hcz20_0, hcz20_1, hcz20_2, hcz20_3⟩ := Sw.cz4 BK505.out; obtain ⟨hfz20_0, hfz20_1, hfz20_2, hfz20_3⟩ := Sw.fz4 BK505.out) | ((with_reducible refine gate_callee (f := 12) rfl ?_); refine goesL_ (some 10) rfl rfl Tryd.func12 (by kernel_rfl) rfl #[.agg #[.int .i64 a0_0, .int .i64 a0_1, .int .i64 a0_2, .string a0_3]] rfl Zb17_0 ?_; (with_reducible refine (spec_GoodDecoder.calls k a0_0 a0_1 a0_2 a0_3 false _ A2.out).mono ?_); rintro e w21 ⟨rfl, hb⟩; refine ⟨_, rfl, ?_⟩; replace BK505 := Aside0.mk (Sw.bl BK505.out hb); replace BK506 := Aside0.mk (Sw.bl BK506.out hb); replace HB := Aside0.mk (below_step Sw.hb hb); (try clear hb); (try clear hb2); (try clear hk); (try clear hi); obtain ⟨hcz22_0, hcz22_1, hcz22_2, hcz22_3⟩ := Sw.cz4 BK506.out; obtain ⟨hfz22_0, hfz22_1, hfz22_2, hfz22_3⟩ := Sw.fz4 BK506.out))
  refine bodyPost_ret (results_list (rs := [.cell 2 25, .tmp 3, .tmp 4, .tmp 5]) rfl (by simp) (.cell gb506 25 #[.int .i64 0, .int .i64 0, .int .i64 0, .string (⟨#[]⟩ : ByteArray)] (0, 0) _ rfl (Sw.bp (Sw.p0_1_2_3 BK506.out)) Tryd.underlying25 rfl (by kernel_rfl) (.tmp (.tmp (.tmp .nil))))) rfl ?_
  exact ⟨_, _, Sw.e, Zb17_1, Zb17_1, by repeat (first | (with_reducible first | exact HB.out | apply below_alloc | apply pw_below_drewN | apply below_drew1 | refine below_set ?_ GE505.out | refine below_set ?_ GE506.out) | exact HB.out)⟩


end Go.Proofs.YtliafedmhgkciaaDoor.P
