import Derived.Test.YtpmdecdomfoaoaaDoorCP0
import Derived.Test.YtpmdecdomfoaoaaDoorC0
import Derived.Test.YtpmdecdomfoaoaaDoorC1
import Derived.Test.YtpmdecdomfoaoaaDoorC2
import Derived.Test.YtpmdecdomfoaoaaDoorC3
import Derived.Test.YtpmdecdomfoaoaaDoorC4
namespace Go.Proofs.YtpmdecdomfoaoaaDoor.P
open Go.RowKit Go.Proofs.YtpmdecdomfoaoaaDoorW.PrintWords Go.Proofs.YtpmdecdomfoaoaaDoorW.PrintLast Go.Proofs.YtpmdecdomfoaoaaDoorW.PrintMore
attribute [local go_sem] max2_int min2_int max_two min_two max_three min_three max_four min_four   -- for this text's walks alone
set_option linter.unusedVariables false
set_option linter.unusedSimpArgs false


def impl_FeedDecoder.j0 : Nat → ByteArray → Bool → Int → Int → Int → ByteArray → Option (Int × Int × Int × ByteArray × List Int × List Int × Bool)
 | 0, _, _, _, _, _, _ => none
 | k + 1, x1, x17, x357000, x357001, x357002, x357003 => if x17 = true then (some (0, 0, 0, (⟨#[]⟩ : ByteArray), ([] : List Int), ([] : List Int), false)) else ((impl_Decoder_feed.f k x357000 x357001 x357002 x357003 x1).bind fun bt359 => (if bt359.2.2.2.2.1 > 1000 then (some (0, 0, 0, (⟨#[]⟩ : ByteArray), ([] : List Int), ([] : List Int), false)) else (some (bt359.2.2.1, bt359.2.2.2.1, bt359.2.2.2.2.1, bt359.2.2.2.2.2, bt359.1, bt359.2.1, true))))
def impl_FeedDecoder.f (k : Nat) (a0_0 : Int) (a0_1 : Int) (a0_2 : Int) (a0_3 : ByteArray) (a1 : ByteArray) : Option (Int × Int × Int × ByteArray × List Int × List Int × Bool) := (impl_GoodDecoder.f k a0_0 a0_1 a0_2 a0_3).bind fun t358 => (if t358 = true then (impl_FeedDecoder.j0 k a1 (decide ((a1.size : Int) > 1000)) a0_0 a0_1 a0_2 a0_3) else (impl_FeedDecoder.j0 k a1 true a0_0 a0_1 a0_2 a0_3))
theorem impl_FeedDecoder.mono_l : ∀ k, (∀ y0 y1 y2 y3 y4 y5, LeO (impl_FeedDecoder.j0 k y0 y1 y2 y3 y4 y5) (impl_FeedDecoder.j0 (k + 1) y0 y1 y2 y3 y4 y5))
 | 0 => fun _ _ _ _ _ _ r h => by simp [impl_FeedDecoder.j0] at h
 | k + 1 => by
  have ih0 := impl_FeedDecoder.mono_l k
  ·intro y0 y1 y2 y3 y4 y5
   unfold impl_FeedDecoder.j0
   repeat' first
   | (with_reducible exact ih0 _ _ _ _ _ _)
   | (with_reducible exact impl_Decoder_feed.mono _ _ _ _ _ _)
   | (with_reducible exact impl_GoodDecoder.mono _ _ _ _ _)
   | (with_reducible exact LeO.refl _)
   | (with_reducible exact LeO.none _)
   | (with_reducible refine LeO.ite ?_ ?_)
   | (with_reducible refine LeO.bind ?_ (fun _ => ?_))
   | exact ih0 _ _ _ _ _ _
   | exact impl_Decoder_feed.mono _ _ _ _ _ _
   | exact impl_GoodDecoder.mono _ _ _ _ _
   | exact LeO.none _
   | refine LeO.ite ?_ ?_
   | refine LeO.bind ?_ (fun _ => ?_)
theorem impl_FeedDecoder.mono : ∀ a0 a1 a2 a3 a4 k, LeO (impl_FeedDecoder.f k a0 a1 a2 a3 a4) (impl_FeedDecoder.f (k + 1) a0 a1 a2 a3 a4) := by
 intro a0 a1 a2 a3 a4 k
 have ih0 := impl_FeedDecoder.mono_l k
 unfold impl_FeedDecoder.f
 repeat' first
   | (with_reducible exact ih0 _ _ _ _ _ _)
   | (with_reducible exact impl_Decoder_feed.mono _ _ _ _ _ _)
   | (with_reducible exact impl_GoodDecoder.mono _ _ _ _ _)
   | (with_reducible exact LeO.refl _)
   | (with_reducible exact LeO.none _)
   | (with_reducible refine LeO.ite ?_ ?_)
   | (with_reducible refine LeO.bind ?_ (fun _ => ?_))
   | exact ih0 _ _ _ _ _ _
   | exact impl_Decoder_feed.mono _ _ _ _ _ _
   | exact impl_GoodDecoder.mono _ _ _ _ _
   | exact LeO.none _
   | refine LeO.ite ?_ ?_
   | refine LeO.bind ?_ (fun _ => ?_)
set_option maxHeartbeats 8000000 in
set_option maxRecDepth 100000 in
theorem impl_FeedDecoder.calls (k : Nat) (a0_0 : Int) (a0_1 : Int) (a0_2 : Int) (a0_3 : ByteArray) (a1 : ByteArray) (r1 : Int) (r2 : Int) (r3 : Int) (r4 : ByteArray) (r5 : List Int) (r6 : List Int) (r7 : Bool) (w : World) (hT : Lib.Utf8Tabs 0 1 w) (h : impl_FeedDecoder.f k a0_0 a0_1 a0_2 a0_3 a1 = some (r1, r2, r3, r4, r5, r6, r7)) :
  Calls Tryd.prog 14 #[.agg #[.int .i64 a0_0, .int .i64 a0_1, .int .i64 a0_2, .string a0_3], .string a1] w fun e w' => ∃ v4_ v5_ : Value, e = .returned (.tuple #[.agg #[.int .i64 r1, .int .i64 r2, .int .i64 r3, .string r4], v4_, v5_, .bool r7]) ∧ Kd.R (Kd.int .i64) 3 w' w.heap.size (fun k_ => some k_ ≠ (v5_ : Value).ownBlock) v4_ r5 ∧ Kd.R (Kd.int .i64) 3 w' w.heap.size (fun k_ => some k_ ≠ (v4_ : Value).ownBlock) v5_ r6 ∧ Below w.heap.size w w' := by
 have HT := Aside0.mk hT
 clear hT
 have hu31 := Tryd.underlying31
 have HB := Aside0.mk (Below.refl w.heap.size w)
 have H : ((impl_GoodDecoder.f k a0_0 a0_1 a0_2 a0_3).bind fun t358 => (if t358 = true then (impl_FeedDecoder.j0 k a1 (decide ((a1.size : Int) > 1000)) a0_0 a0_1 a0_2 a0_3) else (impl_FeedDecoder.j0 k a1 true a0_0 a0_1 a0_2 a0_3))) = some (r1, r2, r3, r4, r5, r6, r7) := h
 clear h
 have HC3 := Aside0.mk H
 clear H
 go_enter Tryd.func14, Tryd.ntmps14
 go_upto_region 1 with (first | ((with_reducible refine gate_dst (N := 2) rfl ?_); (try (refine gate_guard (by rfl) ?_; dsimp only)); refine box_event ?hg (N := 2) ?hd (cs := #[.int .i64 a0_0, .int .i64 a0_1, .int .i64 a0_2, .string a0_3]) (t := 31) ?hr ?_; (case hd => rfl); (case hg => rfl); (case hr => first | (go_simp; done) | (go_simp; rfl)); intro gb356 hg w4 hbox hb; have n0_ := Aside0.mk (below_step (by repeat (first | (with_reducible first | exact HB.out | apply below_alloc | apply pw_below_drewN | apply below_drew1) | exact HB.out)) hb); have n1_ := Aside0.mk (show IsS31 w w4 gb356 a0_0 a0_1 a0_2 a0_3 from ⟨hbox, (by rw [hg]; exact (below_size (by repeat (first | (with_reducible first | exact HB.out | apply below_alloc | apply pw_below_drewN | apply below_drew1) | exact HB.out))))⟩); clear HB; have HB := n0_; have HI356 := n1_; clear n0_ n1_; clear hb hbox hg) | ((with_reducible refine gate_dst (N := 4) rfl ?_); (try (refine gate_guard (by rfl) ?_; dsimp only)); refine box_event ?hg (N := 4) ?hd (cs := #[.int .i64 0, .int .i64 0, .int .i64 0, .string (⟨#[]⟩ : ByteArray)]) (t := 31) ?hr ?_; (case hd => rfl); (case hg => rfl); (case hr => first | (go_simp; done) | (go_simp; rfl)); intro gb357 hg w5 hbox hb; have n0_ := Aside0.mk (IsS31.below (by repeat (first | (with_reducible first | exact HI356.out | apply IsS31.alloc | apply IsS31.drewN | apply IsS31.drew | apply IsS31.set_0 | apply IsS31.set_1 | apply IsS31.set_2 | apply IsS31.set_3) | exact HI356.out)) hb); have n1_ := Aside0.mk (below_step (by repeat (first | (with_reducible first | exact HB.out | apply below_alloc | apply pw_below_drewN | apply below_drew1 | refine below_set ?_ (IsS31.ge HI356.out)) | exact HB.out)) hb); have n2_ := Aside0.mk (hbox); have n3_ := Aside0.mk ((by rw [hg]; exact (below_size (by repeat (first | (with_reducible first | exact HB.out | apply below_alloc | apply pw_below_drewN | apply below_drew1 | refine below_set ?_ (IsS31.ge HI356.out)) | exact HB.out))) : w.heap.size ≤ gb357)); have n4_ := Aside0.mk ((by rw [hg]; exact (below_size (by repeat (first | (with_reducible first | exact HB.out | apply below_alloc | apply pw_below_drewN | apply below_drew1 | refine below_set ?_ (IsS31.ge HI356.out)) | exact HB.out))) : w.heap.size ≤ gb357)); have n5_ := Aside0.mk ((by rw [hg]; exact Nat.ne_of_lt (IsS31.lt (show IsS31 w _ gb356 a0_0 a0_1 a0_2 a0_3 from by repeat (first | (with_reducible first | exact HI356.out | apply IsS31.alloc | apply IsS31.drewN | apply IsS31.drew | apply IsS31.set_0 | apply IsS31.set_1 | apply IsS31.set_2 | apply IsS31.set_3) | exact HI356.out))) : gb356 ≠ gb357)); have n6_ := Aside0.mk ((by rw [hg]; exact Nat.ne_of_gt (IsS31.lt (show IsS31 w _ gb356 a0_0 a0_1 a0_2 a0_3 from by repeat (first | (with_reducible first | exact HI356.out | apply IsS31.alloc | apply IsS31.drewN | apply IsS31.drew | apply IsS31.set_0 | apply IsS31.set_1 | apply IsS31.set_2 | apply IsS31.set_3) | exact HI356.out))) : gb357 ≠ gb356)); clear HI356; clear HB; have HI356 := n0_; have HB := n1_; have BK357 := n2_; have GW357 := n3_; have GE357 := n4_; have NB356_357 := n5_; have NB357_356 := n6_; clear n0_ n1_ n2_ n3_ n4_ n5_ n6_; clear hb hbox hg))
 (try simp only [Act.put, List.setIfInBounds_toArray, List.set_cons_zero, List.set_cons_succ])
 go_cut [17] (fun v17 wc => ∃ (kq : Nat) (x17_2 : Bool), v17 = .bool x17_2 ∧ Aside0 (impl_FeedDecoder.j0 kq a1 x17_2 a0_0 a0_1 a0_2 a0_3 = some (r1, r2, r3, r4, r5, r6, r7)) ∧ Aside0 (kq ≤ k) ∧ Aside0 (wc.heap[gb357]? = some (.cells #[.int .i64 0, .int .i64 0, .int .i64 0, .string (⟨#[]⟩ : ByteArray)] 31 (0, 0))) ∧ Aside0 (IsS31 w wc gb356 a0_0 a0_1 a0_2 a0_3) ∧ Aside0 (Below w.heap.size w wc))
 case first =>
  have H := HC3.out
  clear HC3
  replace H := Option.bind_eq_some_iff.mp H
  obtain ⟨t358, A60, H⟩ := H
  replace H : (if t358 = true then (impl_FeedDecoder.j0 k a1 (decide ((a1.size : Int) > 1000)) a0_0 a0_1 a0_2 a0_3) else (impl_FeedDecoder.j0 k a1 true a0_0 a0_1 a0_2 a0_3)) = some (r1, r2, r3, r4, r5, r6, r7) := H
  have A6 := Aside0.mk A60
  clear A60
  by_cases c7 : t358 = true
  ·subst c7
   have H1 : (impl_FeedDecoder.j0 k a1 (decide ((a1.size : Int) > 1000)) a0_0 a0_1 a0_2 a0_3) = some (r1, r2, r3, r4, r5, r6, r7) := by rw [if_pos rfl] at H; exact H
   clear H
   have H := H1
   clear H1
   have H' := Aside0.mk H
   clear H
   obtain ⟨HGz8, hgz8⟩ := HI356.out
   have hcz8_0 := cellS31_0 HGz8
   have hcz8_1 := cellS31_1 HGz8
   have hcz8_2 := cellS31_2 HGz8
   have hcz8_3 := cellS31_3 HGz8
   have hfz8_0 := blk_frozen HGz8 0
   have hfz8_1 := blk_frozen HGz8 1
   have hfz8_2 := blk_frozen HGz8 2
   have hfz8_3 := blk_frozen HGz8 3
   clear HGz8 hgz8
   go_wp2_with (first | ((with_reducible refine gate_callee (f := 25) rfl ?_); refine goesL_ (some 11) rfl rfl Tryd.func25 (by kernel_rfl) rfl #[.agg #[.int .i64 a0_0, .int .i64 a0_1, .int .i64 a0_2, .string a0_3]] rfl (by (try simp only [List.map_toArray, List.map_cons, List.map_nil]); first | done | rfl | (simp only [List.length_drop, List.length_take]; rfl)) ?_; (with_reducible refine (impl_GoodDecoder.calls k a0_0 a0_1 a0_2 a0_3 true _ (by first | exact HT.out | (refine Utf8Tabs_below HT.out ?_; repeat (first | exact HB.out | exact Below.refl _ _ | apply below_alloc | apply pw_below_drewN | apply below_drew1 | apply below_drew | refine below_set ?_ (Aside0.out (by assumption))))) A6.out).mono ?_); rintro e w9 ⟨rfl, hb⟩; refine ⟨_, rfl, ?_⟩; have n0_ := Aside0.mk (IsS31.below (by repeat (first | (with_reducible first | exact HI356.out | apply IsS31.alloc | apply IsS31.drewN | apply IsS31.drew | apply IsS31.set_0 | apply IsS31.set_1 | apply IsS31.set_2 | apply IsS31.set_3 | refine IsS31.far ?_ NB356_357.out _) | exact HI356.out)) hb); have n1_ := Aside0.mk (blk_below (g := gb357) (o := .cells #[.int .i64 0, .int .i64 0, .int .i64 0, .string (⟨#[]⟩ : ByteArray)] 31 (0, 0)) (by (with_reducible repeat (first | refine blk_drewN ?_ _ | refine blk_drew ?_ | refine blk_alloc ?_ _)); exact BK357.out) hb); have n2_ := Aside0.mk (below_step (by repeat (first | (with_reducible first | exact HB.out | apply below_alloc | apply pw_below_drewN | apply below_drew1 | refine below_set ?_ (IsS31.ge HI356.out) | refine below_set ?_ GE357.out) | exact HB.out)) hb); clear HI356; clear BK357; clear HB; have HI356 := n0_; have BK357 := n1_; have HB := n2_; clear n0_ n1_ n2_; (try clear hb); (try clear hb2); (try clear hk); (try clear hi)))
   go_meet
   case rel => exact ⟨_, (decide ((a1.size : Int) > 1000)), (by first | rfl | (simp; done) | (simp [*]; done)), H', ⟨by first | omega | exact Nat.le_refl _⟩, ⟨by (with_reducible repeat (first | refine blk_drewN ?_ _ | refine blk_drew ?_ | refine blk_alloc ?_ _)); exact BK357.out⟩, ⟨by repeat (first | (with_reducible first | exact HI356.out | apply IsS31.alloc | apply IsS31.drewN | apply IsS31.drew | apply IsS31.set_0 | apply IsS31.set_1 | apply IsS31.set_2 | apply IsS31.set_3 | refine IsS31.far ?_ NB356_357.out _) | exact HI356.out)⟩, ⟨by repeat (first | (with_reducible first | exact HB.out | apply below_alloc | apply pw_below_drewN | apply below_drew1 | refine below_set ?_ (IsS31.ge HI356.out) | refine below_set ?_ GE357.out) | exact HB.out)⟩⟩
  ·replace c7 := Bool.eq_false_iff.mpr c7
   subst c7
   have H1 : (impl_FeedDecoder.j0 k a1 true a0_0 a0_1 a0_2 a0_3) = some (r1, r2, r3, r4, r5, r6, r7) := by rw [if_neg (show ¬ (false = true) by decide)] at H; exact H
   clear H
   have H := H1
   clear H1
   have H' := Aside0.mk H
   clear H
   obtain ⟨HGz10, hgz10⟩ := HI356.out
   have hcz10_0 := cellS31_0 HGz10
   have hcz10_1 := cellS31_1 HGz10
   have hcz10_2 := cellS31_2 HGz10
   have hcz10_3 := cellS31_3 HGz10
   have hfz10_0 := blk_frozen HGz10 0
   have hfz10_1 := blk_frozen HGz10 1
   have hfz10_2 := blk_frozen HGz10 2
   have hfz10_3 := blk_frozen HGz10 3
   clear HGz10 hgz10
   go_wp2_with (first | ((with_reducible refine gate_callee (f := 25) rfl ?_); refine goesL_ (some 11) rfl rfl Tryd.func25 (by kernel_rfl) rfl #[.agg #[.int .i64 a0_0, .int .i64 a0_1, .int .i64 a0_2, .string a0_3]] rfl (by (try simp only [List.map_toArray, List.map_cons, List.map_nil]); first | done | rfl | (simp only [List.length_drop, List.length_take]; rfl)) ?_; (with_reducible refine (impl_GoodDecoder.calls k a0_0 a0_1 a0_2 a0_3 false _ (by first | exact HT.out | (refine Utf8Tabs_below HT.out ?_; repeat (first | exact HB.out | exact Below.refl _ _ | apply below_alloc | apply pw_below_drewN | apply below_drew1 | apply below_drew | refine below_set ?_ (Aside0.out (by assumption))))) A6.out).mono ?_); rintro e w11 ⟨rfl, hb⟩; refine ⟨_, rfl, ?_⟩; have n0_ := Aside0.mk (IsS31.below (by repeat (first | (with_reducible first | exact HI356.out | apply IsS31.alloc | apply IsS31.drewN | apply IsS31.drew | apply IsS31.set_0 | apply IsS31.set_1 | apply IsS31.set_2 | apply IsS31.set_3 | refine IsS31.far ?_ NB356_357.out _) | exact HI356.out)) hb); have n1_ := Aside0.mk (blk_below (g := gb357) (o := .cells #[.int .i64 0, .int .i64 0, .int .i64 0, .string (⟨#[]⟩ : ByteArray)] 31 (0, 0)) (by (with_reducible repeat (first | refine blk_drewN ?_ _ | refine blk_drew ?_ | refine blk_alloc ?_ _)); exact BK357.out) hb); have n2_ := Aside0.mk (below_step (by repeat (first | (with_reducible first | exact HB.out | apply below_alloc | apply pw_below_drewN | apply below_drew1 | refine below_set ?_ (IsS31.ge HI356.out) | refine below_set ?_ GE357.out) | exact HB.out)) hb); clear HI356; clear BK357; clear HB; have HI356 := n0_; have BK357 := n1_; have HB := n2_; clear n0_ n1_ n2_; (try clear hb); (try clear hb2); (try clear hk); (try clear hi)))
   go_meet
   case rel => exact ⟨_, (true), (by first | rfl | (simp; done) | (simp [*]; done)), H', ⟨by first | omega | exact Nat.le_refl _⟩, ⟨by (with_reducible repeat (first | refine blk_drewN ?_ _ | refine blk_drew ?_ | refine blk_alloc ?_ _)); exact BK357.out⟩, ⟨by repeat (first | (with_reducible first | exact HI356.out | apply IsS31.alloc | apply IsS31.drewN | apply IsS31.drew | apply IsS31.set_0 | apply IsS31.set_1 | apply IsS31.set_2 | apply IsS31.set_3 | refine IsS31.far ?_ NB356_357.out _) | exact HI356.out)⟩, ⟨by repeat (first | (with_reducible first | exact HB.out | apply below_alloc | apply pw_below_drewN | apply below_drew1 | refine below_set ?_ (IsS31.ge HI356.out) | refine below_set ?_ GE357.out) | exact HB.out)⟩⟩
 case rest =>
  clear HC3
  try clear c1
  try clear c2
  try clear p2
  try clear c7
  try clear hcz10_0
  try clear hcz10_1
  try clear hcz10_2
  try clear hcz10_3
  try clear hcz8_0
  try clear hcz8_1
  try clear hcz8_2
  try clear hcz8_3
  try clear hfz10_0
  try clear hfz10_1
  try clear hfz10_2
  try clear hfz10_3
  try clear hfz8_0
  try clear hfz8_1
  try clear hfz8_2
  try clear hfz8_3
  obtain ⟨kq, x17_2, rfl, HA, HJ2, BK357, HI356, HB⟩ := hcut
  cases kq with
  | zero => exact absurd HA.out (by simp [impl_FeedDecoder.j0])
  | succ kj2 =>
   have H := HA.out
   clear HA
   simp only [impl_FeedDecoder.j0] at H
   by_cases c12 : x17_2 = true
   ·subst c12
    have H1 : (some (0, 0, 0, (⟨#[]⟩ : ByteArray), ([] : List Int), ([] : List Int), false)) = some (r1, r2, r3, r4, r5, r6, r7) := by rw [if_pos rfl] at H; exact H
    clear H
    have H := H1
    clear H1
    simp only [Option.some.injEq, Prod.mk.injEq] at H
    obtain ⟨rfl, rfl, rfl, rfl, rfl, rfl, rfl⟩ := H
    have hnb13 := NB357_356.out
    have hnc13 := NB356_357.out
    have hcz14_0 : wc.cell? ⟨gb357, 0, none⟩ = some (.int .i64 0) := (blk_cell BK357.out 0).trans rfl
    have hcz14_1 : wc.cell? ⟨gb357, 1, none⟩ = some (.int .i64 0) := (blk_cell BK357.out 1).trans rfl
    have hcz14_2 : wc.cell? ⟨gb357, 2, none⟩ = some (.int .i64 0) := (blk_cell BK357.out 2).trans rfl
    have hcz14_3 : wc.cell? ⟨gb357, 3, none⟩ = some (.string (⟨#[]⟩ : ByteArray)) := (blk_cell BK357.out 3).trans rfl
    have hfz14_0 := blk_frozen BK357.out 0
    have hfz14_1 := blk_frozen BK357.out 1
    have hfz14_2 := blk_frozen BK357.out 2
    have hfz14_3 := blk_frozen BK357.out 3
    go_wp2
    refine bodyPost_ret (results_list (rs := [.cell 4 31, .tmp 5, .tmp 6, .tmp 7]) rfl (by simp) (.cell gb357 31 #[.int .i64 0, .int .i64 0, .int .i64 0, .string (⟨#[]⟩ : ByteArray)] (0, 0) _ rfl (by (with_reducible repeat (first | refine blk_drewN ?_ _ | refine blk_drew ?_ | refine blk_alloc ?_ _)); refine blk_put (cs := #[.int .i64 0, .int .i64 0, .int .i64 0, .string (⟨#[]⟩ : ByteArray)]) ?_ 3 _ rfl; (with_reducible repeat (first | refine blk_drewN ?_ _ | refine blk_drew ?_ | refine blk_alloc ?_ _)); refine blk_put (cs := #[.int .i64 0, .int .i64 0, .int .i64 0, .string (⟨#[]⟩ : ByteArray)]) ?_ 2 _ rfl; (with_reducible repeat (first | refine blk_drewN ?_ _ | refine blk_drew ?_ | refine blk_alloc ?_ _)); refine blk_put (cs := #[.int .i64 0, .int .i64 0, .int .i64 0, .string (⟨#[]⟩ : ByteArray)]) ?_ 1 _ rfl; (with_reducible repeat (first | refine blk_drewN ?_ _ | refine blk_drew ?_ | refine blk_alloc ?_ _)); refine blk_put (cs := #[.int .i64 0, .int .i64 0, .int .i64 0, .string (⟨#[]⟩ : ByteArray)]) ?_ 0 _ rfl; (with_reducible repeat (first | refine blk_drewN ?_ _ | refine blk_drew ?_ | refine blk_alloc ?_ _)); exact BK357.out) Tryd.underlying31 rfl (by kernel_rfl) (.tmp (.tmp (.tmp .nil))))) rfl ?_
    exact ⟨_, _, by first | rfl | (simp [errW_none, errW_some] <;> rfl) | (simp [*, errW_none, errW_some] <;> rfl), by first | exact Kd.R_nil _ _ _ _ _ | exact Kd.N_nil _ _ _ _ _ | exact Kd.V_nil _ _ _ _ _ | exact Kd.Q_nil _ _ _ _ _ | exact Kd.S_nil _ _ _ _ _, by first | exact Kd.R_nil _ _ _ _ _ | exact Kd.N_nil _ _ _ _ _ | exact Kd.V_nil _ _ _ _ _ | exact Kd.Q_nil _ _ _ _ _ | exact Kd.S_nil _ _ _ _ _, by repeat (first | (with_reducible first | exact HB.out | apply below_alloc | apply pw_below_drewN | apply below_drew1 | refine below_set ?_ (IsS31.ge HI356.out) | refine below_set ?_ GE357.out) | exact HB.out)⟩
   ·replace c12 := Bool.eq_false_iff.mpr c12
    subst c12
    have H1 : ((impl_Decoder_feed.f kj2 a0_0 a0_1 a0_2 a0_3 a1).bind fun bt359 => (if bt359.2.2.2.2.1 > 1000 then (some (0, 0, 0, (⟨#[]⟩ : ByteArray), ([] : List Int), ([] : List Int), false)) else (some (bt359.2.2.1, bt359.2.2.2.1, bt359.2.2.2.2.1, bt359.2.2.2.2.2, bt359.1, bt359.2.1, true)))) = some (r1, r2, r3, r4, r5, r6, r7) := by rw [if_neg (show ¬ (false = true) by decide)] at H; exact H
    clear H
    have H := H1
    clear H1
    replace H := Option.bind_eq_some_iff.mp H
    obtain ⟨⟨t359, t362, t365, t366, t367, t368⟩, A150, H⟩ := H
    replace H : (if t367 > 1000 then (some (0, 0, 0, (⟨#[]⟩ : ByteArray), ([] : List Int), ([] : List Int), false)) else (some (t365, t366, t367, t368, t359, t362, true))) = some (r1, r2, r3, r4, r5, r6, r7) := H
    have A15 := Aside0.mk A150
    clear A150
    by_cases c16 : t367 > 1000
    ·rw [if_pos c16] at H
     have c16b0 : decide (1000 < t367) = true := decide_eq_true c16
     clear c16
     simp only [Option.some.injEq, Prod.mk.injEq] at H
     obtain ⟨rfl, rfl, rfl, rfl, rfl, rfl, rfl⟩ := H
     go_wp2_with (first | ((with_reducible refine gate_callee (f := 30) rfl ?_); refine goesL_ (some 21) rfl rfl Tryd.func30 (by kernel_rfl) rfl #[.pointer (some ⟨gb356, 0, none⟩), .string a1] rfl (by (try simp only [List.map_toArray, List.map_cons, List.map_nil]); first | done | rfl | (simp only [List.length_drop, List.length_take]; rfl)) ?_; (with_reducible refine (impl_Decoder_feed.calls kj2 gb356 a0_0 a0_1 a0_2 a0_3 a1 t359 t362 t365 t366 t367 t368 w _ ?side1 ?side2 (by first | exact HT.out | (refine Utf8Tabs_below HT.out ?_; repeat (first | exact HB.out | exact Below.refl _ _ | apply below_alloc | apply pw_below_drewN | apply below_drew1 | apply below_drew | refine below_set ?_ (Aside0.out (by assumption))))) A15.out).mono ?_); (case side1 => repeat (first | (with_reducible first | exact HI356.out | apply IsS31.alloc | apply IsS31.drewN | apply IsS31.drew | apply IsS31.set_0 | apply IsS31.set_1 | apply IsS31.set_2 | apply IsS31.set_3 | refine IsS31.far ?_ NB356_357.out _) | exact HI356.out)); (case side2 => repeat (first | (with_reducible first | exact HB.out | apply below_alloc | apply pw_below_drewN | apply below_drew1 | refine below_set ?_ (IsS31.ge HI356.out) | refine below_set ?_ GE357.out) | exact HB.out)); rintro e w17 ⟨v360, v363, rfl, ho0, ho1, hi, hb, hk⟩; refine ⟨_, rfl, ?_⟩; have n0_ := Aside0.mk (KeepBut.blk hk (g' := gb357) (o := .cells #[.int .i64 0, .int .i64 0, .int .i64 0, .string (⟨#[]⟩ : ByteArray)] 31 (0, 0)) (by (with_reducible repeat (first | refine blk_drewN ?_ _ | refine blk_drew ?_ | refine blk_alloc ?_ _)); exact BK357.out) NB357_356.out (by simp)); have n1_ := Aside0.mk (Kd.R_lower ho0 (below_size (by repeat (first | (with_reducible first | exact HB.out | apply below_alloc | apply pw_below_drewN | apply below_drew1 | refine below_set ?_ (IsS31.ge HI356.out) | refine below_set ?_ GE357.out) | exact HB.out)))); have n2_ := Aside0.mk (Kd.R_lower ho1 (below_size (by repeat (first | (with_reducible first | exact HB.out | apply below_alloc | apply pw_below_drewN | apply below_drew1 | refine below_set ?_ (IsS31.ge HI356.out) | refine below_set ?_ GE357.out) | exact HB.out)))); have n3_ := Aside0.mk (hb); have n4_ := Aside0.mk (hi); clear BK357; clear HB; clear HI356; have BK357 := n0_; have HO361 := n1_; have HO364 := n2_; have HB := n3_; have HI356 := n4_; clear n0_ n1_ n2_ n3_ n4_; (try clear hb); (try clear hb2); (try clear hk); (try clear hi); (try clear ho0); (try clear ho1); obtain ⟨HGz18, hgz18⟩ := HI356.out; have hcz18_0 := cellS31_0 HGz18; have hcz18_1 := cellS31_1 HGz18; have hcz18_2 := cellS31_2 HGz18; have hcz18_3 := cellS31_3 HGz18; have hfz18_0 := blk_frozen HGz18 0; have hfz18_1 := blk_frozen HGz18 1; have hfz18_2 := blk_frozen HGz18 2; have hfz18_3 := blk_frozen HGz18 3; clear HGz18 hgz18; have hnb19 := NB357_356.out; have hnc19 := NB356_357.out; have hcz20_0 : w17.cell? ⟨gb357, 0, none⟩ = some (.int .i64 0) := (blk_cell BK357.out 0).trans rfl; have hcz20_1 : w17.cell? ⟨gb357, 1, none⟩ = some (.int .i64 0) := (blk_cell BK357.out 1).trans rfl; have hcz20_2 : w17.cell? ⟨gb357, 2, none⟩ = some (.int .i64 0) := (blk_cell BK357.out 2).trans rfl; have hcz20_3 : w17.cell? ⟨gb357, 3, none⟩ = some (.string (⟨#[]⟩ : ByteArray)) := (blk_cell BK357.out 3).trans rfl; have hfz20_0 := blk_frozen BK357.out 0; have hfz20_1 := blk_frozen BK357.out 1; have hfz20_2 := blk_frozen BK357.out 2; have hfz20_3 := blk_frozen BK357.out 3))
     refine bodyPost_ret (results_list (rs := [.cell 4 31, .tmp 5, .tmp 6, .tmp 7]) rfl (by simp) (.cell gb357 31 #[.int .i64 0, .int .i64 0, .int .i64 0, .string (⟨#[]⟩ : ByteArray)] (0, 0) _ rfl (by (with_reducible repeat (first | refine blk_drewN ?_ _ | refine blk_drew ?_ | refine blk_alloc ?_ _)); refine blk_put (cs := #[.int .i64 0, .int .i64 0, .int .i64 0, .string (⟨#[]⟩ : ByteArray)]) ?_ 3 _ rfl; (with_reducible repeat (first | refine blk_drewN ?_ _ | refine blk_drew ?_ | refine blk_alloc ?_ _)); refine blk_put (cs := #[.int .i64 0, .int .i64 0, .int .i64 0, .string (⟨#[]⟩ : ByteArray)]) ?_ 2 _ rfl; (with_reducible repeat (first | refine blk_drewN ?_ _ | refine blk_drew ?_ | refine blk_alloc ?_ _)); refine blk_put (cs := #[.int .i64 0, .int .i64 0, .int .i64 0, .string (⟨#[]⟩ : ByteArray)]) ?_ 1 _ rfl; (with_reducible repeat (first | refine blk_drewN ?_ _ | refine blk_drew ?_ | refine blk_alloc ?_ _)); refine blk_put (cs := #[.int .i64 0, .int .i64 0, .int .i64 0, .string (⟨#[]⟩ : ByteArray)]) ?_ 0 _ rfl; (with_reducible repeat (first | refine blk_drewN ?_ _ | refine blk_drew ?_ | refine blk_alloc ?_ _)); exact BK357.out) Tryd.underlying31 rfl (by kernel_rfl) (.tmp (.tmp (.tmp .nil))))) rfl ?_
     exact ⟨_, _, by first | rfl | (simp [errW_none, errW_some] <;> rfl) | (simp [*, errW_none, errW_some] <;> rfl), by first | exact Kd.R_nil _ _ _ _ _ | exact Kd.N_nil _ _ _ _ _ | exact Kd.V_nil _ _ _ _ _ | exact Kd.Q_nil _ _ _ _ _ | exact Kd.S_nil _ _ _ _ _, by first | exact Kd.R_nil _ _ _ _ _ | exact Kd.N_nil _ _ _ _ _ | exact Kd.V_nil _ _ _ _ _ | exact Kd.Q_nil _ _ _ _ _ | exact Kd.S_nil _ _ _ _ _, by repeat (first | (with_reducible first | exact HB.out | apply below_alloc | apply pw_below_drewN | apply below_drew1 | refine below_set ?_ (IsS31.ge HI356.out) | refine below_set ?_ GE357.out) | exact HB.out)⟩
    ·rw [if_neg c16] at H
     have c16b0 : decide (1000 < t367) = false := decide_eq_false c16
     clear c16
     simp only [Option.some.injEq, Prod.mk.injEq] at H
     obtain ⟨rfl, rfl, rfl, rfl, rfl, rfl, rfl⟩ := H
     go_wp2_with (first | ((with_reducible refine gate_callee (f := 30) rfl ?_); refine goesL_ (some 21) rfl rfl Tryd.func30 (by kernel_rfl) rfl #[.pointer (some ⟨gb356, 0, none⟩), .string a1] rfl (by (try simp only [List.map_toArray, List.map_cons, List.map_nil]); first | done | rfl | (simp only [List.length_drop, List.length_take]; rfl)) ?_; (with_reducible refine (impl_Decoder_feed.calls kj2 gb356 a0_0 a0_1 a0_2 a0_3 a1 t359 t362 t365 t366 t367 t368 w _ ?side1 ?side2 (by first | exact HT.out | (refine Utf8Tabs_below HT.out ?_; repeat (first | exact HB.out | exact Below.refl _ _ | apply below_alloc | apply pw_below_drewN | apply below_drew1 | apply below_drew | refine below_set ?_ (Aside0.out (by assumption))))) A15.out).mono ?_); (case side1 => repeat (first | (with_reducible first | exact HI356.out | apply IsS31.alloc | apply IsS31.drewN | apply IsS31.drew | apply IsS31.set_0 | apply IsS31.set_1 | apply IsS31.set_2 | apply IsS31.set_3 | refine IsS31.far ?_ NB356_357.out _) | exact HI356.out)); (case side2 => repeat (first | (with_reducible first | exact HB.out | apply below_alloc | apply pw_below_drewN | apply below_drew1 | refine below_set ?_ (IsS31.ge HI356.out) | refine below_set ?_ GE357.out) | exact HB.out)); rintro e w21 ⟨v360, v363, rfl, ho0, ho1, hi, hb, hk⟩; refine ⟨_, rfl, ?_⟩; have n0_ := Aside0.mk (KeepBut.blk hk (g' := gb357) (o := .cells #[.int .i64 0, .int .i64 0, .int .i64 0, .string (⟨#[]⟩ : ByteArray)] 31 (0, 0)) (by (with_reducible repeat (first | refine blk_drewN ?_ _ | refine blk_drew ?_ | refine blk_alloc ?_ _)); exact BK357.out) NB357_356.out (by simp)); have n1_ := Aside0.mk (Kd.R_lower ho0 (below_size (by repeat (first | (with_reducible first | exact HB.out | apply below_alloc | apply pw_below_drewN | apply below_drew1 | refine below_set ?_ (IsS31.ge HI356.out) | refine below_set ?_ GE357.out) | exact HB.out)))); have n2_ := Aside0.mk (Kd.R_lower ho1 (below_size (by repeat (first | (with_reducible first | exact HB.out | apply below_alloc | apply pw_below_drewN | apply below_drew1 | refine below_set ?_ (IsS31.ge HI356.out) | refine below_set ?_ GE357.out) | exact HB.out)))); have n3_ := Aside0.mk (hb); have n4_ := Aside0.mk (hi); clear BK357; clear HB; clear HI356; have BK357 := n0_; have HO361 := n1_; have HO364 := n2_; have HB := n3_; have HI356 := n4_; clear n0_ n1_ n2_ n3_ n4_; (try clear hb); (try clear hb2); (try clear hk); (try clear hi); (try clear ho0); (try clear ho1); obtain ⟨HGz22, hgz22⟩ := HI356.out; have hcz22_0 := cellS31_0 HGz22; have hcz22_1 := cellS31_1 HGz22; have hcz22_2 := cellS31_2 HGz22; have hcz22_3 := cellS31_3 HGz22; have hfz22_0 := blk_frozen HGz22 0; have hfz22_1 := blk_frozen HGz22 1; have hfz22_2 := blk_frozen HGz22 2; have hfz22_3 := blk_frozen HGz22 3; clear HGz22 hgz22; have hnb23 := NB357_356.out; have hnc23 := NB356_357.out; have hcz24_0 : w21.cell? ⟨gb357, 0, none⟩ = some (.int .i64 0) := (blk_cell BK357.out 0).trans rfl; have hcz24_1 : w21.cell? ⟨gb357, 1, none⟩ = some (.int .i64 0) := (blk_cell BK357.out 1).trans rfl; have hcz24_2 : w21.cell? ⟨gb357, 2, none⟩ = some (.int .i64 0) := (blk_cell BK357.out 2).trans rfl; have hcz24_3 : w21.cell? ⟨gb357, 3, none⟩ = some (.string (⟨#[]⟩ : ByteArray)) := (blk_cell BK357.out 3).trans rfl; have hfz24_0 := blk_frozen BK357.out 0; have hfz24_1 := blk_frozen BK357.out 1; have hfz24_2 := blk_frozen BK357.out 2; have hfz24_3 := blk_frozen BK357.out 3))
     refine bodyPost_ret (results_list (rs := [.cell 4 31, .tmp 5, .tmp 6, .tmp 7]) rfl (by simp) (.cell gb357 31 #[.int .i64 t365, .int .i64 t366, .int .i64 t367, .string t368] (0, 0) _ rfl (by (with_reducible repeat (first | refine blk_drewN ?_ _ | refine blk_drew ?_ | refine blk_alloc ?_ _)); refine blk_put (cs := #[.int .i64 t365, .int .i64 t366, .int .i64 t367, .string (⟨#[]⟩ : ByteArray)]) ?_ 3 _ rfl; (with_reducible repeat (first | refine blk_drewN ?_ _ | refine blk_drew ?_ | refine blk_alloc ?_ _)); refine blk_put (cs := #[.int .i64 t365, .int .i64 t366, .int .i64 0, .string (⟨#[]⟩ : ByteArray)]) ?_ 2 _ rfl; (with_reducible repeat (first | refine blk_drewN ?_ _ | refine blk_drew ?_ | refine blk_alloc ?_ _)); refine blk_put (cs := #[.int .i64 t365, .int .i64 0, .int .i64 0, .string (⟨#[]⟩ : ByteArray)]) ?_ 1 _ rfl; (with_reducible repeat (first | refine blk_drewN ?_ _ | refine blk_drew ?_ | refine blk_alloc ?_ _)); refine blk_put (cs := #[.int .i64 0, .int .i64 0, .int .i64 0, .string (⟨#[]⟩ : ByteArray)]) ?_ 0 _ rfl; (with_reducible repeat (first | refine blk_drewN ?_ _ | refine blk_drew ?_ | refine blk_alloc ?_ _)); exact BK357.out) Tryd.underlying31 rfl (by kernel_rfl) (.tmp (.tmp (.tmp .nil))))) rfl ?_
     exact ⟨_, _, by first | rfl | (simp [errW_none, errW_some] <;> rfl) | (simp [*, errW_none, errW_some] <;> rfl), by (with_reducible repeat (first | apply Kd.R_alloc | apply Kd.R_drewN | apply Kd.R_drew)); exact Kd.R_mono (Kd.R_far (p := ⟨gb357, 3, none⟩) (Kd.R_far (p := ⟨gb357, 2, none⟩) (Kd.R_far (p := ⟨gb357, 1, none⟩) (Kd.R_far (p := ⟨gb357, 0, none⟩) (Kd.R_types HO361.out BK357.out (by decide)) (fun _ hk => hk.2) (.int .i64 t365)) (fun _ hk => hk.2) (.int .i64 t366)) (fun _ hk => hk.2) (.int .i64 t367)) (fun _ hk => hk.2) (.string t368)) (fun _ hk => hk.1), by (with_reducible repeat (first | apply Kd.R_alloc | apply Kd.R_drewN | apply Kd.R_drew)); exact Kd.R_mono (Kd.R_far (p := ⟨gb357, 3, none⟩) (Kd.R_far (p := ⟨gb357, 2, none⟩) (Kd.R_far (p := ⟨gb357, 1, none⟩) (Kd.R_far (p := ⟨gb357, 0, none⟩) (Kd.R_types HO364.out BK357.out (by decide)) (fun _ hk => hk.2) (.int .i64 t365)) (fun _ hk => hk.2) (.int .i64 t366)) (fun _ hk => hk.2) (.int .i64 t367)) (fun _ hk => hk.2) (.string t368)) (fun _ hk => hk.1), by repeat (first | (with_reducible first | exact HB.out | apply below_alloc | apply pw_below_drewN | apply below_drew1 | refine below_set ?_ (IsS31.ge HI356.out) | refine below_set ?_ GE357.out) | exact HB.out)⟩

def laws_markIntS.l0 : Nat → List Int → Int → Int → Option (Int × List Int)
 | 0, _, _, _ => none
 | k + 1, x0, x1, x5 => if x5 < (x0.length : Int) then (if 0 ≤ x5 then (laws_markIntS.l0 k (x0.set (x5 : Int).toNat x1) (wrap64 (x1 + 1)) (wrap64 (x5 + 1))) else (none)) else (some (x1, x0))
def laws_markIntS.f (k : Nat) (l0 : List Int) (a1 : Int) : Option (Int × List Int) := laws_markIntS.l0 k l0 a1 0
theorem laws_markIntS.mono_l : ∀ k, (∀ y0 y1 y2, LeO (laws_markIntS.l0 k y0 y1 y2) (laws_markIntS.l0 (k + 1) y0 y1 y2))
 | 0 => fun _ _ _ r h => by simp [laws_markIntS.l0] at h
 | k + 1 => by
  have ih0 := laws_markIntS.mono_l k
  ·intro y0 y1 y2
   unfold laws_markIntS.l0
   repeat' first
   | (with_reducible exact ih0 _ _ _)
   | (with_reducible exact LeO.refl _)
   | (with_reducible exact LeO.none _)
   | (with_reducible refine LeO.ite ?_ ?_)
   | (with_reducible refine LeO.bind ?_ (fun _ => ?_))
   | exact ih0 _ _ _
   | exact LeO.none _
   | refine LeO.ite ?_ ?_
   | refine LeO.bind ?_ (fun _ => ?_)
theorem laws_markIntS.mono : ∀ a0 a1 k, LeO (laws_markIntS.f k a0 a1) (laws_markIntS.f (k + 1) a0 a1) := by
 intro a0 a1 k
 have ih0 := laws_markIntS.mono_l k
 unfold laws_markIntS.f
 repeat' first
   | (with_reducible exact ih0 _ _ _)
   | (with_reducible exact LeO.refl _)
   | (with_reducible exact LeO.none _)
   | (with_reducible refine LeO.ite ?_ ?_)
   | (with_reducible refine LeO.bind ?_ (fun _ => ?_))
   | exact ih0 _ _ _
   | exact LeO.none _
   | refine LeO.ite ?_ ?_
   | refine LeO.bind ?_ (fun _ => ?_)
set_option maxHeartbeats 8000000 in
set_option maxRecDepth 100000 in
theorem laws_markIntS.calls (k : Nat) (P0_ : Nat → Prop) (u9000_ : Value) (l0 : List Int) (a1 : Int) (r1 : Int) (r2 : List Int) (w0 w : World) (hB : Below w0.heap.size w0 w) (ho0 : Kd.R (Kd.int .i64) 3 w w0.heap.size P0_ u9000_ l0) (h : laws_markIntS.f k l0 a1 = some (r1, r2)) :
  Calls Tryd.prog 17 #[u9000_, .int .i64 a1] w fun e w' => e = .returned (.int .i64 r1) ∧ Kd.R (Kd.int .i64) 3 w' w0.heap.size (fun k_ => (P0_ k_ ∨ w.heap.size ≤ k_)) u9000_ r2 ∧ Below w0.heap.size w0 w' ∧ Kept w w' (fun k_ => P0_ k_) := by
 have HO0 := Aside0.mk (show Kd.R (Kd.int .i64) 3 w w0.heap.size (fun k_ => (P0_ k_ ∨ w.heap.size ≤ k_)) u9000_ l0 from Kd.R_mono ho0 (fun k_ hk => (.inl hk)))
 have HK := Aside0.mk (Kept.refl w (fun k_ => P0_ k_))
 have HW0 := Aside0.mk hB.size
 have HB := Aside0.mk hB
 clear hB
 have H : (laws_markIntS.l0 k l0 a1 0) = some (r1, r2) := h
 clear h
 have H' := Aside0.mk H
 clear H
 go_enter Tryd.func17, Tryd.ntmps17
 go_wp2
 go_loopg [1, 5] k (fun kq v1 v5 w' => ∃ (x0_1 : List Int) (x1_1 : Int) (x5_1 : Int), v1 = .int .i64 x1_1 ∧ v5 = .int .i64 x5_1 ∧ Aside0 (laws_markIntS.l0 kq x0_1 x1_1 x5_1 = some (r1, r2)) ∧ Aside0 (kq ≤ k) ∧ Aside0 (Kd.R (Kd.int .i64) 3 w' w0.heap.size (fun k_ => (P0_ k_ ∨ w.heap.size ≤ k_)) u9000_ x0_1) ∧ Aside0 (Kept w w' (fun k_ => P0_ k_)) ∧ Aside0 (Below w0.heap.size w0 w'))
 case atStart => exact ⟨(l0), (a1), (0), (by first | rfl | (simp; done) | (simp [*]; done)), (by first | rfl | (simp; done) | (simp [*]; done)), H', ⟨Nat.le_refl _⟩, ⟨by (with_reducible repeat (first | apply Kd.R_alloc | apply Kd.R_drewN | apply Kd.R_drew)); exact HO0.out⟩, ⟨by repeat (first | (with_reducible first | exact HK.out | apply Kept.alloc | apply Kept.drewN | apply Kept.drew) | exact HK.out)⟩, ⟨by repeat (first | (with_reducible first | exact HB.out | apply below_alloc | apply pw_below_drewN | apply below_drew1) | exact HB.out)⟩⟩
 case round =>
  clear H'
  try clear c1
  try clear p2
  obtain ⟨x0_1, x1_1, x5_1, rfl, rfl, HA, HK1, HO_0, HK, HB⟩ := hrel
  cases gk with
  | zero => exact absurd HA.out (by simp [laws_markIntS.l0])
  | succ k1 =>
   have H := HA.out
   clear HA
   simp only [laws_markIntS.l0] at H
   by_cases c3 : x5_1 < (x0_1.length : Int)
   ·rw [if_pos c3] at H
    have c3b0 : decide (x5_1 < (x0_1.length : Int)) = true := decide_eq_true c3
    clear c3
    by_cases c4 : 0 ≤ x5_1
    ·rw [if_pos c4] at H
     have c4b0 : decide (0 ≤ x5_1) = true := decide_eq_true c4
     clear c4
     obtain ⟨y369, hy369⟩ : ∃ y_ : List Int, y_ = (x0_1.set (x5_1 : Int).toNat x1_1) := ⟨_, rfl⟩
     replace H : (laws_markIntS.l0 k1 y369 (wrap64 (x1_1 + 1)) (wrap64 (x5_1 + 1))) = some (r1, r2) := by first | (rw [hy369]; with_reducible exact H) | (have H2_ := (Option.bind_some _ _).symm.trans H; rw [hy369]; with_reducible exact H2_) | (have H2_ := (Option.bind_some _ _).symm.trans H; with_reducible exact H2_) | with_reducible exact H | (rw [hy369]; exact H) | exact H
     have Ny369 := Aside0.mk hy369
     clear hy369
     have H' := Aside0.mk H
     clear H
     obtain ⟨Ao6, co6, eo6⟩ := Kd.R_slice HO_0.out
     subst eo6
     have p5 : 0 ≤ (x5_1 : Int) := of_decide_eq_true (by first | (with_reducible assumption) | assumption)
     have q5 : (x5_1 : Int) < ((x0_1.length : Int) : Int) := of_decide_eq_true (by first | (with_reducible assumption) | assumption)
     obtain ⟨go5, co5, eo5, gb5, gl5, cl5, HG5⟩ := Kd.R_form HO_0.out (by omega)
     (first | cases eo5 | (injection eo5 with ea_ en_ ec_; (first | subst ea_ | (injection ea_ with ea_; subst ea_)); subst ec_; clear en_))
     have GB5 := Aside0.mk gb5
     have GG5 := Aside0.mk HG5
     clear gb5 gl5 HG5
     have HMgo5 := Aside0.mk (show (P0_ go5 ∨ w.heap.size ≤ go5) from (HO_0.out.1 _ rfl))
     obtain ⟨hx5_0, hf5_0⟩ := Kd.R_celln 0 HO_0.out (x5_1 : Int) p5 q5
     replace p5 := eq_true p5
     replace q5 := eq_true q5
     have HP7 := Kd.R_putg HO_0.out (x5_1 : Int) x1_1
     go_wp2_with (first | ((with_reducible refine gate_store (t := 3) (p := 15) rfl ?_); refine store_event (t := 3) (p := 15) (v := ?vo_w8) (w1 := (wr.setCell ⟨go5, (x5_1 : Int).toNat, none⟩ (.int .i64 x1_1))) ?hg ?ho ?hn ?hr ?_; (case ho => rfl); (case hg => rfl); (case hn => rfl); (case hr => first | (go_simp; done) | (go_simp; rfl)); intro w8 hw; have hg : wr.grownBy w8 (some go5) := (by rw [hw]; exact HP7.2); have hp_ : Kd.R (Kd.int .i64) 3 w8 w0.heap.size (fun k_ => (P0_ k_ ∨ w.heap.size ≤ k_)) (.slice (some ⟨go5, 0, none⟩) x0_1.length co6) y369 := (by rw [hw, Ny369.out]; exact HP7.1); clear HP7; have n0_ := Aside0.mk (hp_); have n1_ := Aside0.mk ((by rw [hw]; exact below_set (HB.out) GB5.out : Below w0.heap.size w0 w8)); have n2_ := Aside0.mk (Kept.of_grown (S := (fun k_ => P0_ k_)) hg (by repeat (first | (with_reducible first | exact HK.out | apply Kept.alloc | apply Kept.drewN | apply Kept.drew) | exact HK.out)) (fun k_ e_ => (HO_0.out.1 k_ e_))); clear HO_0; clear HB; clear HK; have HO_0 := n0_; have HB := n1_; have HK := n2_; clear n0_ n1_ n2_; clear hg hw hp_))
     go_roundg k1
     case measure => have := HK1.out; omega
     case rel => exact ⟨(y369), (wrap64 (x1_1 + 1)), (wrap64 (x5_1 + 1)), (by first | rfl | (simp; done) | (simp [*]; done)), (by first | rfl | (simp; done) | (simp [*]; done)), H', ⟨by have := HK1.out; omega⟩, ⟨by (with_reducible repeat (first | apply Kd.R_alloc | apply Kd.R_drewN | apply Kd.R_drew)); exact HO_0.out⟩, ⟨by repeat (first | (with_reducible first | exact HK.out | apply Kept.alloc | apply Kept.drewN | apply Kept.drew) | exact HK.out)⟩, ⟨by repeat (first | (with_reducible first | exact HB.out | apply below_alloc | apply pw_below_drewN | apply below_drew1) | exact HB.out)⟩⟩
    ·rw [if_neg c4] at H
     exact absurd H (by simp)
   ·rw [if_neg c3] at H
    have c3b0 : decide (x5_1 < (x0_1.length : Int)) = false := decide_eq_false c3
    clear c3
    simp only [Option.some.injEq, Prod.mk.injEq] at H
    obtain ⟨rfl, rfl⟩ := H
    obtain ⟨Ao9, co9, eo9⟩ := Kd.R_slice HO_0.out
    subst eo9
    go_wp2
    go_ret
    exact ⟨by first | rfl | (simp [errW_none, errW_some] <;> rfl) | (simp [*, errW_none, errW_some] <;> rfl), by (with_reducible repeat (first | apply Kd.R_alloc | apply Kd.R_drewN | apply Kd.R_drew)); exact HO_0.out, by repeat (first | (with_reducible first | exact HB.out | apply below_alloc | apply pw_below_drewN | apply below_drew1) | exact HB.out), by repeat (first | (with_reducible first | exact HK.out | apply Kept.alloc | apply Kept.drewN | apply Kept.drew) | exact HK.out)⟩

def laws_heldIntS.l0 : Nat → List Int → Int → Int → Option (Int)
  | 0, _, _, _ => none
  | k + 1, x0, x1, x5 => if x5 < (x0.length : Int) then (if 0 ≤ x5 then (if (rd x0 x5) = x1 then (laws_heldIntS.l0 k x0 (wrap64 (x1 + 1)) (wrap64 (x5 + 1))) else (some (-1))) else (none)) else (some x1)
def laws_heldIntS.f (k : Nat) (l0 : List Int) (a1 : Int) : Option (Int) := laws_heldIntS.l0 k l0 a1 0
theorem laws_heldIntS.mono_l : ∀ k, (∀ y0 y1 y2, LeO (laws_heldIntS.l0 k y0 y1 y2) (laws_heldIntS.l0 (k + 1) y0 y1 y2))
  | 0 => fun _ _ _ r h => by simp [laws_heldIntS.l0] at h
  | k + 1 => by
    have ih0 := laws_heldIntS.mono_l k
    · intro y0 y1 y2
      unfold laws_heldIntS.l0
      repeat' first
      | (with_reducible exact ih0 _ _ _)
      | (with_reducible exact LeO.refl _)
      | (with_reducible exact LeO.none _)
      | (with_reducible refine LeO.ite ?_ ?_)
      | (with_reducible refine LeO.bind ?_ (fun _ => ?_))
      | exact ih0 _ _ _
      | exact LeO.none _
      | refine LeO.ite ?_ ?_
      | refine LeO.bind ?_ (fun _ => ?_)
theorem laws_heldIntS.mono : ∀ a0 a1 k, LeO (laws_heldIntS.f k a0 a1) (laws_heldIntS.f (k + 1) a0 a1) := by
  intro a0 a1 k
  have ih0 := laws_heldIntS.mono_l k
  unfold laws_heldIntS.f
  repeat' first
      | (with_reducible exact ih0 _ _ _)
      | (with_reducible exact LeO.refl _)
      | (with_reducible exact LeO.none _)
      | (with_reducible refine LeO.ite ?_ ?_)
      | (with_reducible refine LeO.bind ?_ (fun _ => ?_))
      | exact ih0 _ _ _
      | exact LeO.none _
      | refine LeO.ite ?_ ?_
      | refine LeO.bind ?_ (fun _ => ?_)
set_option maxHeartbeats 8000000 in
set_option maxRecDepth 100000 in
theorem laws_heldIntS.calls (k : Nat) (A0 : Option Addr) (c0 : Nat) (l0 : List Int) (a1 : Int) (r : Int) (w : World) (hr0 : Kd.C (Kd.int .i64) w A0 l0.length l0) (hc0 : l0.length ≤ c0) (h : laws_heldIntS.f k l0 a1 = some r) :
    Calls Tryd.prog 18 #[.slice A0 l0.length c0, .int .i64 a1] w fun e w' => e = .returned (.int .i64 r) ∧ Drawn0 w w' := by
  have HR0 := Aside0.mk hr0
  have HC0 := Aside0.mk hc0
  clear hr0 hc0
  have H : (laws_heldIntS.l0 k l0 a1 0) = some r := h
  clear h
  have H' := Aside0.mk H
  clear H
  go_enter Tryd.func18, Tryd.ntmps18
  go_wp2
  go_loopg [1, 5] k (fun kq v1 v5 w' => ∃ (x1_1 : Int) (x5_1 : Int), v1 = .int .i64 x1_1 ∧ v5 = .int .i64 x5_1 ∧ Aside0 (laws_heldIntS.l0 kq l0 x1_1 x5_1 = some r) ∧ Aside0 (kq ≤ k) ∧ Drawn0 w w')
  case atStart => exact ⟨(a1), (0), (by first | rfl | (simp; done) | (simp [*]; done)), (by first | rfl | (simp; done) | (simp [*]; done)), H', ⟨Nat.le_refl _⟩, by repeat (first | exact Drawn0.refl _ | apply Drawn0.step)⟩
  case round =>
    clear H'
    try clear c1
    try clear p2
    obtain ⟨x1_1, x5_1, rfl, rfl, HA, HK1, ⟨m1, rfl⟩⟩ := hrel
    cases gk with
    | zero => exact absurd HA.out (by simp [laws_heldIntS.l0])
    | succ k1 =>
      have H := HA.out
      clear HA
      simp only [laws_heldIntS.l0] at H
      by_cases c3 : x5_1 < (l0.length : Int)
      · rw [if_pos c3] at H
        have c3b0 : decide (x5_1 < (l0.length : Int)) = true := decide_eq_true c3
        clear c3
        by_cases c4 : 0 ≤ x5_1
        · rw [if_pos c4] at H
          have c4b0 : decide (0 ≤ x5_1) = true := decide_eq_true c4
          clear c4
          by_cases c5 : (rd l0 x5_1) = x1_1
          · rw [if_pos c5] at H
            have c5b0 : ((rd l0 x5_1) == x1_1) = true := beq_iff_eq.mpr c5
            have c5b1 : ((rd l0 x5_1) != x1_1) = false := bne_eq_false_iff_eq.mpr c5
            clear c5
            have H' := Aside0.mk H
            clear H
            have p370 : 0 ≤ (x5_1 : Int) := of_decide_eq_true (by first | (with_reducible assumption) | assumption)
            have q370 : x5_1 < (l0.length : Int) := of_decide_eq_true (by first | (with_reducible assumption) | assumption)
            obtain ⟨ad370, e370, hx370_0⟩ := Kd.at_int HR0.out x5_1 p370 q370
            cases e370
            replace p370 := eq_true p370
            replace q370 := eq_true q370
            go_wp2
            go_roundg k1
            case measure => have := HK1.out; omega
            case rel => exact ⟨(wrap64 (x1_1 + 1)), (wrap64 (x5_1 + 1)), (by first | rfl | (simp; done) | (simp [*]; done)), (by first | rfl | (simp; done) | (simp [*]; done)), H', ⟨by have := HK1.out; omega⟩, by repeat (first | exact Drawn0.refl _ | apply Drawn0.step)⟩
          · rw [if_neg c5] at H
            have c5b0 : ((rd l0 x5_1) == x1_1) = false := beq_eq_false_iff_ne.mpr c5
            have c5b1 : ((rd l0 x5_1) != x1_1) = true := bne_iff_ne.mpr c5
            obtain rfl := Option.some.inj H
            have p370 : 0 ≤ (x5_1 : Int) := of_decide_eq_true (by first | (with_reducible assumption) | assumption)
            have q370 : x5_1 < (l0.length : Int) := of_decide_eq_true (by first | (with_reducible assumption) | assumption)
            obtain ⟨ad370, e370, hx370_0⟩ := Kd.at_int HR0.out x5_1 p370 q370
            cases e370
            replace p370 := eq_true p370
            replace q370 := eq_true q370
            go_wp2
            go_ret
            exact ⟨by first | rfl | (simp; done) | (simp [*]; done), by repeat (first | exact Drawn0.refl _ | apply Drawn0.step)⟩
        · rw [if_neg c4] at H
          exact absurd H (by simp)
      · rw [if_neg c3] at H
        have c3b0 : decide (x5_1 < (l0.length : Int)) = false := decide_eq_false c3
        clear c3
        obtain rfl := Option.some.inj H
        go_wp2
        go_ret
        exact ⟨by first | rfl | (simp; done) | (simp [*]; done), by repeat (first | exact Drawn0.refl _ | apply Drawn0.step)⟩

def laws_FnExactFeedDecoder.f (k : Nat) (a0_0 : Int) (a0_1 : Int) (a0_2 : Int) (a0_3 : ByteArray) (a1 : ByteArray) : Option Bool :=
  if (a1.size : Int) > 1048576 then some true else (laws_szDecoder.f a0_0 a0_1 a0_2 a0_3 1048576).bind fun t1 => if t1 < 0 then some true else (laws_toDecoder.f a0_0 a0_1 a0_2 a0_3).bind fun t2 => (spec_FeedDecoder.f k t2.1 t2.2.1 t2.2.2.1 t2.2.2.2 a1).bind fun t3 => (laws_toDecoder.f a0_0 a0_1 a0_2 a0_3).bind fun t4 => (impl_FeedDecoder.f k t4.1 t4.2.1 t4.2.2.1 t4.2.2.2 a1).bind fun t5 => (laws_eqDecoder.f t5.1 t5.2.1 t5.2.2.1 t5.2.2.2.1 t3.1 t3.2.1 t3.2.2.1 t3.2.2.2.1).bind fun t6 => if t6 = true then (laws_eqIntS.f k t5.2.2.2.2.1 t3.2.2.2.2.1).bind fun t7 => if t7 = true then (laws_eqIntS.f k t5.2.2.2.2.2.1 t3.2.2.2.2.2.1).bind fun t8 => if t8 = true then if t5.2.2.2.2.2.2 = t3.2.2.2.2.2.2 then (laws_markIntS.f k t5.2.2.2.2.1 1).bind fun t9 => (laws_markIntS.f k t5.2.2.2.2.2.1 t9.1).bind fun t10 => (laws_heldIntS.f k t9.2 1).bind fun t11 => if t11 < 0 then none else (laws_heldIntS.f k t10.2 t11).bind fun t12 => if t12 < 0 then none else if t12 = t10.1 then (laws_toDecoder.f a0_0 a0_1 a0_2 a0_3).bind fun t13 => (impl_FeedDecoder.f k t13.1 t13.2.1 t13.2.2.1 t13.2.2.2 a1).bind fun t14 => (laws_eqDecoder.f t14.1 t14.2.1 t14.2.2.1 t14.2.2.2.1 t3.1 t3.2.1 t3.2.2.1 t3.2.2.2.1).bind fun t15 => if t15 = true then (laws_eqIntS.f k t14.2.2.2.2.1 t3.2.2.2.2.1).bind fun t16 => if t16 = true then (laws_eqIntS.f k t14.2.2.2.2.2.1 t3.2.2.2.2.2.1).bind fun t17 => if t17 = true then if t14.2.2.2.2.2.2 = t3.2.2.2.2.2.2 then (laws_heldIntS.f k t9.2 1).bind fun t18 => if t18 < 0 then none else (laws_heldIntS.f k t10.2 t18).bind fun t19 => if t19 < 0 then none else if t19 = t10.1 then some true else none else none else none else none else none else none else none else none else none else none
set_option maxHeartbeats 8000000 in
set_option maxRecDepth 100000 in
theorem laws_FnExactFeedDecoder.calls (k : Nat) (a0_0 : Int) (a0_1 : Int) (a0_2 : Int) (a0_3 : ByteArray) (a1 : ByteArray) (r : Bool) (w : World)  (hT : Lib.Utf8Tabs 0 1 w) (h : laws_FnExactFeedDecoder.f k a0_0 a0_1 a0_2 a0_3 a1 = some r) :
    Calls Tryd.prog 4 #[.agg #[.int .i64 a0_0, .int .i64 a0_1, .int .i64 a0_2, .string a0_3], .string a1] w fun e w' => e = .returned (.bool r) ∧ Below w.heap.size w w' := by
  have HT := Aside0.mk hT
  clear hT
  unfold laws_FnExactFeedDecoder.f at h
  have HB0 := Aside0.mk (Below.refl w.heap.size w)
  by_cases cb : (a1.size : Int) > 1048576
  · rw [if_pos cb] at h
    obtain rfl := Option.some.inj h
    have cb0 : decide (1048576 < (a1.size : Int)) = true := decide_eq_true cb
    have cb1 : decide (1048576 < a1.size) = true := decide_eq_true (by omega)
    clear cb
    go_enter Tryd.func4, Tryd.ntmps4
    go_wp2_with (first | ((with_reducible refine gate_dst (N := 2) rfl ?_); refine box_event ?hg (N := 2) ?hd (cs := #[.int .i64 a0_0, .int .i64 a0_1, .int .i64 a0_2, .string a0_3]) (t := 23) ?hr ?_; (case hd => rfl); (case hg => rfl); (case hr => first | (go_simp; done) | (go_simp; rfl)); intro gbaD hg w1 hbox hb; have HB1 := Aside0.mk (below_step (by repeat (first | (with_reducible first | exact HB0.out | apply below_alloc | apply pw_below_drewN | apply below_drew1) | exact HB0.out)) hb); have LE1 := Aside0.mk (by have h_ := blk_lt hbox; rw [hg] at h_; exact h_ : w.heap.size < w1.heap.size); have GgbaD := Aside0.mk (show gbaD = w.heap.size from hg); have BKaD := Aside0.mk hbox; clear hb hbox hg ; have hczaD1_0 : w1.cell? ⟨gbaD, 0, none⟩ = some (.int .i64 a0_0) := (blk_cell BKaD.out 0).trans rfl; have hczaD1_1 : w1.cell? ⟨gbaD, 1, none⟩ = some (.int .i64 a0_1) := (blk_cell BKaD.out 1).trans rfl; have hczaD1_2 : w1.cell? ⟨gbaD, 2, none⟩ = some (.int .i64 a0_2) := (blk_cell BKaD.out 2).trans rfl; have hczaD1_3 : w1.cell? ⟨gbaD, 3, none⟩ = some (.string a0_3) := (blk_cell BKaD.out 3).trans rfl))
    go_ret
    exact ⟨by first | rfl | (simp; done) | (simp [*]; done), (by repeat (first | (with_reducible first | exact HB1.out | apply below_alloc | apply pw_below_drewN | apply below_drew1) | exact HB1.out))⟩
  rw [if_neg cb] at h
  have cb0_12 : decide (1048576 < (a1.size : Int)) = false := decide_eq_false cb
  have cb1_12 : decide (1048576 < a1.size) = false := decide_eq_false (by omega)
  clear cb
  obtain ⟨r1_r, hh, h⟩ := Option.bind_eq_some_iff.mp h
  have A1 := Aside0.mk hh
  clear hh
  by_cases cb : r1_r < 0
  · rw [if_pos cb] at h
    obtain rfl := Option.some.inj h
    have cb0 : decide (r1_r < 0) = true := decide_eq_true cb
    clear cb
    go_enter Tryd.func4, Tryd.ntmps4
    go_wp2_with (first | ((with_reducible refine gate_dst (N := 2) rfl ?_); refine box_event ?hg (N := 2) ?hd (cs := #[.int .i64 a0_0, .int .i64 a0_1, .int .i64 a0_2, .string a0_3]) (t := 23) ?hr ?_; (case hd => rfl); (case hg => rfl); (case hr => first | (go_simp; done) | (go_simp; rfl)); intro gbaD hg w1 hbox hb; have HB1 := Aside0.mk (below_step (by repeat (first | (with_reducible first | exact HB0.out | apply below_alloc | apply pw_below_drewN | apply below_drew1) | exact HB0.out)) hb); have LE1 := Aside0.mk (by have h_ := blk_lt hbox; rw [hg] at h_; exact h_ : w.heap.size < w1.heap.size); have GgbaD := Aside0.mk (show gbaD = w.heap.size from hg); have BKaD := Aside0.mk hbox; clear hb hbox hg ; have hczaD1_0 : w1.cell? ⟨gbaD, 0, none⟩ = some (.int .i64 a0_0) := (blk_cell BKaD.out 0).trans rfl; have hczaD1_1 : w1.cell? ⟨gbaD, 1, none⟩ = some (.int .i64 a0_1) := (blk_cell BKaD.out 1).trans rfl; have hczaD1_2 : w1.cell? ⟨gbaD, 2, none⟩ = some (.int .i64 a0_2) := (blk_cell BKaD.out 2).trans rfl; have hczaD1_3 : w1.cell? ⟨gbaD, 3, none⟩ = some (.string a0_3) := (blk_cell BKaD.out 3).trans rfl) | (go_at_call 11; (with_reducible refine (laws_szDecoder.calls a0_0 a0_1 a0_2 a0_3 1048576 r1_r _ A1.out).mono ?_); rintro e w2 ⟨rfl, hb⟩; have HB2 := Aside0.mk (below_step (by repeat (first | (with_reducible first | exact HB1.out | apply below_alloc | apply pw_below_drewN | apply below_drew1) | exact HB1.out)) hb); have LE2 := Aside0.mk (below_size hb); have BKaDq1 := Aside0.mk (blk_below (g := gbaD) (o := .cells #[.int .i64 a0_0, .int .i64 a0_1, .int .i64 a0_2, .string a0_3] 23 (0, 0)) (by (with_reducible repeat (first | refine blk_drewN ?_ _ | refine blk_drew ?_ | refine blk_alloc ?_ _)); exact BKaD.out) hb); clear BKaD; have hczaD2_0 : w2.cell? ⟨gbaD, 0, none⟩ = some (.int .i64 a0_0) := (blk_cell BKaDq1.out 0).trans rfl; have hczaD2_1 : w2.cell? ⟨gbaD, 1, none⟩ = some (.int .i64 a0_1) := (blk_cell BKaDq1.out 1).trans rfl; have hczaD2_2 : w2.cell? ⟨gbaD, 2, none⟩ = some (.int .i64 a0_2) := (blk_cell BKaDq1.out 2).trans rfl; have hczaD2_3 : w2.cell? ⟨gbaD, 3, none⟩ = some (.string a0_3) := (blk_cell BKaDq1.out 3).trans rfl))
    go_ret
    exact ⟨by first | rfl | (simp; done) | (simp [*]; done), (by repeat (first | (with_reducible first | exact HB2.out | apply below_alloc | apply pw_below_drewN | apply below_drew1) | exact HB2.out))⟩
  rw [if_neg cb] at h
  have cn28 : decide (r1_r < 0) = false := decide_eq_false cb
  clear cb
  obtain ⟨⟨r2_r1, r2_r2, r2_r3, r2_r4⟩, hh, h⟩ := Option.bind_eq_some_iff.mp h
  have A2 := Aside0.mk hh
  clear hh
  dsimp only at h
  obtain ⟨⟨r3_r1, r3_r2, r3_r3, r3_r4, r3_r5, r3_r6, r3_r7⟩, hh, h⟩ := Option.bind_eq_some_iff.mp h
  have A3 := Aside0.mk hh
  clear hh
  dsimp only at h
  obtain ⟨⟨r4_r1, r4_r2, r4_r3, r4_r4⟩, hh, h⟩ := Option.bind_eq_some_iff.mp h
  have A4 := Aside0.mk hh
  clear hh
  dsimp only at h
  obtain ⟨⟨r5_r1, r5_r2, r5_r3, r5_r4, r5_r5, r5_r6, r5_r7⟩, hh, h⟩ := Option.bind_eq_some_iff.mp h
  have A5 := Aside0.mk hh
  clear hh
  dsimp only at h
  obtain ⟨r6_r, hh, h⟩ := Option.bind_eq_some_iff.mp h
  have A6 := Aside0.mk hh
  clear hh
  by_cases cb : r6_r = true
  case neg => rw [if_neg cb] at h; cases h
  rw [if_pos cb] at h
  subst cb
  obtain ⟨r7_r, hh, h⟩ := Option.bind_eq_some_iff.mp h
  have A7 := Aside0.mk hh
  clear hh
  by_cases cb : r7_r = true
  case neg => rw [if_neg cb] at h; cases h
  rw [if_pos cb] at h
  subst cb
  obtain ⟨r8_r, hh, h⟩ := Option.bind_eq_some_iff.mp h
  have A8 := Aside0.mk hh
  clear hh
  by_cases cb : r8_r = true
  case neg => rw [if_neg cb] at h; cases h
  rw [if_pos cb] at h
  subst cb
  by_cases cb : r5_r7 = r3_r7
  case neg => rw [if_neg cb] at h; cases h
  rw [if_pos cb] at h
  have ce68 : (r5_r7 != r3_r7) = false := by rw [cb]; exact bne_self_eq_false _
  have cf68 : (r5_r7 == r3_r7) = true := by rw [cb]; exact beq_self_eq_true _
  clear cb
  obtain ⟨⟨r9_r1, r9_r2⟩, hh, h⟩ := Option.bind_eq_some_iff.mp h
  have A9 := Aside0.mk hh
  clear hh
  dsimp only at h
  obtain ⟨⟨r10_r1, r10_r2⟩, hh, h⟩ := Option.bind_eq_some_iff.mp h
  have A10 := Aside0.mk hh
  clear hh
  dsimp only at h
  obtain ⟨r11_r, hh, h⟩ := Option.bind_eq_some_iff.mp h
  have A11 := Aside0.mk hh
  clear hh
  by_cases cb : r11_r < 0
  · rw [if_pos cb] at h; cases h
  rw [if_neg cb] at h
  have cn85 : decide (r11_r < 0) = false := decide_eq_false cb
  clear cb
  obtain ⟨r12_r, hh, h⟩ := Option.bind_eq_some_iff.mp h
  have A12 := Aside0.mk hh
  clear hh
  by_cases cb : r12_r < 0
  · rw [if_pos cb] at h; cases h
  rw [if_neg cb] at h
  have cn93 : decide (r12_r < 0) = false := decide_eq_false cb
  clear cb
  by_cases cb : r12_r = r10_r1
  case neg => rw [if_neg cb] at h; cases h
  rw [if_pos cb] at h
  have ce98 : (r12_r != r10_r1) = false := by rw [cb]; exact bne_self_eq_false _
  have cf98 : (r12_r == r10_r1) = true := by rw [cb]; exact beq_self_eq_true _
  clear cb
  obtain ⟨⟨r13_r1, r13_r2, r13_r3, r13_r4⟩, hh, h⟩ := Option.bind_eq_some_iff.mp h
  have A13 := Aside0.mk hh
  clear hh
  dsimp only at h
  obtain ⟨⟨r14_r1, r14_r2, r14_r3, r14_r4, r14_r5, r14_r6, r14_r7⟩, hh, h⟩ := Option.bind_eq_some_iff.mp h
  have A14 := Aside0.mk hh
  clear hh
  dsimp only at h
  obtain ⟨r15_r, hh, h⟩ := Option.bind_eq_some_iff.mp h
  have A15 := Aside0.mk hh
  clear hh
  by_cases cb : r15_r = true
  case neg => rw [if_neg cb] at h; cases h
  rw [if_pos cb] at h
  subst cb
  obtain ⟨r16_r, hh, h⟩ := Option.bind_eq_some_iff.mp h
  have A16 := Aside0.mk hh
  clear hh
  by_cases cb : r16_r = true
  case neg => rw [if_neg cb] at h; cases h
  rw [if_pos cb] at h
  subst cb
  obtain ⟨r17_r, hh, h⟩ := Option.bind_eq_some_iff.mp h
  have A17 := Aside0.mk hh
  clear hh
  by_cases cb : r17_r = true
  case neg => rw [if_neg cb] at h; cases h
  rw [if_pos cb] at h
  subst cb
  by_cases cb : r14_r7 = r3_r7
  case neg => rw [if_neg cb] at h; cases h
  rw [if_pos cb] at h
  have ce133 : (r14_r7 != r3_r7) = false := by rw [cb]; exact bne_self_eq_false _
  have cf133 : (r14_r7 == r3_r7) = true := by rw [cb]; exact beq_self_eq_true _
  clear cb
  obtain ⟨r18_r, hh, h⟩ := Option.bind_eq_some_iff.mp h
  have A18 := Aside0.mk hh
  clear hh
  by_cases cb : r18_r < 0
  · rw [if_pos cb] at h; cases h
  rw [if_neg cb] at h
  have cn142 : decide (r18_r < 0) = false := decide_eq_false cb
  clear cb
  obtain ⟨r19_r, hh, h⟩ := Option.bind_eq_some_iff.mp h
  have A19 := Aside0.mk hh
  clear hh
  by_cases cb : r19_r < 0
  · rw [if_pos cb] at h; cases h
  rw [if_neg cb] at h
  have cn150 : decide (r19_r < 0) = false := decide_eq_false cb
  clear cb
  by_cases cb : r19_r = r10_r1
  case neg => rw [if_neg cb] at h; cases h
  rw [if_pos cb] at h
  have ce155 : (r19_r != r10_r1) = false := by rw [cb]; exact bne_self_eq_false _
  have cf155 : (r19_r == r10_r1) = true := by rw [cb]; exact beq_self_eq_true _
  clear cb
  obtain rfl := Option.some.inj h
  clear h
  go_enter Tryd.func4, Tryd.ntmps4
  go_wp2_with (first
    | ((with_reducible refine gate_dst (N := 2) rfl ?_); refine box_event ?hg (N := 2) ?hd (cs := #[.int .i64 a0_0, .int .i64 a0_1, .int .i64 a0_2, .string a0_3]) (t := 23) ?hr ?_; (case hd => rfl); (case hg => rfl); (case hr => first | (go_simp; done) | (go_simp; rfl)); intro gbaD hg w1 hbox hb; have HB1 := Aside0.mk (below_step (by repeat (first | (with_reducible first | exact HB0.out | apply below_alloc | apply pw_below_drewN | apply below_drew1) | exact HB0.out)) hb); have LE1 := Aside0.mk (by have h_ := blk_lt hbox; rw [hg] at h_; exact h_ : w.heap.size < w1.heap.size); have GgbaD := Aside0.mk (show gbaD = w.heap.size from hg); have BKaD := Aside0.mk hbox; clear hb hbox hg ; have hczaD1_0 : w1.cell? ⟨gbaD, 0, none⟩ = some (.int .i64 a0_0) := (blk_cell BKaD.out 0).trans rfl; have hczaD1_1 : w1.cell? ⟨gbaD, 1, none⟩ = some (.int .i64 a0_1) := (blk_cell BKaD.out 1).trans rfl; have hczaD1_2 : w1.cell? ⟨gbaD, 2, none⟩ = some (.int .i64 a0_2) := (blk_cell BKaD.out 2).trans rfl; have hczaD1_3 : w1.cell? ⟨gbaD, 3, none⟩ = some (.string a0_3) := (blk_cell BKaD.out 3).trans rfl)
    | (go_at_call 11; (with_reducible refine (laws_szDecoder.calls a0_0 a0_1 a0_2 a0_3 1048576 r1_r _ A1.out).mono ?_); rintro e w2 ⟨rfl, hb⟩; have HB2 := Aside0.mk (below_step (by repeat (first | (with_reducible first | exact HB1.out | apply below_alloc | apply pw_below_drewN | apply below_drew1) | exact HB1.out)) hb); have LE2 := Aside0.mk (below_size hb); have BKaDq1 := Aside0.mk (blk_below (g := gbaD) (o := .cells #[.int .i64 a0_0, .int .i64 a0_1, .int .i64 a0_2, .string a0_3] 23 (0, 0)) (by (with_reducible repeat (first | refine blk_drewN ?_ _ | refine blk_drew ?_ | refine blk_alloc ?_ _)); exact BKaD.out) hb); clear BKaD; have hczaD2_0 : w2.cell? ⟨gbaD, 0, none⟩ = some (.int .i64 a0_0) := (blk_cell BKaDq1.out 0).trans rfl; have hczaD2_1 : w2.cell? ⟨gbaD, 1, none⟩ = some (.int .i64 a0_1) := (blk_cell BKaDq1.out 1).trans rfl; have hczaD2_2 : w2.cell? ⟨gbaD, 2, none⟩ = some (.int .i64 a0_2) := (blk_cell BKaDq1.out 2).trans rfl; have hczaD2_3 : w2.cell? ⟨gbaD, 3, none⟩ = some (.string a0_3) := (blk_cell BKaDq1.out 3).trans rfl)
    | (go_at_call 13; (with_reducible refine (laws_toDecoder.calls a0_0 a0_1 a0_2 a0_3 r2_r1 r2_r2 r2_r3 r2_r4 _ A2.out).mono ?_); rintro e w3 ⟨rfl, hb⟩; have HB3 := Aside0.mk (below_step (by repeat (first | (with_reducible first | exact HB2.out | apply below_alloc | apply pw_below_drewN | apply below_drew1) | exact HB2.out)) hb); have LE3 := Aside0.mk (below_size hb); have BKaDq2 := Aside0.mk (blk_below (g := gbaD) (o := .cells #[.int .i64 a0_0, .int .i64 a0_1, .int .i64 a0_2, .string a0_3] 23 (0, 0)) (by (with_reducible repeat (first | refine blk_drewN ?_ _ | refine blk_drew ?_ | refine blk_alloc ?_ _)); exact BKaDq1.out) hb); clear BKaDq1; have hczaD3_0 : w3.cell? ⟨gbaD, 0, none⟩ = some (.int .i64 a0_0) := (blk_cell BKaDq2.out 0).trans rfl; have hczaD3_1 : w3.cell? ⟨gbaD, 1, none⟩ = some (.int .i64 a0_1) := (blk_cell BKaDq2.out 1).trans rfl; have hczaD3_2 : w3.cell? ⟨gbaD, 2, none⟩ = some (.int .i64 a0_2) := (blk_cell BKaDq2.out 2).trans rfl; have hczaD3_3 : w3.cell? ⟨gbaD, 3, none⟩ = some (.string a0_3) := (blk_cell BKaDq2.out 3).trans rfl)
    | (go_at_call 12; (with_reducible refine (spec_FeedDecoder.calls k r2_r1 r2_r2 r2_r3 r2_r4 a1 r3_r1 r3_r2 r3_r3 r3_r4 r3_r5 r3_r6 r3_r7 _ A3.out).mono ?_); rintro e w4 ⟨u3_0, u3_1, rfl, ho0, ho1, hb⟩; have HB4 := Aside0.mk (below_step (by repeat (first | (with_reducible first | exact HB3.out | apply below_alloc | apply pw_below_drewN | apply below_drew1) | exact HB3.out)) hb); have LE4 := Aside0.mk (below_size hb); obtain ⟨Au3_0, cu3_0, qu3_0⟩ := Kd.R_slice ho0; subst qu3_0; obtain ⟨Au3_1, cu3_1, qu3_1⟩ := Kd.R_slice ho1; subst qu3_1; have HOu3_0 := Aside0.mk (Kd.R_lower (R_rng ho0) (below_size (by repeat (first | (with_reducible first | exact HB3.out | apply below_alloc | apply pw_below_drewN | apply below_drew1) | exact HB3.out)))); have HOu3_1 := Aside0.mk (Kd.R_lower (R_rng ho1) (below_size (by repeat (first | (with_reducible first | exact HB3.out | apply below_alloc | apply pw_below_drewN | apply below_drew1) | exact HB3.out)))); have BKaDq3 := Aside0.mk (blk_below (g := gbaD) (o := .cells #[.int .i64 a0_0, .int .i64 a0_1, .int .i64 a0_2, .string a0_3] 23 (0, 0)) (by (with_reducible repeat (first | refine blk_drewN ?_ _ | refine blk_drew ?_ | refine blk_alloc ?_ _)); exact BKaDq2.out) hb); clear BKaDq2)
    | ((with_reducible refine gate_dst (N := 6) rfl ?_); refine box_event ?hg (N := 6) ?hd (cs := #[.int .i64 0, .int .i64 0, .int .i64 0, .string ByteArray.empty]) (t := 31) ?hr ?_; (case hd => rfl); (case hg => rfl); (case hr => first | (go_simp; done) | (go_simp; rfl)); intro gbw0 hg w5 hbox hb; have HB5 := Aside0.mk (below_step (by repeat (first | (with_reducible first | exact HB4.out | apply below_alloc | apply pw_below_drewN | apply below_drew1) | exact HB4.out)) hb); have LE5 := Aside0.mk (by have h_ := blk_lt hbox; rw [hg] at h_; exact h_ : w4.heap.size < w5.heap.size); have Ggbw0 := Aside0.mk (show gbw0 = w4.heap.size from hg); have BKw0 := Aside0.mk hbox; have BKaDq4 := Aside0.mk (blk_below (g := gbaD) (o := .cells #[.int .i64 a0_0, .int .i64 a0_1, .int .i64 a0_2, .string a0_3] 23 (0, 0)) (by (with_reducible repeat (first | refine blk_drewN ?_ _ | refine blk_drew ?_ | refine blk_alloc ?_ _)); exact BKaDq3.out) hb); have HOu3_0q1 := Aside0.mk (Kd.R_below (by (with_reducible repeat (first | apply Kd.R_alloc | apply Kd.R_drewN | apply Kd.R_drew)); exact HOu3_0.out) hb); have HOu3_1q1 := Aside0.mk (Kd.R_below (by (with_reducible repeat (first | apply Kd.R_alloc | apply Kd.R_drewN | apply Kd.R_drew)); exact HOu3_1.out) hb); clear hb hbox hg HOu3_0 HOu3_1 BKaDq3; have hcs5_0 : w5.cell? ⟨gbw0, 0, none⟩ = some (.int .i64 0) := (blk_cell BKw0.out 0).trans rfl; have hfs5_0 := blk_frozen BKw0.out 0; have hcs5_1 : w5.cell? ⟨gbw0, 1, none⟩ = some (.int .i64 0) := (blk_cell BKw0.out 1).trans rfl; have hfs5_1 := blk_frozen BKw0.out 1; have hcs5_2 : w5.cell? ⟨gbw0, 2, none⟩ = some (.int .i64 0) := (blk_cell BKw0.out 2).trans rfl; have hfs5_2 := blk_frozen BKw0.out 2; have hcs5_3 : w5.cell? ⟨gbw0, 3, none⟩ = some (.string ByteArray.empty) := (blk_cell BKw0.out 3).trans rfl; have hfs5_3 := blk_frozen BKw0.out 3)
    | ((with_reducible refine gate_store (t := 31) (p := 6) rfl ?_); refine store_event (t := 31) (p := 6) (v := ?vo_w0) (w1 := ((((w5.setCell ⟨gbw0, 0, none⟩ (.int .i64 r3_r1)).setCell ⟨gbw0, 1, none⟩ (.int .i64 r3_r2)).setCell ⟨gbw0, 2, none⟩ (.int .i64 r3_r3)).setCell ⟨gbw0, 3, none⟩ (.string r3_r4))) ?hg ?ho ?hn ?hr ?_; (case ho => rfl); (case hg => rfl); (case hn => rfl); (case hr => first | (go_simp; done) | (go_simp; rfl)); intro w6 hw; have hk : Kept w5 w6 (fun k_ => k_ = gbw0) := (by rw [hw]; exact (Kept.setCell (Kept.setCell (Kept.setCell (Kept.setCell (Kept.refl w5 (fun k_ => k_ = gbw0)) (.inl rfl) _) (.inl rfl) _) (.inl rfl) _) (.inl rfl) _)); have HB6 := Aside0.mk (by rw [hw]; exact (below_set (below_set (below_set (below_set (HB5.out) (by have g_ := Ggbw0.out; have := LE1.out; have := LE2.out; have := LE3.out; have := LE4.out; omega : w.heap.size ≤ gbw0)) (by have g_ := Ggbw0.out; have := LE1.out; have := LE2.out; have := LE3.out; have := LE4.out; omega : w.heap.size ≤ gbw0)) (by have g_ := Ggbw0.out; have := LE1.out; have := LE2.out; have := LE3.out; have := LE4.out; omega : w.heap.size ≤ gbw0)) (by have g_ := Ggbw0.out; have := LE1.out; have := LE2.out; have := LE3.out; have := LE4.out; omega : w.heap.size ≤ gbw0)) : Below w.heap.size w w6); have LE6 := Aside0.mk hk.1; have BKw0q1 := Aside0.mk (by rw [hw]; exact (blk_put (cs' := #[.int .i64 r3_r1, .int .i64 r3_r2, .int .i64 r3_r3, .string r3_r4]) (blk_put (cs' := #[.int .i64 r3_r1, .int .i64 r3_r2, .int .i64 r3_r3, .string ByteArray.empty]) (blk_put (cs' := #[.int .i64 r3_r1, .int .i64 r3_r2, .int .i64 0, .string ByteArray.empty]) (blk_put (cs' := #[.int .i64 r3_r1, .int .i64 0, .int .i64 0, .string ByteArray.empty]) BKw0.out 0 _ rfl) 1 _ rfl) 2 _ rfl) 3 _ rfl) : w6.heap[gbw0]? = some (.cells #[.int .i64 r3_r1, .int .i64 r3_r2, .int .i64 r3_r3, .string r3_r4] 31 (0, 0))); have BKaDq5 := Aside0.mk (blk_kept BKaDq4.out hk (fun a_ => by have e_ : gbaD = gbw0 := a_; have := GgbaD.out; have := Ggbw0.out; have := LE1.out; have := LE2.out; have := LE3.out; have := LE4.out; omega)); have HOu3_0q2 := Aside0.mk (Kd.R_kept HOu3_0q1.out hk (fun k_ a_ b_ => by have := a_.2.2; have e_ : k_ = gbw0 := b_; have := Ggbw0.out; skip; omega)); have HOu3_1q2 := Aside0.mk (Kd.R_kept HOu3_1q1.out hk (fun k_ a_ b_ => by have := a_.2.2; have e_ : k_ = gbw0 := b_; have := Ggbw0.out; skip; omega)); clear hk hw HOu3_0q1 HOu3_1q1 BKaDq4 BKw0; have hczaD6_0 : w6.cell? ⟨gbaD, 0, none⟩ = some (.int .i64 a0_0) := (blk_cell BKaDq5.out 0).trans rfl; have hczaD6_1 : w6.cell? ⟨gbaD, 1, none⟩ = some (.int .i64 a0_1) := (blk_cell BKaDq5.out 1).trans rfl; have hczaD6_2 : w6.cell? ⟨gbaD, 2, none⟩ = some (.int .i64 a0_2) := (blk_cell BKaDq5.out 2).trans rfl; have hczaD6_3 : w6.cell? ⟨gbaD, 3, none⟩ = some (.string a0_3) := (blk_cell BKaDq5.out 3).trans rfl)
    | (go_at_call 13; (with_reducible refine (laws_toDecoder.calls a0_0 a0_1 a0_2 a0_3 r4_r1 r4_r2 r4_r3 r4_r4 _ A4.out).mono ?_); rintro e w7 ⟨rfl, hb⟩; have HB7 := Aside0.mk (below_step (by repeat (first | (with_reducible first | exact HB6.out | apply below_alloc | apply pw_below_drewN | apply below_drew1) | exact HB6.out)) hb); have LE7 := Aside0.mk (below_size hb); have BKaDq6 := Aside0.mk (blk_below (g := gbaD) (o := .cells #[.int .i64 a0_0, .int .i64 a0_1, .int .i64 a0_2, .string a0_3] 23 (0, 0)) (by (with_reducible repeat (first | refine blk_drewN ?_ _ | refine blk_drew ?_ | refine blk_alloc ?_ _)); exact BKaDq5.out) hb); have BKw0q2 := Aside0.mk (blk_below (g := gbw0) (o := .cells #[.int .i64 r3_r1, .int .i64 r3_r2, .int .i64 r3_r3, .string r3_r4] 31 (0, 0)) (by (with_reducible repeat (first | refine blk_drewN ?_ _ | refine blk_drew ?_ | refine blk_alloc ?_ _)); exact BKw0q1.out) hb); have HOu3_0q3 := Aside0.mk (Kd.R_below (by (with_reducible repeat (first | apply Kd.R_alloc | apply Kd.R_drewN | apply Kd.R_drew)); exact HOu3_0q2.out) hb); have HOu3_1q3 := Aside0.mk (Kd.R_below (by (with_reducible repeat (first | apply Kd.R_alloc | apply Kd.R_drewN | apply Kd.R_drew)); exact HOu3_1q2.out) hb); clear HOu3_0q2 HOu3_1q2 BKaDq5 BKw0q1; have hczaD7_0 : w7.cell? ⟨gbaD, 0, none⟩ = some (.int .i64 a0_0) := (blk_cell BKaDq6.out 0).trans rfl; have hczaD7_1 : w7.cell? ⟨gbaD, 1, none⟩ = some (.int .i64 a0_1) := (blk_cell BKaDq6.out 1).trans rfl; have hczaD7_2 : w7.cell? ⟨gbaD, 2, none⟩ = some (.int .i64 a0_2) := (blk_cell BKaDq6.out 2).trans rfl; have hczaD7_3 : w7.cell? ⟨gbaD, 3, none⟩ = some (.string a0_3) := (blk_cell BKaDq6.out 3).trans rfl)
    | (go_at_call 14; (with_reducible refine (impl_FeedDecoder.calls k r4_r1 r4_r2 r4_r3 r4_r4 a1 r5_r1 r5_r2 r5_r3 r5_r4 r5_r5 r5_r6 r5_r7 _ (Utf8Tabs_below HT.out (by repeat (first | (with_reducible first | exact HB7.out | apply below_alloc | apply pw_below_drewN | apply below_drew1) | exact HB7.out))) A5.out).mono ?_); rintro e w8 ⟨u5_0, u5_1, rfl, ho0, ho1, hb⟩; have HB8 := Aside0.mk (below_step (by repeat (first | (with_reducible first | exact HB7.out | apply below_alloc | apply pw_below_drewN | apply below_drew1) | exact HB7.out)) hb); have LE8 := Aside0.mk (below_size hb); obtain ⟨Au5_0, cu5_0, qu5_0⟩ := Kd.R_slice ho0; subst qu5_0; obtain ⟨Au5_1, cu5_1, qu5_1⟩ := Kd.R_slice ho1; subst qu5_1; have HOu5_0 := Aside0.mk (Kd.R_lower (R_rng ho0) (below_size (by repeat (first | (with_reducible first | exact HB7.out | apply below_alloc | apply pw_below_drewN | apply below_drew1) | exact HB7.out)))); have HOu5_1 := Aside0.mk (Kd.R_lower (R_rng ho1) (below_size (by repeat (first | (with_reducible first | exact HB7.out | apply below_alloc | apply pw_below_drewN | apply below_drew1) | exact HB7.out)))); have BKaDq7 := Aside0.mk (blk_below (g := gbaD) (o := .cells #[.int .i64 a0_0, .int .i64 a0_1, .int .i64 a0_2, .string a0_3] 23 (0, 0)) (by (with_reducible repeat (first | refine blk_drewN ?_ _ | refine blk_drew ?_ | refine blk_alloc ?_ _)); exact BKaDq6.out) hb); have BKw0q3 := Aside0.mk (blk_below (g := gbw0) (o := .cells #[.int .i64 r3_r1, .int .i64 r3_r2, .int .i64 r3_r3, .string r3_r4] 31 (0, 0)) (by (with_reducible repeat (first | refine blk_drewN ?_ _ | refine blk_drew ?_ | refine blk_alloc ?_ _)); exact BKw0q2.out) hb); have HOu3_0q4 := Aside0.mk (Kd.R_below (by (with_reducible repeat (first | apply Kd.R_alloc | apply Kd.R_drewN | apply Kd.R_drew)); exact HOu3_0q3.out) hb); have HOu3_1q4 := Aside0.mk (Kd.R_below (by (with_reducible repeat (first | apply Kd.R_alloc | apply Kd.R_drewN | apply Kd.R_drew)); exact HOu3_1q3.out) hb); clear HOu3_0q3 HOu3_1q3 BKaDq6 BKw0q2)
    | ((with_reducible refine gate_dst (N := 10) rfl ?_); refine box_event ?hg (N := 10) ?hd (cs := #[.int .i64 0, .int .i64 0, .int .i64 0, .string ByteArray.empty]) (t := 31) ?hr ?_; (case hd => rfl); (case hg => rfl); (case hr => first | (go_simp; done) | (go_simp; rfl)); intro gbg0 hg w9 hbox hb; have HB9 := Aside0.mk (below_step (by repeat (first | (with_reducible first | exact HB8.out | apply below_alloc | apply pw_below_drewN | apply below_drew1) | exact HB8.out)) hb); have LE9 := Aside0.mk (by have h_ := blk_lt hbox; rw [hg] at h_; exact h_ : w8.heap.size < w9.heap.size); have Ggbg0 := Aside0.mk (show gbg0 = w8.heap.size from hg); have BKg0 := Aside0.mk hbox; have BKaDq8 := Aside0.mk (blk_below (g := gbaD) (o := .cells #[.int .i64 a0_0, .int .i64 a0_1, .int .i64 a0_2, .string a0_3] 23 (0, 0)) (by (with_reducible repeat (first | refine blk_drewN ?_ _ | refine blk_drew ?_ | refine blk_alloc ?_ _)); exact BKaDq7.out) hb); have BKw0q4 := Aside0.mk (blk_below (g := gbw0) (o := .cells #[.int .i64 r3_r1, .int .i64 r3_r2, .int .i64 r3_r3, .string r3_r4] 31 (0, 0)) (by (with_reducible repeat (first | refine blk_drewN ?_ _ | refine blk_drew ?_ | refine blk_alloc ?_ _)); exact BKw0q3.out) hb); have HOu3_0q5 := Aside0.mk (Kd.R_below (by (with_reducible repeat (first | apply Kd.R_alloc | apply Kd.R_drewN | apply Kd.R_drew)); exact HOu3_0q4.out) hb); have HOu3_1q5 := Aside0.mk (Kd.R_below (by (with_reducible repeat (first | apply Kd.R_alloc | apply Kd.R_drewN | apply Kd.R_drew)); exact HOu3_1q4.out) hb); have HOu5_0q1 := Aside0.mk (Kd.R_below (by (with_reducible repeat (first | apply Kd.R_alloc | apply Kd.R_drewN | apply Kd.R_drew)); exact HOu5_0.out) hb); have HOu5_1q1 := Aside0.mk (Kd.R_below (by (with_reducible repeat (first | apply Kd.R_alloc | apply Kd.R_drewN | apply Kd.R_drew)); exact HOu5_1.out) hb); clear hb hbox hg HOu3_0q4 HOu3_1q4 HOu5_0 HOu5_1 BKaDq7 BKw0q3; have hcs9_0 : w9.cell? ⟨gbg0, 0, none⟩ = some (.int .i64 0) := (blk_cell BKg0.out 0).trans rfl; have hfs9_0 := blk_frozen BKg0.out 0; have hcs9_1 : w9.cell? ⟨gbg0, 1, none⟩ = some (.int .i64 0) := (blk_cell BKg0.out 1).trans rfl; have hfs9_1 := blk_frozen BKg0.out 1; have hcs9_2 : w9.cell? ⟨gbg0, 2, none⟩ = some (.int .i64 0) := (blk_cell BKg0.out 2).trans rfl; have hfs9_2 := blk_frozen BKg0.out 2; have hcs9_3 : w9.cell? ⟨gbg0, 3, none⟩ = some (.string ByteArray.empty) := (blk_cell BKg0.out 3).trans rfl; have hfs9_3 := blk_frozen BKg0.out 3)
    | ((with_reducible refine gate_store (t := 31) (p := 10) rfl ?_); refine store_event (t := 31) (p := 10) (v := ?vo_g0) (w1 := ((((w9.setCell ⟨gbg0, 0, none⟩ (.int .i64 r5_r1)).setCell ⟨gbg0, 1, none⟩ (.int .i64 r5_r2)).setCell ⟨gbg0, 2, none⟩ (.int .i64 r5_r3)).setCell ⟨gbg0, 3, none⟩ (.string r5_r4))) ?hg ?ho ?hn ?hr ?_; (case ho => rfl); (case hg => rfl); (case hn => rfl); (case hr => first | (go_simp; done) | (go_simp; rfl)); intro w10 hw; have hk : Kept w9 w10 (fun k_ => k_ = gbg0) := (by rw [hw]; exact (Kept.setCell (Kept.setCell (Kept.setCell (Kept.setCell (Kept.refl w9 (fun k_ => k_ = gbg0)) (.inl rfl) _) (.inl rfl) _) (.inl rfl) _) (.inl rfl) _)); have HB10 := Aside0.mk (by rw [hw]; exact (below_set (below_set (below_set (below_set (HB9.out) (by have g_ := Ggbg0.out; have := LE1.out; have := LE2.out; have := LE3.out; have := LE4.out; have := LE5.out; have := LE6.out; have := LE7.out; have := LE8.out; omega : w.heap.size ≤ gbg0)) (by have g_ := Ggbg0.out; have := LE1.out; have := LE2.out; have := LE3.out; have := LE4.out; have := LE5.out; have := LE6.out; have := LE7.out; have := LE8.out; omega : w.heap.size ≤ gbg0)) (by have g_ := Ggbg0.out; have := LE1.out; have := LE2.out; have := LE3.out; have := LE4.out; have := LE5.out; have := LE6.out; have := LE7.out; have := LE8.out; omega : w.heap.size ≤ gbg0)) (by have g_ := Ggbg0.out; have := LE1.out; have := LE2.out; have := LE3.out; have := LE4.out; have := LE5.out; have := LE6.out; have := LE7.out; have := LE8.out; omega : w.heap.size ≤ gbg0)) : Below w.heap.size w w10); have LE10 := Aside0.mk hk.1; have BKg0q1 := Aside0.mk (by rw [hw]; exact (blk_put (cs' := #[.int .i64 r5_r1, .int .i64 r5_r2, .int .i64 r5_r3, .string r5_r4]) (blk_put (cs' := #[.int .i64 r5_r1, .int .i64 r5_r2, .int .i64 r5_r3, .string ByteArray.empty]) (blk_put (cs' := #[.int .i64 r5_r1, .int .i64 r5_r2, .int .i64 0, .string ByteArray.empty]) (blk_put (cs' := #[.int .i64 r5_r1, .int .i64 0, .int .i64 0, .string ByteArray.empty]) BKg0.out 0 _ rfl) 1 _ rfl) 2 _ rfl) 3 _ rfl) : w10.heap[gbg0]? = some (.cells #[.int .i64 r5_r1, .int .i64 r5_r2, .int .i64 r5_r3, .string r5_r4] 31 (0, 0))); have BKaDq9 := Aside0.mk (blk_kept BKaDq8.out hk (fun a_ => by have e_ : gbaD = gbg0 := a_; have := GgbaD.out; have := Ggbg0.out; have := LE1.out; have := LE2.out; have := LE3.out; have := LE4.out; have := LE5.out; have := LE6.out; have := LE7.out; have := LE8.out; omega)); have BKw0q5 := Aside0.mk (blk_kept BKw0q4.out hk (fun a_ => by have e_ : gbw0 = gbg0 := a_; have := Ggbw0.out; have := Ggbg0.out; have := LE5.out; have := LE6.out; have := LE7.out; have := LE8.out; omega)); have HOu3_0q6 := Aside0.mk (Kd.R_kept HOu3_0q5.out hk (fun k_ a_ b_ => by have := a_.2.2; have e_ : k_ = gbg0 := b_; have := Ggbg0.out; have := LE5.out; have := LE6.out; have := LE7.out; have := LE8.out; omega)); have HOu3_1q6 := Aside0.mk (Kd.R_kept HOu3_1q5.out hk (fun k_ a_ b_ => by have := a_.2.2; have e_ : k_ = gbg0 := b_; have := Ggbg0.out; have := LE5.out; have := LE6.out; have := LE7.out; have := LE8.out; omega)); have HOu5_0q2 := Aside0.mk (Kd.R_kept HOu5_0q1.out hk (fun k_ a_ b_ => by have := a_.2.2; have e_ : k_ = gbg0 := b_; have := Ggbg0.out; skip; omega)); have HOu5_1q2 := Aside0.mk (Kd.R_kept HOu5_1q1.out hk (fun k_ a_ b_ => by have := a_.2.2; have e_ : k_ = gbg0 := b_; have := Ggbg0.out; skip; omega)); clear hk hw HOu3_0q5 HOu3_1q5 HOu5_0q1 HOu5_1q1 BKaDq8 BKw0q4 BKg0; have hczg010_0 : w10.cell? ⟨gbg0, 0, none⟩ = some (.int .i64 r5_r1) := (blk_cell BKg0q1.out 0).trans rfl; have hczg010_1 : w10.cell? ⟨gbg0, 1, none⟩ = some (.int .i64 r5_r2) := (blk_cell BKg0q1.out 1).trans rfl; have hczg010_2 : w10.cell? ⟨gbg0, 2, none⟩ = some (.int .i64 r5_r3) := (blk_cell BKg0q1.out 2).trans rfl; have hczg010_3 : w10.cell? ⟨gbg0, 3, none⟩ = some (.string r5_r4) := (blk_cell BKg0q1.out 3).trans rfl; have hczw010_0 : w10.cell? ⟨gbw0, 0, none⟩ = some (.int .i64 r3_r1) := (blk_cell BKw0q5.out 0).trans rfl; have hczw010_1 : w10.cell? ⟨gbw0, 1, none⟩ = some (.int .i64 r3_r2) := (blk_cell BKw0q5.out 1).trans rfl; have hczw010_2 : w10.cell? ⟨gbw0, 2, none⟩ = some (.int .i64 r3_r3) := (blk_cell BKw0q5.out 2).trans rfl; have hczw010_3 : w10.cell? ⟨gbw0, 3, none⟩ = some (.string r3_r4) := (blk_cell BKw0q5.out 3).trans rfl)
    | (go_at_call 15; (with_reducible refine (laws_eqDecoder.calls r5_r1 r5_r2 r5_r3 r5_r4 r3_r1 r3_r2 r3_r3 r3_r4 true _ A6.out).mono ?_); rintro e w11 ⟨rfl, hb⟩; have HB11 := Aside0.mk (below_step (by repeat (first | (with_reducible first | exact HB10.out | apply below_alloc | apply pw_below_drewN | apply below_drew1) | exact HB10.out)) hb); have LE11 := Aside0.mk (below_size hb); have BKaDq10 := Aside0.mk (blk_below (g := gbaD) (o := .cells #[.int .i64 a0_0, .int .i64 a0_1, .int .i64 a0_2, .string a0_3] 23 (0, 0)) (by (with_reducible repeat (first | refine blk_drewN ?_ _ | refine blk_drew ?_ | refine blk_alloc ?_ _)); exact BKaDq9.out) hb); have BKw0q6 := Aside0.mk (blk_below (g := gbw0) (o := .cells #[.int .i64 r3_r1, .int .i64 r3_r2, .int .i64 r3_r3, .string r3_r4] 31 (0, 0)) (by (with_reducible repeat (first | refine blk_drewN ?_ _ | refine blk_drew ?_ | refine blk_alloc ?_ _)); exact BKw0q5.out) hb); have BKg0q2 := Aside0.mk (blk_below (g := gbg0) (o := .cells #[.int .i64 r5_r1, .int .i64 r5_r2, .int .i64 r5_r3, .string r5_r4] 31 (0, 0)) (by (with_reducible repeat (first | refine blk_drewN ?_ _ | refine blk_drew ?_ | refine blk_alloc ?_ _)); exact BKg0q1.out) hb); have HOu3_0q7 := Aside0.mk (Kd.R_below (by (with_reducible repeat (first | apply Kd.R_alloc | apply Kd.R_drewN | apply Kd.R_drew)); exact HOu3_0q6.out) hb); have HOu3_1q7 := Aside0.mk (Kd.R_below (by (with_reducible repeat (first | apply Kd.R_alloc | apply Kd.R_drewN | apply Kd.R_drew)); exact HOu3_1q6.out) hb); have HOu5_0q3 := Aside0.mk (Kd.R_below (by (with_reducible repeat (first | apply Kd.R_alloc | apply Kd.R_drewN | apply Kd.R_drew)); exact HOu5_0q2.out) hb); have HOu5_1q3 := Aside0.mk (Kd.R_below (by (with_reducible repeat (first | apply Kd.R_alloc | apply Kd.R_drewN | apply Kd.R_drew)); exact HOu5_1q2.out) hb); clear HOu3_0q6 HOu3_1q6 HOu5_0q2 HOu5_1q2 BKaDq9 BKw0q5 BKg0q1)
    | (go_at_call 16; (with_reducible refine (laws_eqIntS.calls k _ _ r5_r5 _ _ r3_r5 true _ ?s1 ?s2 ?s3 ?s4 A7.out).mono ?_); (case s1 => repeat (first | exact (Kd.R_reads' HOu5_0q3.out).2.2 | (with_reducible refine Kd.C_alloc ?_ _) | (with_reducible refine Kd.C_drewN ?_ _) | (with_reducible refine Kd.C_drew ?_))); (case s2 => exact (Kd.R_reads' HOu5_0q3.out).2.1); (case s3 => repeat (first | exact (Kd.R_reads' HOu3_0q7.out).2.2 | (with_reducible refine Kd.C_alloc ?_ _) | (with_reducible refine Kd.C_drewN ?_ _) | (with_reducible refine Kd.C_drew ?_))); (case s4 => exact (Kd.R_reads' HOu3_0q7.out).2.1); rintro e w12 ⟨rfl, hd⟩; have hb := hd.below; have HB12 := Aside0.mk (below_step (by repeat (first | (with_reducible first | exact HB11.out | apply below_alloc | apply pw_below_drewN | apply below_drew1) | exact HB11.out)) hb); have LE12 := Aside0.mk (below_size hb); have BKaDq11 := Aside0.mk (blk_below (g := gbaD) (o := .cells #[.int .i64 a0_0, .int .i64 a0_1, .int .i64 a0_2, .string a0_3] 23 (0, 0)) (by (with_reducible repeat (first | refine blk_drewN ?_ _ | refine blk_drew ?_ | refine blk_alloc ?_ _)); exact BKaDq10.out) hb); have BKw0q7 := Aside0.mk (blk_below (g := gbw0) (o := .cells #[.int .i64 r3_r1, .int .i64 r3_r2, .int .i64 r3_r3, .string r3_r4] 31 (0, 0)) (by (with_reducible repeat (first | refine blk_drewN ?_ _ | refine blk_drew ?_ | refine blk_alloc ?_ _)); exact BKw0q6.out) hb); have BKg0q3 := Aside0.mk (blk_below (g := gbg0) (o := .cells #[.int .i64 r5_r1, .int .i64 r5_r2, .int .i64 r5_r3, .string r5_r4] 31 (0, 0)) (by (with_reducible repeat (first | refine blk_drewN ?_ _ | refine blk_drew ?_ | refine blk_alloc ?_ _)); exact BKg0q2.out) hb); have HOu3_0q8 := Aside0.mk (Kd.R_below (by (with_reducible repeat (first | apply Kd.R_alloc | apply Kd.R_drewN | apply Kd.R_drew)); exact HOu3_0q7.out) hb); have HOu3_1q8 := Aside0.mk (Kd.R_below (by (with_reducible repeat (first | apply Kd.R_alloc | apply Kd.R_drewN | apply Kd.R_drew)); exact HOu3_1q7.out) hb); have HOu5_0q4 := Aside0.mk (Kd.R_below (by (with_reducible repeat (first | apply Kd.R_alloc | apply Kd.R_drewN | apply Kd.R_drew)); exact HOu5_0q3.out) hb); have HOu5_1q4 := Aside0.mk (Kd.R_below (by (with_reducible repeat (first | apply Kd.R_alloc | apply Kd.R_drewN | apply Kd.R_drew)); exact HOu5_1q3.out) hb); clear HOu3_0q7 HOu3_1q7 HOu5_0q3 HOu5_1q3 BKaDq10 BKw0q6 BKg0q2)
    | (go_at_call 16; (with_reducible refine (laws_eqIntS.calls k _ _ r5_r6 _ _ r3_r6 true _ ?s1 ?s2 ?s3 ?s4 A8.out).mono ?_); (case s1 => repeat (first | exact (Kd.R_reads' HOu5_1q4.out).2.2 | (with_reducible refine Kd.C_alloc ?_ _) | (with_reducible refine Kd.C_drewN ?_ _) | (with_reducible refine Kd.C_drew ?_))); (case s2 => exact (Kd.R_reads' HOu5_1q4.out).2.1); (case s3 => repeat (first | exact (Kd.R_reads' HOu3_1q8.out).2.2 | (with_reducible refine Kd.C_alloc ?_ _) | (with_reducible refine Kd.C_drewN ?_ _) | (with_reducible refine Kd.C_drew ?_))); (case s4 => exact (Kd.R_reads' HOu3_1q8.out).2.1); rintro e w13 ⟨rfl, hd⟩; have hb := hd.below; have HB13 := Aside0.mk (below_step (by repeat (first | (with_reducible first | exact HB12.out | apply below_alloc | apply pw_below_drewN | apply below_drew1) | exact HB12.out)) hb); have LE13 := Aside0.mk (below_size hb); have BKaDq12 := Aside0.mk (blk_below (g := gbaD) (o := .cells #[.int .i64 a0_0, .int .i64 a0_1, .int .i64 a0_2, .string a0_3] 23 (0, 0)) (by (with_reducible repeat (first | refine blk_drewN ?_ _ | refine blk_drew ?_ | refine blk_alloc ?_ _)); exact BKaDq11.out) hb); have BKw0q8 := Aside0.mk (blk_below (g := gbw0) (o := .cells #[.int .i64 r3_r1, .int .i64 r3_r2, .int .i64 r3_r3, .string r3_r4] 31 (0, 0)) (by (with_reducible repeat (first | refine blk_drewN ?_ _ | refine blk_drew ?_ | refine blk_alloc ?_ _)); exact BKw0q7.out) hb); have BKg0q4 := Aside0.mk (blk_below (g := gbg0) (o := .cells #[.int .i64 r5_r1, .int .i64 r5_r2, .int .i64 r5_r3, .string r5_r4] 31 (0, 0)) (by (with_reducible repeat (first | refine blk_drewN ?_ _ | refine blk_drew ?_ | refine blk_alloc ?_ _)); exact BKg0q3.out) hb); have HOu3_0q9 := Aside0.mk (Kd.R_below (by (with_reducible repeat (first | apply Kd.R_alloc | apply Kd.R_drewN | apply Kd.R_drew)); exact HOu3_0q8.out) hb); have HOu3_1q9 := Aside0.mk (Kd.R_below (by (with_reducible repeat (first | apply Kd.R_alloc | apply Kd.R_drewN | apply Kd.R_drew)); exact HOu3_1q8.out) hb); have HOu5_0q5 := Aside0.mk (Kd.R_below (by (with_reducible repeat (first | apply Kd.R_alloc | apply Kd.R_drewN | apply Kd.R_drew)); exact HOu5_0q4.out) hb); have HOu5_1q5 := Aside0.mk (Kd.R_below (by (with_reducible repeat (first | apply Kd.R_alloc | apply Kd.R_drewN | apply Kd.R_drew)); exact HOu5_1q4.out) hb); clear HOu3_0q8 HOu3_1q8 HOu5_0q4 HOu5_1q4 BKaDq11 BKw0q7 BKg0q3)
    | (go_at_call 17; (with_reducible refine (laws_markIntS.calls k (fun k_ => some k_ = (.slice Au5_0 r5_r5.length cu5_0 : Value).ownBlock) (.slice Au5_0 r5_r5.length cu5_0) r5_r5 1 r9_r1 r9_r2 w _ ?s1 ?s2 A9.out).mono ?_); (case s1 => exact (by repeat (first | (with_reducible first | exact HB13.out | apply below_alloc | apply pw_below_drewN | apply below_drew1) | exact HB13.out))); (case s2 => exact Kd.R_tight rfl HOu5_0q5.out); rintro e w14 ⟨rfl, ho0, hb, hk⟩; have HB14 := Aside0.mk hb; have LE14 := Aside0.mk hk.1; have hkr : Kept _ w14 (fun k_ => w7.heap.size ≤ k_ ∧ k_ < w8.heap.size) := Kept.mono hk (fun k_ h_ => ((HOu5_0q5.out.1 k_ h_.symm).2)); have HOu3_0q10 := Aside0.mk (Kd.R_kept HOu3_0q9.out hkr (fun k_ a_ b_ => by have := a_.2.1; have := a_.2.2; have := b_.1; have := b_.2; have := LE4.out; have := LE5.out; have := LE6.out; have := LE7.out; have := LE8.out; omega)); have HOu3_1q10 := Aside0.mk (Kd.R_kept HOu3_1q9.out hkr (fun k_ a_ b_ => by have := a_.2.1; have := a_.2.2; have := b_.1; have := b_.2; have := LE4.out; have := LE5.out; have := LE6.out; have := LE7.out; have := LE8.out; omega)); have HOu5_1q6 := Aside0.mk (Kd.R_kept HOu5_1q5.out hk (fun k_ a_ b_ => a_.1 (by first | exact b_ | exact b_.trans ((show ∀ (A : Option Addr) (n m c : Nat), (Value.slice A n c).ownBlock = (Value.slice A m c).ownBlock from fun A _ _ _ => by cases A <;> rfl) _ _ _ _)))); have BKaDq13 := Aside0.mk (blk_kept BKaDq12.out hkr (fun a_ => by have := a_.1; have := a_.2; have := GgbaD.out; have := LE1.out; have := LE2.out; have := LE3.out; have := LE4.out; have := LE5.out; have := LE6.out; have := LE7.out; have := LE8.out; omega)); have BKw0q9 := Aside0.mk (blk_kept BKw0q8.out hkr (fun a_ => by have := a_.1; have := a_.2; have := Ggbw0.out; have := LE5.out; have := LE6.out; have := LE7.out; have := LE8.out; omega)); have ho0r := Kd.R_mono (ok' := fun k_ => some k_ ≠ (.slice Au5_1 r5_r6.length cu5_1 : Value).ownBlock ∧ w7.heap.size ≤ k_ ∧ k_ < w8.heap.size) (Kd.R_tight rfl ho0) (fun k_ a_ => ⟨fun e_ => (HOu5_0q5.out.1 k_ a_.symm).1 (by first | exact e_ | exact e_.trans ((show ∀ (A : Option Addr) (n m c : Nat), (Value.slice A n c).ownBlock = (Value.slice A m c).ownBlock from fun A _ _ _ => by cases A <;> rfl) _ _ _ _)), (HOu5_0q5.out.1 k_ a_.symm).2⟩); have hl9_0 := (Kd.R_reads' ho0r).1; rw [hl9_0] at ho0r; (try rw [hl9_0]); have HOu5_0q5m := Aside0.mk ho0r; clear HOu3_0q9 HOu3_1q9 HOu5_1q5 BKaDq12 BKw0q8)
    | (go_at_call 17; (with_reducible refine (laws_markIntS.calls k (fun k_ => some k_ = (.slice Au5_1 r5_r6.length cu5_1 : Value).ownBlock) (.slice Au5_1 r5_r6.length cu5_1) r5_r6 r9_r1 r10_r1 r10_r2 w _ ?s1 ?s2 A10.out).mono ?_); (case s1 => exact (by repeat (first | (with_reducible first | exact HB14.out | apply below_alloc | apply pw_below_drewN | apply below_drew1) | exact HB14.out))); (case s2 => exact Kd.R_tight rfl HOu5_1q6.out); rintro e w15 ⟨rfl, ho0, hb, hk⟩; have HB15 := Aside0.mk hb; have LE15 := Aside0.mk hk.1; have hkr : Kept _ w15 (fun k_ => w7.heap.size ≤ k_ ∧ k_ < w8.heap.size) := Kept.mono hk (fun k_ h_ => ((HOu5_1q6.out.1 k_ h_.symm).2)); have HOu3_0q11 := Aside0.mk (Kd.R_kept HOu3_0q10.out hkr (fun k_ a_ b_ => by have := a_.2.1; have := a_.2.2; have := b_.1; have := b_.2; have := LE4.out; have := LE5.out; have := LE6.out; have := LE7.out; have := LE8.out; omega)); have HOu3_1q11 := Aside0.mk (Kd.R_kept HOu3_1q10.out hkr (fun k_ a_ b_ => by have := a_.2.1; have := a_.2.2; have := b_.1; have := b_.2; have := LE4.out; have := LE5.out; have := LE6.out; have := LE7.out; have := LE8.out; omega)); have HOu5_0q5mq1 := Aside0.mk (Kd.R_kept HOu5_0q5m.out hk (fun k_ a_ b_ => a_.1 (by first | exact b_ | exact b_.trans ((show ∀ (A : Option Addr) (n m c : Nat), (Value.slice A n c).ownBlock = (Value.slice A m c).ownBlock from fun A _ _ _ => by cases A <;> rfl) _ _ _ _)))); have BKaDq14 := Aside0.mk (blk_kept BKaDq13.out hkr (fun a_ => by have := a_.1; have := a_.2; have := GgbaD.out; have := LE1.out; have := LE2.out; have := LE3.out; have := LE4.out; have := LE5.out; have := LE6.out; have := LE7.out; have := LE8.out; omega)); have BKw0q10 := Aside0.mk (blk_kept BKw0q9.out hkr (fun a_ => by have := a_.1; have := a_.2; have := Ggbw0.out; have := LE5.out; have := LE6.out; have := LE7.out; have := LE8.out; omega)); have ho0r := Kd.R_mono (ok' := fun k_ => some k_ ≠ (.slice Au5_0 r9_r2.length cu5_0 : Value).ownBlock ∧ w7.heap.size ≤ k_ ∧ k_ < w8.heap.size) (Kd.R_tight rfl ho0) (fun k_ a_ => ⟨fun e_ => (HOu5_1q6.out.1 k_ a_.symm).1 (by first | exact e_ | exact e_.trans ((show ∀ (A : Option Addr) (n m c : Nat), (Value.slice A n c).ownBlock = (Value.slice A m c).ownBlock from fun A _ _ _ => by cases A <;> rfl) _ _ _ _)), (HOu5_1q6.out.1 k_ a_.symm).2⟩); have hl10_0 := (Kd.R_reads' ho0r).1; rw [hl10_0] at ho0r; (try rw [hl10_0]); have HOu5_1q6m := Aside0.mk ho0r; clear HOu3_0q10 HOu3_1q10 HOu5_0q5m BKaDq13 BKw0q9)
    | (go_at_call 18; (with_reducible refine (laws_heldIntS.calls k _ _ r9_r2 1 r11_r _ ?s1 ?s2 A11.out).mono ?_); (case s1 => repeat (first | exact (Kd.R_reads' HOu5_0q5mq1.out).2.2 | (with_reducible refine Kd.C_alloc ?_ _) | (with_reducible refine Kd.C_drewN ?_ _) | (with_reducible refine Kd.C_drew ?_))); (case s2 => exact (Kd.R_reads' HOu5_0q5mq1.out).2.1); rintro e w16 ⟨rfl, hd⟩; have hb := hd.below; have HB16 := Aside0.mk (below_step (by repeat (first | (with_reducible first | exact HB15.out | apply below_alloc | apply pw_below_drewN | apply below_drew1) | exact HB15.out)) hb); have LE16 := Aside0.mk (below_size hb); have BKaDq15 := Aside0.mk (blk_below (g := gbaD) (o := .cells #[.int .i64 a0_0, .int .i64 a0_1, .int .i64 a0_2, .string a0_3] 23 (0, 0)) (by (with_reducible repeat (first | refine blk_drewN ?_ _ | refine blk_drew ?_ | refine blk_alloc ?_ _)); exact BKaDq14.out) hb); have BKw0q11 := Aside0.mk (blk_below (g := gbw0) (o := .cells #[.int .i64 r3_r1, .int .i64 r3_r2, .int .i64 r3_r3, .string r3_r4] 31 (0, 0)) (by (with_reducible repeat (first | refine blk_drewN ?_ _ | refine blk_drew ?_ | refine blk_alloc ?_ _)); exact BKw0q10.out) hb); have HOu3_0q12 := Aside0.mk (Kd.R_below (by (with_reducible repeat (first | apply Kd.R_alloc | apply Kd.R_drewN | apply Kd.R_drew)); exact HOu3_0q11.out) hb); have HOu3_1q12 := Aside0.mk (Kd.R_below (by (with_reducible repeat (first | apply Kd.R_alloc | apply Kd.R_drewN | apply Kd.R_drew)); exact HOu3_1q11.out) hb); have HOu5_0q5mq2 := Aside0.mk (Kd.R_below (by (with_reducible repeat (first | apply Kd.R_alloc | apply Kd.R_drewN | apply Kd.R_drew)); exact HOu5_0q5mq1.out) hb); have HOu5_1q6mq1 := Aside0.mk (Kd.R_below (by (with_reducible repeat (first | apply Kd.R_alloc | apply Kd.R_drewN | apply Kd.R_drew)); exact HOu5_1q6m.out) hb); clear HOu3_0q11 HOu3_1q11 HOu5_0q5mq1 HOu5_1q6m BKaDq14 BKw0q10)
    | (go_at_call 18; (with_reducible refine (laws_heldIntS.calls k _ _ r10_r2 r11_r r12_r _ ?s1 ?s2 A12.out).mono ?_); (case s1 => repeat (first | exact (Kd.R_reads' HOu5_1q6mq1.out).2.2 | (with_reducible refine Kd.C_alloc ?_ _) | (with_reducible refine Kd.C_drewN ?_ _) | (with_reducible refine Kd.C_drew ?_))); (case s2 => exact (Kd.R_reads' HOu5_1q6mq1.out).2.1); rintro e w17 ⟨rfl, hd⟩; have hb := hd.below; have HB17 := Aside0.mk (below_step (by repeat (first | (with_reducible first | exact HB16.out | apply below_alloc | apply pw_below_drewN | apply below_drew1) | exact HB16.out)) hb); have LE17 := Aside0.mk (below_size hb); have BKaDq16 := Aside0.mk (blk_below (g := gbaD) (o := .cells #[.int .i64 a0_0, .int .i64 a0_1, .int .i64 a0_2, .string a0_3] 23 (0, 0)) (by (with_reducible repeat (first | refine blk_drewN ?_ _ | refine blk_drew ?_ | refine blk_alloc ?_ _)); exact BKaDq15.out) hb); have BKw0q12 := Aside0.mk (blk_below (g := gbw0) (o := .cells #[.int .i64 r3_r1, .int .i64 r3_r2, .int .i64 r3_r3, .string r3_r4] 31 (0, 0)) (by (with_reducible repeat (first | refine blk_drewN ?_ _ | refine blk_drew ?_ | refine blk_alloc ?_ _)); exact BKw0q11.out) hb); have HOu3_0q13 := Aside0.mk (Kd.R_below (by (with_reducible repeat (first | apply Kd.R_alloc | apply Kd.R_drewN | apply Kd.R_drew)); exact HOu3_0q12.out) hb); have HOu3_1q13 := Aside0.mk (Kd.R_below (by (with_reducible repeat (first | apply Kd.R_alloc | apply Kd.R_drewN | apply Kd.R_drew)); exact HOu3_1q12.out) hb); have HOu5_0q5mq3 := Aside0.mk (Kd.R_below (by (with_reducible repeat (first | apply Kd.R_alloc | apply Kd.R_drewN | apply Kd.R_drew)); exact HOu5_0q5mq2.out) hb); have HOu5_1q6mq2 := Aside0.mk (Kd.R_below (by (with_reducible repeat (first | apply Kd.R_alloc | apply Kd.R_drewN | apply Kd.R_drew)); exact HOu5_1q6mq1.out) hb); clear HOu3_0q12 HOu3_1q12 HOu5_0q5mq2 HOu5_1q6mq1 BKaDq15 BKw0q11; have hczaD17_0 : w17.cell? ⟨gbaD, 0, none⟩ = some (.int .i64 a0_0) := (blk_cell BKaDq16.out 0).trans rfl; have hczaD17_1 : w17.cell? ⟨gbaD, 1, none⟩ = some (.int .i64 a0_1) := (blk_cell BKaDq16.out 1).trans rfl; have hczaD17_2 : w17.cell? ⟨gbaD, 2, none⟩ = some (.int .i64 a0_2) := (blk_cell BKaDq16.out 2).trans rfl; have hczaD17_3 : w17.cell? ⟨gbaD, 3, none⟩ = some (.string a0_3) := (blk_cell BKaDq16.out 3).trans rfl)
    | (go_at_call 13; (with_reducible refine (laws_toDecoder.calls a0_0 a0_1 a0_2 a0_3 r13_r1 r13_r2 r13_r3 r13_r4 _ A13.out).mono ?_); rintro e w18 ⟨rfl, hb⟩; have HB18 := Aside0.mk (below_step (by repeat (first | (with_reducible first | exact HB17.out | apply below_alloc | apply pw_below_drewN | apply below_drew1) | exact HB17.out)) hb); have LE18 := Aside0.mk (below_size hb); have BKaDq17 := Aside0.mk (blk_below (g := gbaD) (o := .cells #[.int .i64 a0_0, .int .i64 a0_1, .int .i64 a0_2, .string a0_3] 23 (0, 0)) (by (with_reducible repeat (first | refine blk_drewN ?_ _ | refine blk_drew ?_ | refine blk_alloc ?_ _)); exact BKaDq16.out) hb); have BKw0q13 := Aside0.mk (blk_below (g := gbw0) (o := .cells #[.int .i64 r3_r1, .int .i64 r3_r2, .int .i64 r3_r3, .string r3_r4] 31 (0, 0)) (by (with_reducible repeat (first | refine blk_drewN ?_ _ | refine blk_drew ?_ | refine blk_alloc ?_ _)); exact BKw0q12.out) hb); have HOu3_0q14 := Aside0.mk (Kd.R_below (by (with_reducible repeat (first | apply Kd.R_alloc | apply Kd.R_drewN | apply Kd.R_drew)); exact HOu3_0q13.out) hb); have HOu3_1q14 := Aside0.mk (Kd.R_below (by (with_reducible repeat (first | apply Kd.R_alloc | apply Kd.R_drewN | apply Kd.R_drew)); exact HOu3_1q13.out) hb); have HOu5_0q5mq4 := Aside0.mk (Kd.R_below (by (with_reducible repeat (first | apply Kd.R_alloc | apply Kd.R_drewN | apply Kd.R_drew)); exact HOu5_0q5mq3.out) hb); have HOu5_1q6mq3 := Aside0.mk (Kd.R_below (by (with_reducible repeat (first | apply Kd.R_alloc | apply Kd.R_drewN | apply Kd.R_drew)); exact HOu5_1q6mq2.out) hb); clear HOu3_0q13 HOu3_1q13 HOu5_0q5mq3 HOu5_1q6mq2 BKaDq16 BKw0q12; have hczaD18_0 : w18.cell? ⟨gbaD, 0, none⟩ = some (.int .i64 a0_0) := (blk_cell BKaDq17.out 0).trans rfl; have hczaD18_1 : w18.cell? ⟨gbaD, 1, none⟩ = some (.int .i64 a0_1) := (blk_cell BKaDq17.out 1).trans rfl; have hczaD18_2 : w18.cell? ⟨gbaD, 2, none⟩ = some (.int .i64 a0_2) := (blk_cell BKaDq17.out 2).trans rfl; have hczaD18_3 : w18.cell? ⟨gbaD, 3, none⟩ = some (.string a0_3) := (blk_cell BKaDq17.out 3).trans rfl)
    | (go_at_call 14; (with_reducible refine (impl_FeedDecoder.calls k r13_r1 r13_r2 r13_r3 r13_r4 a1 r14_r1 r14_r2 r14_r3 r14_r4 r14_r5 r14_r6 r14_r7 _ (Utf8Tabs_below HT.out (by repeat (first | (with_reducible first | exact HB18.out | apply below_alloc | apply pw_below_drewN | apply below_drew1) | exact HB18.out))) A14.out).mono ?_); rintro e w19 ⟨u14_0, u14_1, rfl, ho0, ho1, hb⟩; have HB19 := Aside0.mk (below_step (by repeat (first | (with_reducible first | exact HB18.out | apply below_alloc | apply pw_below_drewN | apply below_drew1) | exact HB18.out)) hb); have LE19 := Aside0.mk (below_size hb); obtain ⟨Au14_0, cu14_0, qu14_0⟩ := Kd.R_slice ho0; subst qu14_0; obtain ⟨Au14_1, cu14_1, qu14_1⟩ := Kd.R_slice ho1; subst qu14_1; have HOu14_0 := Aside0.mk (Kd.R_lower (R_rng ho0) (below_size (by repeat (first | (with_reducible first | exact HB18.out | apply below_alloc | apply pw_below_drewN | apply below_drew1) | exact HB18.out)))); have HOu14_1 := Aside0.mk (Kd.R_lower (R_rng ho1) (below_size (by repeat (first | (with_reducible first | exact HB18.out | apply below_alloc | apply pw_below_drewN | apply below_drew1) | exact HB18.out)))); have BKaDq18 := Aside0.mk (blk_below (g := gbaD) (o := .cells #[.int .i64 a0_0, .int .i64 a0_1, .int .i64 a0_2, .string a0_3] 23 (0, 0)) (by (with_reducible repeat (first | refine blk_drewN ?_ _ | refine blk_drew ?_ | refine blk_alloc ?_ _)); exact BKaDq17.out) hb); have BKw0q14 := Aside0.mk (blk_below (g := gbw0) (o := .cells #[.int .i64 r3_r1, .int .i64 r3_r2, .int .i64 r3_r3, .string r3_r4] 31 (0, 0)) (by (with_reducible repeat (first | refine blk_drewN ?_ _ | refine blk_drew ?_ | refine blk_alloc ?_ _)); exact BKw0q13.out) hb); have HOu3_0q15 := Aside0.mk (Kd.R_below (by (with_reducible repeat (first | apply Kd.R_alloc | apply Kd.R_drewN | apply Kd.R_drew)); exact HOu3_0q14.out) hb); have HOu3_1q15 := Aside0.mk (Kd.R_below (by (with_reducible repeat (first | apply Kd.R_alloc | apply Kd.R_drewN | apply Kd.R_drew)); exact HOu3_1q14.out) hb); have HOu5_0q5mq5 := Aside0.mk (Kd.R_below (by (with_reducible repeat (first | apply Kd.R_alloc | apply Kd.R_drewN | apply Kd.R_drew)); exact HOu5_0q5mq4.out) hb); have HOu5_1q6mq4 := Aside0.mk (Kd.R_below (by (with_reducible repeat (first | apply Kd.R_alloc | apply Kd.R_drewN | apply Kd.R_drew)); exact HOu5_1q6mq3.out) hb); clear HOu3_0q14 HOu3_1q14 HOu5_0q5mq4 HOu5_1q6mq3 BKaDq17 BKw0q13)
    | ((with_reducible refine gate_dst (N := 16) rfl ?_); refine box_event ?hg (N := 16) ?hd (cs := #[.int .i64 0, .int .i64 0, .int .i64 0, .string ByteArray.empty]) (t := 31) ?hr ?_; (case hd => rfl); (case hg => rfl); (case hr => first | (go_simp; done) | (go_simp; rfl)); intro gbh0 hg w20 hbox hb; have HB20 := Aside0.mk (below_step (by repeat (first | (with_reducible first | exact HB19.out | apply below_alloc | apply pw_below_drewN | apply below_drew1) | exact HB19.out)) hb); have LE20 := Aside0.mk (by have h_ := blk_lt hbox; rw [hg] at h_; exact h_ : w19.heap.size < w20.heap.size); have Ggbh0 := Aside0.mk (show gbh0 = w19.heap.size from hg); have BKh0 := Aside0.mk hbox; have BKaDq19 := Aside0.mk (blk_below (g := gbaD) (o := .cells #[.int .i64 a0_0, .int .i64 a0_1, .int .i64 a0_2, .string a0_3] 23 (0, 0)) (by (with_reducible repeat (first | refine blk_drewN ?_ _ | refine blk_drew ?_ | refine blk_alloc ?_ _)); exact BKaDq18.out) hb); have BKw0q15 := Aside0.mk (blk_below (g := gbw0) (o := .cells #[.int .i64 r3_r1, .int .i64 r3_r2, .int .i64 r3_r3, .string r3_r4] 31 (0, 0)) (by (with_reducible repeat (first | refine blk_drewN ?_ _ | refine blk_drew ?_ | refine blk_alloc ?_ _)); exact BKw0q14.out) hb); have HOu3_0q16 := Aside0.mk (Kd.R_below (by (with_reducible repeat (first | apply Kd.R_alloc | apply Kd.R_drewN | apply Kd.R_drew)); exact HOu3_0q15.out) hb); have HOu3_1q16 := Aside0.mk (Kd.R_below (by (with_reducible repeat (first | apply Kd.R_alloc | apply Kd.R_drewN | apply Kd.R_drew)); exact HOu3_1q15.out) hb); have HOu5_0q5mq6 := Aside0.mk (Kd.R_below (by (with_reducible repeat (first | apply Kd.R_alloc | apply Kd.R_drewN | apply Kd.R_drew)); exact HOu5_0q5mq5.out) hb); have HOu5_1q6mq5 := Aside0.mk (Kd.R_below (by (with_reducible repeat (first | apply Kd.R_alloc | apply Kd.R_drewN | apply Kd.R_drew)); exact HOu5_1q6mq4.out) hb); have HOu14_0q1 := Aside0.mk (Kd.R_below (by (with_reducible repeat (first | apply Kd.R_alloc | apply Kd.R_drewN | apply Kd.R_drew)); exact HOu14_0.out) hb); have HOu14_1q1 := Aside0.mk (Kd.R_below (by (with_reducible repeat (first | apply Kd.R_alloc | apply Kd.R_drewN | apply Kd.R_drew)); exact HOu14_1.out) hb); clear hb hbox hg HOu3_0q15 HOu3_1q15 HOu5_0q5mq5 HOu5_1q6mq4 HOu14_0 HOu14_1 BKaDq18 BKw0q14; have hcs20_0 : w20.cell? ⟨gbh0, 0, none⟩ = some (.int .i64 0) := (blk_cell BKh0.out 0).trans rfl; have hfs20_0 := blk_frozen BKh0.out 0; have hcs20_1 : w20.cell? ⟨gbh0, 1, none⟩ = some (.int .i64 0) := (blk_cell BKh0.out 1).trans rfl; have hfs20_1 := blk_frozen BKh0.out 1; have hcs20_2 : w20.cell? ⟨gbh0, 2, none⟩ = some (.int .i64 0) := (blk_cell BKh0.out 2).trans rfl; have hfs20_2 := blk_frozen BKh0.out 2; have hcs20_3 : w20.cell? ⟨gbh0, 3, none⟩ = some (.string ByteArray.empty) := (blk_cell BKh0.out 3).trans rfl; have hfs20_3 := blk_frozen BKh0.out 3)
    | ((with_reducible refine gate_store (t := 31) (p := 16) rfl ?_); refine store_event (t := 31) (p := 16) (v := ?vo_h0) (w1 := ((((w20.setCell ⟨gbh0, 0, none⟩ (.int .i64 r14_r1)).setCell ⟨gbh0, 1, none⟩ (.int .i64 r14_r2)).setCell ⟨gbh0, 2, none⟩ (.int .i64 r14_r3)).setCell ⟨gbh0, 3, none⟩ (.string r14_r4))) ?hg ?ho ?hn ?hr ?_; (case ho => rfl); (case hg => rfl); (case hn => rfl); (case hr => first | (go_simp; done) | (go_simp; rfl)); intro w21 hw; have hk : Kept w20 w21 (fun k_ => k_ = gbh0) := (by rw [hw]; exact (Kept.setCell (Kept.setCell (Kept.setCell (Kept.setCell (Kept.refl w20 (fun k_ => k_ = gbh0)) (.inl rfl) _) (.inl rfl) _) (.inl rfl) _) (.inl rfl) _)); have HB21 := Aside0.mk (by rw [hw]; exact (below_set (below_set (below_set (below_set (HB20.out) (by have g_ := Ggbh0.out; have := LE1.out; have := LE2.out; have := LE3.out; have := LE4.out; have := LE5.out; have := LE6.out; have := LE7.out; have := LE8.out; have := LE9.out; have := LE10.out; have := LE11.out; have := LE12.out; have := LE13.out; have := LE14.out; have := LE15.out; have := LE16.out; have := LE17.out; have := LE18.out; have := LE19.out; omega : w.heap.size ≤ gbh0)) (by have g_ := Ggbh0.out; have := LE1.out; have := LE2.out; have := LE3.out; have := LE4.out; have := LE5.out; have := LE6.out; have := LE7.out; have := LE8.out; have := LE9.out; have := LE10.out; have := LE11.out; have := LE12.out; have := LE13.out; have := LE14.out; have := LE15.out; have := LE16.out; have := LE17.out; have := LE18.out; have := LE19.out; omega : w.heap.size ≤ gbh0)) (by have g_ := Ggbh0.out; have := LE1.out; have := LE2.out; have := LE3.out; have := LE4.out; have := LE5.out; have := LE6.out; have := LE7.out; have := LE8.out; have := LE9.out; have := LE10.out; have := LE11.out; have := LE12.out; have := LE13.out; have := LE14.out; have := LE15.out; have := LE16.out; have := LE17.out; have := LE18.out; have := LE19.out; omega : w.heap.size ≤ gbh0)) (by have g_ := Ggbh0.out; have := LE1.out; have := LE2.out; have := LE3.out; have := LE4.out; have := LE5.out; have := LE6.out; have := LE7.out; have := LE8.out; have := LE9.out; have := LE10.out; have := LE11.out; have := LE12.out; have := LE13.out; have := LE14.out; have := LE15.out; have := LE16.out; have := LE17.out; have := LE18.out; have := LE19.out; omega : w.heap.size ≤ gbh0)) : Below w.heap.size w w21); have LE21 := Aside0.mk hk.1; have BKh0q1 := Aside0.mk (by rw [hw]; exact (blk_put (cs' := #[.int .i64 r14_r1, .int .i64 r14_r2, .int .i64 r14_r3, .string r14_r4]) (blk_put (cs' := #[.int .i64 r14_r1, .int .i64 r14_r2, .int .i64 r14_r3, .string ByteArray.empty]) (blk_put (cs' := #[.int .i64 r14_r1, .int .i64 r14_r2, .int .i64 0, .string ByteArray.empty]) (blk_put (cs' := #[.int .i64 r14_r1, .int .i64 0, .int .i64 0, .string ByteArray.empty]) BKh0.out 0 _ rfl) 1 _ rfl) 2 _ rfl) 3 _ rfl) : w21.heap[gbh0]? = some (.cells #[.int .i64 r14_r1, .int .i64 r14_r2, .int .i64 r14_r3, .string r14_r4] 31 (0, 0))); have BKaDq20 := Aside0.mk (blk_kept BKaDq19.out hk (fun a_ => by have e_ : gbaD = gbh0 := a_; have := GgbaD.out; have := Ggbh0.out; have := LE1.out; have := LE2.out; have := LE3.out; have := LE4.out; have := LE5.out; have := LE6.out; have := LE7.out; have := LE8.out; have := LE9.out; have := LE10.out; have := LE11.out; have := LE12.out; have := LE13.out; have := LE14.out; have := LE15.out; have := LE16.out; have := LE17.out; have := LE18.out; have := LE19.out; omega)); have BKw0q16 := Aside0.mk (blk_kept BKw0q15.out hk (fun a_ => by have e_ : gbw0 = gbh0 := a_; have := Ggbw0.out; have := Ggbh0.out; have := LE5.out; have := LE6.out; have := LE7.out; have := LE8.out; have := LE9.out; have := LE10.out; have := LE11.out; have := LE12.out; have := LE13.out; have := LE14.out; have := LE15.out; have := LE16.out; have := LE17.out; have := LE18.out; have := LE19.out; omega)); have HOu3_0q17 := Aside0.mk (Kd.R_kept HOu3_0q16.out hk (fun k_ a_ b_ => by have := a_.2.2; have e_ : k_ = gbh0 := b_; have := Ggbh0.out; have := LE5.out; have := LE6.out; have := LE7.out; have := LE8.out; have := LE9.out; have := LE10.out; have := LE11.out; have := LE12.out; have := LE13.out; have := LE14.out; have := LE15.out; have := LE16.out; have := LE17.out; have := LE18.out; have := LE19.out; omega)); have HOu3_1q17 := Aside0.mk (Kd.R_kept HOu3_1q16.out hk (fun k_ a_ b_ => by have := a_.2.2; have e_ : k_ = gbh0 := b_; have := Ggbh0.out; have := LE5.out; have := LE6.out; have := LE7.out; have := LE8.out; have := LE9.out; have := LE10.out; have := LE11.out; have := LE12.out; have := LE13.out; have := LE14.out; have := LE15.out; have := LE16.out; have := LE17.out; have := LE18.out; have := LE19.out; omega)); have HOu5_0q5mq7 := Aside0.mk (Kd.R_kept HOu5_0q5mq6.out hk (fun k_ a_ b_ => by have := a_.2.2; have e_ : k_ = gbh0 := b_; have := Ggbh0.out; have := LE9.out; have := LE10.out; have := LE11.out; have := LE12.out; have := LE13.out; have := LE14.out; have := LE15.out; have := LE16.out; have := LE17.out; have := LE18.out; have := LE19.out; omega)); have HOu5_1q6mq6 := Aside0.mk (Kd.R_kept HOu5_1q6mq5.out hk (fun k_ a_ b_ => by have := a_.2.2; have e_ : k_ = gbh0 := b_; have := Ggbh0.out; have := LE9.out; have := LE10.out; have := LE11.out; have := LE12.out; have := LE13.out; have := LE14.out; have := LE15.out; have := LE16.out; have := LE17.out; have := LE18.out; have := LE19.out; omega)); have HOu14_0q2 := Aside0.mk (Kd.R_kept HOu14_0q1.out hk (fun k_ a_ b_ => by have := a_.2.2; have e_ : k_ = gbh0 := b_; have := Ggbh0.out; skip; omega)); have HOu14_1q2 := Aside0.mk (Kd.R_kept HOu14_1q1.out hk (fun k_ a_ b_ => by have := a_.2.2; have e_ : k_ = gbh0 := b_; have := Ggbh0.out; skip; omega)); clear hk hw HOu3_0q16 HOu3_1q16 HOu5_0q5mq6 HOu5_1q6mq5 HOu14_0q1 HOu14_1q1 BKaDq19 BKw0q15 BKh0; have hczh021_0 : w21.cell? ⟨gbh0, 0, none⟩ = some (.int .i64 r14_r1) := (blk_cell BKh0q1.out 0).trans rfl; have hczh021_1 : w21.cell? ⟨gbh0, 1, none⟩ = some (.int .i64 r14_r2) := (blk_cell BKh0q1.out 1).trans rfl; have hczh021_2 : w21.cell? ⟨gbh0, 2, none⟩ = some (.int .i64 r14_r3) := (blk_cell BKh0q1.out 2).trans rfl; have hczh021_3 : w21.cell? ⟨gbh0, 3, none⟩ = some (.string r14_r4) := (blk_cell BKh0q1.out 3).trans rfl; have hczw021_0 : w21.cell? ⟨gbw0, 0, none⟩ = some (.int .i64 r3_r1) := (blk_cell BKw0q16.out 0).trans rfl; have hczw021_1 : w21.cell? ⟨gbw0, 1, none⟩ = some (.int .i64 r3_r2) := (blk_cell BKw0q16.out 1).trans rfl; have hczw021_2 : w21.cell? ⟨gbw0, 2, none⟩ = some (.int .i64 r3_r3) := (blk_cell BKw0q16.out 2).trans rfl; have hczw021_3 : w21.cell? ⟨gbw0, 3, none⟩ = some (.string r3_r4) := (blk_cell BKw0q16.out 3).trans rfl)
    | (go_at_call 15; (with_reducible refine (laws_eqDecoder.calls r14_r1 r14_r2 r14_r3 r14_r4 r3_r1 r3_r2 r3_r3 r3_r4 true _ A15.out).mono ?_); rintro e w22 ⟨rfl, hb⟩; have HB22 := Aside0.mk (below_step (by repeat (first | (with_reducible first | exact HB21.out | apply below_alloc | apply pw_below_drewN | apply below_drew1) | exact HB21.out)) hb); have LE22 := Aside0.mk (below_size hb); have BKw0q17 := Aside0.mk (blk_below (g := gbw0) (o := .cells #[.int .i64 r3_r1, .int .i64 r3_r2, .int .i64 r3_r3, .string r3_r4] 31 (0, 0)) (by (with_reducible repeat (first | refine blk_drewN ?_ _ | refine blk_drew ?_ | refine blk_alloc ?_ _)); exact BKw0q16.out) hb); have BKh0q2 := Aside0.mk (blk_below (g := gbh0) (o := .cells #[.int .i64 r14_r1, .int .i64 r14_r2, .int .i64 r14_r3, .string r14_r4] 31 (0, 0)) (by (with_reducible repeat (first | refine blk_drewN ?_ _ | refine blk_drew ?_ | refine blk_alloc ?_ _)); exact BKh0q1.out) hb); have HOu3_0q18 := Aside0.mk (Kd.R_below (by (with_reducible repeat (first | apply Kd.R_alloc | apply Kd.R_drewN | apply Kd.R_drew)); exact HOu3_0q17.out) hb); have HOu3_1q18 := Aside0.mk (Kd.R_below (by (with_reducible repeat (first | apply Kd.R_alloc | apply Kd.R_drewN | apply Kd.R_drew)); exact HOu3_1q17.out) hb); have HOu5_0q5mq8 := Aside0.mk (Kd.R_below (by (with_reducible repeat (first | apply Kd.R_alloc | apply Kd.R_drewN | apply Kd.R_drew)); exact HOu5_0q5mq7.out) hb); have HOu5_1q6mq7 := Aside0.mk (Kd.R_below (by (with_reducible repeat (first | apply Kd.R_alloc | apply Kd.R_drewN | apply Kd.R_drew)); exact HOu5_1q6mq6.out) hb); have HOu14_0q3 := Aside0.mk (Kd.R_below (by (with_reducible repeat (first | apply Kd.R_alloc | apply Kd.R_drewN | apply Kd.R_drew)); exact HOu14_0q2.out) hb); have HOu14_1q3 := Aside0.mk (Kd.R_below (by (with_reducible repeat (first | apply Kd.R_alloc | apply Kd.R_drewN | apply Kd.R_drew)); exact HOu14_1q2.out) hb); clear HOu3_0q17 HOu3_1q17 HOu5_0q5mq7 HOu5_1q6mq6 HOu14_0q2 HOu14_1q2 BKw0q16 BKh0q1)
    | (go_at_call 16; (with_reducible refine (laws_eqIntS.calls k _ _ r14_r5 _ _ r3_r5 true _ ?s1 ?s2 ?s3 ?s4 A16.out).mono ?_); (case s1 => repeat (first | exact (Kd.R_reads' HOu14_0q3.out).2.2 | (with_reducible refine Kd.C_alloc ?_ _) | (with_reducible refine Kd.C_drewN ?_ _) | (with_reducible refine Kd.C_drew ?_))); (case s2 => exact (Kd.R_reads' HOu14_0q3.out).2.1); (case s3 => repeat (first | exact (Kd.R_reads' HOu3_0q18.out).2.2 | (with_reducible refine Kd.C_alloc ?_ _) | (with_reducible refine Kd.C_drewN ?_ _) | (with_reducible refine Kd.C_drew ?_))); (case s4 => exact (Kd.R_reads' HOu3_0q18.out).2.1); rintro e w23 ⟨rfl, hd⟩; have hb := hd.below; have HB23 := Aside0.mk (below_step (by repeat (first | (with_reducible first | exact HB22.out | apply below_alloc | apply pw_below_drewN | apply below_drew1) | exact HB22.out)) hb); have LE23 := Aside0.mk (below_size hb); have BKw0q18 := Aside0.mk (blk_below (g := gbw0) (o := .cells #[.int .i64 r3_r1, .int .i64 r3_r2, .int .i64 r3_r3, .string r3_r4] 31 (0, 0)) (by (with_reducible repeat (first | refine blk_drewN ?_ _ | refine blk_drew ?_ | refine blk_alloc ?_ _)); exact BKw0q17.out) hb); have BKh0q3 := Aside0.mk (blk_below (g := gbh0) (o := .cells #[.int .i64 r14_r1, .int .i64 r14_r2, .int .i64 r14_r3, .string r14_r4] 31 (0, 0)) (by (with_reducible repeat (first | refine blk_drewN ?_ _ | refine blk_drew ?_ | refine blk_alloc ?_ _)); exact BKh0q2.out) hb); have HOu3_0q19 := Aside0.mk (Kd.R_below (by (with_reducible repeat (first | apply Kd.R_alloc | apply Kd.R_drewN | apply Kd.R_drew)); exact HOu3_0q18.out) hb); have HOu3_1q19 := Aside0.mk (Kd.R_below (by (with_reducible repeat (first | apply Kd.R_alloc | apply Kd.R_drewN | apply Kd.R_drew)); exact HOu3_1q18.out) hb); have HOu5_0q5mq9 := Aside0.mk (Kd.R_below (by (with_reducible repeat (first | apply Kd.R_alloc | apply Kd.R_drewN | apply Kd.R_drew)); exact HOu5_0q5mq8.out) hb); have HOu5_1q6mq8 := Aside0.mk (Kd.R_below (by (with_reducible repeat (first | apply Kd.R_alloc | apply Kd.R_drewN | apply Kd.R_drew)); exact HOu5_1q6mq7.out) hb); have HOu14_0q4 := Aside0.mk (Kd.R_below (by (with_reducible repeat (first | apply Kd.R_alloc | apply Kd.R_drewN | apply Kd.R_drew)); exact HOu14_0q3.out) hb); have HOu14_1q4 := Aside0.mk (Kd.R_below (by (with_reducible repeat (first | apply Kd.R_alloc | apply Kd.R_drewN | apply Kd.R_drew)); exact HOu14_1q3.out) hb); clear HOu3_0q18 HOu3_1q18 HOu5_0q5mq8 HOu5_1q6mq7 HOu14_0q3 HOu14_1q3 BKw0q17 BKh0q2)
    | (go_at_call 16; (with_reducible refine (laws_eqIntS.calls k _ _ r14_r6 _ _ r3_r6 true _ ?s1 ?s2 ?s3 ?s4 A17.out).mono ?_); (case s1 => repeat (first | exact (Kd.R_reads' HOu14_1q4.out).2.2 | (with_reducible refine Kd.C_alloc ?_ _) | (with_reducible refine Kd.C_drewN ?_ _) | (with_reducible refine Kd.C_drew ?_))); (case s2 => exact (Kd.R_reads' HOu14_1q4.out).2.1); (case s3 => repeat (first | exact (Kd.R_reads' HOu3_1q19.out).2.2 | (with_reducible refine Kd.C_alloc ?_ _) | (with_reducible refine Kd.C_drewN ?_ _) | (with_reducible refine Kd.C_drew ?_))); (case s4 => exact (Kd.R_reads' HOu3_1q19.out).2.1); rintro e w24 ⟨rfl, hd⟩; have hb := hd.below; have HB24 := Aside0.mk (below_step (by repeat (first | (with_reducible first | exact HB23.out | apply below_alloc | apply pw_below_drewN | apply below_drew1) | exact HB23.out)) hb); have LE24 := Aside0.mk (below_size hb); have BKw0q19 := Aside0.mk (blk_below (g := gbw0) (o := .cells #[.int .i64 r3_r1, .int .i64 r3_r2, .int .i64 r3_r3, .string r3_r4] 31 (0, 0)) (by (with_reducible repeat (first | refine blk_drewN ?_ _ | refine blk_drew ?_ | refine blk_alloc ?_ _)); exact BKw0q18.out) hb); have BKh0q4 := Aside0.mk (blk_below (g := gbh0) (o := .cells #[.int .i64 r14_r1, .int .i64 r14_r2, .int .i64 r14_r3, .string r14_r4] 31 (0, 0)) (by (with_reducible repeat (first | refine blk_drewN ?_ _ | refine blk_drew ?_ | refine blk_alloc ?_ _)); exact BKh0q3.out) hb); have HOu3_0q20 := Aside0.mk (Kd.R_below (by (with_reducible repeat (first | apply Kd.R_alloc | apply Kd.R_drewN | apply Kd.R_drew)); exact HOu3_0q19.out) hb); have HOu3_1q20 := Aside0.mk (Kd.R_below (by (with_reducible repeat (first | apply Kd.R_alloc | apply Kd.R_drewN | apply Kd.R_drew)); exact HOu3_1q19.out) hb); have HOu5_0q5mq10 := Aside0.mk (Kd.R_below (by (with_reducible repeat (first | apply Kd.R_alloc | apply Kd.R_drewN | apply Kd.R_drew)); exact HOu5_0q5mq9.out) hb); have HOu5_1q6mq9 := Aside0.mk (Kd.R_below (by (with_reducible repeat (first | apply Kd.R_alloc | apply Kd.R_drewN | apply Kd.R_drew)); exact HOu5_1q6mq8.out) hb); have HOu14_0q5 := Aside0.mk (Kd.R_below (by (with_reducible repeat (first | apply Kd.R_alloc | apply Kd.R_drewN | apply Kd.R_drew)); exact HOu14_0q4.out) hb); have HOu14_1q5 := Aside0.mk (Kd.R_below (by (with_reducible repeat (first | apply Kd.R_alloc | apply Kd.R_drewN | apply Kd.R_drew)); exact HOu14_1q4.out) hb); clear HOu3_0q19 HOu3_1q19 HOu5_0q5mq9 HOu5_1q6mq8 HOu14_0q4 HOu14_1q4 BKw0q18 BKh0q3)
    | (go_at_call 18; (with_reducible refine (laws_heldIntS.calls k _ _ r9_r2 1 r18_r _ ?s1 ?s2 A18.out).mono ?_); (case s1 => repeat (first | exact (Kd.R_reads' HOu5_0q5mq10.out).2.2 | (with_reducible refine Kd.C_alloc ?_ _) | (with_reducible refine Kd.C_drewN ?_ _) | (with_reducible refine Kd.C_drew ?_))); (case s2 => exact (Kd.R_reads' HOu5_0q5mq10.out).2.1); rintro e w25 ⟨rfl, hd⟩; have hb := hd.below; have HB25 := Aside0.mk (below_step (by repeat (first | (with_reducible first | exact HB24.out | apply below_alloc | apply pw_below_drewN | apply below_drew1) | exact HB24.out)) hb); have LE25 := Aside0.mk (below_size hb); have HOu5_0q5mq11 := Aside0.mk (Kd.R_below (by (with_reducible repeat (first | apply Kd.R_alloc | apply Kd.R_drewN | apply Kd.R_drew)); exact HOu5_0q5mq10.out) hb); have HOu5_1q6mq10 := Aside0.mk (Kd.R_below (by (with_reducible repeat (first | apply Kd.R_alloc | apply Kd.R_drewN | apply Kd.R_drew)); exact HOu5_1q6mq9.out) hb); clear HOu5_0q5mq10 HOu5_1q6mq9)
    | (go_at_call 18; (with_reducible refine (laws_heldIntS.calls k _ _ r10_r2 r18_r r19_r _ ?s1 ?s2 A19.out).mono ?_); (case s1 => repeat (first | exact (Kd.R_reads' HOu5_1q6mq10.out).2.2 | (with_reducible refine Kd.C_alloc ?_ _) | (with_reducible refine Kd.C_drewN ?_ _) | (with_reducible refine Kd.C_drew ?_))); (case s2 => exact (Kd.R_reads' HOu5_1q6mq10.out).2.1); rintro e w26 ⟨rfl, hd⟩; have hb := hd.below; have HB26 := Aside0.mk (below_step (by repeat (first | (with_reducible first | exact HB25.out | apply below_alloc | apply pw_below_drewN | apply below_drew1) | exact HB25.out)) hb); have LE26 := Aside0.mk (below_size hb); have HOu5_1q6mq11 := Aside0.mk (Kd.R_below (by (with_reducible repeat (first | apply Kd.R_alloc | apply Kd.R_drewN | apply Kd.R_drew)); exact HOu5_1q6mq10.out) hb); clear HOu5_1q6mq10))
  go_ret
  exact ⟨by first | rfl | (simp; done) | (simp [*]; done), (by repeat (first | (with_reducible first | exact HB26.out | apply below_alloc | apply pw_below_drewN | apply below_drew1) | exact HB26.out))⟩


end Go.Proofs.YtpmdecdomfoaoaaDoor.P
