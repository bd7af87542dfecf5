import Derived.Test.YtliafedmhgkciaaDoorCP0
import Derived.Test.YtliafedmhgkciaaDoorC0
namespace Go.Proofs.YtliafedmhgkciaaDoor.P
open Go.RowKit Go.Proofs.YtliafedmhgkciaaDoorW.PrintWords Go.Proofs.YtliafedmhgkciaaDoorW.PrintLast Go.Proofs.YtliafedmhgkciaaDoorW.PrintMore
attribute [local go_sem] max2_int min2_int max_two min_two max_three min_three max_four min_four   -- for this text's walks alone
set_option linter.unusedVariables false
set_option linter.unusedSimpArgs false

set_option maxHeartbeats 16000000
set_option maxRecDepth 1000000

theorem Zb53_0 {p : Prop} (h : p := by (with_reducible repeat (first | refine blk_drewN ?_ _ | refine blk_drew ?_ | refine blk_alloc ?_ _)); refine blk_put (cs := #[.int .i64 a0_0, .int .i64 a0_1, .int .i64 a0_2, .string (⟨#[]⟩ : ByteArray)]) ?_ 3 _ rfl; (with_reducible repeat (first | refine blk_drewN ?_ _ | refine blk_drew ?_ | refine blk_alloc ?_ _)); refine blk_put (cs := #[.int .i64 a0_0, .int .i64 a0_1, .int .i64 0, .string (⟨#[]⟩ : ByteArray)]) ?_ 2 _ rfl; (with_reducible repeat (first | refine blk_drewN ?_ _ | refine blk_drew ?_ | refine blk_alloc ?_ _)); refine blk_put (cs := #[.int .i64 a0_0, .int .i64 0, .int .i64 0, .string (⟨#[]⟩ : ByteArray)]) ?_ 1 _ rfl; (with_reducible repeat (first | refine blk_drewN ?_ _ | refine blk_drew ?_ | refine blk_alloc ?_ _)); refine blk_put (cs := #[.int .i64 0, .int .i64 0, .int .i64 0, .string (⟨#[]⟩ : ByteArray)]) ?_ 0 _ rfl; (with_reducible repeat (first | refine blk_drewN ?_ _ | refine blk_drew ?_ | refine blk_alloc ?_ _)); refine blk_far ?_ NB145_144.out _; (with_reducible repeat (first | refine blk_drewN ?_ _ | refine blk_drew ?_ | refine blk_alloc ?_ _)); exact BK145.out) : p := h
theorem Zb53_1 {p : Prop} (h : p := by (with_reducible repeat (first | apply Kd.R_alloc | apply Kd.R_drewN | apply Kd.R_drew)); exact Kd.R_mono (Kd.R_far (p := ⟨gb145, 3, none⟩) (Kd.R_far (p := ⟨gb145, 2, none⟩) (Kd.R_far (p := ⟨gb145, 1, none⟩) (Kd.R_far (p := ⟨gb145, 0, none⟩) (Kd.R_far (p := ⟨gb144, 3, none⟩) (Kd.R_types (Kd.R_types HO_7.out BK144.out (by decide)) BK145.out (by decide)) (fun _ hk => hk.1.2) (.string x1_2)) (fun _ hk => hk.2) (.int .i64 a0_0)) (fun _ hk => hk.2) (.int .i64 a0_1)) (fun _ hk => hk.2) (.int .i64 a0_2)) (fun _ hk => hk.2) (.string x1_2)) (fun _ hk => hk.1.1)) : p := h
theorem Zb53_2 {p : Prop} (h : p := by (with_reducible repeat (first | apply Kd.R_alloc | apply Kd.R_drewN | apply Kd.R_drew)); exact Kd.R_mono (Kd.R_far (p := ⟨gb145, 3, none⟩) (Kd.R_far (p := ⟨gb145, 2, none⟩) (Kd.R_far (p := ⟨gb145, 1, none⟩) (Kd.R_far (p := ⟨gb145, 0, none⟩) (Kd.R_far (p := ⟨gb144, 3, none⟩) (Kd.R_types (Kd.R_types HO_8.out BK144.out (by decide)) BK145.out (by decide)) (fun _ hk => hk.1.2) (.string x1_2)) (fun _ hk => hk.2) (.int .i64 a0_0)) (fun _ hk => hk.2) (.int .i64 a0_1)) (fun _ hk => hk.2) (.int .i64 a0_2)) (fun _ hk => hk.2) (.string x1_2)) (fun _ hk => hk.1.1)) : p := h
theorem Zb53_3 {p : Prop} (h : p := by repeat (first | (with_reducible first | exact HB.out | apply below_alloc | apply pw_below_drewN | apply below_drew1 | refine below_set ?_ GE144.out | refine below_set ?_ GE145.out) | exact HB.out)) : p := h
theorem Zb53_4 {p : Prop} (h : p := by first | exact Kd.R_nil _ _ _ _ _ | exact Kd.N_nil _ _ _ _ _ | exact Kd.V_nil _ _ _ _ _ | exact Kd.Q_nil _ _ _ _ _ | exact Kd.S_nil _ _ _ _ _) : p := h
theorem Zb53_5 {p : Prop} (h : p := by have := HJ2.out; have := HK2.out; first | omega | exact Nat.le_refl _) : p := h
theorem Zb53_6 {p : Prop} (h : p := by simp only [List.map_toArray, List.map_cons, List.map_nil] <;> rfl) : p := h
theorem Zb53_7 {p : Prop} (h : p := by have := HJ2.out; have := HK2.out; have := HJ14.out; omega) : p := h
theorem Zw53.f2 {α : Type} {d : Kd α} {e : Nat} {w : World} {n : Nat} {ok : Nat → Prop} {v : Value} {xs : List α} {g t : Nat} {cs : Array Value} (h : d.R e w n ok v xs) (b : w.heap[g]? = some (.cells cs t (0, 0))) {v0 : Value} (ht : ∀ q, q ∈ e :: d.E → q ≠ t := by decide) : d.R e (w.setCell ⟨g, 2, none⟩ v0) n (fun k => ok k ∧ k ≠ g) v xs := Kd.R_far (p := ⟨g, 2, none⟩) (Kd.R_types h b ht) (fun _ hk => hk.2) v0
theorem Zw53.g2 {α : Type} {d : Kd α} {e : Nat} {w : World} {n : Nat} {ok : Nat → Prop} {v : Value} {xs : List α} {g t : Nat} {cs : Array Value} (h : d.R e w n ok v xs) (b : w.heap[g]? = some (.cells cs t (0, 0))) {v0 : Value} (ht : ∀ q, q ∈ e :: d.E → q ≠ t := by decide) : d.R e (w.setCell ⟨g, 2, none⟩ v0) n ok v xs := Kd.R_mono (Zw53.f2 h b ht) (fun _ h_ => h_.1)
theorem Zw53.f1 {α : Type} {d : Kd α} {e : Nat} {w : World} {n : Nat} {ok : Nat → Prop} {v : Value} {xs : List α} {g t : Nat} {cs : Array Value} (h : d.R e w n ok v xs) (b : w.heap[g]? = some (.cells cs t (0, 0))) {v0 : Value} (ht : ∀ q, q ∈ e :: d.E → q ≠ t := by decide) : d.R e (w.setCell ⟨g, 1, none⟩ v0) n (fun k => ok k ∧ k ≠ g) v xs := Kd.R_far (p := ⟨g, 1, none⟩) (Kd.R_types h b ht) (fun _ hk => hk.2) v0
theorem Zw53.g1 {α : Type} {d : Kd α} {e : Nat} {w : World} {n : Nat} {ok : Nat → Prop} {v : Value} {xs : List α} {g t : Nat} {cs : Array Value} (h : d.R e w n ok v xs) (b : w.heap[g]? = some (.cells cs t (0, 0))) {v0 : Value} (ht : ∀ q, q ∈ e :: d.E → q ≠ t := by decide) : d.R e (w.setCell ⟨g, 1, none⟩ v0) n ok v xs := Kd.R_mono (Zw53.f1 h b ht) (fun _ h_ => h_.1)
theorem Zw53.p2 {w : World} {g t : Nat} {cs : Array Value} (h : w.heap[g]? = some (.cells cs t (0, 0))) {v0 : Value} : (w.setCell ⟨g, 2, none⟩ v0).heap[g]? = some (.cells (cs.setIfInBounds 2 v0) t (0, 0)) := blk_set (h) 2 v0
theorem Zw53.p1 {w : World} {g t : Nat} {cs : Array Value} (h : w.heap[g]? = some (.cells cs t (0, 0))) {v0 : Value} : (w.setCell ⟨g, 1, none⟩ v0).heap[g]? = some (.cells (cs.setIfInBounds 1 v0) t (0, 0)) := blk_set (h) 1 v0
mutual
def spec_l2Feed.j0 : Nat → ByteArray → List Int → List Int → Bool → Int → Int → Int → ByteArray → Option (Int × Int × Int × ByteArray × List Int × List Int)
 | 0, _, _, _, _, _, _, _, _ => none
 | k + 1, x1, x7, x8, x20, x145000, x145001, x145002, x145003 => if x20 = true then (spec_l2Feed.l0 k x1 x7 x8 0 x145000 x145001 x145002 x145003) else (if x145003.size + x1.size ≤ 9223372036854775807 then (spec_l2Feed.l1 k (x145003 ++ x1) x7 x8 x145000 x145001 x145002 x145003) else (none))
def spec_l2Feed.l0 : Nat → ByteArray → List Int → List Int → Int → Int → Int → Int → ByteArray → Option (Int × Int × Int × ByteArray × List Int × List Int)
 | 0, _, _, _, _, _, _, _, _ => none
 | k + 1, x1, x7, x8, x9, x145000, x145001, x145002, x145003 => if x9 < (x1.size : Int) then (if 0 ≤ x9 then (if x145000 = 5 then (if (wrap64 (bt x1 x9)) = 14 then (spec_l2Feed.j2 k x1 x7 x8 x9 (wrap64 (bt x1 x9)) true x145000 x145001 (wrap64 (x145002 + 1)) x145003) else (spec_l2Feed.j2 k x1 x7 x8 x9 (wrap64 (bt x1 x9)) ((wrap64 (bt x1 x9)) == 15) x145000 x145001 (wrap64 (x145002 + 1)) x145003)) else (spec_l2Feed.j2 k x1 x7 x8 x9 (wrap64 (bt x1 x9)) false x145000 x145001 (wrap64 (x145002 + 1)) x145003)) else (none)) else (some (x145000, x145001, x145002, x145003, x7, x8))
def spec_l2Feed.j2 : Nat → ByteArray → List Int → List Int → Int → Int → Bool → Int → Int → Int → ByteArray → Option (Int × Int × Int × ByteArray × List Int × List Int)
 | 0, _, _, _, _, _, _, _, _, _, _ => none
 | k + 1, x1, x7, x8, x9, x10, x45, x145000, x145001, x145002, x145003 => if x45 = true then (spec_l2Feed.l0 k x1 x7 x8 (wrap64 (x9 + 1)) x145000 (wrap64 (15 - x10)) x145002 x145003) else (if x145000 = 5 then ((spec_l2Shifted.f k x145001 x10).bind fun t146 => (if x7.length < 17592186044416 then (if x8.length < 17592186044416 then (spec_l2Feed.l0 k x1 (x7 ++ [t146]) (x8 ++ [x145002]) (wrap64 (x9 + 1)) x145000 x145001 0 x145003) else (none)) else (none))) else (if x7.length < 17592186044416 then (if x8.length < 17592186044416 then (spec_l2Feed.l0 k x1 (x7 ++ [x10]) (x8 ++ [x145002]) (wrap64 (x9 + 1)) x145000 x145001 0 x145003) else (none)) else (none)))
def spec_l2Feed.l1 : Nat → ByteArray → List Int → List Int → Int → Int → Int → ByteArray → Option (Int × Int × Int × ByteArray × List Int × List Int)
 | 0, _, _, _, _, _, _, _ => none
 | k + 1, x1, x7, x8, x145000, x145001, x145002, x145003 => if x1.toList = ([] : List UInt8) then (some (x145000, x145001, x145002, x1, x7, x8)) else ((spec_l2One.f k x145000 x1).bind fun bt159 => (if bt159.2 = 0 then (some (x145000, x145001, x145002, x1, x7, x8)) else (if x7.length < 17592186044416 then (if x8.length < 17592186044416 then (if 0 ≤ bt159.2 then (if bt159.2 ≤ (x1.size : Int) then (spec_l2Feed.l1 k (x1.extract (bt159.2 : Int).toNat x1.size) (x7 ++ [bt159.1]) (x8 ++ [bt159.2]) x145000 x145001 x145002 x145003) else (none)) else (none)) else (none)) else (none))))
end
def spec_l2Feed.f (k : Nat) (a0_0 : Int) (a0_1 : Int) (a0_2 : Int) (a0_3 : ByteArray) (a1 : ByteArray) : Option (Int × Int × Int × ByteArray × List Int × List Int) := if a0_0 = 4 then (spec_l2Feed.j0 k a1 ([] : List Int) ([] : List Int) true a0_0 a0_1 a0_2 a0_3) else (spec_l2Feed.j0 k a1 ([] : List Int) ([] : List Int) (a0_0 == 5) a0_0 a0_1 a0_2 a0_3)
theorem spec_l2Feed.mono_l : ∀ k, (∀ y0 y1 y2 y3 y4 y5 y6 y7, LeO (spec_l2Feed.j0 k y0 y1 y2 y3 y4 y5 y6 y7) (spec_l2Feed.j0 (k + 1) y0 y1 y2 y3 y4 y5 y6 y7)) ∧ (∀ y0 y1 y2 y3 y4 y5 y6 y7, LeO (spec_l2Feed.l0 k y0 y1 y2 y3 y4 y5 y6 y7) (spec_l2Feed.l0 (k + 1) y0 y1 y2 y3 y4 y5 y6 y7)) ∧ (∀ y0 y1 y2 y3 y4 y5 y6 y7 y8 y9, LeO (spec_l2Feed.j2 k y0 y1 y2 y3 y4 y5 y6 y7 y8 y9) (spec_l2Feed.j2 (k + 1) y0 y1 y2 y3 y4 y5 y6 y7 y8 y9)) ∧ (∀ y0 y1 y2 y3 y4 y5 y6, LeO (spec_l2Feed.l1 k y0 y1 y2 y3 y4 y5 y6) (spec_l2Feed.l1 (k + 1) y0 y1 y2 y3 y4 y5 y6))
 | 0 => ⟨fun _ _ _ _ _ _ _ _ r h => by simp [spec_l2Feed.j0] at h, fun _ _ _ _ _ _ _ _ r h => by simp [spec_l2Feed.l0] at h, fun _ _ _ _ _ _ _ _ _ _ r h => by simp [spec_l2Feed.j2] at h, fun _ _ _ _ _ _ _ r h => by simp [spec_l2Feed.l1] at h⟩
 | k + 1 => by
  obtain ⟨ih0, ih1, ih2, ih3⟩ := spec_l2Feed.mono_l k
  refine ⟨?_, ?_, ?_, ?_⟩
  ·intro y0 y1 y2 y3 y4 y5 y6 y7
   unfold spec_l2Feed.j0
   with_reducible repeat' first | exact ih0 _ _ _ _ _ _ _ _ | exact ih1 _ _ _ _ _ _ _ _ | exact ih2 _ _ _ _ _ _ _ _ _ _ | exact ih3 _ _ _ _ _ _ _ | exact spec_l2One.mono _ _ _ | exact spec_l2Shifted.mono _ _ _ | exact LeO.refl _ | exact LeO.none _ | refine LeO.ite ?_ ?_ | refine LeO.bind ?_ (fun _ => ?_)
  ·intro y0 y1 y2 y3 y4 y5 y6 y7
   unfold spec_l2Feed.l0
   with_reducible repeat' first | exact ih0 _ _ _ _ _ _ _ _ | exact ih1 _ _ _ _ _ _ _ _ | exact ih2 _ _ _ _ _ _ _ _ _ _ | exact ih3 _ _ _ _ _ _ _ | exact spec_l2One.mono _ _ _ | exact spec_l2Shifted.mono _ _ _ | exact LeO.refl _ | exact LeO.none _ | refine LeO.ite ?_ ?_ | refine LeO.bind ?_ (fun _ => ?_)
  ·intro y0 y1 y2 y3 y4 y5 y6 y7 y8 y9
   unfold spec_l2Feed.j2
   with_reducible repeat' first | exact ih0 _ _ _ _ _ _ _ _ | exact ih1 _ _ _ _ _ _ _ _ | exact ih2 _ _ _ _ _ _ _ _ _ _ | exact ih3 _ _ _ _ _ _ _ | exact spec_l2One.mono _ _ _ | exact spec_l2Shifted.mono _ _ _ | exact LeO.refl _ | exact LeO.none _ | refine LeO.ite ?_ ?_ | refine LeO.bind ?_ (fun _ => ?_)
  ·intro y0 y1 y2 y3 y4 y5 y6
   unfold spec_l2Feed.l1
   with_reducible repeat' first | exact ih0 _ _ _ _ _ _ _ _ | exact ih1 _ _ _ _ _ _ _ _ | exact ih2 _ _ _ _ _ _ _ _ _ _ | exact ih3 _ _ _ _ _ _ _ | exact spec_l2One.mono _ _ _ | exact spec_l2Shifted.mono _ _ _ | exact LeO.refl _ | exact LeO.none _ | refine LeO.ite ?_ ?_ | refine LeO.bind ?_ (fun _ => ?_)
theorem spec_l2Feed.mono : ∀ a0 a1 a2 a3 a4 k, LeO (spec_l2Feed.f k a0 a1 a2 a3 a4) (spec_l2Feed.f (k + 1) a0 a1 a2 a3 a4) := by
 intro a0 a1 a2 a3 a4 k
 obtain ⟨ih0, ih1, ih2, ih3⟩ := spec_l2Feed.mono_l k
 unfold spec_l2Feed.f
 with_reducible repeat' first | exact ih0 _ _ _ _ _ _ _ _ | exact ih1 _ _ _ _ _ _ _ _ | exact ih2 _ _ _ _ _ _ _ _ _ _ | exact ih3 _ _ _ _ _ _ _ | exact spec_l2One.mono _ _ _ | exact spec_l2Shifted.mono _ _ _ | exact LeO.refl _ | exact LeO.none _ | refine LeO.ite ?_ ?_ | refine LeO.bind ?_ (fun _ => ?_)
theorem spec_l2Feed.calls (k : Nat) (a0_0 : Int) (a0_1 : Int) (a0_2 : Int) (a0_3 : ByteArray) (a1 : ByteArray) (r1 : Int) (r2 : Int) (r3 : Int) (r4 : ByteArray) (r5 : List Int) (r6 : List Int) (w : World) (h : spec_l2Feed.f k a0_0 a0_1 a0_2 a0_3 a1 = some (r1, r2, r3, r4, r5, r6)) :
  Calls Tryd.prog 53 #[.agg #[.int .i64 a0_0, .int .i64 a0_1, .int .i64 a0_2, .string a0_3], .string a1] w fun e w' => ∃ v4_ v5_ : Value, e = .returned (.tuple #[.agg #[.int .i64 r1, .int .i64 r2, .int .i64 r3, .string r4], v4_, v5_]) ∧ Kd.R (Kd.int .i64) 3 w' w.heap.size (fun k_ => some k_ ≠ (v5_ : Value).ownBlock) v4_ r5 ∧ Kd.R (Kd.int .i64) 3 w' w.heap.size (fun k_ => some k_ ≠ (v4_ : Value).ownBlock) v5_ r6 ∧ Below w.heap.size w w' := by
 have hu25 := Tryd.underlying25
 have HB := Aside0.mk (Below.refl w.heap.size w)
 have H : (if a0_0 = 4 then (spec_l2Feed.j0 k a1 ([] : List Int) ([] : List Int) true a0_0 a0_1 a0_2 a0_3) else (spec_l2Feed.j0 k a1 ([] : List Int) ([] : List Int) (a0_0 == 5) a0_0 a0_1 a0_2 a0_3)) = some (r1, r2, r3, r4, r5, r6) := h
 clear h
 have HC3 := Aside0.mk H
 clear H
 go_enter Tryd.func53, Tryd.ntmps53
 go_upto_region 2 with (first | ((with_reducible refine gate_dst (N := 2) rfl ?_); refine box_event ?hg (N := 2) ?hd (cs := #[.int .i64 a0_0, .int .i64 a0_1, .int .i64 a0_2, .string a0_3]) (t := 25) ?hr ?_; (case hd => rfl); (case hg => rfl); (case hr => go_simp <;> rfl); intro gb144 hg w4 hbox hb; have BK144 := Aside0.mk (hbox); have GW144 := Aside0.mk ((Sw.gs hg)); have GE144 := Aside0.mk ((Sw.gs hg)); replace HB := Aside0.mk (below_step Sw.hb hb); clear hb hbox hg) | ((with_reducible refine gate_dst (N := 4) rfl ?_); refine box_event ?hg (N := 4) ?hd (cs := #[.int .i64 0, .int .i64 0, .int .i64 0, .string (⟨#[]⟩ : ByteArray)]) (t := 25) ?hr ?_; (case hd => rfl); (case hg => rfl); (case hr => go_simp <;> rfl); intro gb145 hg w5 hbox hb; have BK145 := Aside0.mk (hbox); have GW145 := Aside0.mk ((Sw.gs hg)); have GE145 := Aside0.mk ((Sw.gs hg)); replace HB := Aside0.mk (below_step Sw.hb hb); have NB144_145 := Aside0.mk (Sw.nl hg BK144.out); have NB145_144 := Aside0.mk (Sw.ng hg BK144.out); replace BK144 := Aside0.mk (Sw.bl BK144.out hb); clear hb hbox hg))
 (try simp only [Act.put, List.setIfInBounds_toArray, List.set_cons_zero, List.set_cons_succ])
 go_cut [20] (fun v20 wc => ∃ (kq : Nat) (x20_2 : Bool), v20 = .bool x20_2 ∧ Aside0 (spec_l2Feed.j0 kq a1 ([] : List Int) ([] : List Int) x20_2 a0_0 a0_1 a0_2 a0_3 = some (r1, r2, r3, r4, r5, r6)) ∧ Aside0 (kq ≤ k) ∧ Aside0 (Kd.R (Kd.int .i64) 3 wc w.heap.size (fun k_ => some k_ ≠ ((.slice none 0 0) : Value).ownBlock) (.slice none 0 0) ([] : List Int)) ∧ Aside0 (Kd.R (Kd.int .i64) 3 wc w.heap.size (fun k_ => some k_ ≠ ((.slice none 0 0) : Value).ownBlock) (.slice none 0 0) ([] : List Int)) ∧ Aside0 (wc.heap[gb144]? = some (.cells #[.int .i64 a0_0, .int .i64 a0_1, .int .i64 a0_2, .string a0_3] 25 (0, 0))) ∧ Aside0 (wc.heap[gb145]? = some (.cells #[.int .i64 0, .int .i64 0, .int .i64 0, .string (⟨#[]⟩ : ByteArray)] 25 (0, 0))) ∧ Aside0 (Below w.heap.size w wc))
 case first =>
  have H := HC3.out
  clear HC3
  by_cases c6 : a0_0 = 4
  ·rw [if_pos c6] at H
   have c6b0 : (a0_0 == 4) = true := beq_iff_eq.mpr c6
   have c6b1 : (a0_0 != 4) = false := bne_eq_false_iff_eq.mpr c6
   clear c6
   (first | rw [c6b0] | (simp only [i64_w, i32_w]; rw [c6b0]) | skip)
   have H' := Aside0.mk H
   clear H
   have hnb7 := NB144_145.out
   have hnc7 := NB145_144.out
   obtain ⟨hcz8_0, hcz8_1, hcz8_2, hcz8_3⟩ := Sw.cz4 BK144.out
   obtain ⟨hfz8_0, hfz8_1, hfz8_2, hfz8_3⟩ := Sw.fz4 BK144.out
   go_wp2
   go_meet
   case rel => exact ⟨_, (true), Sw.r, H', ⟨by first | omega | exact Nat.le_refl _⟩, ⟨Zb53_4⟩, ⟨Zb53_4⟩, ⟨Sw.bk BK144.out⟩, ⟨Sw.bk BK145.out⟩, ⟨Sw.hb⟩⟩
  ·rw [if_neg c6] at H
   have c6b0 : (a0_0 == 4) = false := beq_eq_false_iff_ne.mpr c6
   have c6b1 : (a0_0 != 4) = true := bne_iff_ne.mpr c6
   (first | rw [c6b0] | (simp only [i64_w, i32_w]; rw [c6b0]) | skip)
   have H' := Aside0.mk H
   clear H
   have hnb9 := NB144_145.out
   have hnc9 := NB145_144.out
   obtain ⟨hcz10_0, hcz10_1, hcz10_2, hcz10_3⟩ := Sw.cz4 BK144.out
   obtain ⟨hfz10_0, hfz10_1, hfz10_2, hfz10_3⟩ := Sw.fz4 BK144.out
   go_wp2
   go_meet
   case rel => exact ⟨_, ((a0_0 == 5)), Sw.r, H', ⟨by first | omega | exact Nat.le_refl _⟩, ⟨Zb53_4⟩, ⟨Zb53_4⟩, ⟨Sw.bk BK144.out⟩, ⟨Sw.bk BK145.out⟩, ⟨Sw.hb⟩⟩
 case rest =>
  clear HC3
  try clear p2
  try clear c5
  try clear c6
  try clear c6b0
  try clear c6b1
  try clear c7
  try clear c9
  try clear hcz10_0 hcz10_1 hcz10_2 hcz10_3
  try clear hcz8_0 hcz8_1 hcz8_2 hcz8_3
  try clear hfz10_0 hfz10_1 hfz10_2 hfz10_3
  try clear hfz8_0 hfz8_1 hfz8_2 hfz8_3
  obtain ⟨kq, x20_2, rfl, HA, HJ2, HO_7, HO_8, BK144, BK145, HB⟩ := hcut
  cases kq with
  | zero => exact absurd HA.out (by simp [spec_l2Feed.j0])
  | succ kj2 =>
   have H := HA.out
   clear HA
   simp only [spec_l2Feed.j0] at H
   by_cases c11 : x20_2 = true
   ·subst c11
    have H1 : (spec_l2Feed.l0 kj2 a1 ([] : List Int) ([] : List Int) 0 a0_0 a0_1 a0_2 a0_3) = some (r1, r2, r3, r4, r5, r6) := by rw [if_pos rfl] at H; exact H
    clear H
    have H := H1
    clear H1
    have H' := Aside0.mk H
    clear H
    go_wp2
    go_loopg [7, 8, 9] kj2 (fun kq v7 v8 v9 w' => ∃ (x7_2 : List Int) (x8_2 : List Int) (x9_2 : Int) (x145001_2 : Int) (x145002_2 : Int), v9 = .int .i64 x9_2 ∧ Aside0 (spec_l2Feed.l0 kq a1 x7_2 x8_2 x9_2 a0_0 x145001_2 x145002_2 a0_3 = some (r1, r2, r3, r4, r5, r6)) ∧ Aside0 (kq ≤ kj2) ∧ Aside0 (Kd.R (Kd.int .i64) 3 w' w.heap.size (fun k_ => some k_ ≠ (v8 : Value).ownBlock) v7 x7_2) ∧ Aside0 (Kd.R (Kd.int .i64) 3 w' w.heap.size (fun k_ => some k_ ≠ (v7 : Value).ownBlock) v8 x8_2) ∧ Aside0 (w'.heap[gb144]? = some (.cells #[.int .i64 a0_0, .int .i64 x145001_2, .int .i64 x145002_2, .string a0_3] 25 (0, 0))) ∧ Aside0 (w'.heap[gb145]? = some (.cells #[.int .i64 0, .int .i64 0, .int .i64 0, .string (⟨#[]⟩ : ByteArray)] 25 (0, 0))) ∧ Aside0 (Below w.heap.size w w'))
    case atStart => exact ⟨(([] : List Int)), (([] : List Int)), (0), (a0_1), (a0_2), Sw.r, H', ⟨Nat.le_refl _⟩, ⟨Sw.rt HO_7.out⟩, ⟨Sw.rt HO_8.out⟩, ⟨Sw.bk BK144.out⟩, ⟨Sw.bk BK145.out⟩, ⟨Sw.hb⟩⟩
    case round =>
     clear H'
     try clear c1
     try clear p2
     try clear c5
     try clear c6
     try clear c6b0
     try clear c6b1
     try clear c7
     try clear c9
     try clear c11
     try clear hcz10_0 hcz10_1 hcz10_2 hcz10_3
     try clear hcz8_0 hcz8_1 hcz8_2 hcz8_3
     try clear hfz10_0 hfz10_1 hfz10_2 hfz10_3
     try clear hfz8_0 hfz8_1 hfz8_2 hfz8_3
     try clear p2
     obtain ⟨x7_2, x8_2, x9_2, x145001_2, x145002_2, rfl, HA, HK2, HO_7, HO_8, BK144, BK145, HB⟩ := hrel
     cases gk with
     | zero => exact absurd HA.out (by simp [spec_l2Feed.l0])
     | succ k2 =>
      have H := HA.out
      clear HA
      simp only [spec_l2Feed.l0] at H
      by_cases c12 : x9_2 < (a1.size : Int)
      ·rw [if_pos c12] at H
       have c12b0 : decide (x9_2 < (a1.size : Int)) = true := decide_eq_true c12
       clear c12
       by_cases c13 : 0 ≤ x9_2
       ·rw [if_pos c13] at H
        have c13b0 : decide (0 ≤ x9_2) = true := decide_eq_true c13
        clear c13
        have HC15 := Aside0.mk H
        clear H
        have p14 : 0 ≤ (x9_2 : Int) := of_decide_eq_true (by assumption)
        have q14 : x9_2 < (a1.size : Int) := of_decide_eq_true (by assumption)
        have hx14 := bt_at a1 x9_2
        replace p14 := eq_true p14
        replace q14 := eq_true q14
        have hnb16 := NB144_145.out
        have hnc16 := NB145_144.out
        obtain ⟨hcz17_0, hcz17_1, hcz17_2, hcz17_3⟩ := Sw.cz4 BK144.out
        obtain ⟨hfz17_0, hfz17_1, hfz17_2, hfz17_3⟩ := Sw.fz4 BK144.out
        go_upto_region 8 with (fail)
        go_cut [45] (fun v45 wc => ∃ (kq : Nat) (x45_14 : Bool), v45 = .bool x45_14 ∧ Aside0 (spec_l2Feed.j2 kq a1 x7_2 x8_2 x9_2 (wrap64 (bt a1 x9_2)) x45_14 a0_0 x145001_2 (wrap64 (x145002_2 + 1)) a0_3 = some (r1, r2, r3, r4, r5, r6)) ∧ Aside0 (kq ≤ k2) ∧ Aside0 (Kd.R (Kd.int .i64) 3 wc w.heap.size (fun k_ => some k_ ≠ (u8 : Value).ownBlock) u7 x7_2) ∧ Aside0 (Kd.R (Kd.int .i64) 3 wc w.heap.size (fun k_ => some k_ ≠ (u7 : Value).ownBlock) u8 x8_2) ∧ Aside0 (wc.heap[gb144]? = some (.cells #[.int .i64 a0_0, .int .i64 x145001_2, .int .i64 (wrap64 (x145002_2 + 1)), .string a0_3] 25 (0, 0))) ∧ Aside0 (wc.heap[gb145]? = some (.cells #[.int .i64 0, .int .i64 0, .int .i64 0, .string (⟨#[]⟩ : ByteArray)] 25 (0, 0))) ∧ Aside0 (Below w.heap.size w wc))
        case first =>
         have H := HC15.out
         clear HC15
         by_cases c18 : a0_0 = 5
         ·rw [if_pos c18] at H
          have c18b0 : (a0_0 == 5) = true := beq_iff_eq.mpr c18
          have c18b1 : (a0_0 != 5) = false := bne_eq_false_iff_eq.mpr c18
          clear c18
          (first | rw [c18b0] | (simp only [i64_w, i32_w]; rw [c18b0]) | skip)
          by_cases c19 : (wrap64 (bt a1 x9_2)) = 14
          ·rw [if_pos c19] at H
           have c19b0 : ((wrap64 (bt a1 x9_2)) == 14) = true := beq_iff_eq.mpr c19
           have c19b1 : ((wrap64 (bt a1 x9_2)) != 14) = false := bne_eq_false_iff_eq.mpr c19
           clear c19
           have H' := Aside0.mk H
           clear H
           have hnb20 := NB144_145.out
           have hnc20 := NB145_144.out
           obtain ⟨hcz21_0, hcz21_1, hcz21_2, hcz21_3⟩ := Sw.cz4 BK144.out
           obtain ⟨hfz21_0, hfz21_1, hfz21_2, hfz21_3⟩ := Sw.fz4 BK144.out
           go_wp2
           go_meet
           case rel => exact ⟨_, (true), Sw.r, H', ⟨Zb53_5⟩, ⟨Sw.rt (Kd.R_mono (Zw53.f2 HO_7.out BK144.out) (fun _ hk => hk.1))⟩, ⟨Sw.rt (Kd.R_mono (Zw53.f2 HO_8.out BK144.out) (fun _ hk => hk.1))⟩, ⟨Sw.bp (Zw53.p2 BK144.out)⟩, ⟨Sw.bf BK145.out NB145_144.out⟩, ⟨Sw.hb⟩⟩
          ·rw [if_neg c19] at H
           have c19b0 : ((wrap64 (bt a1 x9_2)) == 14) = false := beq_eq_false_iff_ne.mpr c19
           have c19b1 : ((wrap64 (bt a1 x9_2)) != 14) = true := bne_iff_ne.mpr c19
           have H' := Aside0.mk H
           clear H
           have hnb22 := NB144_145.out
           have hnc22 := NB145_144.out
           obtain ⟨hcz23_0, hcz23_1, hcz23_2, hcz23_3⟩ := Sw.cz4 BK144.out
           obtain ⟨hfz23_0, hfz23_1, hfz23_2, hfz23_3⟩ := Sw.fz4 BK144.out
           go_wp2
           go_meet
           case rel => exact ⟨_, (((wrap64 (bt a1 x9_2)) == 15)), Sw.r, H', ⟨Zb53_5⟩, ⟨Sw.rt (Kd.R_mono (Zw53.f2 HO_7.out BK144.out) (fun _ hk => hk.1))⟩, ⟨Sw.rt (Kd.R_mono (Zw53.f2 HO_8.out BK144.out) (fun _ hk => hk.1))⟩, ⟨Sw.bp (Zw53.p2 BK144.out)⟩, ⟨Sw.bf BK145.out NB145_144.out⟩, ⟨Sw.hb⟩⟩
         ·rw [if_neg c18] at H
          have c18b0 : (a0_0 == 5) = false := beq_eq_false_iff_ne.mpr c18
          have c18b1 : (a0_0 != 5) = true := bne_iff_ne.mpr c18
          (first | rw [c18b0] | (simp only [i64_w, i32_w]; rw [c18b0]) | skip)
          have H' := Aside0.mk H
          clear H
          have hnb24 := NB144_145.out
          have hnc24 := NB145_144.out
          obtain ⟨hcz25_0, hcz25_1, hcz25_2, hcz25_3⟩ := Sw.cz4 BK144.out
          obtain ⟨hfz25_0, hfz25_1, hfz25_2, hfz25_3⟩ := Sw.fz4 BK144.out
          go_wp2
          go_meet
          case rel => exact ⟨_, (false), Sw.r, H', ⟨Zb53_5⟩, ⟨Sw.rt (Kd.R_mono (Zw53.f2 HO_7.out BK144.out) (fun _ hk => hk.1))⟩, ⟨Sw.rt (Kd.R_mono (Zw53.f2 HO_8.out BK144.out) (fun _ hk => hk.1))⟩, ⟨Sw.bp (Zw53.p2 BK144.out)⟩, ⟨Sw.bf BK145.out NB145_144.out⟩, ⟨Sw.hb⟩⟩
        case rest =>
         clear HC15
         try clear c1
         try clear p1
         try clear q1
         try clear hx1
         try clear c2
         try clear p2
         try clear c5
         try clear c6
         try clear c6b0
         try clear c6b1
         try clear p6
         try clear c7
         try clear c9
         try clear c11
         try clear c12
         try clear c12b0
         try clear c13
         try clear c13b0
         try clear p14
         try clear q14
         try clear hx14
         try clear c16
         try clear c18
         try clear c18b0
         try clear c18b1
         try clear c19
         try clear c19b0
         try clear c19b1
         try clear c20
         try clear c22
         try clear c24
         try clear hcz10_0 hcz10_1 hcz10_2 hcz10_3
         try clear hcz17_0 hcz17_1 hcz17_2 hcz17_3
         try clear hcz21_0 hcz21_1 hcz21_2 hcz21_3
         try clear hcz23_0 hcz23_1 hcz23_2 hcz23_3
         try clear hcz25_0 hcz25_1 hcz25_2 hcz25_3
         try clear hcz8_0 hcz8_1 hcz8_2 hcz8_3
         try clear hfz10_0 hfz10_1 hfz10_2 hfz10_3
         try clear hfz17_0 hfz17_1 hfz17_2 hfz17_3
         try clear hfz21_0 hfz21_1 hfz21_2 hfz21_3
         try clear hfz23_0 hfz23_1 hfz23_2 hfz23_3
         try clear hfz25_0 hfz25_1 hfz25_2 hfz25_3
         try clear hfz8_0 hfz8_1 hfz8_2 hfz8_3
         try clear p14
         try clear p2
         try clear q14
         obtain ⟨kq, x45_14, rfl, HA, HJ14, HO_7, HO_8, BK144, BK145, HB⟩ := hcut
         cases kq with
         | zero => exact absurd HA.out (by simp [spec_l2Feed.j2])
         | succ kj14 =>
          have H := HA.out
          clear HA
          simp only [spec_l2Feed.j2] at H
          by_cases c26 : x45_14 = true
          ·subst c26
           have H1 : (spec_l2Feed.l0 kj14 a1 x7_2 x8_2 (wrap64 (x9_2 + 1)) a0_0 (wrap64 (15 - (wrap64 (bt a1 x9_2)))) (wrap64 (x145002_2 + 1)) a0_3) = some (r1, r2, r3, r4, r5, r6) := by rw [if_pos rfl] at H; exact H
           clear H
           have H := H1
           clear H1
           have H' := Aside0.mk H
           clear H
           have hnb27 := NB144_145.out
           have hnc27 := NB145_144.out
           obtain ⟨hcz28_0, hcz28_1, hcz28_2, hcz28_3⟩ := Sw.cz4 BK144.out
           obtain ⟨hfz28_0, hfz28_1, hfz28_2, hfz28_3⟩ := Sw.fz4 BK144.out
           go_wp2
           go_roundg kj14
           case measure => have := HJ2.out; have := HK2.out; have := HJ14.out; omega
           case rel => exact ⟨(x7_2), (x8_2), (wrap64 (x9_2 + 1)), (wrap64 (15 - (wrap64 (bt a1 x9_2)))), ((wrap64 (x145002_2 + 1))), Sw.r, H', ⟨Zb53_7⟩, ⟨Sw.rt (Kd.R_mono (Zw53.f1 HO_7.out BK144.out) (fun _ hk => hk.1))⟩, ⟨Sw.rt (Kd.R_mono (Zw53.f1 HO_8.out BK144.out) (fun _ hk => hk.1))⟩, ⟨Sw.bp (Zw53.p1 BK144.out)⟩, ⟨Sw.bf BK145.out NB145_144.out⟩, ⟨Sw.hb⟩⟩
          ·replace c26 := Bool.eq_false_iff.mpr c26
           subst c26
           have H1 : (if a0_0 = 5 then ((spec_l2Shifted.f kj14 x145001_2 (wrap64 (bt a1 x9_2))).bind fun t146 => (if x7_2.length < 17592186044416 then (if x8_2.length < 17592186044416 then (spec_l2Feed.l0 kj14 a1 (x7_2 ++ [t146]) (x8_2 ++ [(wrap64 (x145002_2 + 1))]) (wrap64 (x9_2 + 1)) a0_0 x145001_2 0 a0_3) else (none)) else (none))) else (if x7_2.length < 17592186044416 then (if x8_2.length < 17592186044416 then (spec_l2Feed.l0 kj14 a1 (x7_2 ++ [(wrap64 (bt a1 x9_2))]) (x8_2 ++ [(wrap64 (x145002_2 + 1))]) (wrap64 (x9_2 + 1)) a0_0 x145001_2 0 a0_3) else (none)) else (none))) = some (r1, r2, r3, r4, r5, r6) := by rw [if_neg (show ¬ (false = true) by decide)] at H; exact H
           clear H
           have H := H1
           clear H1
           by_cases c29 : a0_0 = 5
           ·rw [if_pos c29] at H
            have c29b0 : (a0_0 == 5) = true := beq_iff_eq.mpr c29
            have c29b1 : (a0_0 != 5) = false := bne_eq_false_iff_eq.mpr c29
            clear c29
            replace H := Option.bind_eq_some_iff.mp H
            obtain ⟨t146, A300, H⟩ := H
            replace H : (if x7_2.length < 17592186044416 then (if x8_2.length < 17592186044416 then (spec_l2Feed.l0 kj14 a1 (x7_2 ++ [t146]) (x8_2 ++ [(wrap64 (x145002_2 + 1))]) (wrap64 (x9_2 + 1)) a0_0 x145001_2 0 a0_3) else (none)) else (none)) = some (r1, r2, r3, r4, r5, r6) := H
            have A30 := Aside0.mk A300
            clear A300
            by_cases c31 : x7_2.length < 17592186044416
            ·rw [if_pos c31] at H
             have LMc31 := Aside0.mk c31
             clear c31
             obtain ⟨y147, hy147⟩ : ∃ y_ : List Int, y_ = (x7_2 ++ [t146]) := ⟨_, rfl⟩
             replace H : (if x8_2.length < 17592186044416 then (spec_l2Feed.l0 kj14 a1 y147 (x8_2 ++ [(wrap64 (x145002_2 + 1))]) (wrap64 (x9_2 + 1)) a0_0 x145001_2 0 a0_3) else (none)) = some (r1, r2, r3, r4, r5, r6) := by rw [hy147]; exact H
             have Ny147 := Aside0.mk hy147
             clear hy147
             by_cases c32 : x8_2.length < 17592186044416
             ·rw [if_pos c32] at H
              have LMc32 := Aside0.mk c32
              clear c32
              obtain ⟨y150, hy150⟩ : ∃ y_ : List Int, y_ = (x8_2 ++ [(wrap64 (x145002_2 + 1))]) := ⟨_, rfl⟩
              replace H : (spec_l2Feed.l0 kj14 a1 y147 y150 (wrap64 (x9_2 + 1)) a0_0 x145001_2 0 a0_3) = some (r1, r2, r3, r4, r5, r6) := by rw [hy150]; exact H
              have Ny150 := Aside0.mk hy150
              clear hy150
              have H' := Aside0.mk H
              clear H
              have hnb33 := NB144_145.out
              have hnc33 := NB145_144.out
              obtain ⟨hcz34_0, hcz34_1, hcz34_2, hcz34_3⟩ := Sw.cz4 BK144.out
              obtain ⟨hfz34_0, hfz34_1, hfz34_2, hfz34_3⟩ := Sw.fz4 BK144.out
              go_wp2_with (first | ((with_reducible refine gate_callee (f := 96) rfl ?_); refine goesL_ (some 55) rfl rfl Tryd.func96 (by kernel_rfl) rfl #[.int .i64 x145001_2, .int .i64 (wrap64 (bt a1 x9_2))] rfl Zb53_6 ?_; (with_reducible refine (spec_l2Shifted.calls kj14 x145001_2 (wrap64 (bt a1 x9_2)) t146 _ A30.out).mono ?_); rintro e w' ⟨rfl, ⟨nd, rfl⟩⟩; refine ⟨_, rfl, ?_⟩; (try (rw [drewN_self wc]; generalize hq_ : World.drewN wc _ = wc; have n0_ : Aside0 (Kd.R (Kd.int .i64) 3 wc w.heap.size (fun k_ => some k_ ≠ (u8 : Value).ownBlock) u7 x7_2) := ⟨by rw [← hq_]; exact (Sw.rt HO_7.out)⟩; have n1_ : Aside0 (Kd.R (Kd.int .i64) 3 wc w.heap.size (fun k_ => some k_ ≠ (u7 : Value).ownBlock) u8 x8_2) := ⟨by rw [← hq_]; exact (Sw.rt HO_8.out)⟩; have n2_ : Aside0 (wc.heap[gb144]? = some (.cells #[.int .i64 a0_0, .int .i64 x145001_2, .int .i64 (wrap64 (x145002_2 + 1)), .string a0_3] 25 (0, 0))) := ⟨by rw [← hq_]; exact (Sw.bk BK144.out)⟩; have n3_ : Aside0 (wc.heap[gb145]? = some (.cells #[.int .i64 0, .int .i64 0, .int .i64 0, .string (⟨#[]⟩ : ByteArray)] 25 (0, 0))) := ⟨by rw [← hq_]; exact (Sw.bk BK145.out)⟩; have n4_ : Aside0 (Below w.heap.size w wc) := ⟨by rw [← hq_]; exact Sw.hb⟩; clear HO_7 HO_8 BK144 BK145 HB hq_; have HO_7 := n0_; have HO_8 := n1_; have BK144 := n2_; have BK145 := n3_; have HB := n4_; clear n0_ n1_ n2_ n3_ n4_))) | ((with_reducible refine gate_builtin (b := .append) (xs := #[.tmp 56, .tmp 58]) rfl ?_); at_builtin; refine Kd.R_append (Kd.int .i64) (w0 := w) w.heap.size rfl (.tmp 56) (.tmp 58) 28 3 (.int .i64 0) 8 rfl Tryd.underlying28 info3 rfl (by decide) (by omega) u7 x7_2 t146 [.int .i64 t146] (fun k_ => some k_ ≠ (u8 : Value).ownBlock) (fun _ => False) rfl rfl ?aP (fun _ hk => hk.elim) ?aF ?aO ?aB ?aS ?aL ?_; (case aP => exact rfl); (case aB => exact Sw.hb); (case aF => exact (fun k_ hk => Kd.fresh' (Kd.R_lt (Sw.rt HO_8.out)) k_ hk)); (case aO => exact (Sw.rt HO_7.out)); (case aS => exact (below_size Sw.hb)); (case aL => have := LMc31.out; omega); intro v148 w35 ho hb hg hat; rw [← Ny147.out] at ho; replace HO_8 := Aside0.mk (Kd.R_after (ok := (fun _ => True)) (Sw.rt (Kd.R_mono HO_8.out (fun _ hk => ⟨trivial, hk⟩))) hg hat); replace BK144 := Aside0.mk (blk_grown (g := gb144) (o := .cells #[.int .i64 a0_0, .int .i64 x145001_2, .int .i64 (wrap64 (x145002_2 + 1)), .string a0_3] 25 (0, 0)) (Sw.bk BK144.out) hg (Kd.R_ne HO_7.out BK144.out (by decide))); replace BK145 := Aside0.mk (blk_grown (g := gb145) (o := .cells #[.int .i64 0, .int .i64 0, .int .i64 0, .string (⟨#[]⟩ : ByteArray)] 25 (0, 0)) (Sw.bk BK145.out) hg (Kd.R_ne HO_7.out BK145.out (by decide))); replace HB := Aside0.mk (hb); have HO149 := Aside0.mk (ho); clear HO_7; clear ho hb hg hat; obtain ⟨hcz36_0, hcz36_1, hcz36_2, hcz36_3⟩ := Sw.cz4 BK144.out; obtain ⟨hfz36_0, hfz36_1, hfz36_2, hfz36_3⟩ := Sw.fz4 BK144.out) | ((with_reducible refine gate_builtin (b := .append) (xs := #[.tmp 60, .tmp 63]) rfl ?_); at_builtin; refine Kd.R_append (Kd.int .i64) (w0 := w) w.heap.size rfl (.tmp 60) (.tmp 63) 28 3 (.int .i64 0) 8 rfl Tryd.underlying28 info3 rfl (by decide) (by omega) u8 x8_2 (wrap64 (x145002_2 + 1)) [.int .i64 (wrap64 (x145002_2 + 1))] (fun k_ => some k_ ≠ (v148 : Value).ownBlock) (fun _ => False) rfl rfl ?aP (fun _ hk => hk.elim) ?aF ?aO ?aB ?aS ?aL ?_; (case aP => exact rfl); (case aB => exact Sw.hb); (case aF => exact (fun k_ hk => Kd.fresh' (Kd.R_lt (Sw.rt HO149.out)) k_ hk)); (case aO => exact (Sw.rt (Kd.R_mono HO_8.out (fun _ hk => hk.2)))); (case aS => exact (below_size Sw.hb)); (case aL => have := LMc32.out; omega); intro v151 w37 ho hb hg hat; rw [← Ny150.out] at ho; replace BK144 := Aside0.mk (blk_grown (g := gb144) (o := .cells #[.int .i64 a0_0, .int .i64 x145001_2, .int .i64 (wrap64 (x145002_2 + 1)), .string a0_3] 25 (0, 0)) (Sw.bk BK144.out) hg (Kd.R_ne HO_8.out BK144.out (by decide))); replace BK145 := Aside0.mk (blk_grown (g := gb145) (o := .cells #[.int .i64 0, .int .i64 0, .int .i64 0, .string (⟨#[]⟩ : ByteArray)] 25 (0, 0)) (Sw.bk BK145.out) hg (Kd.R_ne HO_8.out BK145.out (by decide))); replace HO149 := Aside0.mk (Kd.R_after (ok := (fun _ => True)) (Sw.rt (Kd.R_mono HO149.out (fun _ hk => ⟨trivial, hk⟩))) hg hat); replace HB := Aside0.mk (hb); have HO152 := Aside0.mk (ho); clear HO_8; clear ho hb hg hat; obtain ⟨hcz38_0, hcz38_1, hcz38_2, hcz38_3⟩ := Sw.cz4 BK144.out; obtain ⟨hfz38_0, hfz38_1, hfz38_2, hfz38_3⟩ := Sw.fz4 BK144.out))
              go_roundg kj14
              case measure => have := HJ2.out; have := HK2.out; have := HJ14.out; omega
              case rel => exact ⟨(y147), (y150), (wrap64 (x9_2 + 1)), (x145001_2), (0), Sw.r, H', ⟨Zb53_7⟩, ⟨Sw.rt (Kd.R_mono (Zw53.f2 HO149.out BK144.out) (fun _ hk => hk.1.2))⟩, ⟨Sw.rt (Kd.R_mono (Zw53.f2 HO152.out BK144.out) (fun _ hk => hk.1))⟩, ⟨Sw.bp (Zw53.p2 BK144.out)⟩, ⟨Sw.bf BK145.out NB145_144.out⟩, ⟨Sw.hb⟩⟩
             ·rw [if_neg c32] at H
              exact absurd H (by simp)
            ·rw [if_neg c31] at H
             exact absurd H (by simp)
           ·rw [if_neg c29] at H
            have c29b0 : (a0_0 == 5) = false := beq_eq_false_iff_ne.mpr c29
            have c29b1 : (a0_0 != 5) = true := bne_iff_ne.mpr c29
            by_cases c39 : x7_2.length < 17592186044416
            ·rw [if_pos c39] at H
             have LMc39 := Aside0.mk c39
             clear c39
             obtain ⟨y153, hy153⟩ : ∃ y_ : List Int, y_ = (x7_2 ++ [(wrap64 (bt a1 x9_2))]) := ⟨_, rfl⟩
             replace H : (if x8_2.length < 17592186044416 then (spec_l2Feed.l0 kj14 a1 y153 (x8_2 ++ [(wrap64 (x145002_2 + 1))]) (wrap64 (x9_2 + 1)) a0_0 x145001_2 0 a0_3) else (none)) = some (r1, r2, r3, r4, r5, r6) := by rw [hy153]; exact H
             have Ny153 := Aside0.mk hy153
             clear hy153
             by_cases c40 : x8_2.length < 17592186044416
             ·rw [if_pos c40] at H
              have LMc40 := Aside0.mk c40
              clear c40
              obtain ⟨y156, hy156⟩ : ∃ y_ : List Int, y_ = (x8_2 ++ [(wrap64 (x145002_2 + 1))]) := ⟨_, rfl⟩
              replace H : (spec_l2Feed.l0 kj14 a1 y153 y156 (wrap64 (x9_2 + 1)) a0_0 x145001_2 0 a0_3) = some (r1, r2, r3, r4, r5, r6) := by rw [hy156]; exact H
              have Ny156 := Aside0.mk hy156
              clear hy156
              have H' := Aside0.mk H
              clear H
              have hnb41 := NB144_145.out
              have hnc41 := NB145_144.out
              obtain ⟨hcz42_0, hcz42_1, hcz42_2, hcz42_3⟩ := Sw.cz4 BK144.out
              obtain ⟨hfz42_0, hfz42_1, hfz42_2, hfz42_3⟩ := Sw.fz4 BK144.out
              go_wp2_with (first | ((with_reducible refine gate_builtin (b := .append) (xs := #[.tmp 56, .tmp 58]) rfl ?_); at_builtin; refine Kd.R_append (Kd.int .i64) (w0 := w) w.heap.size rfl (.tmp 56) (.tmp 58) 28 3 (.int .i64 0) 8 rfl Tryd.underlying28 info3 rfl (by decide) (by omega) u7 x7_2 (wrap64 (bt a1 x9_2)) [.int .i64 (wrap64 (bt a1 x9_2))] (fun k_ => some k_ ≠ (u8 : Value).ownBlock) (fun _ => False) rfl rfl ?aP (fun _ hk => hk.elim) ?aF ?aO ?aB ?aS ?aL ?_; (case aP => exact rfl); (case aB => exact Sw.hb); (case aF => exact (fun k_ hk => Kd.fresh' (Kd.R_lt (Sw.rt HO_8.out)) k_ hk)); (case aO => exact (Sw.rt HO_7.out)); (case aS => exact (below_size Sw.hb)); (case aL => have := LMc39.out; omega); intro v154 w43 ho hb hg hat; rw [← Ny153.out] at ho; replace HO_8 := Aside0.mk (Kd.R_after (ok := (fun _ => True)) (Sw.rt (Kd.R_mono HO_8.out (fun _ hk => ⟨trivial, hk⟩))) hg hat); replace BK144 := Aside0.mk (blk_grown (g := gb144) (o := .cells #[.int .i64 a0_0, .int .i64 x145001_2, .int .i64 (wrap64 (x145002_2 + 1)), .string a0_3] 25 (0, 0)) (Sw.bk BK144.out) hg (Kd.R_ne HO_7.out BK144.out (by decide))); replace BK145 := Aside0.mk (blk_grown (g := gb145) (o := .cells #[.int .i64 0, .int .i64 0, .int .i64 0, .string (⟨#[]⟩ : ByteArray)] 25 (0, 0)) (Sw.bk BK145.out) hg (Kd.R_ne HO_7.out BK145.out (by decide))); replace HB := Aside0.mk (hb); have HO155 := Aside0.mk (ho); clear HO_7; clear ho hb hg hat; obtain ⟨hcz44_0, hcz44_1, hcz44_2, hcz44_3⟩ := Sw.cz4 BK144.out; obtain ⟨hfz44_0, hfz44_1, hfz44_2, hfz44_3⟩ := Sw.fz4 BK144.out) | ((with_reducible refine gate_builtin (b := .append) (xs := #[.tmp 60, .tmp 63]) rfl ?_); at_builtin; refine Kd.R_append (Kd.int .i64) (w0 := w) w.heap.size rfl (.tmp 60) (.tmp 63) 28 3 (.int .i64 0) 8 rfl Tryd.underlying28 info3 rfl (by decide) (by omega) u8 x8_2 (wrap64 (x145002_2 + 1)) [.int .i64 (wrap64 (x145002_2 + 1))] (fun k_ => some k_ ≠ (v154 : Value).ownBlock) (fun _ => False) rfl rfl ?aP (fun _ hk => hk.elim) ?aF ?aO ?aB ?aS ?aL ?_; (case aP => exact rfl); (case aB => exact Sw.hb); (case aF => exact (fun k_ hk => Kd.fresh' (Kd.R_lt (Sw.rt HO155.out)) k_ hk)); (case aO => exact (Sw.rt (Kd.R_mono HO_8.out (fun _ hk => hk.2)))); (case aS => exact (below_size Sw.hb)); (case aL => have := LMc40.out; omega); intro v157 w45 ho hb hg hat; rw [← Ny156.out] at ho; replace BK144 := Aside0.mk (blk_grown (g := gb144) (o := .cells #[.int .i64 a0_0, .int .i64 x145001_2, .int .i64 (wrap64 (x145002_2 + 1)), .string a0_3] 25 (0, 0)) (Sw.bk BK144.out) hg (Kd.R_ne HO_8.out BK144.out (by decide))); replace BK145 := Aside0.mk (blk_grown (g := gb145) (o := .cells #[.int .i64 0, .int .i64 0, .int .i64 0, .string (⟨#[]⟩ : ByteArray)] 25 (0, 0)) (Sw.bk BK145.out) hg (Kd.R_ne HO_8.out BK145.out (by decide))); replace HO155 := Aside0.mk (Kd.R_after (ok := (fun _ => True)) (Sw.rt (Kd.R_mono HO155.out (fun _ hk => ⟨trivial, hk⟩))) hg hat); replace HB := Aside0.mk (hb); have HO158 := Aside0.mk (ho); clear HO_8; clear ho hb hg hat; obtain ⟨hcz46_0, hcz46_1, hcz46_2, hcz46_3⟩ := Sw.cz4 BK144.out; obtain ⟨hfz46_0, hfz46_1, hfz46_2, hfz46_3⟩ := Sw.fz4 BK144.out))
              go_roundg kj14
              case measure => have := HJ2.out; have := HK2.out; have := HJ14.out; omega
              case rel => exact ⟨(y153), (y156), (wrap64 (x9_2 + 1)), (x145001_2), (0), Sw.r, H', ⟨Zb53_7⟩, ⟨Sw.rt (Kd.R_mono (Zw53.f2 HO155.out BK144.out) (fun _ hk => hk.1.2))⟩, ⟨Sw.rt (Kd.R_mono (Zw53.f2 HO158.out BK144.out) (fun _ hk => hk.1))⟩, ⟨Sw.bp (Zw53.p2 BK144.out)⟩, ⟨Sw.bf BK145.out NB145_144.out⟩, ⟨Sw.hb⟩⟩
             ·rw [if_neg c40] at H
              exact absurd H (by simp)
            ·rw [if_neg c39] at H
             exact absurd H (by simp)
       ·rw [if_neg c13] at H
        exact absurd H (by simp)
      ·rw [if_neg c12] at H
       have c12b0 : decide (x9_2 < (a1.size : Int)) = false := decide_eq_false c12
       clear c12
       simp only [Option.some.injEq, Prod.mk.injEq] at H
       obtain ⟨rfl, rfl, rfl, rfl, rfl, rfl⟩ := H
       have hnb47 := NB144_145.out
       have hnc47 := NB145_144.out
       obtain ⟨hcz48_0, hcz48_1, hcz48_2, hcz48_3⟩ := Sw.cz4 BK144.out
       obtain ⟨hfz48_0, hfz48_1, hfz48_2, hfz48_3⟩ := Sw.fz4 BK144.out
       obtain ⟨hcz49_0, hcz49_1, hcz49_2, hcz49_3⟩ := Sw.cz4 BK145.out
       obtain ⟨hfz49_0, hfz49_1, hfz49_2, hfz49_3⟩ := Sw.fz4 BK145.out
       go_wp2
       refine bodyPost_ret (results_ctt rfl _ _ gb145 25 #[.int .i64 a0_0, .int .i64 x145001_2, .int .i64 x145002_2, .string a0_3] (0, 0) _ rfl (Sw.bp (Sw.p0_1_2_3 BK145.out)) Tryd.underlying25 rfl (by kernel_rfl)) rfl ?_
       exact ⟨_, _, Sw.e, by (with_reducible repeat (first | apply Kd.R_alloc | apply Kd.R_drewN | apply Kd.R_drew)); exact Kd.R_mono (Sw.f0_1_2_3 HO_7.out BK145.out) (fun _ hk => hk.1), by (with_reducible repeat (first | apply Kd.R_alloc | apply Kd.R_drewN | apply Kd.R_drew)); exact Kd.R_mono (Sw.f0_1_2_3 HO_8.out BK145.out) (fun _ hk => hk.1), Zb53_3⟩
   ·replace c11 := Bool.eq_false_iff.mpr c11
    subst c11
    have H1 : (if a0_3.size + a1.size ≤ 9223372036854775807 then (spec_l2Feed.l1 kj2 (a0_3 ++ a1) ([] : List Int) ([] : List Int) a0_0 a0_1 a0_2 a0_3) else (none)) = some (r1, r2, r3, r4, r5, r6) := by rw [if_neg (show ¬ (false = true) by decide)] at H; exact H
    clear H
    have H := H1
    clear H1
    by_cases c50 : a0_3.size + a1.size ≤ 9223372036854775807
    ·rw [if_pos c50] at H
     have c50b0 := eq_true c50
     have c50b1 : decide (a0_3.size + a1.size ≤ 9223372036854775807) = true := decide_eq_true c50
     try have c50b2 : (9223372036854775807 < a0_3.size + a1.size) = False := eq_false (Nat.not_lt.2 c50)
     have H' := Aside0.mk H
     clear H
     have hnb51 := NB144_145.out
     have hnc51 := NB145_144.out
     obtain ⟨hcz52_0, hcz52_1, hcz52_2, hcz52_3⟩ := Sw.cz4 BK144.out
     obtain ⟨hfz52_0, hfz52_1, hfz52_2, hfz52_3⟩ := Sw.fz4 BK144.out
     go_wp2
     go_loopg [1, 7, 8] kj2 (fun kq v1 v7 v8 w' => ∃ (x1_2 : ByteArray) (x7_2 : List Int) (x8_2 : List Int), v1 = .string x1_2 ∧ Aside0 (spec_l2Feed.l1 kq x1_2 x7_2 x8_2 a0_0 a0_1 a0_2 a0_3 = some (r1, r2, r3, r4, r5, r6)) ∧ Aside0 (kq ≤ kj2) ∧ Aside0 (Kd.R (Kd.int .i64) 3 w' w.heap.size (fun k_ => some k_ ≠ (v8 : Value).ownBlock) v7 x7_2) ∧ Aside0 (Kd.R (Kd.int .i64) 3 w' w.heap.size (fun k_ => some k_ ≠ (v7 : Value).ownBlock) v8 x8_2) ∧ Aside0 (w'.heap[gb144]? = some (.cells #[.int .i64 a0_0, .int .i64 a0_1, .int .i64 a0_2, .string a0_3] 25 (0, 0))) ∧ Aside0 (w'.heap[gb145]? = some (.cells #[.int .i64 0, .int .i64 0, .int .i64 0, .string (⟨#[]⟩ : ByteArray)] 25 (0, 0))) ∧ Aside0 (Below w.heap.size w w'))
     case atStart => exact ⟨(a0_3 ++ a1), (([] : List Int)), (([] : List Int)), Sw.r, H', ⟨Nat.le_refl _⟩, ⟨Sw.rt HO_7.out⟩, ⟨Sw.rt HO_8.out⟩, ⟨Sw.bk BK144.out⟩, ⟨Sw.bk BK145.out⟩, ⟨Sw.hb⟩⟩
     case round =>
      clear H'
      try clear c1
      try clear p1
      try clear q1
      try clear hx1
      try clear c2
      try clear p2
      try clear c3
      try clear c4
      try clear c5
      try clear c6
      try clear c6b0
      try clear c6b1
      try clear p6
      try clear c7
      try clear c9
      try clear c11
      try clear c12
      try clear c12b0
      try clear c13
      try clear c13b0
      try clear p14
      try clear q14
      try clear hx14
      try clear c16
      try clear c18
      try clear c18b0
      try clear c18b1
      try clear c19
      try clear c19b0
      try clear c19b1
      try clear c20
      try clear c22
      try clear c24
      try clear c26
      try clear c27
      try clear c29
      try clear c29b0
      try clear c29b1
      try clear c31
      try clear c32
      try clear c33
      try clear c39
      try clear c40
      try clear c41
      try clear c47
      try clear c50
      try clear c50b0
      try clear c50b1
      try clear c50b2
      try clear c51
      try clear hcz10_0 hcz10_1 hcz10_2 hcz10_3
      try clear hcz17_0 hcz17_1 hcz17_2 hcz17_3
      try clear hcz21_0 hcz21_1 hcz21_2 hcz21_3
      try clear hcz23_0 hcz23_1 hcz23_2 hcz23_3
      try clear hcz25_0 hcz25_1 hcz25_2 hcz25_3
      try clear hcz28_0 hcz28_1 hcz28_2 hcz28_3
      try clear hcz34_0 hcz34_1 hcz34_2 hcz34_3
      try clear hcz36_0 hcz36_1 hcz36_2 hcz36_3
      try clear hcz38_0 hcz38_1 hcz38_2 hcz38_3
      try clear hcz42_0 hcz42_1 hcz42_2 hcz42_3
      try clear hcz44_0 hcz44_1 hcz44_2 hcz44_3
      try clear hcz46_0 hcz46_1 hcz46_2 hcz46_3
      try clear hcz48_0 hcz48_1 hcz48_2 hcz48_3
      try clear hcz49_0 hcz49_1 hcz49_2 hcz49_3
      try clear hcz52_0 hcz52_1 hcz52_2 hcz52_3
      try clear hcz8_0 hcz8_1 hcz8_2 hcz8_3
      try clear hfz10_0 hfz10_1 hfz10_2 hfz10_3
      try clear hfz17_0 hfz17_1 hfz17_2 hfz17_3
      try clear hfz21_0 hfz21_1 hfz21_2 hfz21_3
      try clear hfz23_0 hfz23_1 hfz23_2 hfz23_3
      try clear hfz25_0 hfz25_1 hfz25_2 hfz25_3
      try clear hfz28_0 hfz28_1 hfz28_2 hfz28_3
      try clear hfz34_0 hfz34_1 hfz34_2 hfz34_3
      try clear hfz36_0 hfz36_1 hfz36_2 hfz36_3
      try clear hfz38_0 hfz38_1 hfz38_2 hfz38_3
      try clear hfz42_0 hfz42_1 hfz42_2 hfz42_3
      try clear hfz44_0 hfz44_1 hfz44_2 hfz44_3
      try clear hfz46_0 hfz46_1 hfz46_2 hfz46_3
      try clear hfz48_0 hfz48_1 hfz48_2 hfz48_3
      try clear hfz49_0 hfz49_1 hfz49_2 hfz49_3
      try clear hfz52_0 hfz52_1 hfz52_2 hfz52_3
      try clear hfz8_0 hfz8_1 hfz8_2 hfz8_3
      try clear p1
      try clear p14
      try clear p2
      try clear p6
      try clear q1
      try clear q14
      obtain ⟨x1_2, x7_2, x8_2, rfl, HA, HK2, HO_7, HO_8, BK144, BK145, HB⟩ := hrel
      cases gk with
      | zero => exact absurd HA.out (by simp [spec_l2Feed.l1])
      | succ k2 =>
       have H := HA.out
       clear HA
       simp only [spec_l2Feed.l1] at H
       by_cases c53 : x1_2.toList = ([] : List UInt8)
       ·rw [if_pos c53] at H
        have c53b0 : (x1_2.toList == ([] : List UInt8)) = true := beq_iff_eq.mpr c53
        have c53b1 : (x1_2.toList != ([] : List UInt8)) = false := bne_eq_false_iff_eq.mpr c53
        clear c53
        simp only [Option.some.injEq, Prod.mk.injEq] at H
        obtain ⟨rfl, rfl, rfl, rfl, rfl, rfl⟩ := H
        have hnb54 := NB144_145.out
        have hnc54 := NB145_144.out
        obtain ⟨hcz55_0, hcz55_1, hcz55_2, hcz55_3⟩ := Sw.cz4 BK144.out
        obtain ⟨hfz55_0, hfz55_1, hfz55_2, hfz55_3⟩ := Sw.fz4 BK144.out
        obtain ⟨hcz56_0, hcz56_1, hcz56_2, hcz56_3⟩ := Sw.cz4 BK145.out
        obtain ⟨hfz56_0, hfz56_1, hfz56_2, hfz56_3⟩ := Sw.fz4 BK145.out
        go_wp2
        refine bodyPost_ret (results_ctt rfl _ _ gb145 25 #[.int .i64 a0_0, .int .i64 a0_1, .int .i64 a0_2, .string x1_2] (0, 0) _ rfl Zb53_0 Tryd.underlying25 rfl (by kernel_rfl)) rfl ?_
        exact ⟨_, _, Sw.e, Zb53_1, Zb53_2, Zb53_3⟩
       ·rw [if_neg c53] at H
        have c53b0 : (x1_2.toList == ([] : List UInt8)) = false := beq_eq_false_iff_ne.mpr c53
        have c53b1 : (x1_2.toList != ([] : List UInt8)) = true := bne_iff_ne.mpr c53
        replace H := Option.bind_eq_some_iff.mp H
        obtain ⟨⟨t159, t160⟩, A570, H⟩ := H
        replace H : (if t160 = 0 then (some (a0_0, a0_1, a0_2, x1_2, x7_2, x8_2)) else (if x7_2.length < 17592186044416 then (if x8_2.length < 17592186044416 then (if 0 ≤ t160 then (if t160 ≤ (x1_2.size : Int) then (spec_l2Feed.l1 k2 (x1_2.extract (t160 : Int).toNat x1_2.size) (x7_2 ++ [t159]) (x8_2 ++ [t160]) a0_0 a0_1 a0_2 a0_3) else (none)) else (none)) else (none)) else (none))) = some (r1, r2, r3, r4, r5, r6) := H
        have A57 := Aside0.mk A570
        clear A570
        by_cases c58 : t160 = 0
        ·rw [if_pos c58] at H
         have c58b0 : (t160 == 0) = true := beq_iff_eq.mpr c58
         have c58b1 : (t160 != 0) = false := bne_eq_false_iff_eq.mpr c58
         clear c58
         simp only [Option.some.injEq, Prod.mk.injEq] at H
         obtain ⟨rfl, rfl, rfl, rfl, rfl, rfl⟩ := H
         have hnb59 := NB144_145.out
         have hnc59 := NB145_144.out
         obtain ⟨hcz60_0, hcz60_1, hcz60_2, hcz60_3⟩ := Sw.cz4 BK144.out
         obtain ⟨hfz60_0, hfz60_1, hfz60_2, hfz60_3⟩ := Sw.fz4 BK144.out
         go_wp2_with (first | ((with_reducible refine gate_callee (f := 97) rfl ?_); refine goesL_ (some 79) rfl rfl Tryd.func97 (by kernel_rfl) rfl #[.int .i64 a0_0, .string x1_2] rfl Zb53_6 ?_; (with_reducible refine (spec_l2One.calls k2 a0_0 x1_2 t159 t160 _ A57.out).mono ?_); rintro e w61 ⟨rfl, hb⟩; refine ⟨_, rfl, ?_⟩; replace HO_7 := Aside0.mk (Kd.R_below (Sw.rt HO_7.out) hb); replace HO_8 := Aside0.mk (Kd.R_below (Sw.rt HO_8.out) hb); replace BK144 := Aside0.mk (Sw.bl BK144.out hb); replace BK145 := Aside0.mk (Sw.bl BK145.out hb); replace HB := Aside0.mk (below_step Sw.hb hb); obtain ⟨hcz62_0, hcz62_1, hcz62_2, hcz62_3⟩ := Sw.cz4 BK144.out; obtain ⟨hfz62_0, hfz62_1, hfz62_2, hfz62_3⟩ := Sw.fz4 BK144.out; obtain ⟨hcz63_0, hcz63_1, hcz63_2, hcz63_3⟩ := Sw.cz4 BK145.out; obtain ⟨hfz63_0, hfz63_1, hfz63_2, hfz63_3⟩ := Sw.fz4 BK145.out))
         refine bodyPost_ret (results_ctt rfl _ _ gb145 25 #[.int .i64 a0_0, .int .i64 a0_1, .int .i64 a0_2, .string x1_2] (0, 0) _ rfl Zb53_0 Tryd.underlying25 rfl (by kernel_rfl)) rfl ?_
         exact ⟨_, _, Sw.e, Zb53_1, Zb53_2, Zb53_3⟩
        ·rw [if_neg c58] at H
         have c58b0 : (t160 == 0) = false := beq_eq_false_iff_ne.mpr c58
         have c58b1 : (t160 != 0) = true := bne_iff_ne.mpr c58
         by_cases c64 : x7_2.length < 17592186044416
         ·rw [if_pos c64] at H
          have LMc64 := Aside0.mk c64
          clear c64
          obtain ⟨y161, hy161⟩ : ∃ y_ : List Int, y_ = (x7_2 ++ [t159]) := ⟨_, rfl⟩
          replace H : (if x8_2.length < 17592186044416 then (if 0 ≤ t160 then (if t160 ≤ (x1_2.size : Int) then (spec_l2Feed.l1 k2 (x1_2.extract (t160 : Int).toNat x1_2.size) y161 (x8_2 ++ [t160]) a0_0 a0_1 a0_2 a0_3) else (none)) else (none)) else (none)) = some (r1, r2, r3, r4, r5, r6) := by rw [hy161]; exact H
          have Ny161 := Aside0.mk hy161
          clear hy161
          by_cases c65 : x8_2.length < 17592186044416
          ·rw [if_pos c65] at H
           have LMc65 := Aside0.mk c65
           clear c65
           obtain ⟨y164, hy164⟩ : ∃ y_ : List Int, y_ = (x8_2 ++ [t160]) := ⟨_, rfl⟩
           replace H : (if 0 ≤ t160 then (if t160 ≤ (x1_2.size : Int) then (spec_l2Feed.l1 k2 (x1_2.extract (t160 : Int).toNat x1_2.size) y161 y164 a0_0 a0_1 a0_2 a0_3) else (none)) else (none)) = some (r1, r2, r3, r4, r5, r6) := by rw [hy164]; exact H
           have Ny164 := Aside0.mk hy164
           clear hy164
           by_cases c66 : 0 ≤ t160
           ·rw [if_pos c66] at H
            have c66b0 := eq_true c66
            have c66b1 : decide (0 ≤ t160) = true := decide_eq_true c66
            clear c66
            by_cases c67 : t160 ≤ (x1_2.size : Int)
            ·rw [if_pos c67] at H
             have c67b0 := eq_true c67
             have c67b1 : decide (t160 ≤ (x1_2.size : Int)) = true := decide_eq_true c67
             clear c67
             have H' := Aside0.mk H
             clear H
             have hnb68 := NB144_145.out
             have hnc68 := NB145_144.out
             obtain ⟨hcz69_0, hcz69_1, hcz69_2, hcz69_3⟩ := Sw.cz4 BK144.out
             obtain ⟨hfz69_0, hfz69_1, hfz69_2, hfz69_3⟩ := Sw.fz4 BK144.out
             go_wp2_with (first | ((with_reducible refine gate_callee (f := 97) rfl ?_); refine goesL_ (some 79) rfl rfl Tryd.func97 (by kernel_rfl) rfl #[.int .i64 a0_0, .string x1_2] rfl Zb53_6 ?_; (with_reducible refine (spec_l2One.calls k2 a0_0 x1_2 t159 t160 _ A57.out).mono ?_); rintro e w70 ⟨rfl, hb⟩; refine ⟨_, rfl, ?_⟩; replace HO_7 := Aside0.mk (Kd.R_below (Sw.rt HO_7.out) hb); replace HO_8 := Aside0.mk (Kd.R_below (Sw.rt HO_8.out) hb); replace BK144 := Aside0.mk (Sw.bl BK144.out hb); replace BK145 := Aside0.mk (Sw.bl BK145.out hb); replace HB := Aside0.mk (below_step Sw.hb hb)) | ((with_reducible refine gate_builtin (b := .append) (xs := #[.tmp 84, .tmp 86]) rfl ?_); at_builtin; refine Kd.R_append (Kd.int .i64) (w0 := w) w.heap.size rfl (.tmp 84) (.tmp 86) 28 3 (.int .i64 0) 8 rfl Tryd.underlying28 info3 rfl (by decide) (by omega) u7 x7_2 t159 [.int .i64 t159] (fun k_ => some k_ ≠ (u8 : Value).ownBlock) (fun _ => False) rfl rfl ?aP (fun _ hk => hk.elim) ?aF ?aO ?aB ?aS ?aL ?_; (case aP => exact rfl); (case aB => exact Sw.hb); (case aF => exact (fun k_ hk => Kd.fresh' (Kd.R_lt (Sw.rt HO_8.out)) k_ hk)); (case aO => exact (Sw.rt HO_7.out)); (case aS => exact (below_size Sw.hb)); (case aL => have := LMc64.out; omega); intro v162 w71 ho hb hg hat; rw [← Ny161.out] at ho; replace HO_8 := Aside0.mk (Kd.R_after (ok := (fun _ => True)) (Sw.rt (Kd.R_mono HO_8.out (fun _ hk => ⟨trivial, hk⟩))) hg hat); replace BK144 := Aside0.mk (blk_grown (g := gb144) (o := .cells #[.int .i64 a0_0, .int .i64 a0_1, .int .i64 a0_2, .string a0_3] 25 (0, 0)) (Sw.bk BK144.out) hg (Kd.R_ne HO_7.out BK144.out (by decide))); replace BK145 := Aside0.mk (blk_grown (g := gb145) (o := .cells #[.int .i64 0, .int .i64 0, .int .i64 0, .string (⟨#[]⟩ : ByteArray)] 25 (0, 0)) (Sw.bk BK145.out) hg (Kd.R_ne HO_7.out BK145.out (by decide))); replace HB := Aside0.mk (hb); have HO163 := Aside0.mk (ho); clear HO_7; clear ho hb hg hat) | ((with_reducible refine gate_builtin (b := .append) (xs := #[.tmp 88, .tmp 90]) rfl ?_); at_builtin; refine Kd.R_append (Kd.int .i64) (w0 := w) w.heap.size rfl (.tmp 88) (.tmp 90) 28 3 (.int .i64 0) 8 rfl Tryd.underlying28 info3 rfl (by decide) (by omega) u8 x8_2 t160 [.int .i64 t160] (fun k_ => some k_ ≠ (v162 : Value).ownBlock) (fun _ => False) rfl rfl ?aP (fun _ hk => hk.elim) ?aF ?aO ?aB ?aS ?aL ?_; (case aP => exact rfl); (case aB => exact Sw.hb); (case aF => exact (fun k_ hk => Kd.fresh' (Kd.R_lt (Sw.rt HO163.out)) k_ hk)); (case aO => exact (Sw.rt (Kd.R_mono HO_8.out (fun _ hk => hk.2)))); (case aS => exact (below_size Sw.hb)); (case aL => have := LMc65.out; omega); intro v165 w72 ho hb hg hat; rw [← Ny164.out] at ho; replace BK144 := Aside0.mk (blk_grown (g := gb144) (o := .cells #[.int .i64 a0_0, .int .i64 a0_1, .int .i64 a0_2, .string a0_3] 25 (0, 0)) (Sw.bk BK144.out) hg (Kd.R_ne HO_8.out BK144.out (by decide))); replace BK145 := Aside0.mk (blk_grown (g := gb145) (o := .cells #[.int .i64 0, .int .i64 0, .int .i64 0, .string (⟨#[]⟩ : ByteArray)] 25 (0, 0)) (Sw.bk BK145.out) hg (Kd.R_ne HO_8.out BK145.out (by decide))); replace HO163 := Aside0.mk (Kd.R_after (ok := (fun _ => True)) (Sw.rt (Kd.R_mono HO163.out (fun _ hk => ⟨trivial, hk⟩))) hg hat); replace HB := Aside0.mk (hb); have HO166 := Aside0.mk (ho); clear HO_8; clear ho hb hg hat))
             go_roundg k2
             case measure => have := HJ2.out; have := HK2.out; omega
             case rel => exact ⟨(x1_2.extract (t160 : Int).toNat x1_2.size), (y161), (y164), Sw.r, H', ⟨by have := HJ2.out; have := HK2.out; omega⟩, ⟨Sw.rt (Kd.R_mono HO163.out (fun _ hk => hk.2))⟩, ⟨Sw.rt HO166.out⟩, ⟨Sw.bk BK144.out⟩, ⟨Sw.bk BK145.out⟩, ⟨Sw.hb⟩⟩
            ·rw [if_neg c67] at H
             exact absurd H (by simp)
           ·rw [if_neg c66] at H
            exact absurd H (by simp)
          ·rw [if_neg c65] at H
           exact absurd H (by simp)
         ·rw [if_neg c64] at H
          exact absurd H (by simp)
    ·rw [if_neg c50] at H
     exact absurd H (by simp)

theorem Zb9_0 {p : Prop} (h : p := by first | exact Kd.R_nil _ _ _ _ _ | exact Kd.N_nil _ _ _ _ _ | exact Kd.V_nil _ _ _ _ _ | exact Kd.Q_nil _ _ _ _ _ | exact Kd.S_nil _ _ _ _ _) : p := h
theorem Zb9_1 {p : Prop} (h : p := by repeat (first | (with_reducible first | exact HB.out | apply below_alloc | apply pw_below_drewN | apply below_drew1 | refine below_set ?_ GE167.out | refine below_set ?_ GE168.out | refine below_set ?_ GE181.out) | exact HB.out)) : p := h
theorem Zb9_2 {p : Prop} (h : p := by simp only [List.map_toArray, List.map_cons, List.map_nil] <;> rfl) : p := h
def spec_FeedDecoder.j0 : Nat → ByteArray → Bool → Int → Int → Int → ByteArray → Option (Int × Int × Int × ByteArray × List Int × List Int × Bool)
 | 0, _, _, _, _, _, _ => none
 | k + 1, x1, x18, x168000, x168001, x168002, x168003 => if x18 = true then (some (0, 0, 0, (⟨#[]⟩ : ByteArray), ([] : List Int), ([] : List Int), false)) else ((spec_l2Feed.f k x168000 x168001 x168002 x168003 x1).bind fun bt171 => ((spec_GoodDecoder.f k bt171.1 bt171.2.1 bt171.2.2.1 bt171.2.2.2.1).bind fun t182 => (if t182 = true then (some (bt171.1, bt171.2.1, bt171.2.2.1, bt171.2.2.2.1, bt171.2.2.2.2.1, bt171.2.2.2.2.2, true)) else (some (0, 0, 0, (⟨#[]⟩ : ByteArray), ([] : List Int), ([] : List Int), false)))))
def spec_FeedDecoder.f (k : Nat) (a0_0 : Int) (a0_1 : Int) (a0_2 : Int) (a0_3 : ByteArray) (a1 : ByteArray) : Option (Int × Int × Int × ByteArray × List Int × List Int × Bool) := (spec_GoodDecoder.f k a0_0 a0_1 a0_2 a0_3).bind fun t169 => (if t169 = true then ((spec_l1Text.f a1).bind fun t170 => (spec_FeedDecoder.j0 k a1 (!t170) a0_0 a0_1 a0_2 a0_3)) else (spec_FeedDecoder.j0 k a1 true a0_0 a0_1 a0_2 a0_3))
theorem spec_FeedDecoder.mono_l : ∀ k, (∀ y0 y1 y2 y3 y4 y5, LeO (spec_FeedDecoder.j0 k y0 y1 y2 y3 y4 y5) (spec_FeedDecoder.j0 (k + 1) y0 y1 y2 y3 y4 y5))
 | 0 => fun _ _ _ _ _ _ r h => by simp [spec_FeedDecoder.j0] at h
 | k + 1 => by
  have ih0 := spec_FeedDecoder.mono_l k
  ·intro y0 y1 y2 y3 y4 y5
   unfold spec_FeedDecoder.j0
   with_reducible repeat' first | exact ih0 _ _ _ _ _ _ | exact spec_GoodDecoder.mono _ _ _ _ _ | exact spec_l2Feed.mono _ _ _ _ _ _ | exact LeO.refl _ | exact LeO.none _ | refine LeO.ite ?_ ?_ | refine LeO.bind ?_ (fun _ => ?_)
theorem spec_FeedDecoder.mono : ∀ a0 a1 a2 a3 a4 k, LeO (spec_FeedDecoder.f k a0 a1 a2 a3 a4) (spec_FeedDecoder.f (k + 1) a0 a1 a2 a3 a4) := by
 intro a0 a1 a2 a3 a4 k
 have ih0 := spec_FeedDecoder.mono_l k
 unfold spec_FeedDecoder.f
 with_reducible repeat' first | exact ih0 _ _ _ _ _ _ | exact spec_GoodDecoder.mono _ _ _ _ _ | exact spec_l2Feed.mono _ _ _ _ _ _ | exact LeO.refl _ | exact LeO.none _ | refine LeO.ite ?_ ?_ | refine LeO.bind ?_ (fun _ => ?_)
theorem spec_FeedDecoder.calls (k : Nat) (a0_0 : Int) (a0_1 : Int) (a0_2 : Int) (a0_3 : ByteArray) (a1 : ByteArray) (r1 : Int) (r2 : Int) (r3 : Int) (r4 : ByteArray) (r5 : List Int) (r6 : List Int) (r7 : Bool) (w : World) (h : spec_FeedDecoder.f k a0_0 a0_1 a0_2 a0_3 a1 = some (r1, r2, r3, r4, r5, r6, r7)) :
  Calls Tryd.prog 9 #[.agg #[.int .i64 a0_0, .int .i64 a0_1, .int .i64 a0_2, .string a0_3], .string a1] w fun e w' => ∃ v4_ v5_ : Value, e = .returned (.tuple #[.agg #[.int .i64 r1, .int .i64 r2, .int .i64 r3, .string r4], v4_, v5_, .bool r7]) ∧ Kd.R (Kd.int .i64) 3 w' w.heap.size (fun k_ => some k_ ≠ (v5_ : Value).ownBlock) v4_ r5 ∧ Kd.R (Kd.int .i64) 3 w' w.heap.size (fun k_ => some k_ ≠ (v4_ : Value).ownBlock) v5_ r6 ∧ Below w.heap.size w w' := by
 have hu25 := Tryd.underlying25
 have HB := Aside0.mk (Below.refl w.heap.size w)
 have H : ((spec_GoodDecoder.f k a0_0 a0_1 a0_2 a0_3).bind fun t169 => (if t169 = true then ((spec_l1Text.f a1).bind fun t170 => (spec_FeedDecoder.j0 k a1 (!t170) a0_0 a0_1 a0_2 a0_3)) else (spec_FeedDecoder.j0 k a1 true a0_0 a0_1 a0_2 a0_3))) = some (r1, r2, r3, r4, r5, r6, r7) := h
 clear h
 have HC3 := Aside0.mk H
 clear H
 go_enter Tryd.func9, Tryd.ntmps9
 go_upto_region 1 with (first | ((with_reducible refine gate_dst (N := 2) rfl ?_); refine box_event ?hg (N := 2) ?hd (cs := #[.int .i64 a0_0, .int .i64 a0_1, .int .i64 a0_2, .string a0_3]) (t := 25) ?hr ?_; (case hd => rfl); (case hg => rfl); (case hr => go_simp <;> rfl); intro gb167 hg w4 hbox hb; have BK167 := Aside0.mk (hbox); have GW167 := Aside0.mk ((Sw.gs hg)); have GE167 := Aside0.mk ((Sw.gs hg)); replace HB := Aside0.mk (below_step Sw.hb hb); clear hb hbox hg) | ((with_reducible refine gate_dst (N := 4) rfl ?_); refine box_event ?hg (N := 4) ?hd (cs := #[.int .i64 0, .int .i64 0, .int .i64 0, .string (⟨#[]⟩ : ByteArray)]) (t := 25) ?hr ?_; (case hd => rfl); (case hg => rfl); (case hr => go_simp <;> rfl); intro gb168 hg w5 hbox hb; have BK168 := Aside0.mk (hbox); have GW168 := Aside0.mk ((Sw.gs hg)); have GE168 := Aside0.mk ((Sw.gs hg)); replace HB := Aside0.mk (below_step Sw.hb hb); have NB167_168 := Aside0.mk (Sw.nl hg BK167.out); have NB168_167 := Aside0.mk (Sw.ng hg BK167.out); replace BK167 := Aside0.mk (Sw.bl BK167.out hb); clear hb hbox hg))
 (try simp only [Act.put, List.setIfInBounds_toArray, List.set_cons_zero, List.set_cons_succ])
 go_cut [18] (fun v18 wc => ∃ (kq : Nat) (x18_2 : Bool), v18 = .bool x18_2 ∧ Aside0 (spec_FeedDecoder.j0 kq a1 x18_2 a0_0 a0_1 a0_2 a0_3 = some (r1, r2, r3, r4, r5, r6, r7)) ∧ Aside0 (kq ≤ k) ∧ Aside0 (wc.heap[gb167]? = some (.cells #[.int .i64 a0_0, .int .i64 a0_1, .int .i64 a0_2, .string a0_3] 25 (0, 0))) ∧ Aside0 (wc.heap[gb168]? = some (.cells #[.int .i64 0, .int .i64 0, .int .i64 0, .string (⟨#[]⟩ : ByteArray)] 25 (0, 0))) ∧ Aside0 (Below w.heap.size w wc))
 case first =>
  have H := HC3.out
  clear HC3
  replace H := Option.bind_eq_some_iff.mp H
  obtain ⟨t169, A60, H⟩ := H
  replace H : (if t169 = true then ((spec_l1Text.f a1).bind fun t170 => (spec_FeedDecoder.j0 k a1 (!t170) a0_0 a0_1 a0_2 a0_3)) else (spec_FeedDecoder.j0 k a1 true a0_0 a0_1 a0_2 a0_3)) = some (r1, r2, r3, r4, r5, r6, r7) := H
  have A6 := Aside0.mk A60
  clear A60
  by_cases c7 : t169 = true
  ·subst c7
   have H1 : ((spec_l1Text.f a1).bind fun t170 => (spec_FeedDecoder.j0 k a1 (!t170) a0_0 a0_1 a0_2 a0_3)) = some (r1, r2, r3, r4, r5, r6, r7) := by rw [if_pos rfl] at H; exact H
   clear H
   have H := H1
   clear H1
   replace H := Option.bind_eq_some_iff.mp H
   obtain ⟨t170, A80, H⟩ := H
   replace H : (spec_FeedDecoder.j0 k a1 (!t170) a0_0 a0_1 a0_2 a0_3) = some (r1, r2, r3, r4, r5, r6, r7) := H
   have A8 := Aside0.mk A80
   clear A80
   have H' := Aside0.mk H
   clear H
   have hnb9 := NB167_168.out
   have hnc9 := NB168_167.out
   obtain ⟨hcz10_0, hcz10_1, hcz10_2, hcz10_3⟩ := Sw.cz4 BK167.out
   obtain ⟨hfz10_0, hfz10_1, hfz10_2, hfz10_3⟩ := Sw.fz4 BK167.out
   go_wp2_with (first | ((with_reducible refine gate_callee (f := 12) rfl ?_); refine goesL_ (some 12) rfl rfl Tryd.func12 (by kernel_rfl) rfl #[.agg #[.int .i64 a0_0, .int .i64 a0_1, .int .i64 a0_2, .string a0_3]] rfl Zb9_2 ?_; (with_reducible refine (spec_GoodDecoder.calls k a0_0 a0_1 a0_2 a0_3 true _ A6.out).mono ?_); rintro e w11 ⟨rfl, hb⟩; refine ⟨_, rfl, ?_⟩; replace BK167 := Aside0.mk (Sw.bl BK167.out hb); replace BK168 := Aside0.mk (Sw.bl BK168.out hb); replace HB := Aside0.mk (below_step Sw.hb hb)) | (go_at_call 52; (with_reducible refine (spec_l1Text.calls a1 t170 _ A8.out).mono ?_); rintro e w' ⟨rfl, ⟨nd, rfl⟩⟩))
   go_meet
   case rel => exact ⟨_, (!t170), Sw.r, H', ⟨by first | omega | exact Nat.le_refl _⟩, ⟨Sw.bk BK167.out⟩, ⟨Sw.bk BK168.out⟩, ⟨Sw.hb⟩⟩
  ·replace c7 := Bool.eq_false_iff.mpr c7
   subst c7
   have H1 : (spec_FeedDecoder.j0 k a1 true a0_0 a0_1 a0_2 a0_3) = some (r1, r2, r3, r4, r5, r6, r7) := by rw [if_neg (show ¬ (false = true) by decide)] at H; exact H
   clear H
   have H := H1
   clear H1
   have H' := Aside0.mk H
   clear H
   have hnb12 := NB167_168.out
   have hnc12 := NB168_167.out
   obtain ⟨hcz13_0, hcz13_1, hcz13_2, hcz13_3⟩ := Sw.cz4 BK167.out
   obtain ⟨hfz13_0, hfz13_1, hfz13_2, hfz13_3⟩ := Sw.fz4 BK167.out
   go_wp2_with (first | ((with_reducible refine gate_callee (f := 12) rfl ?_); refine goesL_ (some 12) rfl rfl Tryd.func12 (by kernel_rfl) rfl #[.agg #[.int .i64 a0_0, .int .i64 a0_1, .int .i64 a0_2, .string a0_3]] rfl Zb9_2 ?_; (with_reducible refine (spec_GoodDecoder.calls k a0_0 a0_1 a0_2 a0_3 false _ A6.out).mono ?_); rintro e w14 ⟨rfl, hb⟩; refine ⟨_, rfl, ?_⟩; replace BK167 := Aside0.mk (Sw.bl BK167.out hb); replace BK168 := Aside0.mk (Sw.bl BK168.out hb); replace HB := Aside0.mk (below_step Sw.hb hb)))
   go_meet
   case rel => exact ⟨_, (true), Sw.r, H', ⟨by first | omega | exact Nat.le_refl _⟩, ⟨Sw.bk BK167.out⟩, ⟨Sw.bk BK168.out⟩, ⟨Sw.hb⟩⟩
 case rest =>
  clear HC3
  try clear c1
  try clear p2
  try clear c7
  try clear c9
  try clear c12
  try clear hcz10_0 hcz10_1 hcz10_2 hcz10_3
  try clear hcz13_0 hcz13_1 hcz13_2 hcz13_3
  try clear hfz10_0 hfz10_1 hfz10_2 hfz10_3
  try clear hfz13_0 hfz13_1 hfz13_2 hfz13_3
  obtain ⟨kq, x18_2, rfl, HA, HJ2, BK167, BK168, HB⟩ := hcut
  cases kq with
  | zero => exact absurd HA.out (by simp [spec_FeedDecoder.j0])
  | succ kj2 =>
   have H := HA.out
   clear HA
   simp only [spec_FeedDecoder.j0] at H
   by_cases c15 : x18_2 = true
   ·subst c15
    have H1 : (some (0, 0, 0, (⟨#[]⟩ : ByteArray), ([] : List Int), ([] : List Int), false)) = some (r1, r2, r3, r4, r5, r6, r7) := by rw [if_pos rfl] at H; exact H
    clear H
    have H := H1
    clear H1
    simp only [Option.some.injEq, Prod.mk.injEq] at H
    obtain ⟨rfl, rfl, rfl, rfl, rfl, rfl, rfl⟩ := H
    have hnb16 := NB168_167.out
    have hnc16 := NB167_168.out
    obtain ⟨hcz17_0, hcz17_1, hcz17_2, hcz17_3⟩ := Sw.cz4 BK168.out
    obtain ⟨hfz17_0, hfz17_1, hfz17_2, hfz17_3⟩ := Sw.fz4 BK168.out
    go_wp2
    refine bodyPost_ret (results_list (rs := [.cell 4 25, .tmp 5, .tmp 6, .tmp 7]) rfl (by simp) (.cell gb168 25 #[.int .i64 0, .int .i64 0, .int .i64 0, .string (⟨#[]⟩ : ByteArray)] (0, 0) _ rfl (Sw.bp (Sw.p0_1_2_3 BK168.out)) Tryd.underlying25 rfl (by kernel_rfl) (.tmp (.tmp (.tmp .nil))))) rfl ?_
    exact ⟨_, _, Sw.e, Zb9_0, Zb9_0, by repeat (first | (with_reducible first | exact HB.out | apply below_alloc | apply pw_below_drewN | apply below_drew1 | refine below_set ?_ GE167.out | refine below_set ?_ GE168.out) | exact HB.out)⟩
   ·replace c15 := Bool.eq_false_iff.mpr c15
    subst c15
    have H1 : ((spec_l2Feed.f kj2 a0_0 a0_1 a0_2 a0_3 a1).bind fun bt171 => ((spec_GoodDecoder.f kj2 bt171.1 bt171.2.1 bt171.2.2.1 bt171.2.2.2.1).bind fun t182 => (if t182 = true then (some (bt171.1, bt171.2.1, bt171.2.2.1, bt171.2.2.2.1, bt171.2.2.2.2.1, bt171.2.2.2.2.2, true)) else (some (0, 0, 0, (⟨#[]⟩ : ByteArray), ([] : List Int), ([] : List Int), false))))) = some (r1, r2, r3, r4, r5, r6, r7) := by rw [if_neg (show ¬ (false = true) by decide)] at H; exact H
    clear H
    have H := H1
    clear H1
    replace H := Option.bind_eq_some_iff.mp H
    obtain ⟨⟨t171, t172, t173, t174, t175, t178⟩, A180, H⟩ := H
    replace H : ((spec_GoodDecoder.f kj2 t171 t172 t173 t174).bind fun t182 => (if t182 = true then (some (t171, t172, t173, t174, t175, t178, true)) else (some (0, 0, 0, (⟨#[]⟩ : ByteArray), ([] : List Int), ([] : List Int), false)))) = some (r1, r2, r3, r4, r5, r6, r7) := H
    have A18 := Aside0.mk A180
    clear A180
    replace H := Option.bind_eq_some_iff.mp H
    obtain ⟨t182, A190, H⟩ := H
    replace H : (if t182 = true then (some (t171, t172, t173, t174, t175, t178, true)) else (some (0, 0, 0, (⟨#[]⟩ : ByteArray), ([] : List Int), ([] : List Int), false))) = some (r1, r2, r3, r4, r5, r6, r7) := H
    have A19 := Aside0.mk A190
    clear A190
    by_cases c20 : t182 = true
    ·subst c20
     have H1 : (some (t171, t172, t173, t174, t175, t178, true)) = some (r1, r2, r3, r4, r5, r6, r7) := by rw [if_pos rfl] at H; exact H
     clear H
     have H := H1
     clear H1
     simp only [Option.some.injEq, Prod.mk.injEq] at H
     obtain ⟨rfl, rfl, rfl, rfl, rfl, rfl, rfl⟩ := H
     have hnb21 := NB167_168.out
     have hnc21 := NB168_167.out
     obtain ⟨hcz22_0, hcz22_1, hcz22_2, hcz22_3⟩ := Sw.cz4 BK167.out
     obtain ⟨hfz22_0, hfz22_1, hfz22_2, hfz22_3⟩ := Sw.fz4 BK167.out
     go_wp2_with (first | ((with_reducible refine gate_callee (f := 53) rfl ?_); refine goesL_ (some 23) rfl rfl Tryd.func53 (by kernel_rfl) rfl #[.agg #[.int .i64 a0_0, .int .i64 a0_1, .int .i64 a0_2, .string a0_3], .string a1] rfl Zb9_2 ?_; (with_reducible refine (spec_l2Feed.calls kj2 a0_0 a0_1 a0_2 a0_3 a1 t171 t172 t173 t174 t175 t178 _ A18.out).mono ?_); rintro e w23 ⟨v176, v179, rfl, ho0, ho1, hb⟩; refine ⟨_, rfl, ?_⟩; have HO177 := Aside0.mk (Kd.R_lower ho0 (below_size Sw.hb)); have HO180 := Aside0.mk (Kd.R_lower ho1 (below_size Sw.hb)); replace BK167 := Aside0.mk (Sw.bl BK167.out hb); replace BK168 := Aside0.mk (Sw.bl BK168.out hb); replace HB := Aside0.mk (below_step Sw.hb hb)) | ((with_reducible refine gate_dst (N := 8) rfl ?_); refine box_event ?hg (N := 8) ?hd (cs := #[.int .i64 0, .int .i64 0, .int .i64 0, .string (⟨#[]⟩ : ByteArray)]) (t := 25) ?hr ?_; (case hd => rfl); (case hg => rfl); (case hr => go_simp <;> rfl); intro gb181 hg w24 hbox hb; replace HO177 := Aside0.mk (Kd.R_below (Sw.rt HO177.out) hb); replace HO180 := Aside0.mk (Kd.R_below (Sw.rt HO180.out) hb); have BK181 := Aside0.mk (hbox); have GW181 := Aside0.mk ((Sw.gs hg)); have GE181 := Aside0.mk ((Sw.gs hg)); replace HB := Aside0.mk (below_step Sw.hb hb); have NB167_181 := Aside0.mk (Sw.nl hg BK167.out); have NB181_167 := Aside0.mk (Sw.ng hg BK167.out); replace BK167 := Aside0.mk (Sw.bl BK167.out hb); have NB168_181 := Aside0.mk (Sw.nl hg BK168.out); have NB181_168 := Aside0.mk (Sw.ng hg BK168.out); replace BK168 := Aside0.mk (Sw.bl BK168.out hb); clear hb hbox hg; have hnb25 := NB181_167.out; have hnc25 := NB167_181.out; have hnb26 := NB181_168.out; have hnc26 := NB168_181.out; obtain ⟨hcz27_0, hcz27_1, hcz27_2, hcz27_3⟩ := Sw.cz4 BK181.out; obtain ⟨hfz27_0, hfz27_1, hfz27_2, hfz27_3⟩ := Sw.fz4 BK181.out) | ((with_reducible refine gate_callee (f := 12) rfl ?_); refine goesL_ (some 28) rfl rfl Tryd.func12 (by kernel_rfl) rfl #[.agg #[.int .i64 t171, .int .i64 t172, .int .i64 t173, .string t174]] rfl Zb9_2 ?_; (with_reducible refine (spec_GoodDecoder.calls kj2 t171 t172 t173 t174 true _ A19.out).mono ?_); rintro e w28 ⟨rfl, hb⟩; refine ⟨_, rfl, ?_⟩; replace HO177 := Aside0.mk (Kd.R_below (Sw.rt (Sw.g0_1_2_3 HO177.out BK181.out)) hb); replace HO180 := Aside0.mk (Kd.R_below (Sw.rt (Sw.g0_1_2_3 HO180.out BK181.out)) hb); replace BK167 := Aside0.mk (Sw.bg BK167.out NB167_181.out hb); replace BK168 := Aside0.mk (Sw.bg BK168.out NB168_181.out hb); replace BK181 := Aside0.mk (blk_below (g := gb181) (o := .cells #[.int .i64 t171, .int .i64 t172, .int .i64 t173, .string t174] 25 (0, 0)) (Sw.bp (Sw.p0_1_2_3 BK181.out)) hb); replace HB := Aside0.mk (below_step Sw.hb hb); obtain ⟨hcz29_0, hcz29_1, hcz29_2, hcz29_3⟩ := Sw.cz4 BK181.out; obtain ⟨hfz29_0, hfz29_1, hfz29_2, hfz29_3⟩ := Sw.fz4 BK181.out; obtain ⟨hcz30_0, hcz30_1, hcz30_2, hcz30_3⟩ := Sw.cz4 BK168.out; obtain ⟨hfz30_0, hfz30_1, hfz30_2, hfz30_3⟩ := Sw.fz4 BK168.out))
     refine bodyPost_ret (results_list (rs := [.cell 4 25, .tmp 5, .tmp 6, .tmp 7]) rfl (by simp) (.cell gb168 25 #[.int .i64 t171, .int .i64 t172, .int .i64 t173, .string t174] (0, 0) _ rfl (Sw.bp (Sw.p0_1_2_3 BK168.out)) Tryd.underlying25 rfl (by kernel_rfl) (.tmp (.tmp (.tmp .nil))))) rfl ?_
     exact ⟨_, _, Sw.e, by (with_reducible repeat (first | apply Kd.R_alloc | apply Kd.R_drewN | apply Kd.R_drew)); exact Kd.R_mono (Sw.f0_1_2_3 HO177.out BK168.out) (fun _ hk => hk.1), by (with_reducible repeat (first | apply Kd.R_alloc | apply Kd.R_drewN | apply Kd.R_drew)); exact Kd.R_mono (Sw.f0_1_2_3 HO180.out BK168.out) (fun _ hk => hk.1), Zb9_1⟩
    ·replace c20 := Bool.eq_false_iff.mpr c20
     subst c20
     have H1 : (some (0, 0, 0, (⟨#[]⟩ : ByteArray), ([] : List Int), ([] : List Int), false)) = some (r1, r2, r3, r4, r5, r6, r7) := by rw [if_neg (show ¬ (false = true) by decide)] at H; exact H
     clear H
     have H := H1
     clear H1
     simp only [Option.some.injEq, Prod.mk.injEq] at H
     obtain ⟨rfl, rfl, rfl, rfl, rfl, rfl, rfl⟩ := H
     have hnb31 := NB167_168.out
     have hnc31 := NB168_167.out
     obtain ⟨hcz32_0, hcz32_1, hcz32_2, hcz32_3⟩ := Sw.cz4 BK167.out
     obtain ⟨hfz32_0, hfz32_1, hfz32_2, hfz32_3⟩ := Sw.fz4 BK167.out
     go_wp2_with (first | ((with_reducible refine gate_callee (f := 53) rfl ?_); refine goesL_ (some 23) rfl rfl Tryd.func53 (by kernel_rfl) rfl #[.agg #[.int .i64 a0_0, .int .i64 a0_1, .int .i64 a0_2, .string a0_3], .string a1] rfl Zb9_2 ?_; (with_reducible refine (spec_l2Feed.calls kj2 a0_0 a0_1 a0_2 a0_3 a1 t171 t172 t173 t174 t175 t178 _ A18.out).mono ?_); rintro e w33 ⟨v176, v179, rfl, ho0, ho1, hb⟩; refine ⟨_, rfl, ?_⟩; have HO177 := Aside0.mk (Kd.R_lower ho0 (below_size Sw.hb)); have HO180 := Aside0.mk (Kd.R_lower ho1 (below_size Sw.hb)); replace BK167 := Aside0.mk (Sw.bl BK167.out hb); replace BK168 := Aside0.mk (Sw.bl BK168.out hb); replace HB := Aside0.mk (below_step Sw.hb hb)) | ((with_reducible refine gate_dst (N := 8) rfl ?_); refine box_event ?hg (N := 8) ?hd (cs := #[.int .i64 0, .int .i64 0, .int .i64 0, .string (⟨#[]⟩ : ByteArray)]) (t := 25) ?hr ?_; (case hd => rfl); (case hg => rfl); (case hr => go_simp <;> rfl); intro gb181 hg w34 hbox hb; replace HO177 := Aside0.mk (Kd.R_below (Sw.rt HO177.out) hb); replace HO180 := Aside0.mk (Kd.R_below (Sw.rt HO180.out) hb); have BK181 := Aside0.mk (hbox); have GW181 := Aside0.mk ((Sw.gs hg)); have GE181 := Aside0.mk ((Sw.gs hg)); replace HB := Aside0.mk (below_step Sw.hb hb); have NB167_181 := Aside0.mk (Sw.nl hg BK167.out); have NB181_167 := Aside0.mk (Sw.ng hg BK167.out); replace BK167 := Aside0.mk (Sw.bl BK167.out hb); have NB168_181 := Aside0.mk (Sw.nl hg BK168.out); have NB181_168 := Aside0.mk (Sw.ng hg BK168.out); replace BK168 := Aside0.mk (Sw.bl BK168.out hb); clear hb hbox hg; have hnb35 := NB181_167.out; have hnc35 := NB167_181.out; have hnb36 := NB181_168.out; have hnc36 := NB168_181.out; obtain ⟨hcz37_0, hcz37_1, hcz37_2, hcz37_3⟩ := Sw.cz4 BK181.out; obtain ⟨hfz37_0, hfz37_1, hfz37_2, hfz37_3⟩ := Sw.fz4 BK181.out) | ((with_reducible refine gate_callee (f := 12) rfl ?_); refine goesL_ (some 28) rfl rfl Tryd.func12 (by kernel_rfl) rfl #[.agg #[.int .i64 t171, .int .i64 t172, .int .i64 t173, .string t174]] rfl Zb9_2 ?_; (with_reducible refine (spec_GoodDecoder.calls kj2 t171 t172 t173 t174 false _ A19.out).mono ?_); rintro e w38 ⟨rfl, hb⟩; refine ⟨_, rfl, ?_⟩; replace HO177 := Aside0.mk (Kd.R_below (Sw.rt (Sw.g0_1_2_3 HO177.out BK181.out)) hb); replace HO180 := Aside0.mk (Kd.R_below (Sw.rt (Sw.g0_1_2_3 HO180.out BK181.out)) hb); replace BK167 := Aside0.mk (Sw.bg BK167.out NB167_181.out hb); replace BK168 := Aside0.mk (Sw.bg BK168.out NB168_181.out hb); replace BK181 := Aside0.mk (blk_below (g := gb181) (o := .cells #[.int .i64 t171, .int .i64 t172, .int .i64 t173, .string t174] 25 (0, 0)) (Sw.bp (Sw.p0_1_2_3 BK181.out)) hb); replace HB := Aside0.mk (below_step Sw.hb hb); obtain ⟨hcz39_0, hcz39_1, hcz39_2, hcz39_3⟩ := Sw.cz4 BK168.out; obtain ⟨hfz39_0, hfz39_1, hfz39_2, hfz39_3⟩ := Sw.fz4 BK168.out))
     refine bodyPost_ret (results_list (rs := [.cell 4 25, .tmp 5, .tmp 6, .tmp 7]) rfl (by simp) (.cell gb168 25 #[.int .i64 0, .int .i64 0, .int .i64 0, .string (⟨#[]⟩ : ByteArray)] (0, 0) _ rfl (Sw.bp (Sw.p0_1_2_3 BK168.out)) Tryd.underlying25 rfl (by kernel_rfl) (.tmp (.tmp (.tmp .nil))))) rfl ?_
     exact ⟨_, _, Sw.e, Zb9_0, Zb9_0, Zb9_1⟩

theorem Zb48_0 {p : Prop} (h : p := by repeat (first | (with_reducible first | exact HB.out | apply below_alloc | apply pw_below_drewN | apply below_drew1 | refine below_set ?_ GE183.out) | exact HB.out)) : p := h
theorem Zb48_1 {p : Prop} (h : p := by (try simp only [List.map_toArray, List.map_cons, List.map_nil]); first | done | rfl | (simp only [List.length_drop, List.length_take]; rfl)) : p := h
def spec_NewDecoder.f (a0 : Int) : Option (Int × Int × Int × ByteArray × Bool) := (spec_l2Code.f a0).bind fun t184 => (if t184 = true then (some (a0, 0, 0, (⟨#[]⟩ : ByteArray), true)) else (some (0, 0, 0, (⟨#[]⟩ : ByteArray), false)))
theorem spec_NewDecoder.calls (a0 : Int) (r1 : Int) (r2 : Int) (r3 : Int) (r4 : ByteArray) (r5 : Bool) (w : World) (h : spec_NewDecoder.f a0 = some (r1, r2, r3, r4, r5)) :
  Calls Tryd.prog 48 #[.int .i64 a0] w fun e w' => e = .returned (.tuple #[.agg #[.int .i64 r1, .int .i64 r2, .int .i64 r3, .string r4], .bool r5]) ∧ Below w.heap.size w w' := by
 have hu25 := Tryd.underlying25
 have HB := Aside0.mk (Below.refl w.heap.size w)
 have H : ((spec_l2Code.f a0).bind fun t184 => (if t184 = true then (some (a0, 0, 0, (⟨#[]⟩ : ByteArray), true)) else (some (0, 0, 0, (⟨#[]⟩ : ByteArray), false)))) = some (r1, r2, r3, r4, r5) := h
 clear h
 replace H := Option.bind_eq_some_iff.mp H
 obtain ⟨t184, A20, H⟩ := H
 replace H : (if t184 = true then (some (a0, 0, 0, (⟨#[]⟩ : ByteArray), true)) else (some (0, 0, 0, (⟨#[]⟩ : ByteArray), false))) = some (r1, r2, r3, r4, r5) := H
 have A2 := Aside0.mk A20
 clear A20
 by_cases c3 : t184 = true
 ·subst c3
  have H1 : (some (a0, 0, 0, (⟨#[]⟩ : ByteArray), true)) = some (r1, r2, r3, r4, r5) := by rw [if_pos rfl] at H; exact H
  clear H
  have H := H1
  clear H1
  simp only [Option.some.injEq, Prod.mk.injEq] at H
  obtain ⟨rfl, rfl, rfl, rfl, rfl⟩ := H
  go_enter Tryd.func48, Tryd.ntmps48
  go_wp2_with (first | ((with_reducible refine gate_dst (N := 2) rfl ?_); refine box_event ?hg (N := 2) ?hd (cs := #[.int .i64 0, .int .i64 0, .int .i64 0, .string (⟨#[]⟩ : ByteArray)]) (t := 25) ?hr ?_; (case hd => rfl); (case hg => rfl); (case hr => first | (go_simp; done) | (go_simp; rfl)); intro gb183 hg w4 hbox hb; have BK183 := Aside0.mk (hbox); have GW183 := Aside0.mk ((Sw.gs hg)); have GE183 := Aside0.mk ((Sw.gs hg)); replace HB := Aside0.mk (below_step Sw.hb hb); clear hb hbox hg) | ((with_reducible refine gate_callee (f := 59) rfl ?_); refine goesL_ (some 5) rfl rfl Tryd.func59 (by kernel_rfl) rfl #[.int .i64 a0] rfl Zb48_1 ?_; (with_reducible refine (spec_l2Code.calls a0 true _ A2.out).mono ?_); rintro e w' ⟨rfl, ⟨nd, rfl⟩⟩; refine ⟨_, rfl, ?_⟩; (try (rw [drewN_self w4]; generalize hq_ : World.drewN w4 _ = w4; have n0_ : Aside0 (w4.heap[gb183]? = some (.cells #[.int .i64 0, .int .i64 0, .int .i64 0, .string (⟨#[]⟩ : ByteArray)] 25 (0, 0))) := ⟨by rw [← hq_]; exact (Sw.bk BK183.out)⟩; have n1_ : Aside0 (Below w.heap.size w w4) := ⟨by rw [← hq_]; exact Sw.hb⟩; clear BK183 HB hq_; have BK183 := n0_; have HB := n1_; clear n0_ n1_)); obtain ⟨hcz5_0, hcz5_1, hcz5_2, hcz5_3⟩ := Sw.cz4 BK183.out; obtain ⟨hfz5_0, hfz5_1, hfz5_2, hfz5_3⟩ := Sw.fz4 BK183.out))
  refine bodyPost_ret (results_ct rfl _ _ gb183 25 #[.int .i64 a0, .int .i64 0, .int .i64 0, .string (⟨#[]⟩ : ByteArray)] (0, 0) _ rfl (Sw.bp (Sw.p0_1_2_3 BK183.out)) Tryd.underlying25 rfl (by kernel_rfl)) rfl ?_
  exact ⟨Sw.e, Zb48_0⟩
 ·replace c3 := Bool.eq_false_iff.mpr c3
  subst c3
  have H1 : (some (0, 0, 0, (⟨#[]⟩ : ByteArray), false)) = some (r1, r2, r3, r4, r5) := by rw [if_neg (show ¬ (false = true) by decide)] at H; exact H
  clear H
  have H := H1
  clear H1
  simp only [Option.some.injEq, Prod.mk.injEq] at H
  obtain ⟨rfl, rfl, rfl, rfl, rfl⟩ := H
  go_enter Tryd.func48, Tryd.ntmps48
  go_wp2_with (first | ((with_reducible refine gate_dst (N := 2) rfl ?_); refine box_event ?hg (N := 2) ?hd (cs := #[.int .i64 0, .int .i64 0, .int .i64 0, .string (⟨#[]⟩ : ByteArray)]) (t := 25) ?hr ?_; (case hd => rfl); (case hg => rfl); (case hr => first | (go_simp; done) | (go_simp; rfl)); intro gb183 hg w6 hbox hb; have BK183 := Aside0.mk (hbox); have GW183 := Aside0.mk ((Sw.gs hg)); have GE183 := Aside0.mk ((Sw.gs hg)); replace HB := Aside0.mk (below_step Sw.hb hb); clear hb hbox hg) | ((with_reducible refine gate_callee (f := 59) rfl ?_); refine goesL_ (some 5) rfl rfl Tryd.func59 (by kernel_rfl) rfl #[.int .i64 a0] rfl Zb48_1 ?_; (with_reducible refine (spec_l2Code.calls a0 false _ A2.out).mono ?_); rintro e w' ⟨rfl, ⟨nd, rfl⟩⟩; refine ⟨_, rfl, ?_⟩; (try (rw [drewN_self w6]; generalize hq_ : World.drewN w6 _ = w6; have n0_ : Aside0 (w6.heap[gb183]? = some (.cells #[.int .i64 0, .int .i64 0, .int .i64 0, .string (⟨#[]⟩ : ByteArray)] 25 (0, 0))) := ⟨by rw [← hq_]; exact (Sw.bk BK183.out)⟩; have n1_ : Aside0 (Below w.heap.size w w6) := ⟨by rw [← hq_]; exact Sw.hb⟩; clear BK183 HB hq_; have BK183 := n0_; have HB := n1_; clear n0_ n1_)); obtain ⟨hcz7_0, hcz7_1, hcz7_2, hcz7_3⟩ := Sw.cz4 BK183.out; obtain ⟨hfz7_0, hfz7_1, hfz7_2, hfz7_3⟩ := Sw.fz4 BK183.out))
  refine bodyPost_ret (results_ct rfl _ _ gb183 25 #[.int .i64 0, .int .i64 0, .int .i64 0, .string (⟨#[]⟩ : ByteArray)] (0, 0) _ rfl (Sw.bp (Sw.p0_1_2_3 BK183.out)) Tryd.underlying25 rfl (by kernel_rfl)) rfl ?_
  exact ⟨Sw.e, Zb48_0⟩

theorem Zb88_0 {p : Prop} (h : p := by (try simp only [List.map_toArray, List.map_cons, List.map_nil]); first | done | rfl | (simp only [List.length_drop, List.length_take]; rfl)) : p := h
theorem Zb88_1 {p : Prop} (h : p := by first | (with_reducible assumption) | assumption) : p := h
def spec_l1AllRunes.l0 : Nat → List Int → List Int → Int → Int → Option (Bool)
 | 0, _, _, _, _ => none
 | k + 1, x0, x5, x6, x7 => if x7 < x6 then (if 0 ≤ x7 then (if x7 < (x5.length : Int) then ((spec_GoodRune.f (rd x5 x7)).bind fun t186 => (if t186 = true then (spec_l1AllRunes.l0 k x0 x5 x6 (wrap64 (x7 + 1))) else (some false))) else (none)) else (none)) else (some (decide ((x0.length : Int) ≤ 1000)))
def spec_l1AllRunes.f (k : Nat) (l0 : List Int) : Option (Bool) := spec_l1AllRunes.l0 k l0 l0 (l0.length : Int) 0
theorem spec_l1AllRunes.mono_l : ∀ k, (∀ y0 y1 y2 y3, LeO (spec_l1AllRunes.l0 k y0 y1 y2 y3) (spec_l1AllRunes.l0 (k + 1) y0 y1 y2 y3))
 | 0 => fun _ _ _ _ r h => by simp [spec_l1AllRunes.l0] at h
 | k + 1 => by
  have ih0 := spec_l1AllRunes.mono_l k
  ·intro y0 y1 y2 y3
   unfold spec_l1AllRunes.l0
   with_reducible repeat' first | exact ih0 _ _ _ _ | exact LeO.refl _ | exact LeO.none _ | refine LeO.ite ?_ ?_ | refine LeO.bind ?_ (fun _ => ?_)
theorem spec_l1AllRunes.mono : ∀ a0 k, LeO (spec_l1AllRunes.f k a0) (spec_l1AllRunes.f (k + 1) a0) := by
 intro a0 k
 have ih0 := spec_l1AllRunes.mono_l k
 unfold spec_l1AllRunes.f
 with_reducible repeat' first | exact ih0 _ _ _ _ | exact LeO.refl _ | exact LeO.none _ | refine LeO.ite ?_ ?_ | refine LeO.bind ?_ (fun _ => ?_)
theorem spec_l1AllRunes.calls (k : Nat) (A0 : Option Addr) (c0 : Nat) (l0 : List Int) (r : Bool) (w : World) (hr0 : Kd.C (Kd.int .i64) w A0 l0.length l0) (hc0 : l0.length ≤ c0) (h : spec_l1AllRunes.f k l0 = some r) :
  Calls Tryd.prog 88 #[.slice A0 l0.length c0] w fun e w' => e = .returned (.bool r) ∧ Drawn0 w w' := by
 have HR0 := Aside0.mk hr0
 have HC0 := Aside0.mk hc0
 clear hr0 hc0
 have H : (spec_l1AllRunes.l0 k l0 l0 (l0.length : Int) 0) = some r := h
 clear h
 have H' := Aside0.mk H
 clear H
 go_enter Tryd.func88, Tryd.ntmps88
 go_wp2
 go_loopg [7] k (fun kq v7 w' => ∃ (x7_1 : Int), v7 = .int .i64 x7_1 ∧ Aside0 (spec_l1AllRunes.l0 kq l0 l0 (l0.length : Int) x7_1 = some r) ∧ Aside0 (kq ≤ k) ∧ Drawn0 w w')
 case atStart => exact ⟨(0), Sw.r, H', ⟨Nat.le_refl _⟩, Sw.dr⟩
 case round =>
  clear H'
  obtain ⟨x7_1, rfl, HA, HK1, ⟨m1, rfl⟩⟩ := hrel
  cases gk with
  | zero => exact absurd HA.out (by simp [spec_l1AllRunes.l0])
  | succ k1 =>
   have H := HA.out
   clear HA
   simp only [spec_l1AllRunes.l0] at H
   by_cases c2 : x7_1 < (l0.length : Int)
   ·rw [if_pos c2] at H
    have c2b0 : decide (x7_1 < (l0.length : Int)) = true := decide_eq_true c2
    clear c2
    by_cases c3 : 0 ≤ x7_1
    ·rw [if_pos c3] at H
     have c3b0 : decide (0 ≤ x7_1) = true := decide_eq_true c3
     clear c3
     by_cases c4 : x7_1 < (l0.length : Int)
     ·rw [if_pos c4] at H
      have c4b0 : decide (x7_1 < (l0.length : Int)) = true := decide_eq_true c4
      clear c4
      replace H := Option.bind_eq_some_iff.mp H
      obtain ⟨t186, A50, H⟩ := H
      replace H : (if t186 = true then (spec_l1AllRunes.l0 k1 l0 l0 (l0.length : Int) (wrap64 (x7_1 + 1))) else (some false)) = some r := H
      have A5 := Aside0.mk A50
      clear A50
      by_cases c6 : t186 = true
      ·subst c6
       have H1 : (spec_l1AllRunes.l0 k1 l0 l0 (l0.length : Int) (wrap64 (x7_1 + 1))) = some r := by rw [if_pos rfl] at H; exact H
       clear H
       have H := H1
       clear H1
       have H' := Aside0.mk H
       clear H
       have p185 : 0 ≤ (x7_1 : Int) := of_decide_eq_true Zb88_1
       have q185 : x7_1 < (l0.length : Int) := of_decide_eq_true Zb88_1
       obtain ⟨ad185, e185, hx185_0⟩ := Kd.at_int HR0.out x7_1 p185 q185
       cases e185
       replace p185 := eq_true p185
       replace q185 := eq_true q185
       go_wp2_with (first | ((with_reducible refine gate_callee (f := 22) rfl ?_); refine goesL_ (some 12) rfl rfl Tryd.func22 (by kernel_rfl) rfl #[.int .i64 (rd l0 x7_1)] rfl Zb88_0 ?_; (with_reducible refine (spec_GoodRune.calls (rd l0 x7_1) true _ A5.out).mono ?_); rintro e w' ⟨rfl, ⟨nd, rfl⟩⟩; refine ⟨_, rfl, ?_⟩))
       go_roundg k1
       case measure => have := HK1.out; omega
       case rel => exact ⟨(wrap64 (x7_1 + 1)), Sw.r, H', ⟨by have := HK1.out; omega⟩, Sw.dr⟩
      ·replace c6 := Bool.eq_false_iff.mpr c6
       subst c6
       have H1 : (some false) = some r := by rw [if_neg (show ¬ (false = true) by decide)] at H; exact H
       clear H
       have H := H1
       clear H1
       obtain rfl := Option.some.inj H
       have p185 : 0 ≤ (x7_1 : Int) := of_decide_eq_true Zb88_1
       have q185 : x7_1 < (l0.length : Int) := of_decide_eq_true Zb88_1
       obtain ⟨ad185, e185, hx185_0⟩ := Kd.at_int HR0.out x7_1 p185 q185
       cases e185
       replace p185 := eq_true p185
       replace q185 := eq_true q185
       go_wp2_with (first | ((with_reducible refine gate_callee (f := 22) rfl ?_); refine goesL_ (some 12) rfl rfl Tryd.func22 (by kernel_rfl) rfl #[.int .i64 (rd l0 x7_1)] rfl Zb88_0 ?_; (with_reducible refine (spec_GoodRune.calls (rd l0 x7_1) false _ A5.out).mono ?_); rintro e w' ⟨rfl, ⟨nd, rfl⟩⟩; refine ⟨_, rfl, ?_⟩))
       go_ret
       exact ⟨Sw.r, Sw.dr⟩
     ·rw [if_neg c4] at H
      exact absurd H (by simp)
    ·rw [if_neg c3] at H
     exact absurd H (by simp)
   ·rw [if_neg c2] at H
    have c2b0 : decide (x7_1 < (l0.length : Int)) = false := decide_eq_false c2
    clear c2
    obtain rfl := Option.some.inj H
    go_wp2
    go_ret
    exact ⟨Sw.r, Sw.dr⟩

theorem Zb110_0 {p : Prop} (h : p := by repeat (first | (with_reducible first | exact HB.out | apply below_alloc | apply pw_below_drewN | apply below_drew1) | exact HB.out)) : p := h
def spec_l2Pair.f (a0 : Int) (a1 : Int) : Option (ByteArray) := if a0 = 2 then (some (strOfNums (([(wrap64 (Int.tdiv a1 256)) % 256, (Int.tmod a1 256) % 256] : List Int)))) else (some (strOfNums (([(Int.tmod a1 256) % 256, (wrap64 (Int.tdiv a1 256)) % 256] : List Int))))
theorem spec_l2Pair.calls (a0 : Int) (a1 : Int) (r : ByteArray) (w : World) (h : spec_l2Pair.f a0 a1 = some r) :
    Calls Tryd.prog 110 #[.int .i64 a0, .int .i64 a1] w fun e w' => e = .returned (.string r) ∧ Below w.heap.size w w' := by
  have HB := Aside0.mk (Below.refl w.heap.size w)
  have H : (if a0 = 2 then (some (strOfNums (([(wrap64 (Int.tdiv a1 256)) % 256, (Int.tmod a1 256) % 256] : List Int)))) else (some (strOfNums (([(Int.tmod a1 256) % 256, (wrap64 (Int.tdiv a1 256)) % 256] : List Int))))) = some r := h
  clear h
  by_cases c3 : a0 = 2
  · rw [if_pos c3] at H
    have c3b0 : (a0 == 2) = true := beq_iff_eq.mpr c3
    have c3b1 : (a0 != 2) = false := bne_eq_false_iff_eq.mpr c3
    clear c3
    obtain ⟨y187, hy187⟩ : ∃ y_ : List Int, y_ = (([(wrap64 (Int.tdiv a1 256)) % 256, (Int.tmod a1 256) % 256] : List Int)) := ⟨_, rfl⟩
    replace H : (some (strOfNums y187)) = some r := by first | (rw [hy187]; with_reducible exact H) | (have H2_ := (Option.bind_some _ _).symm.trans H; rw [hy187]; with_reducible exact H2_) | (have H2_ := (Option.bind_some _ _).symm.trans H; with_reducible exact H2_) | with_reducible exact H | (rw [hy187]; exact H) | exact H
    have Ny187 := Aside0.mk hy187
    clear hy187
    obtain rfl := Option.some.inj H
    go_enter Tryd.func110, Tryd.ntmps110
    go_wp2_with (first | ((with_reducible refine gate_dst (N := 13) rfl ?_); refine Kd.R_lit (Kd.int .u8) _ 5 ?hg (N := 13) ?hd (xs := ([(wrap64 (Int.tdiv a1 256)) % 256, (Int.tmod a1 256) % 256] : List Int)) (inner := [.int .u8 ((wrap64 (Int.tdiv a1 256)) % 256), .int .u8 ((Int.tmod a1 256) % 256)]) (ok := fun _ => True) (okp := fun _ => True) ?hr ?hp (fun _ hk => hk) trivial (Below.refl _ _) (Nat.le_refl _) (by simp) ?_; (case hd => rfl); (case hg => rfl); (case hr => first | (go_simp; done) | (go_simp; rfl)); (case hp => exact (Reps.one (show Kd.M (Kd.int .u8) _ _ _ ((wrap64 (Int.tdiv a1 256)) % 256) [.int .u8 ((wrap64 (Int.tdiv a1 256)) % 256)] from rfl) (Reps.one (show Kd.M (Kd.int .u8) _ _ _ ((Int.tmod a1 256) % 256) [.int .u8 ((Int.tmod a1 256) % 256)] from rfl) (Reps.none _ _)))); intro v188 w4 ho5 hb hg_ hnew_; clear hg_ hnew_; (first | rw [← Ny187.out] at ho5 | (simp only [Int.reduceToNat] at ho5; rw [← Ny187.out] at ho5)); have n0_ := Aside0.mk (Kd.R_lower ho5 (below_size Zb110_0)); have n1_ := Aside0.mk (below_step Zb110_0 hb); clear HB; have HO189 := n0_; have HB := n1_; clear n0_ n1_; clear hb ho5; have hcv6 := own_string (P := Tryd.prog) Tryd.underlying22 Tryd.underlying5 Tryd.underlying9 (Kd.own_of_R HO189.out)))
    go_ret
    exact ⟨Sw.e, Zb110_0⟩
  · rw [if_neg c3] at H
    have c3b0 : (a0 == 2) = false := beq_eq_false_iff_ne.mpr c3
    have c3b1 : (a0 != 2) = true := bne_iff_ne.mpr c3
    obtain ⟨y190, hy190⟩ : ∃ y_ : List Int, y_ = (([(Int.tmod a1 256) % 256, (wrap64 (Int.tdiv a1 256)) % 256] : List Int)) := ⟨_, rfl⟩
    replace H : (some (strOfNums y190)) = some r := by first | (rw [hy190]; with_reducible exact H) | (have H2_ := (Option.bind_some _ _).symm.trans H; rw [hy190]; with_reducible exact H2_) | (have H2_ := (Option.bind_some _ _).symm.trans H; with_reducible exact H2_) | with_reducible exact H | (rw [hy190]; exact H) | exact H
    have Ny190 := Aside0.mk hy190
    clear hy190
    obtain rfl := Option.some.inj H
    go_enter Tryd.func110, Tryd.ntmps110
    go_wp2_with (first | ((with_reducible refine gate_dst (N := 21) rfl ?_); refine Kd.R_lit (Kd.int .u8) _ 5 ?hg (N := 21) ?hd (xs := ([(Int.tmod a1 256) % 256, (wrap64 (Int.tdiv a1 256)) % 256] : List Int)) (inner := [.int .u8 ((Int.tmod a1 256) % 256), .int .u8 ((wrap64 (Int.tdiv a1 256)) % 256)]) (ok := fun _ => True) (okp := fun _ => True) ?hr ?hp (fun _ hk => hk) trivial (Below.refl _ _) (Nat.le_refl _) (by simp) ?_; (case hd => rfl); (case hg => rfl); (case hr => first | (go_simp; done) | (go_simp; rfl)); (case hp => exact (Reps.one (show Kd.M (Kd.int .u8) _ _ _ ((Int.tmod a1 256) % 256) [.int .u8 ((Int.tmod a1 256) % 256)] from rfl) (Reps.one (show Kd.M (Kd.int .u8) _ _ _ ((wrap64 (Int.tdiv a1 256)) % 256) [.int .u8 ((wrap64 (Int.tdiv a1 256)) % 256)] from rfl) (Reps.none _ _)))); intro v191 w7 ho8 hb hg_ hnew_; clear hg_ hnew_; (first | rw [← Ny190.out] at ho8 | (simp only [Int.reduceToNat] at ho8; rw [← Ny190.out] at ho8)); have n0_ := Aside0.mk (Kd.R_lower ho8 (below_size Zb110_0)); have n1_ := Aside0.mk (below_step Zb110_0 hb); clear HB; have HO192 := n0_; have HB := n1_; clear n0_ n1_; clear hb ho8; have hcv9 := own_string (P := Tryd.prog) Tryd.underlying22 Tryd.underlying5 Tryd.underlying9 (Kd.own_of_R HO192.out)))
    go_ret
    exact ⟨Sw.e, Zb110_0⟩

theorem Zb92_0 {p : Prop} (h : p := by simp only [List.map_toArray, List.map_cons, List.map_nil] <;> rfl) : p := h
theorem Zb92_1 {p : Prop} (h : p := by have := HJ6.out; have := HJ32.out; first | omega | exact Nat.le_refl _) : p := h
mutual
def spec_l2Put.j0 : Nat → Int → Int → Int → Bool → Option (ByteArray × Int × Bool)
 | 0, _, _, _, _ => none
 | k + 1, x0, x1, x2, x17 => if x17 = true then ((spec_l2Pair.f x0 x2).bind fun t195 => (some (t195, 0, true))) else ((spec_l2Units.f x0).bind fun t196 => (if t196 = true then ((spec_l2Pair.f x0 (wrap64 (55296 + (wrap64 (Int.tdiv (wrap64 (x2 - 65536)) 1024))))).bind fun t197 => ((spec_l2Pair.f x0 (wrap64 (56320 + (Int.tmod (wrap64 (x2 - 65536)) 1024)))).bind fun t198 => (if t197.size + t198.size ≤ 9223372036854775807 then (some (t197 ++ t198, 0, true)) else (none)))) else (if x0 = 4 then (some (strOfNums (([(x2) % 256] : List Int)), 0, decide (x2 < 256))) else (if x2 < 32 then ((some (([(x2) % 256] : List Int) : List Int)).bind fun y202 => (if x2 = 14 then (some (strOfNums y202, x1, false)) else (some (strOfNums y202, x1, (x2 != 15))))) else ((spec_l1In.f x2 12352 12446).bind fun t205 => (if t205 = true then (spec_l2Put.j1 k x1 x2 1 (wrap64 ((wrap64 (x2 - 12352)) + 32))) else (spec_l2Put.j1 k x1 x2 0 x2)))))))
def spec_l2Put.j1 : Nat → Int → Int → Int → Int → Option (ByteArray × Int × Bool)
 | 0, _, _, _, _ => none
 | k + 1, x1, x2, x9, x10 => (spec_l1In.f x10 32 126).bind fun t206 => (if t206 = true then (if x9 = 0 then (spec_l2Put.j2 k x1 x9 x10 (decide (x2 > 126))) else (spec_l2Put.j2 k x1 x9 x10 false)) else (spec_l2Put.j2 k x1 x9 x10 true))
def spec_l2Put.j2 : Nat → Int → Int → Int → Bool → Option (ByteArray × Int × Bool)
 | 0, _, _, _, _ => none
 | k + 1, x1, x9, x10, x82 => if x82 = true then (some ((⟨#[]⟩ : ByteArray), 0, false)) else ((some (([(x10) % 256] : List Int) : List Int)).bind fun y207 => (if x9 = x1 then (some (strOfNums y207, x9, true)) else ((some (([(wrap64 (15 - x9)) % 256] : List Int) : List Int)).bind fun y210 => (if (strOfNums y210).size + (strOfNums y207).size ≤ 9223372036854775807 then (some ((strOfNums y210) ++ (strOfNums y207), x9, true)) else (none)))))
end
def spec_l2Put.f (k : Nat) (a0 : Int) (a1 : Int) (a2 : Int) : Option (ByteArray × Int × Bool) := if a0 = 1 then ((spec_l1Utf8.f a2).bind fun t193 => (some (t193, 0, true))) else ((spec_l2Units.f a0).bind fun t194 => (if t194 = true then (spec_l2Put.j0 k a0 a1 a2 (decide (a2 < 65536))) else (spec_l2Put.j0 k a0 a1 a2 false)))
theorem spec_l2Put.mono_l : ∀ k, (∀ y0 y1 y2 y3, LeO (spec_l2Put.j0 k y0 y1 y2 y3) (spec_l2Put.j0 (k + 1) y0 y1 y2 y3)) ∧ (∀ y0 y1 y2 y3, LeO (spec_l2Put.j1 k y0 y1 y2 y3) (spec_l2Put.j1 (k + 1) y0 y1 y2 y3)) ∧ (∀ y0 y1 y2 y3, LeO (spec_l2Put.j2 k y0 y1 y2 y3) (spec_l2Put.j2 (k + 1) y0 y1 y2 y3))
 | 0 => ⟨fun _ _ _ _ r h => by simp [spec_l2Put.j0] at h, fun _ _ _ _ r h => by simp [spec_l2Put.j1] at h, fun _ _ _ _ r h => by simp [spec_l2Put.j2] at h⟩
 | k + 1 => by
  obtain ⟨ih0, ih1, ih2⟩ := spec_l2Put.mono_l k
  refine ⟨?_, ?_, ?_⟩
  ·intro y0 y1 y2 y3
   unfold spec_l2Put.j0
   with_reducible repeat' first | exact ih0 _ _ _ _ | exact ih1 _ _ _ _ | exact ih2 _ _ _ _ | exact LeO.refl _ | exact LeO.none _ | refine LeO.ite ?_ ?_ | refine LeO.bind ?_ (fun _ => ?_)
  ·intro y0 y1 y2 y3
   unfold spec_l2Put.j1
   with_reducible repeat' first | exact ih0 _ _ _ _ | exact ih1 _ _ _ _ | exact ih2 _ _ _ _ | exact LeO.refl _ | exact LeO.none _ | refine LeO.ite ?_ ?_ | refine LeO.bind ?_ (fun _ => ?_)
  ·intro y0 y1 y2 y3
   unfold spec_l2Put.j2
   with_reducible repeat' first | exact ih0 _ _ _ _ | exact ih1 _ _ _ _ | exact ih2 _ _ _ _ | exact LeO.refl _ | exact LeO.none _ | refine LeO.ite ?_ ?_ | refine LeO.bind ?_ (fun _ => ?_)
theorem spec_l2Put.mono : ∀ a0 a1 a2 k, LeO (spec_l2Put.f k a0 a1 a2) (spec_l2Put.f (k + 1) a0 a1 a2) := by
 intro a0 a1 a2 k
 obtain ⟨ih0, ih1, ih2⟩ := spec_l2Put.mono_l k
 unfold spec_l2Put.f
 with_reducible repeat' first | exact ih0 _ _ _ _ | exact ih1 _ _ _ _ | exact ih2 _ _ _ _ | exact LeO.refl _ | exact LeO.none _ | refine LeO.ite ?_ ?_ | refine LeO.bind ?_ (fun _ => ?_)
theorem spec_l2Put.calls (k : Nat) (a0 : Int) (a1 : Int) (a2 : Int) (r1 : ByteArray) (r2 : Int) (r3 : Bool) (w : World) (h : spec_l2Put.f k a0 a1 a2 = some (r1, r2, r3)) :
  Calls Tryd.prog 92 #[.int .i64 a0, .int .i64 a1, .int .i64 a2] w fun e w' => e = .returned (.tuple #[.string r1, .int .i64 r2, .bool r3]) ∧ Below w.heap.size w w' := by
 have HB := Aside0.mk (Below.refl w.heap.size w)
 have H : (if a0 = 1 then ((spec_l1Utf8.f a2).bind fun t193 => (some (t193, 0, true))) else ((spec_l2Units.f a0).bind fun t194 => (if t194 = true then (spec_l2Put.j0 k a0 a1 a2 (decide (a2 < 65536))) else (spec_l2Put.j0 k a0 a1 a2 false)))) = some (r1, r2, r3) := h
 clear h
 by_cases c4 : a0 = 1
 ·rw [if_pos c4] at H
  have c4b0 : (a0 == 1) = true := beq_iff_eq.mpr c4
  have c4b1 : (a0 != 1) = false := bne_eq_false_iff_eq.mpr c4
  clear c4
  replace H := Option.bind_eq_some_iff.mp H
  obtain ⟨t193, A50, H⟩ := H
  replace H : (some (t193, 0, true)) = some (r1, r2, r3) := H
  have A5 := Aside0.mk A50
  clear A50
  simp only [Option.some.injEq, Prod.mk.injEq] at H
  obtain ⟨rfl, rfl, rfl⟩ := H
  go_enter Tryd.func92, Tryd.ntmps92
  go_wp2_with (first | ((with_reducible refine gate_callee (f := 70) rfl ?_); refine goesL_ (some 16) rfl rfl Tryd.func70 (by kernel_rfl) rfl #[.int .i64 a2] rfl Zb92_0 ?_; (with_reducible refine (spec_l1Utf8.calls a2 t193 _ A5.out).mono ?_); rintro e w6 ⟨rfl, hb⟩; refine ⟨_, rfl, ?_⟩; replace HB := Aside0.mk (below_step Sw.hb hb)))
  go_ret3
  exact ⟨Sw.e, HB.out⟩
 ·rw [if_neg c4] at H
  have c4b0 : (a0 == 1) = false := beq_eq_false_iff_ne.mpr c4
  have c4b1 : (a0 != 1) = true := bne_iff_ne.mpr c4
  have HC7 := Aside0.mk H
  clear H
  go_enter Tryd.func92, Tryd.ntmps92
  go_upto_region 3 with (fail)
  go_cut [17] (fun v17 wc => ∃ (kq : Nat) (x17_6 : Bool), v17 = .bool x17_6 ∧ Aside0 (spec_l2Put.j0 kq a0 a1 a2 x17_6 = some (r1, r2, r3)) ∧ Aside0 (kq ≤ k) ∧ Aside0 (Below w.heap.size w wc))
  case first =>
   have H := HC7.out
   clear HC7
   replace H := Option.bind_eq_some_iff.mp H
   obtain ⟨t194, A80, H⟩ := H
   replace H : (if t194 = true then (spec_l2Put.j0 k a0 a1 a2 (decide (a2 < 65536))) else (spec_l2Put.j0 k a0 a1 a2 false)) = some (r1, r2, r3) := H
   have A8 := Aside0.mk A80
   clear A80
   by_cases c9 : t194 = true
   ·subst c9
    have H1 : (spec_l2Put.j0 k a0 a1 a2 (decide (a2 < 65536))) = some (r1, r2, r3) := by rw [if_pos rfl] at H; exact H
    clear H
    have H := H1
    clear H1
    have H' := Aside0.mk H
    clear H
    go_wp2_with (first | ((with_reducible refine gate_callee (f := 62) rfl ?_); refine goesL_ (some 19) rfl rfl Tryd.func62 (by kernel_rfl) rfl #[.int .i64 a0] rfl Zb92_0 ?_; (with_reducible refine (spec_l2Units.calls a0 true _ A8.out).mono ?_); rintro e w' ⟨rfl, ⟨nd, rfl⟩⟩; refine ⟨_, rfl, ?_⟩))
    go_meet
    case rel => exact ⟨_, (decide (a2 < 65536)), Sw.r, H', ⟨by first | omega | exact Nat.le_refl _⟩, ⟨Sw.hb⟩⟩
   ·replace c9 := Bool.eq_false_iff.mpr c9
    subst c9
    have H1 : (spec_l2Put.j0 k a0 a1 a2 false) = some (r1, r2, r3) := by rw [if_neg (show ¬ (false = true) by decide)] at H; exact H
    clear H
    have H := H1
    clear H1
    have H' := Aside0.mk H
    clear H
    go_wp2_with (first | ((with_reducible refine gate_callee (f := 62) rfl ?_); refine goesL_ (some 19) rfl rfl Tryd.func62 (by kernel_rfl) rfl #[.int .i64 a0] rfl Zb92_0 ?_; (with_reducible refine (spec_l2Units.calls a0 false _ A8.out).mono ?_); rintro e w' ⟨rfl, ⟨nd, rfl⟩⟩; refine ⟨_, rfl, ?_⟩))
    go_meet
    case rel => exact ⟨_, (false), Sw.r, H', ⟨by first | omega | exact Nat.le_refl _⟩, ⟨Sw.hb⟩⟩
  case rest =>
   clear HC7
   try clear p2
   try clear c4
   try clear c4b0
   try clear c4b1
   try clear c6
   try clear c7
   try clear c9
   obtain ⟨kq, x17_6, rfl, HA, HJ6, HB⟩ := hcut
   cases kq with
   | zero => exact absurd HA.out (by simp [spec_l2Put.j0])
   | succ kj6 =>
    have H := HA.out
    clear HA
    simp only [spec_l2Put.j0] at H
    by_cases c10 : x17_6 = true
    ·subst c10
     have H1 : ((spec_l2Pair.f a0 a2).bind fun t195 => (some (t195, 0, true))) = some (r1, r2, r3) := by rw [if_pos rfl] at H; exact H
     clear H
     have H := H1
     clear H1
     replace H := Option.bind_eq_some_iff.mp H
     obtain ⟨t195, A110, H⟩ := H
     replace H : (some (t195, 0, true)) = some (r1, r2, r3) := H
     have A11 := Aside0.mk A110
     clear A110
     simp only [Option.some.injEq, Prod.mk.injEq] at H
     obtain ⟨rfl, rfl, rfl⟩ := H
     go_wp2_with (first | ((with_reducible refine gate_callee (f := 110) rfl ?_); refine goesL_ (some 26) rfl rfl Tryd.func110 (by kernel_rfl) rfl #[.int .i64 a0, .int .i64 a2] rfl Zb92_0 ?_; (with_reducible refine (spec_l2Pair.calls a0 a2 t195 _ A11.out).mono ?_); rintro e w12 ⟨rfl, hb⟩; refine ⟨_, rfl, ?_⟩; replace HB := Aside0.mk (below_step Sw.hb hb)))
     go_ret3
     exact ⟨Sw.e, HB.out⟩
    ·replace c10 := Bool.eq_false_iff.mpr c10
     subst c10
     have H1 : ((spec_l2Units.f a0).bind fun t196 => (if t196 = true then ((spec_l2Pair.f a0 (wrap64 (55296 + (wrap64 (Int.tdiv (wrap64 (a2 - 65536)) 1024))))).bind fun t197 => ((spec_l2Pair.f a0 (wrap64 (56320 + (Int.tmod (wrap64 (a2 - 65536)) 1024)))).bind fun t198 => (if t197.size + t198.size ≤ 9223372036854775807 then (some (t197 ++ t198, 0, true)) else (none)))) else (if a0 = 4 then (some (strOfNums (([(a2) % 256] : List Int)), 0, decide (a2 < 256))) else (if a2 < 32 then ((some (([(a2) % 256] : List Int) : List Int)).bind fun y202 => (if a2 = 14 then (some (strOfNums y202, a1, false)) else (some (strOfNums y202, a1, (a2 != 15))))) else ((spec_l1In.f a2 12352 12446).bind fun t205 => (if t205 = true then (spec_l2Put.j1 kj6 a1 a2 1 (wrap64 ((wrap64 (a2 - 12352)) + 32))) else (spec_l2Put.j1 kj6 a1 a2 0 a2))))))) = some (r1, r2, r3) := by rw [if_neg (show ¬ (false = true) by decide)] at H; exact H
     clear H
     have H := H1
     clear H1
     replace H := Option.bind_eq_some_iff.mp H
     obtain ⟨t196, A130, H⟩ := H
     replace H : (if t196 = true then ((spec_l2Pair.f a0 (wrap64 (55296 + (wrap64 (Int.tdiv (wrap64 (a2 - 65536)) 1024))))).bind fun t197 => ((spec_l2Pair.f a0 (wrap64 (56320 + (Int.tmod (wrap64 (a2 - 65536)) 1024)))).bind fun t198 => (if t197.size + t198.size ≤ 9223372036854775807 then (some (t197 ++ t198, 0, true)) else (none)))) else (if a0 = 4 then (some (strOfNums (([(a2) % 256] : List Int)), 0, decide (a2 < 256))) else (if a2 < 32 then ((some (([(a2) % 256] : List Int) : List Int)).bind fun y202 => (if a2 = 14 then (some (strOfNums y202, a1, false)) else (some (strOfNums y202, a1, (a2 != 15))))) else ((spec_l1In.f a2 12352 12446).bind fun t205 => (if t205 = true then (spec_l2Put.j1 kj6 a1 a2 1 (wrap64 ((wrap64 (a2 - 12352)) + 32))) else (spec_l2Put.j1 kj6 a1 a2 0 a2)))))) = some (r1, r2, r3) := H
     have A13 := Aside0.mk A130
     clear A130
     by_cases c14 : t196 = true
     ·subst c14
      have H1 : ((spec_l2Pair.f a0 (wrap64 (55296 + (wrap64 (Int.tdiv (wrap64 (a2 - 65536)) 1024))))).bind fun t197 => ((spec_l2Pair.f a0 (wrap64 (56320 + (Int.tmod (wrap64 (a2 - 65536)) 1024)))).bind fun t198 => (if t197.size + t198.size ≤ 9223372036854775807 then (some (t197 ++ t198, 0, true)) else (none)))) = some (r1, r2, r3) := by rw [if_pos rfl] at H; exact H
      clear H
      have H := H1
      clear H1
      replace H := Option.bind_eq_some_iff.mp H
      obtain ⟨t197, A150, H⟩ := H
      replace H : ((spec_l2Pair.f a0 (wrap64 (56320 + (Int.tmod (wrap64 (a2 - 65536)) 1024)))).bind fun t198 => (if t197.size + t198.size ≤ 9223372036854775807 then (some (t197 ++ t198, 0, true)) else (none))) = some (r1, r2, r3) := H
      have A15 := Aside0.mk A150
      clear A150
      replace H := Option.bind_eq_some_iff.mp H
      obtain ⟨t198, A160, H⟩ := H
      replace H : (if t197.size + t198.size ≤ 9223372036854775807 then (some (t197 ++ t198, 0, true)) else (none)) = some (r1, r2, r3) := H
      have A16 := Aside0.mk A160
      clear A160
      by_cases c17 : t197.size + t198.size ≤ 9223372036854775807
      ·rw [if_pos c17] at H
       have c17b0 := eq_true c17
       have c17b1 : decide (t197.size + t198.size ≤ 9223372036854775807) = true := decide_eq_true c17
       try have c17b2 : (9223372036854775807 < t197.size + t198.size) = False := eq_false (Nat.not_lt.2 c17)
       simp only [Option.some.injEq, Prod.mk.injEq] at H
       obtain ⟨rfl, rfl, rfl⟩ := H
       go_wp2_with (first | ((with_reducible refine gate_callee (f := 62) rfl ?_); refine goesL_ (some 29) rfl rfl Tryd.func62 (by kernel_rfl) rfl #[.int .i64 a0] rfl Zb92_0 ?_; (with_reducible refine (spec_l2Units.calls a0 true _ A13.out).mono ?_); rintro e w' ⟨rfl, ⟨nd, rfl⟩⟩; refine ⟨_, rfl, ?_⟩) | ((with_reducible refine gate_callee (f := 110) rfl ?_); refine goesL_ (some 36) rfl rfl Tryd.func110 (by kernel_rfl) rfl #[.int .i64 a0, .int .i64 (wrap64 (55296 + (wrap64 (Int.tdiv (wrap64 (a2 - 65536)) 1024))))] rfl Zb92_0 ?_; (with_reducible refine (spec_l2Pair.calls a0 (wrap64 (55296 + (wrap64 (Int.tdiv (wrap64 (a2 - 65536)) 1024)))) t197 _ A15.out).mono ?_); rintro e w18 ⟨rfl, hb⟩; refine ⟨_, rfl, ?_⟩; replace HB := Aside0.mk (below_step Sw.hb hb)) | ((with_reducible refine gate_callee (f := 110) rfl ?_); refine goesL_ (some 41) rfl rfl Tryd.func110 (by kernel_rfl) rfl #[.int .i64 a0, .int .i64 (wrap64 (56320 + (Int.tmod (wrap64 (a2 - 65536)) 1024)))] rfl Zb92_0 ?_; (with_reducible refine (spec_l2Pair.calls a0 (wrap64 (56320 + (Int.tmod (wrap64 (a2 - 65536)) 1024))) t198 _ A16.out).mono ?_); rintro e w19 ⟨rfl, hb⟩; refine ⟨_, rfl, ?_⟩; replace HB := Aside0.mk (below_step Sw.hb hb)))
       go_ret3
       exact ⟨Sw.e, HB.out⟩
      ·rw [if_neg c17] at H
       exact absurd H (by simp)
     ·replace c14 := Bool.eq_false_iff.mpr c14
      subst c14
      have H1 : (if a0 = 4 then (some (strOfNums (([(a2) % 256] : List Int)), 0, decide (a2 < 256))) else (if a2 < 32 then ((some (([(a2) % 256] : List Int) : List Int)).bind fun y202 => (if a2 = 14 then (some (strOfNums y202, a1, false)) else (some (strOfNums y202, a1, (a2 != 15))))) else ((spec_l1In.f a2 12352 12446).bind fun t205 => (if t205 = true then (spec_l2Put.j1 kj6 a1 a2 1 (wrap64 ((wrap64 (a2 - 12352)) + 32))) else (spec_l2Put.j1 kj6 a1 a2 0 a2))))) = some (r1, r2, r3) := by rw [if_neg (show ¬ (false = true) by decide)] at H; exact H
      clear H
      have H := H1
      clear H1
      by_cases c20 : a0 = 4
      ·rw [if_pos c20] at H
       have c20b0 : (a0 == 4) = true := beq_iff_eq.mpr c20
       have c20b1 : (a0 != 4) = false := bne_eq_false_iff_eq.mpr c20
       clear c20
       obtain ⟨y199, hy199⟩ : ∃ y_ : List Int, y_ = (([(a2) % 256] : List Int)) := ⟨_, rfl⟩
       replace H : (some (strOfNums y199, 0, decide (a2 < 256))) = some (r1, r2, r3) := by rw [hy199]; exact H
       have Ny199 := Aside0.mk hy199
       clear hy199
       simp only [Option.some.injEq, Prod.mk.injEq] at H
       obtain ⟨rfl, rfl, rfl⟩ := H
       go_wp2_with (first | ((with_reducible refine gate_callee (f := 62) rfl ?_); refine goesL_ (some 29) rfl rfl Tryd.func62 (by kernel_rfl) rfl #[.int .i64 a0] rfl Zb92_0 ?_; (with_reducible refine (spec_l2Units.calls a0 false _ A13.out).mono ?_); rintro e w' ⟨rfl, ⟨nd, rfl⟩⟩; refine ⟨_, rfl, ?_⟩) | ((with_reducible refine gate_dst (N := 48) rfl ?_); refine Kd.R_lit (Kd.int .u8) _ 5 ?hg (N := 48) ?hd (xs := ([(a2) % 256] : List Int)) (inner := [.int .u8 ((a2) % 256)]) (ok := fun _ => True) (okp := fun _ => True) ?hr ?hp (fun _ hk => hk) trivial (Below.refl _ _) (Nat.le_refl _) (by simp) ?_; (case hd => rfl); (case hg => rfl); (case hr => go_simp <;> rfl); (case hp => exact (Reps.one (show Kd.M (Kd.int .u8) _ _ _ ((a2) % 256) [.int .u8 ((a2) % 256)] from rfl) (Reps.none _ _))); intro v200 w21 ho22 hb hg_ hnew_; clear hg_ hnew_; (first | rw [← Ny199.out] at ho22 | (simp only [Int.reduceToNat] at ho22; rw [← Ny199.out] at ho22)); have HO201 := Aside0.mk (Kd.R_lower ho22 (below_size Sw.hb)); replace HB := Aside0.mk (below_step Sw.hb hb); clear hb ho22; have hcv23 := own_string (P := Tryd.prog) Tryd.underlying22 Tryd.underlying5 Tryd.underlying9 (Kd.own_of_R HO201.out)))
       go_ret3
       exact ⟨Sw.e, HB.out⟩
      ·rw [if_neg c20] at H
       have c20b0 : (a0 == 4) = false := beq_eq_false_iff_ne.mpr c20
       have c20b1 : (a0 != 4) = true := bne_iff_ne.mpr c20
       by_cases c24 : a2 < 32
       ·rw [if_pos c24] at H
        have c24b0 : decide (a2 < 32) = true := decide_eq_true c24
        clear c24
        obtain ⟨y202, hy202⟩ : ∃ y_ : List Int, y_ = (([(a2) % 256] : List Int)) := ⟨_, rfl⟩
        replace H : (if a2 = 14 then (some (strOfNums y202, a1, false)) else (some (strOfNums y202, a1, (a2 != 15)))) = some (r1, r2, r3) := by rw [hy202]; exact H
        have Ny202 := Aside0.mk hy202
        clear hy202
        by_cases c25 : a2 = 14
        ·rw [if_pos c25] at H
         have c25b0 : (a2 == 14) = true := beq_iff_eq.mpr c25
         have c25b1 : (a2 != 14) = false := bne_eq_false_iff_eq.mpr c25
         clear c25
         simp only [Option.some.injEq, Prod.mk.injEq] at H
         obtain ⟨rfl, rfl, rfl⟩ := H
         go_wp2_with (first | ((with_reducible refine gate_callee (f := 62) rfl ?_); refine goesL_ (some 29) rfl rfl Tryd.func62 (by kernel_rfl) rfl #[.int .i64 a0] rfl Zb92_0 ?_; (with_reducible refine (spec_l2Units.calls a0 false _ A13.out).mono ?_); rintro e w' ⟨rfl, ⟨nd, rfl⟩⟩; refine ⟨_, rfl, ?_⟩) | ((with_reducible refine gate_dst (N := 57) rfl ?_); refine Kd.R_lit (Kd.int .u8) _ 5 ?hg (N := 57) ?hd (xs := ([(a2) % 256] : List Int)) (inner := [.int .u8 ((a2) % 256)]) (ok := fun _ => True) (okp := fun _ => True) ?hr ?hp (fun _ hk => hk) trivial (Below.refl _ _) (Nat.le_refl _) (by simp) ?_; (case hd => rfl); (case hg => rfl); (case hr => go_simp <;> rfl); (case hp => exact (Reps.one (show Kd.M (Kd.int .u8) _ _ _ ((a2) % 256) [.int .u8 ((a2) % 256)] from rfl) (Reps.none _ _))); intro v203 w26 ho27 hb hg_ hnew_; clear hg_ hnew_; (first | rw [← Ny202.out] at ho27 | (simp only [Int.reduceToNat] at ho27; rw [← Ny202.out] at ho27)); have HO204 := Aside0.mk (Kd.R_lower ho27 (below_size Sw.hb)); replace HB := Aside0.mk (below_step Sw.hb hb); clear hb ho27; have hcv28 := own_string (P := Tryd.prog) Tryd.underlying22 Tryd.underlying5 Tryd.underlying9 (Kd.own_of_R HO204.out)))
         go_ret3
         exact ⟨Sw.e, HB.out⟩
        ·rw [if_neg c25] at H
         have c25b0 : (a2 == 14) = false := beq_eq_false_iff_ne.mpr c25
         have c25b1 : (a2 != 14) = true := bne_iff_ne.mpr c25
         simp only [Option.some.injEq, Prod.mk.injEq] at H
         obtain ⟨rfl, rfl, rfl⟩ := H
         go_wp2_with (first | ((with_reducible refine gate_callee (f := 62) rfl ?_); refine goesL_ (some 29) rfl rfl Tryd.func62 (by kernel_rfl) rfl #[.int .i64 a0] rfl Zb92_0 ?_; (with_reducible refine (spec_l2Units.calls a0 false _ A13.out).mono ?_); rintro e w' ⟨rfl, ⟨nd, rfl⟩⟩; refine ⟨_, rfl, ?_⟩) | ((with_reducible refine gate_dst (N := 57) rfl ?_); refine Kd.R_lit (Kd.int .u8) _ 5 ?hg (N := 57) ?hd (xs := ([(a2) % 256] : List Int)) (inner := [.int .u8 ((a2) % 256)]) (ok := fun _ => True) (okp := fun _ => True) ?hr ?hp (fun _ hk => hk) trivial (Below.refl _ _) (Nat.le_refl _) (by simp) ?_; (case hd => rfl); (case hg => rfl); (case hr => go_simp <;> rfl); (case hp => exact (Reps.one (show Kd.M (Kd.int .u8) _ _ _ ((a2) % 256) [.int .u8 ((a2) % 256)] from rfl) (Reps.none _ _))); intro v203 w29 ho30 hb hg_ hnew_; clear hg_ hnew_; (first | rw [← Ny202.out] at ho30 | (simp only [Int.reduceToNat] at ho30; rw [← Ny202.out] at ho30)); have HO204 := Aside0.mk (Kd.R_lower ho30 (below_size Sw.hb)); replace HB := Aside0.mk (below_step Sw.hb hb); clear hb ho30; have hcv31 := own_string (P := Tryd.prog) Tryd.underlying22 Tryd.underlying5 Tryd.underlying9 (Kd.own_of_R HO204.out)))
         go_ret3
         exact ⟨Sw.e, HB.out⟩
       ·rw [if_neg c24] at H
        have c24b0 : decide (a2 < 32) = false := decide_eq_false c24
        clear c24
        replace H := Option.bind_eq_some_iff.mp H
        obtain ⟨t205, A320, H⟩ := H
        replace H : (if t205 = true then (spec_l2Put.j1 kj6 a1 a2 1 (wrap64 ((wrap64 (a2 - 12352)) + 32))) else (spec_l2Put.j1 kj6 a1 a2 0 a2)) = some (r1, r2, r3) := H
        have A32 := Aside0.mk A320
        clear A320
        have HC33 := Aside0.mk H
        clear H
        go_upto_if 68 with (first | ((with_reducible refine gate_callee (f := 62) rfl ?_); refine goesL_ (some 29) rfl rfl Tryd.func62 (by kernel_rfl) rfl #[.int .i64 a0] rfl Zb92_0 ?_; (with_reducible refine (spec_l2Units.calls a0 false _ A13.out).mono ?_); rintro e w' ⟨rfl, ⟨nd, rfl⟩⟩; refine ⟨_, rfl, ?_⟩) | ((with_reducible refine gate_callee (f := 60) rfl ?_); refine goesL_ (some 68) rfl rfl Tryd.func60 (by kernel_rfl) rfl #[.int .i64 a2, .int .i64 12352, .int .i64 12446] rfl Zb92_0 ?_; (with_reducible refine (spec_l1In.calls a2 12352 12446 t205 _ A32.out).mono ?_); rintro e w' ⟨rfl, ⟨nd, rfl⟩⟩; refine ⟨_, rfl, ?_⟩))
        (try simp only [Act.put, List.setIfInBounds_toArray, List.set_cons_zero, List.set_cons_succ])
        go_cut [9, 10] (fun v9 v10 wc => ∃ (kq : Nat) (x9_32 : Int) (x10_32 : Int), v9 = .int .i64 x9_32 ∧ v10 = .int .i64 x10_32 ∧ Aside0 (spec_l2Put.j1 kq a1 a2 x9_32 x10_32 = some (r1, r2, r3)) ∧ Aside0 (kq ≤ kj6) ∧ Aside0 (Below w.heap.size w wc))
        case first =>
         have H := HC33.out
         clear HC33
         by_cases c34 : t205 = true
         ·subst c34
          have H1 : (spec_l2Put.j1 kj6 a1 a2 1 (wrap64 ((wrap64 (a2 - 12352)) + 32))) = some (r1, r2, r3) := by rw [if_pos rfl] at H; exact H
          clear H
          have H := H1
          clear H1
          have H' := Aside0.mk H
          clear H
          go_wp2
          go_meet
          case rel => exact ⟨_, (1), (wrap64 ((wrap64 (a2 - 12352)) + 32)), Sw.r, Sw.r, H', ⟨by have := HJ6.out; first | omega | exact Nat.le_refl _⟩, ⟨Sw.hb⟩⟩
         ·replace c34 := Bool.eq_false_iff.mpr c34
          subst c34
          have H1 : (spec_l2Put.j1 kj6 a1 a2 0 a2) = some (r1, r2, r3) := by rw [if_neg (show ¬ (false = true) by decide)] at H; exact H
          clear H
          have H := H1
          clear H1
          have H' := Aside0.mk H
          clear H
          go_wp2
          go_meet
          case rel => exact ⟨_, (0), (a2), Sw.r, Sw.r, H', ⟨by have := HJ6.out; first | omega | exact Nat.le_refl _⟩, ⟨Sw.hb⟩⟩
        case rest =>
         clear HC33
         try clear c1
         try clear c2
         try clear p2
         try clear hcv2
         try clear c3
         try clear hcv3
         try clear c4
         try clear c4b0
         try clear c4b1
         try clear c6
         try clear p6
         try clear c7
         try clear c9
         try clear c10
         try clear c11
         try clear c14
         try clear c17
         try clear c17b0
         try clear c17b1
         try clear c17b2
         try clear c20
         try clear c20b0
         try clear c20b1
         try clear hcv23
         try clear c24
         try clear c24b0
         try clear c25
         try clear c25b0
         try clear c25b1
         try clear hcv28
         try clear hcv31
         try clear c34
         try clear p2
         obtain ⟨kq, x9_32, x10_32, rfl, rfl, HA, HJ32, HB⟩ := hcut
         cases kq with
         | zero => exact absurd HA.out (by simp [spec_l2Put.j1])
         | succ kj32 =>
          have H := HA.out
          clear HA
          simp only [spec_l2Put.j1] at H
          have HC35 := Aside0.mk H
          clear H
          go_upto_region 17 with (fail)
          go_cut [82] (fun v82 wc => ∃ (kq : Nat) (x82_34 : Bool), v82 = .bool x82_34 ∧ Aside0 (spec_l2Put.j2 kq a1 x9_32 x10_32 x82_34 = some (r1, r2, r3)) ∧ Aside0 (kq ≤ kj32) ∧ Aside0 (Below w.heap.size w wc))
          case first =>
           have H := HC35.out
           clear HC35
           replace H := Option.bind_eq_some_iff.mp H
           obtain ⟨t206, A360, H⟩ := H
           replace H : (if t206 = true then (if x9_32 = 0 then (spec_l2Put.j2 kj32 a1 x9_32 x10_32 (decide (a2 > 126))) else (spec_l2Put.j2 kj32 a1 x9_32 x10_32 false)) else (spec_l2Put.j2 kj32 a1 x9_32 x10_32 true)) = some (r1, r2, r3) := H
           have A36 := Aside0.mk A360
           clear A360
           by_cases c37 : t206 = true
           ·subst c37
            have H1 : (if x9_32 = 0 then (spec_l2Put.j2 kj32 a1 x9_32 x10_32 (decide (a2 > 126))) else (spec_l2Put.j2 kj32 a1 x9_32 x10_32 false)) = some (r1, r2, r3) := by rw [if_pos rfl] at H; exact H
            clear H
            have H := H1
            clear H1
            by_cases c38 : x9_32 = 0
            ·rw [if_pos c38] at H
             have c38b0 : (x9_32 == 0) = true := beq_iff_eq.mpr c38
             have c38b1 : (x9_32 != 0) = false := bne_eq_false_iff_eq.mpr c38
             clear c38
             (first | rw [c38b0] | (simp only [i64_w, i32_w]; rw [c38b0]) | skip)
             have H' := Aside0.mk H
             clear H
             go_wp2_with (first | ((with_reducible refine gate_callee (f := 60) rfl ?_); refine goesL_ (some 73) rfl rfl Tryd.func60 (by kernel_rfl) rfl #[.int .i64 x10_32, .int .i64 32, .int .i64 126] rfl Zb92_0 ?_; (with_reducible refine (spec_l1In.calls x10_32 32 126 true _ A36.out).mono ?_); rintro e w' ⟨rfl, ⟨nd, rfl⟩⟩; refine ⟨_, rfl, ?_⟩))
             go_meet
             case rel => exact ⟨_, (decide (a2 > 126)), Sw.r, H', ⟨Zb92_1⟩, ⟨Sw.hb⟩⟩
            ·rw [if_neg c38] at H
             have c38b0 : (x9_32 == 0) = false := beq_eq_false_iff_ne.mpr c38
             have c38b1 : (x9_32 != 0) = true := bne_iff_ne.mpr c38
             (first | rw [c38b0] | (simp only [i64_w, i32_w]; rw [c38b0]) | skip)
             have H' := Aside0.mk H
             clear H
             go_wp2_with (first | ((with_reducible refine gate_callee (f := 60) rfl ?_); refine goesL_ (some 73) rfl rfl Tryd.func60 (by kernel_rfl) rfl #[.int .i64 x10_32, .int .i64 32, .int .i64 126] rfl Zb92_0 ?_; (with_reducible refine (spec_l1In.calls x10_32 32 126 true _ A36.out).mono ?_); rintro e w' ⟨rfl, ⟨nd, rfl⟩⟩; refine ⟨_, rfl, ?_⟩))
             go_meet
             case rel => exact ⟨_, (false), Sw.r, H', ⟨Zb92_1⟩, ⟨Sw.hb⟩⟩
           ·replace c37 := Bool.eq_false_iff.mpr c37
            subst c37
            have H1 : (spec_l2Put.j2 kj32 a1 x9_32 x10_32 true) = some (r1, r2, r3) := by rw [if_neg (show ¬ (false = true) by decide)] at H; exact H
            clear H
            have H := H1
            clear H1
            have H' := Aside0.mk H
            clear H
            go_wp2_with (first | ((with_reducible refine gate_callee (f := 60) rfl ?_); refine goesL_ (some 73) rfl rfl Tryd.func60 (by kernel_rfl) rfl #[.int .i64 x10_32, .int .i64 32, .int .i64 126] rfl Zb92_0 ?_; (with_reducible refine (spec_l1In.calls x10_32 32 126 false _ A36.out).mono ?_); rintro e w' ⟨rfl, ⟨nd, rfl⟩⟩; refine ⟨_, rfl, ?_⟩))
            go_meet
            case rel => exact ⟨_, (true), Sw.r, H', ⟨Zb92_1⟩, ⟨Sw.hb⟩⟩
          case rest =>
           clear HC35
           try clear c1
           try clear c2
           try clear p2
           try clear hcv2
           try clear c3
           try clear hcv3
           try clear c4
           try clear c4b0
           try clear c4b1
           try clear c6
           try clear p6
           try clear c7
           try clear c9
           try clear c10
           try clear c11
           try clear c14
           try clear c17
           try clear c17b0
           try clear c17b1
           try clear c17b2
           try clear c20
           try clear c20b0
           try clear c20b1
           try clear hcv23
           try clear c24
           try clear c24b0
           try clear c25
           try clear c25b0
           try clear c25b1
           try clear hcv28
           try clear hcv31
           try clear c34
           try clear c37
           try clear c38
           try clear c38b0
           try clear c38b1
           try clear p2
           try clear p6
           obtain ⟨kq, x82_34, rfl, HA, HJ34, HB⟩ := hcut
           cases kq with
           | zero => exact absurd HA.out (by simp [spec_l2Put.j2])
           | succ kj34 =>
            have H := HA.out
            clear HA
            simp only [spec_l2Put.j2] at H
            by_cases c39 : x82_34 = true
            ·subst c39
             have H1 : (some ((⟨#[]⟩ : ByteArray), 0, false)) = some (r1, r2, r3) := by rw [if_pos rfl] at H; exact H
             clear H
             have H := H1
             clear H1
             simp only [Option.some.injEq, Prod.mk.injEq] at H
             obtain ⟨rfl, rfl, rfl⟩ := H
             go_wp2
             go_ret3
             exact ⟨Sw.e, HB.out⟩
            ·replace c39 := Bool.eq_false_iff.mpr c39
             subst c39
             have H1 : ((some (([(x10_32) % 256] : List Int) : List Int)).bind fun y207 => (if x9_32 = a1 then (some (strOfNums y207, x9_32, true)) else ((some (([(wrap64 (15 - x9_32)) % 256] : List Int) : List Int)).bind fun y210 => (if (strOfNums y210).size + (strOfNums y207).size ≤ 9223372036854775807 then (some ((strOfNums y210) ++ (strOfNums y207), x9_32, true)) else (none))))) = some (r1, r2, r3) := by rw [if_neg (show ¬ (false = true) by decide)] at H; exact H
             clear H
             have H := H1
             clear H1
             obtain ⟨y207, hy207⟩ : ∃ y_ : List Int, y_ = (([(x10_32) % 256] : List Int)) := ⟨_, rfl⟩
             replace H : (if x9_32 = a1 then (some (strOfNums y207, x9_32, true)) else ((some (([(wrap64 (15 - x9_32)) % 256] : List Int) : List Int)).bind fun y210 => (if (strOfNums y210).size + (strOfNums y207).size ≤ 9223372036854775807 then (some ((strOfNums y210) ++ (strOfNums y207), x9_32, true)) else (none)))) = some (r1, r2, r3) := by rw [hy207]; exact H
             have Ny207 := Aside0.mk hy207
             clear hy207
             by_cases c40 : x9_32 = a1
             ·rw [if_pos c40] at H
              have c40b0 : (x9_32 == a1) = true := beq_iff_eq.mpr c40
              have c40b1 : (x9_32 != a1) = false := bne_eq_false_iff_eq.mpr c40
              clear c40
              simp only [Option.some.injEq, Prod.mk.injEq] at H
              obtain ⟨rfl, rfl, rfl⟩ := H
              go_wp2_with (first | ((with_reducible refine gate_dst (N := 85) rfl ?_); refine Kd.R_lit (Kd.int .u8) _ 5 ?hg (N := 85) ?hd (xs := ([(x10_32) % 256] : List Int)) (inner := [.int .u8 ((x10_32) % 256)]) (ok := fun _ => True) (okp := fun _ => True) ?hr ?hp (fun _ hk => hk) trivial (Below.refl _ _) (Nat.le_refl _) (by simp) ?_; (case hd => rfl); (case hg => rfl); (case hr => go_simp <;> rfl); (case hp => exact (Reps.one (show Kd.M (Kd.int .u8) _ _ _ ((x10_32) % 256) [.int .u8 ((x10_32) % 256)] from rfl) (Reps.none _ _))); intro v208 w41 ho42 hb hg_ hnew_; clear hg_ hnew_; (first | rw [← Ny207.out] at ho42 | (simp only [Int.reduceToNat] at ho42; rw [← Ny207.out] at ho42)); have HO209 := Aside0.mk (Kd.R_lower ho42 (below_size Sw.hb)); replace HB := Aside0.mk (below_step Sw.hb hb); clear hb ho42; have hcv43 := own_string (P := Tryd.prog) Tryd.underlying22 Tryd.underlying5 Tryd.underlying9 (Kd.own_of_R HO209.out)))
              go_ret3
              exact ⟨Sw.e, HB.out⟩
             ·rw [if_neg c40] at H
              have c40b0 : (x9_32 == a1) = false := beq_eq_false_iff_ne.mpr c40
              have c40b1 : (x9_32 != a1) = true := bne_iff_ne.mpr c40
              obtain ⟨y210, hy210⟩ : ∃ y_ : List Int, y_ = (([(wrap64 (15 - x9_32)) % 256] : List Int)) := ⟨_, rfl⟩
              replace H : (if (strOfNums y210).size + (strOfNums y207).size ≤ 9223372036854775807 then (some ((strOfNums y210) ++ (strOfNums y207), x9_32, true)) else (none)) = some (r1, r2, r3) := by rw [hy210]; exact H
              have Ny210 := Aside0.mk hy210
              clear hy210
              by_cases c44 : (strOfNums y210).size + (strOfNums y207).size ≤ 9223372036854775807
              ·rw [if_pos c44] at H
               have c44b0 := eq_true c44
               have c44b1 : decide ((strOfNums y210).size + (strOfNums y207).size ≤ 9223372036854775807) = true := decide_eq_true c44
               try have c44b2 : (9223372036854775807 < (strOfNums y210).size + (strOfNums y207).size) = False := eq_false (Nat.not_lt.2 c44)
               simp only [Option.some.injEq, Prod.mk.injEq] at H
               obtain ⟨rfl, rfl, rfl⟩ := H
               go_wp2_with (first | ((with_reducible refine gate_dst (N := 85) rfl ?_); refine Kd.R_lit (Kd.int .u8) _ 5 ?hg (N := 85) ?hd (xs := ([(x10_32) % 256] : List Int)) (inner := [.int .u8 ((x10_32) % 256)]) (ok := fun _ => True) (okp := fun _ => True) ?hr ?hp (fun _ hk => hk) trivial (Below.refl _ _) (Nat.le_refl _) (by simp) ?_; (case hd => rfl); (case hg => rfl); (case hr => go_simp <;> rfl); (case hp => exact (Reps.one (show Kd.M (Kd.int .u8) _ _ _ ((x10_32) % 256) [.int .u8 ((x10_32) % 256)] from rfl) (Reps.none _ _))); intro v208 w45 ho46 hb hg_ hnew_; clear hg_ hnew_; (first | rw [← Ny207.out] at ho46 | (simp only [Int.reduceToNat] at ho46; rw [← Ny207.out] at ho46)); have HO209 := Aside0.mk (Kd.R_lower ho46 (below_size Sw.hb)); replace HB := Aside0.mk (below_step Sw.hb hb); clear hb ho46; have hcv47 := own_string (P := Tryd.prog) Tryd.underlying22 Tryd.underlying5 Tryd.underlying9 (Kd.own_of_R HO209.out)) | ((with_reducible refine gate_dst (N := 93) rfl ?_); refine Kd.R_lit (Kd.int .u8) _ 5 ?hg (N := 93) ?hd (xs := ([(wrap64 (15 - x9_32)) % 256] : List Int)) (inner := [.int .u8 ((wrap64 (15 - x9_32)) % 256)]) (ok := fun _ => True) (okp := fun _ => True) ?hr ?hp (fun _ hk => hk) trivial (Below.refl _ _) (Nat.le_refl _) (by simp) ?_; (case hd => rfl); (case hg => rfl); (case hr => go_simp <;> rfl); (case hp => exact (Reps.one (show Kd.M (Kd.int .u8) _ _ _ ((wrap64 (15 - x9_32)) % 256) [.int .u8 ((wrap64 (15 - x9_32)) % 256)] from rfl) (Reps.none _ _))); intro v211 w48 ho49 hb hg_ hnew_; clear hg_ hnew_; (first | rw [← Ny210.out] at ho49 | (simp only [Int.reduceToNat] at ho49; rw [← Ny210.out] at ho49)); have HO212 := Aside0.mk (Kd.R_lower (Kd.R_new' ho49 (Kd.R_lt (Sw.rt HO209.out))) (below_size Sw.hb)); replace HO209 := Aside0.mk (Kd.R_elder' (Sw.rt HO209.out) (Kd.R_base ho49) hb); replace HB := Aside0.mk (below_step Sw.hb hb); clear hb ho49; have hcv50 := own_string (P := Tryd.prog) Tryd.underlying22 Tryd.underlying5 Tryd.underlying9 (Kd.own_of_R HO212.out)))
               go_ret3
               exact ⟨Sw.e, HB.out⟩
              ·rw [if_neg c44] at H
               exact absurd H (by simp)


end Go.Proofs.YtliafedmhgkciaaDoor.P
