import Derived.Test.YtoipfgpggcnkmaaCP0
import Derived.Test.YtoipfgpggcnkmaaC2
namespace Go.Proofs.Ytoipfgpggcnkmaa.P
open Go.RowKit Go.Proofs.YtoipfgpggcnkmaaW.PrintWords Go.Proofs.YtoipfgpggcnkmaaW.PrintLast Go.Proofs.YtoipfgpggcnkmaaW.PrintMore
attribute [local go_sem] max2_int min2_int max_two min_two max_three min_three max_four min_four   -- for this text's walks alone
set_option linter.unusedVariables false
set_option linter.unusedSimpArgs false


abbrev tt15 : Bool := true
abbrev ff15 : Bool := false
mutual
def impl_GoodAho.j0 : Nat → Int → Bool → List Int → List Int → List Int → List (List Int) → Option (Bool)
 | 0, _, _, _, _, _, _ => none
 | k + 1, x3, x52, x196000, x196001, x196002, x196003 => if x52 = true then (some false) else (impl_GoodAho.l0 k x3 0 x196000 x196001 x196002 x196003)
def impl_GoodAho.l0 : Nat → Int → Int → List Int → List Int → List Int → List (List Int) → Option (Bool)
 | 0, _, _, _, _, _, _ => none
 | k + 1, x53, x54, x196000, x196001, x196002, x196003 => if x54 < x53 then (if 0 ≤ x54 then (if x54 < (x196003.length : Int) then ((impl_isRising.f k (rd_L1 x196003 x54) 0 7).bind fun t201 => (if t201 = true then (if x54 > 0 then (if x54 < (x196000.length : Int) then ((impl_isPlace.f (rd x196000 x54) x54).bind fun t203 => (if t203 = true then (if x54 < (x196001.length : Int) then ((impl_GoodRune.f (rd x196001 x54)).bind fun t205 => (if t205 = true then (if x54 < (x196002.length : Int) then ((impl_isPlace.f (rd x196002 x54) x54).bind fun t207 => (if t207 = true then ((impl_Aho_kid.f k x196000 x196001 x196002 x196003 (rd x196000 x54) (rd x196001 x54)).bind fun t210 => (if t210 = x54 then (impl_GoodAho.l0 k x53 (wrap64 (x54 + 1)) x196000 x196001 x196002 x196003) else (some false))) else (some false))) else (none)) else (some false))) else (none)) else (some false))) else (none)) else (impl_GoodAho.l0 k x53 (wrap64 (x54 + 1)) x196000 x196001 x196002 x196003)) else (some false))) else (none)) else (none)) else (some true)
end
def impl_GoodAho.f (k : Nat) (l0_0 : List Int) (l0_1 : List Int) (l0_2 : List Int) (l0_3 : List (List Int)) : Option (Bool) := (impl_inRange.f (l0_0.length : Int) 1 100).bind fun t196 => (if t196 = true then (if (l0_1.length : Int) = (l0_0.length : Int) then (if (l0_2.length : Int) = (l0_0.length : Int) then (if (l0_3.length : Int) = (l0_0.length : Int) then (if 0 < (l0_0.length : Int) then (if (rd l0_0 0) = (-1) then (if 0 < (l0_1.length : Int) then (if (rd l0_1 0) = (-1) then (if 0 < (l0_2.length : Int) then (impl_GoodAho.j0 k (l0_0.length : Int) ((rd l0_2 0) != 0) l0_0 l0_1 l0_2 l0_3) else (none)) else (impl_GoodAho.j0 k (l0_0.length : Int) true l0_0 l0_1 l0_2 l0_3)) else (none)) else (impl_GoodAho.j0 k (l0_0.length : Int) true l0_0 l0_1 l0_2 l0_3)) else (none)) else (impl_GoodAho.j0 k (l0_0.length : Int) true l0_0 l0_1 l0_2 l0_3)) else (impl_GoodAho.j0 k (l0_0.length : Int) true l0_0 l0_1 l0_2 l0_3)) else (impl_GoodAho.j0 k (l0_0.length : Int) true l0_0 l0_1 l0_2 l0_3)) else (impl_GoodAho.j0 k (l0_0.length : Int) true l0_0 l0_1 l0_2 l0_3))
theorem impl_GoodAho.mono_l : ∀ k, (∀ y0 y1 y2 y3 y4 y5, LeO (impl_GoodAho.j0 k y0 y1 y2 y3 y4 y5) (impl_GoodAho.j0 (k + 1) y0 y1 y2 y3 y4 y5)) ∧ (∀ y0 y1 y2 y3 y4 y5, LeO (impl_GoodAho.l0 k y0 y1 y2 y3 y4 y5) (impl_GoodAho.l0 (k + 1) y0 y1 y2 y3 y4 y5))
 | 0 => ⟨fun _ _ _ _ _ _ r h => by simp [impl_GoodAho.j0] at h, fun _ _ _ _ _ _ r h => by simp [impl_GoodAho.l0] at h⟩
 | k + 1 => by
  obtain ⟨ih0, ih1⟩ := impl_GoodAho.mono_l k
  refine ⟨?_, ?_⟩
  ·intro y0 y1 y2 y3 y4 y5
   unfold impl_GoodAho.j0
   repeat' first
   | (with_reducible exact ih0 _ _ _ _ _ _)
   | (with_reducible exact ih1 _ _ _ _ _ _)
   | (with_reducible exact impl_Aho_kid.mono _ _ _ _ _ _ _)
   | (with_reducible exact impl_isRising.mono _ _ _ _)
   | (with_reducible exact LeO.refl _)
   | (with_reducible exact LeO.none _)
   | (with_reducible refine LeO.ite ?_ ?_)
   | (with_reducible refine LeO.bind ?_ (fun _ => ?_))
   | exact ih0 _ _ _ _ _ _
   | exact ih1 _ _ _ _ _ _
   | exact impl_Aho_kid.mono _ _ _ _ _ _ _
   | exact impl_isRising.mono _ _ _ _
   | exact LeO.none _
   | refine LeO.ite ?_ ?_
   | refine LeO.bind ?_ (fun _ => ?_)
  ·intro y0 y1 y2 y3 y4 y5
   unfold impl_GoodAho.l0
   repeat' first
   | (with_reducible exact ih0 _ _ _ _ _ _)
   | (with_reducible exact ih1 _ _ _ _ _ _)
   | (with_reducible exact impl_Aho_kid.mono _ _ _ _ _ _ _)
   | (with_reducible exact impl_isRising.mono _ _ _ _)
   | (with_reducible exact LeO.refl _)
   | (with_reducible exact LeO.none _)
   | (with_reducible refine LeO.ite ?_ ?_)
   | (with_reducible refine LeO.bind ?_ (fun _ => ?_))
   | exact ih0 _ _ _ _ _ _
   | exact ih1 _ _ _ _ _ _
   | exact impl_Aho_kid.mono _ _ _ _ _ _ _
   | exact impl_isRising.mono _ _ _ _
   | exact LeO.none _
   | refine LeO.ite ?_ ?_
   | refine LeO.bind ?_ (fun _ => ?_)
theorem impl_GoodAho.mono : ∀ a0 a1 a2 a3 k, LeO (impl_GoodAho.f k a0 a1 a2 a3) (impl_GoodAho.f (k + 1) a0 a1 a2 a3) := by
 intro a0 a1 a2 a3 k
 obtain ⟨ih0, ih1⟩ := impl_GoodAho.mono_l k
 unfold impl_GoodAho.f
 repeat' first
   | (with_reducible exact ih0 _ _ _ _ _ _)
   | (with_reducible exact ih1 _ _ _ _ _ _)
   | (with_reducible exact impl_Aho_kid.mono _ _ _ _ _ _ _)
   | (with_reducible exact impl_isRising.mono _ _ _ _)
   | (with_reducible exact LeO.refl _)
   | (with_reducible exact LeO.none _)
   | (with_reducible refine LeO.ite ?_ ?_)
   | (with_reducible refine LeO.bind ?_ (fun _ => ?_))
   | exact ih0 _ _ _ _ _ _
   | exact ih1 _ _ _ _ _ _
   | exact impl_Aho_kid.mono _ _ _ _ _ _ _
   | exact impl_isRising.mono _ _ _ _
   | exact LeO.none _
   | refine LeO.ite ?_ ?_
   | refine LeO.bind ?_ (fun _ => ?_)
def impl_GoodAho.T9 : Bool × List (List Nat × List Nat) := (true, [([], []), ([0], [0]), ([1], [1]), ([2], [2]), ([3, 2], [2, 3]), ([2], [2]), ([4, 5, 2], [2, 4, 5]), ([6, 2], [2, 6]), ([2], [2]), ([7, 8, 2, 2], [2, 7, 8]), ([9, 2], [2, 9]), ([10, 9, 2], [2, 10]), ([11], [11]), ([12, 11], [11, 12]), ([11], [11]), ([13, 14, 11], [11, 13, 14]), ([15, 11], [11, 15]), ([16, 11, 11], [11, 16]), ([17, 11], [11, 17]), ([11, 18, 2], [2, 11, 18]), ([19, 17, 2], [2, 19]), ([20], [20]), ([21, 20], [20, 21]), ([20], [20]), ([22, 23, 20], [20, 22, 23]), ([24, 20], [20, 24]), ([20], [20]), ([25, 26, 20, 20], [20, 25, 26]), ([27, 20], [20, 27]), ([20, 28, 2], [2, 20, 28]), ([29, 27, 2], [2, 29]), ([30], [30]), ([30], [30]), ([32, 30], [30, 32]), ([30], [30]), ([33, 34, 30], [30, 33, 34]), ([35, 30], [30, 35]), ([30], [30]), ([37, 30], [30, 37]), ([30], [30]), ([38, 39, 30], [30, 38, 39]), ([40, 30], [30, 40]), ([31, 36, 41, 30, 30], [30, 31, 36, 41]), ([30], [30]), ([42, 43, 30], [30, 42, 43]), ([30, 44, 2], [2, 30, 44]), ([2, 45], [2, 45])])
def impl_GoodAho.B9 : List Nat := [0, 1, 3, 7, 15, 7, 63, 127, 7, 511, 1023, 2047, 4095, 8191, 4095, 32767, 65535, 131071, 262143, 524287, 1048575, 2097151, 4194303, 2097151, 16777215, 33554431, 2097151, 134217727, 268435455, 536870911, 1073741823, 2147483647, 2147483647, 6442450943, 2147483647, 32212254719, 66571993087, 2147483647, 139586437119, 2147483647, 964220157951, 2063731785727, 4398046511103, 2147483647, 17592186044415, 35184372088831, 70368744177663]
theorem impl_GoodAho.tab9 : rtab .any (opsOf Try.f35 9) = impl_GoodAho.T9 := by kernel_rfl
theorem impl_GoodAho.bits9 : waitsOk impl_GoodAho.T9.2 impl_GoodAho.B9 = true := by kernel_rfl
set_option maxHeartbeats 8000000 in
set_option maxRecDepth 100000 in
theorem impl_GoodAho.calls (k : Nat) (A0_0 : Option Addr) (c0_0 : Nat) (l0_0 : List Int) (A0_1 : Option Addr) (c0_1 : Nat) (l0_1 : List Int) (A0_2 : Option Addr) (c0_2 : Nat) (l0_2 : List Int) (A0_3 : Option Addr) (c0_3 : Nat) (l0_3 : List (List Int)) (r : Bool) (w : World) (hr0_0 : Kd.C (Kd.int .i64) w A0_0 l0_0.length l0_0) (hc0_0 : l0_0.length ≤ c0_0) (hr0_1 : Kd.C (Kd.int .i64) w A0_1 l0_1.length l0_1) (hc0_1 : l0_1.length ≤ c0_1) (hr0_2 : Kd.C (Kd.int .i64) w A0_2 l0_2.length l0_2) (hc0_2 : l0_2.length ≤ c0_2) (hr0_3 : Kd.C (Kd.slice 3 (Kd.int .i64)) w A0_3 l0_3.length l0_3) (hc0_3 : l0_3.length ≤ c0_3) (h : impl_GoodAho.f k l0_0 l0_1 l0_2 l0_3 = some r) :
  Calls Try.prog 35 #[.agg #[.slice A0_0 l0_0.length c0_0, .slice A0_1 l0_1.length c0_1, .slice A0_2 l0_2.length c0_2, .slice A0_3 l0_3.length c0_3]] w fun e w' => e = .returned (.bool r) ∧ Below w.heap.size w w' := by
 have hu30 := Try.underlying30
 have HR0_0 := Aside0.mk hr0_0
 have HC0_0 := Aside0.mk hc0_0
 clear hr0_0 hc0_0
 have HR0_1 := Aside0.mk hr0_1
 have HC0_1 := Aside0.mk hc0_1
 clear hr0_1 hc0_1
 have HR0_2 := Aside0.mk hr0_2
 have HC0_2 := Aside0.mk hc0_2
 clear hr0_2 hc0_2
 have HR0_3 := Aside0.mk hr0_3
 have HC0_3 := Aside0.mk hc0_3
 clear hr0_3 hc0_3
 have HB := Aside0.mk (Below.refl w.heap.size w)
 have H : ((impl_inRange.f (l0_0.length : Int) 1 100).bind fun t196 => (if t196 = true then (if (l0_1.length : Int) = (l0_0.length : Int) then (if (l0_2.length : Int) = (l0_0.length : Int) then (if (l0_3.length : Int) = (l0_0.length : Int) then (if 0 < (l0_0.length : Int) then (if (rd l0_0 0) = (-1) then (if 0 < (l0_1.length : Int) then (if (rd l0_1 0) = (-1) then (if 0 < (l0_2.length : Int) then (impl_GoodAho.j0 k (l0_0.length : Int) ((rd l0_2 0) != 0) l0_0 l0_1 l0_2 l0_3) else (none)) else (impl_GoodAho.j0 k (l0_0.length : Int) true l0_0 l0_1 l0_2 l0_3)) else (none)) else (impl_GoodAho.j0 k (l0_0.length : Int) true l0_0 l0_1 l0_2 l0_3)) else (none)) else (impl_GoodAho.j0 k (l0_0.length : Int) true l0_0 l0_1 l0_2 l0_3)) else (impl_GoodAho.j0 k (l0_0.length : Int) true l0_0 l0_1 l0_2 l0_3)) else (impl_GoodAho.j0 k (l0_0.length : Int) true l0_0 l0_1 l0_2 l0_3)) else (impl_GoodAho.j0 k (l0_0.length : Int) true l0_0 l0_1 l0_2 l0_3))) = some r := h
 clear h
 have HC2 := Aside0.mk H
 clear H
 go_enter Try.func35, Try.ntmps35
 go_upto_region 2 with (first | ((with_reducible refine gate_dst (N := 1) rfl ?_); (try (refine gate_guard (by rfl) ?_; dsimp only)); refine box_event ?hg (N := 1) ?hd (cs := #[.slice A0_0 l0_0.length c0_0, .slice A0_1 l0_1.length c0_1, .slice A0_2 l0_2.length c0_2, .slice A0_3 l0_3.length c0_3]) (t := 30) ?hr ?_; (case hd => rfl); (case hg => rfl); (case hr => first | (go_simp; done) | (go_simp; rfl)); intro gb195 hg w3 hbox hb; have n0_ := Aside0.mk (below_step (by repeat (first | (with_reducible first | exact HB.out | apply below_alloc | apply pw_below_drewN | apply below_drew1) | exact HB.out)) hb); have n1_ := Aside0.mk (hbox); have n2_ := Aside0.mk ((by rw [hg]; exact (below_size (by repeat (first | (with_reducible first | exact HB.out | apply below_alloc | apply pw_below_drewN | apply below_drew1) | exact HB.out))) : w.heap.size ≤ gb195)); have n3_ := Aside0.mk ((by rw [hg]; exact (below_size (by repeat (first | (with_reducible first | exact HB.out | apply below_alloc | apply pw_below_drewN | apply below_drew1) | exact HB.out))) : w.heap.size ≤ gb195)); clear HB; have HB := n0_; have BK195 := n1_; have GW195 := n2_; have GE195 := n3_; clear n0_ n1_ n2_ n3_; clear hb hbox hg; have hcz4_0 := bc0 BK195.out; have hcz4_1 := bc1 BK195.out; have hcz4_2 := bc2 BK195.out; have hcz4_3 := bc3 BK195.out; have hfz4_0 := blk_frozen BK195.out 0; have hfz4_1 := blk_frozen BK195.out 1; have hfz4_2 := blk_frozen BK195.out 2; have hfz4_3 := blk_frozen BK195.out 3))
 (try simp only [Act.put, List.setIfInBounds_toArray, List.set_cons_zero, List.set_cons_succ])
 go_cut [52] (fun v52 wc => ∃ (kq : Nat) (x52_1 : Bool), v52 = .bool x52_1 ∧ Aside0 (impl_GoodAho.j0 kq (l0_0.length : Int) x52_1 l0_0 l0_1 l0_2 l0_3 = some r) ∧ Aside0 (kq ≤ k) ∧ Aside0 (wc.heap[gb195]? = some (.cells #[(.slice A0_0 l0_0.length c0_0), (.slice A0_1 l0_1.length c0_1), (.slice A0_2 l0_2.length c0_2), (.slice A0_3 l0_3.length c0_3)] 30 (0, 0))) ∧ Aside0 (Below w.heap.size w wc))
 case first =>
  have H := HC2.out
  clear HC2
  replace H := Option.bind_eq_some_iff.mp H
  obtain ⟨t196, A50, H⟩ := H
  replace H : (if t196 = true then (if (l0_1.length : Int) = (l0_0.length : Int) then (if (l0_2.length : Int) = (l0_0.length : Int) then (if (l0_3.length : Int) = (l0_0.length : Int) then (if 0 < (l0_0.length : Int) then (if (rd l0_0 0) = (-1) then (if 0 < (l0_1.length : Int) then (if (rd l0_1 0) = (-1) then (if 0 < (l0_2.length : Int) then (impl_GoodAho.j0 k (l0_0.length : Int) ((rd l0_2 0) != 0) l0_0 l0_1 l0_2 l0_3) else (none)) else (impl_GoodAho.j0 k (l0_0.length : Int) true l0_0 l0_1 l0_2 l0_3)) else (none)) else (impl_GoodAho.j0 k (l0_0.length : Int) true l0_0 l0_1 l0_2 l0_3)) else (none)) else (impl_GoodAho.j0 k (l0_0.length : Int) true l0_0 l0_1 l0_2 l0_3)) else (impl_GoodAho.j0 k (l0_0.length : Int) true l0_0 l0_1 l0_2 l0_3)) else (impl_GoodAho.j0 k (l0_0.length : Int) true l0_0 l0_1 l0_2 l0_3)) else (impl_GoodAho.j0 k (l0_0.length : Int) true l0_0 l0_1 l0_2 l0_3)) = some r := H
  have A5 := Aside0.mk A50
  clear A50
  by_cases c6 : t196 = true
  ·subst c6
   have H1 : (if (l0_1.length : Int) = (l0_0.length : Int) then (if (l0_2.length : Int) = (l0_0.length : Int) then (if (l0_3.length : Int) = (l0_0.length : Int) then (if 0 < (l0_0.length : Int) then (if (rd l0_0 0) = (-1) then (if 0 < (l0_1.length : Int) then (if (rd l0_1 0) = (-1) then (if 0 < (l0_2.length : Int) then (impl_GoodAho.j0 k (l0_0.length : Int) ((rd l0_2 0) != 0) l0_0 l0_1 l0_2 l0_3) else (none)) else (impl_GoodAho.j0 k (l0_0.length : Int) true l0_0 l0_1 l0_2 l0_3)) else (none)) else (impl_GoodAho.j0 k (l0_0.length : Int) true l0_0 l0_1 l0_2 l0_3)) else (none)) else (impl_GoodAho.j0 k (l0_0.length : Int) true l0_0 l0_1 l0_2 l0_3)) else (impl_GoodAho.j0 k (l0_0.length : Int) true l0_0 l0_1 l0_2 l0_3)) else (impl_GoodAho.j0 k (l0_0.length : Int) true l0_0 l0_1 l0_2 l0_3)) = some r := by rw [if_pos rfl] at H; exact H
   clear H
   have H := H1
   clear H1
   by_cases c7 : (l0_1.length : Int) = (l0_0.length : Int)
   ·rw [if_pos c7] at H
    have c7b0 : ((l0_1.length : Int) == (l0_0.length : Int)) = true := beq_iff_eq.mpr c7
    have c7b1 : ((l0_1.length : Int) != (l0_0.length : Int)) = false := bne_eq_false_iff_eq.mpr c7
    have c7b2 : (l0_1.length == l0_0.length) = true := by first | simpa using c7 | (simp at c7 ⊢; omega)
    clear c7
    (first | rw [c7b0] | (simp only [i64_w, i32_w]; rw [c7b0]) | skip)
    by_cases c8 : (l0_2.length : Int) = (l0_0.length : Int)
    ·rw [if_pos c8] at H
     have c8b0 : ((l0_2.length : Int) == (l0_0.length : Int)) = true := beq_iff_eq.mpr c8
     have c8b1 : ((l0_2.length : Int) != (l0_0.length : Int)) = false := bne_eq_false_iff_eq.mpr c8
     have c8b2 : (l0_2.length == l0_0.length) = true := by first | simpa using c8 | (simp at c8 ⊢; omega)
     clear c8
     by_cases c9 : (l0_3.length : Int) = (l0_0.length : Int)
     ·rw [if_pos c9] at H
      have c9b0 : ((l0_3.length : Int) == (l0_0.length : Int)) = true := beq_iff_eq.mpr c9
      have c9b1 : ((l0_3.length : Int) != (l0_0.length : Int)) = false := bne_eq_false_iff_eq.mpr c9
      have c9b2 : (l0_3.length == l0_0.length) = true := by first | simpa using c9 | (simp at c9 ⊢; omega)
      clear c9
      by_cases c10 : 0 < (l0_0.length : Int)
      ·rw [if_pos c10] at H
       have c10b0 : decide (0 < (l0_0.length : Int)) = true := decide_eq_true c10
       have c10b1 : decide (0 < l0_0.length) = true := decide_eq_true (by omega)
       clear c10
       by_cases c11 : (rd l0_0 0) = (-1)
       ·rw [if_pos c11] at H
        have c11b0 : ((rd l0_0 0) == (-1)) = true := beq_iff_eq.mpr c11
        have c11b1 : ((rd l0_0 0) != (-1)) = false := bne_eq_false_iff_eq.mpr c11
        clear c11
        by_cases c12 : 0 < (l0_1.length : Int)
        ·rw [if_pos c12] at H
         have c12b0 : decide (0 < (l0_1.length : Int)) = true := decide_eq_true c12
         have c12b1 : decide (0 < l0_1.length) = true := decide_eq_true (by omega)
         clear c12
         by_cases c13 : (rd l0_1 0) = (-1)
         ·rw [if_pos c13] at H
          have c13b0 : ((rd l0_1 0) == (-1)) = true := beq_iff_eq.mpr c13
          have c13b1 : ((rd l0_1 0) != (-1)) = false := bne_eq_false_iff_eq.mpr c13
          clear c13
          by_cases c14 : 0 < (l0_2.length : Int)
          ·rw [if_pos c14] at H
           have c14b0 : decide (0 < (l0_2.length : Int)) = true := decide_eq_true c14
           have c14b1 : decide (0 < l0_2.length) = true := decide_eq_true (by omega)
           clear c14
           have H' := Aside0.mk H
           clear H
           go_wp2_with (first | ((with_reducible refine gate_callee (f := 63) rfl ?_); refine goesL_ (some 9) rfl rfl Try.func63 (by kernel_rfl) rfl #[.int .i64 (l0_0.length : Int), .int .i64 1, .int .i64 100] rfl (by (try simp only [List.map_toArray, List.map_cons, List.map_nil]); first | done | rfl | (simp only [List.length_drop, List.length_take]; rfl)) ?_; (with_reducible refine (impl_inRange.calls (l0_0.length : Int) 1 100 true _ A5.out).mono ?_); rintro e w' ⟨rfl, ⟨nd, rfl⟩⟩; refine ⟨_, rfl, ?_⟩; have hcz15_0 := bc0 BK195.out; have hcz15_1 := bc1 BK195.out; have hcz15_2 := bc2 BK195.out; have hcz15_3 := bc3 BK195.out; have hfz15_0 := blk_frozen BK195.out 0; have hfz15_1 := blk_frozen BK195.out 1; have hfz15_2 := blk_frozen BK195.out 2; have hfz15_3 := blk_frozen BK195.out 3; have p197 : 0 ≤ (0 : Int) := (by omega); have q197 : 0 < (l0_0.length : Int) := of_decide_eq_true (by first | (with_reducible assumption) | assumption); obtain ⟨ad197, e197, hx197_0⟩ := Kd.at_int HR0_0.out 0 p197 q197; cases e197; have qi197 : (0 < l0_0.length) = True := eq_true (by omega); (try rw [show ((0 : Int)).toNat = 0 from rfl] at hx197_0); (try rw [Addr.add_zero'] at hx197_0); replace hx197_0 := (HB.out.cell (World.block_lt_of_cell? w _ hx197_0)).trans hx197_0; replace p197 := eq_true p197; replace q197 := eq_true q197; have p198 : 0 ≤ (0 : Int) := (by omega); have q198 : 0 < (l0_1.length : Int) := of_decide_eq_true (by first | (with_reducible assumption) | assumption); obtain ⟨ad198, e198, hx198_0⟩ := Kd.at_int HR0_1.out 0 p198 q198; cases e198; have qi198 : (0 < l0_1.length) = True := eq_true (by omega); (try rw [show ((0 : Int)).toNat = 0 from rfl] at hx198_0); (try rw [Addr.add_zero'] at hx198_0); replace hx198_0 := (HB.out.cell (World.block_lt_of_cell? w _ hx198_0)).trans hx198_0; replace p198 := eq_true p198; replace q198 := eq_true q198; have p199 : 0 ≤ (0 : Int) := (by omega); have q199 : 0 < (l0_2.length : Int) := of_decide_eq_true (by first | (with_reducible assumption) | assumption); obtain ⟨ad199, e199, hx199_0⟩ := Kd.at_int HR0_2.out 0 p199 q199; cases e199; have qi199 : (0 < l0_2.length) = True := eq_true (by omega); (try rw [show ((0 : Int)).toNat = 0 from rfl] at hx199_0); (try rw [Addr.add_zero'] at hx199_0); replace hx199_0 := (HB.out.cell (World.block_lt_of_cell? w _ hx199_0)).trans hx199_0; replace p199 := eq_true p199; replace q199 := eq_true q199))
           go_meet
           case rel => exact ⟨_, (((rd l0_2 0) != 0)), (by first | rfl | (simp; done) | (simp [*]; done)), H', ⟨by first | omega | exact Nat.le_refl _⟩, ⟨by (with_reducible repeat (first | refine blk_drewN ?_ _ | refine blk_drew ?_ | refine blk_alloc ?_ _)); exact BK195.out⟩, ⟨by repeat (first | (with_reducible first | exact HB.out | apply below_alloc | apply pw_below_drewN | apply below_drew1 | refine below_set ?_ GE195.out) | exact HB.out)⟩⟩
          ·rw [if_neg c14] at H
           exact absurd H (by simp)
         ·rw [if_neg c13] at H
          have c13b0 : ((rd l0_1 0) == (-1)) = false := beq_eq_false_iff_ne.mpr c13
          have c13b1 : ((rd l0_1 0) != (-1)) = true := bne_iff_ne.mpr c13
          have H' := Aside0.mk H
          clear H
          go_wp2_with (first | ((with_reducible refine gate_callee (f := 63) rfl ?_); refine goesL_ (some 9) rfl rfl Try.func63 (by kernel_rfl) rfl #[.int .i64 (l0_0.length : Int), .int .i64 1, .int .i64 100] rfl (by (try simp only [List.map_toArray, List.map_cons, List.map_nil]); first | done | rfl | (simp only [List.length_drop, List.length_take]; rfl)) ?_; (with_reducible refine (impl_inRange.calls (l0_0.length : Int) 1 100 true _ A5.out).mono ?_); rintro e w' ⟨rfl, ⟨nd, rfl⟩⟩; refine ⟨_, rfl, ?_⟩; have hcz16_0 := bc0 BK195.out; have hcz16_1 := bc1 BK195.out; have hcz16_2 := bc2 BK195.out; have hcz16_3 := bc3 BK195.out; have hfz16_0 := blk_frozen BK195.out 0; have hfz16_1 := blk_frozen BK195.out 1; have hfz16_2 := blk_frozen BK195.out 2; have hfz16_3 := blk_frozen BK195.out 3; have p197 : 0 ≤ (0 : Int) := (by omega); have q197 : 0 < (l0_0.length : Int) := of_decide_eq_true (by first | (with_reducible assumption) | assumption); obtain ⟨ad197, e197, hx197_0⟩ := Kd.at_int HR0_0.out 0 p197 q197; cases e197; have qi197 : (0 < l0_0.length) = True := eq_true (by omega); (try rw [show ((0 : Int)).toNat = 0 from rfl] at hx197_0); (try rw [Addr.add_zero'] at hx197_0); replace hx197_0 := (HB.out.cell (World.block_lt_of_cell? w _ hx197_0)).trans hx197_0; replace p197 := eq_true p197; replace q197 := eq_true q197; have p198 : 0 ≤ (0 : Int) := (by omega); have q198 : 0 < (l0_1.length : Int) := of_decide_eq_true (by first | (with_reducible assumption) | assumption); obtain ⟨ad198, e198, hx198_0⟩ := Kd.at_int HR0_1.out 0 p198 q198; cases e198; have qi198 : (0 < l0_1.length) = True := eq_true (by omega); (try rw [show ((0 : Int)).toNat = 0 from rfl] at hx198_0); (try rw [Addr.add_zero'] at hx198_0); replace hx198_0 := (HB.out.cell (World.block_lt_of_cell? w _ hx198_0)).trans hx198_0; replace p198 := eq_true p198; replace q198 := eq_true q198))
          go_meet
          case rel => exact ⟨_, (true), (by first | rfl | (simp; done) | (simp [*]; done)), H', ⟨by first | omega | exact Nat.le_refl _⟩, ⟨by (with_reducible repeat (first | refine blk_drewN ?_ _ | refine blk_drew ?_ | refine blk_alloc ?_ _)); exact BK195.out⟩, ⟨by repeat (first | (with_reducible first | exact HB.out | apply below_alloc | apply pw_below_drewN | apply below_drew1 | refine below_set ?_ GE195.out) | exact HB.out)⟩⟩
        ·rw [if_neg c12] at H
         exact absurd H (by simp)
       ·rw [if_neg c11] at H
        have c11b0 : ((rd l0_0 0) == (-1)) = false := beq_eq_false_iff_ne.mpr c11
        have c11b1 : ((rd l0_0 0) != (-1)) = true := bne_iff_ne.mpr c11
        have H' := Aside0.mk H
        clear H
        go_wp2_with (first | ((with_reducible refine gate_callee (f := 63) rfl ?_); refine goesL_ (some 9) rfl rfl Try.func63 (by kernel_rfl) rfl #[.int .i64 (l0_0.length : Int), .int .i64 1, .int .i64 100] rfl (by (try simp only [List.map_toArray, List.map_cons, List.map_nil]); first | done | rfl | (simp only [List.length_drop, List.length_take]; rfl)) ?_; (with_reducible refine (impl_inRange.calls (l0_0.length : Int) 1 100 true _ A5.out).mono ?_); rintro e w' ⟨rfl, ⟨nd, rfl⟩⟩; refine ⟨_, rfl, ?_⟩; have hcz17_0 := bc0 BK195.out; have hcz17_1 := bc1 BK195.out; have hcz17_2 := bc2 BK195.out; have hcz17_3 := bc3 BK195.out; have hfz17_0 := blk_frozen BK195.out 0; have hfz17_1 := blk_frozen BK195.out 1; have hfz17_2 := blk_frozen BK195.out 2; have hfz17_3 := blk_frozen BK195.out 3; have p197 : 0 ≤ (0 : Int) := (by omega); have q197 : 0 < (l0_0.length : Int) := of_decide_eq_true (by first | (with_reducible assumption) | assumption); obtain ⟨ad197, e197, hx197_0⟩ := Kd.at_int HR0_0.out 0 p197 q197; cases e197; have qi197 : (0 < l0_0.length) = True := eq_true (by omega); (try rw [show ((0 : Int)).toNat = 0 from rfl] at hx197_0); (try rw [Addr.add_zero'] at hx197_0); replace hx197_0 := (HB.out.cell (World.block_lt_of_cell? w _ hx197_0)).trans hx197_0; replace p197 := eq_true p197; replace q197 := eq_true q197))
        go_meet
        case rel => exact ⟨_, (true), (by first | rfl | (simp; done) | (simp [*]; done)), H', ⟨by first | omega | exact Nat.le_refl _⟩, ⟨by (with_reducible repeat (first | refine blk_drewN ?_ _ | refine blk_drew ?_ | refine blk_alloc ?_ _)); exact BK195.out⟩, ⟨by repeat (first | (with_reducible first | exact HB.out | apply below_alloc | apply pw_below_drewN | apply below_drew1 | refine below_set ?_ GE195.out) | exact HB.out)⟩⟩
      ·rw [if_neg c10] at H
       exact absurd H (by simp)
     ·rw [if_neg c9] at H
      have c9b0 : ((l0_3.length : Int) == (l0_0.length : Int)) = false := beq_eq_false_iff_ne.mpr c9
      have c9b1 : ((l0_3.length : Int) != (l0_0.length : Int)) = true := bne_iff_ne.mpr c9
      have c9b2 : (l0_3.length == l0_0.length) = false := by first | simpa using c9 | (simp at c9 ⊢; omega)
      have H' := Aside0.mk H
      clear H
      go_wp2_with (first | ((with_reducible refine gate_callee (f := 63) rfl ?_); refine goesL_ (some 9) rfl rfl Try.func63 (by kernel_rfl) rfl #[.int .i64 (l0_0.length : Int), .int .i64 1, .int .i64 100] rfl (by (try simp only [List.map_toArray, List.map_cons, List.map_nil]); first | done | rfl | (simp only [List.length_drop, List.length_take]; rfl)) ?_; (with_reducible refine (impl_inRange.calls (l0_0.length : Int) 1 100 true _ A5.out).mono ?_); rintro e w' ⟨rfl, ⟨nd, rfl⟩⟩; refine ⟨_, rfl, ?_⟩; have hcz18_0 := bc0 BK195.out; have hcz18_1 := bc1 BK195.out; have hcz18_2 := bc2 BK195.out; have hcz18_3 := bc3 BK195.out; have hfz18_0 := blk_frozen BK195.out 0; have hfz18_1 := blk_frozen BK195.out 1; have hfz18_2 := blk_frozen BK195.out 2; have hfz18_3 := blk_frozen BK195.out 3))
      go_meet
      case rel => exact ⟨_, (true), (by first | rfl | (simp; done) | (simp [*]; done)), H', ⟨by first | omega | exact Nat.le_refl _⟩, ⟨by (with_reducible repeat (first | refine blk_drewN ?_ _ | refine blk_drew ?_ | refine blk_alloc ?_ _)); exact BK195.out⟩, ⟨by repeat (first | (with_reducible first | exact HB.out | apply below_alloc | apply pw_below_drewN | apply below_drew1 | refine below_set ?_ GE195.out) | exact HB.out)⟩⟩
    ·rw [if_neg c8] at H
     have c8b0 : ((l0_2.length : Int) == (l0_0.length : Int)) = false := beq_eq_false_iff_ne.mpr c8
     have c8b1 : ((l0_2.length : Int) != (l0_0.length : Int)) = true := bne_iff_ne.mpr c8
     have c8b2 : (l0_2.length == l0_0.length) = false := by first | simpa using c8 | (simp at c8 ⊢; omega)
     have H' := Aside0.mk H
     clear H
     go_wp2_with (first | ((with_reducible refine gate_callee (f := 63) rfl ?_); refine goesL_ (some 9) rfl rfl Try.func63 (by kernel_rfl) rfl #[.int .i64 (l0_0.length : Int), .int .i64 1, .int .i64 100] rfl (by (try simp only [List.map_toArray, List.map_cons, List.map_nil]); first | done | rfl | (simp only [List.length_drop, List.length_take]; rfl)) ?_; (with_reducible refine (impl_inRange.calls (l0_0.length : Int) 1 100 true _ A5.out).mono ?_); rintro e w' ⟨rfl, ⟨nd, rfl⟩⟩; refine ⟨_, rfl, ?_⟩; have hcz19_0 := bc0 BK195.out; have hcz19_1 := bc1 BK195.out; have hcz19_2 := bc2 BK195.out; have hcz19_3 := bc3 BK195.out; have hfz19_0 := blk_frozen BK195.out 0; have hfz19_1 := blk_frozen BK195.out 1; have hfz19_2 := blk_frozen BK195.out 2; have hfz19_3 := blk_frozen BK195.out 3))
     go_meet
     case rel => exact ⟨_, (true), (by first | rfl | (simp; done) | (simp [*]; done)), H', ⟨by first | omega | exact Nat.le_refl _⟩, ⟨by (with_reducible repeat (first | refine blk_drewN ?_ _ | refine blk_drew ?_ | refine blk_alloc ?_ _)); exact BK195.out⟩, ⟨by repeat (first | (with_reducible first | exact HB.out | apply below_alloc | apply pw_below_drewN | apply below_drew1 | refine below_set ?_ GE195.out) | exact HB.out)⟩⟩
   ·rw [if_neg c7] at H
    have c7b0 : ((l0_1.length : Int) == (l0_0.length : Int)) = false := beq_eq_false_iff_ne.mpr c7
    have c7b1 : ((l0_1.length : Int) != (l0_0.length : Int)) = true := bne_iff_ne.mpr c7
    have c7b2 : (l0_1.length == l0_0.length) = false := by first | simpa using c7 | (simp at c7 ⊢; omega)
    (first | rw [c7b0] | (simp only [i64_w, i32_w]; rw [c7b0]) | skip)
    have H' := Aside0.mk H
    clear H
    go_wp2_with (first | ((with_reducible refine gate_callee (f := 63) rfl ?_); refine goesL_ (some 9) rfl rfl Try.func63 (by kernel_rfl) rfl #[.int .i64 (l0_0.length : Int), .int .i64 1, .int .i64 100] rfl (by (try simp only [List.map_toArray, List.map_cons, List.map_nil]); first | done | rfl | (simp only [List.length_drop, List.length_take]; rfl)) ?_; (with_reducible refine (impl_inRange.calls (l0_0.length : Int) 1 100 true _ A5.out).mono ?_); rintro e w' ⟨rfl, ⟨nd, rfl⟩⟩; refine ⟨_, rfl, ?_⟩; have hcz20_0 := bc0 BK195.out; have hcz20_1 := bc1 BK195.out; have hcz20_2 := bc2 BK195.out; have hcz20_3 := bc3 BK195.out; have hfz20_0 := blk_frozen BK195.out 0; have hfz20_1 := blk_frozen BK195.out 1; have hfz20_2 := blk_frozen BK195.out 2; have hfz20_3 := blk_frozen BK195.out 3))
    go_meet
    case rel => exact ⟨_, (true), (by first | rfl | (simp; done) | (simp [*]; done)), H', ⟨by first | omega | exact Nat.le_refl _⟩, ⟨by (with_reducible repeat (first | refine blk_drewN ?_ _ | refine blk_drew ?_ | refine blk_alloc ?_ _)); exact BK195.out⟩, ⟨by repeat (first | (with_reducible first | exact HB.out | apply below_alloc | apply pw_below_drewN | apply below_drew1 | refine below_set ?_ GE195.out) | exact HB.out)⟩⟩
  ·replace c6 := Bool.eq_false_iff.mpr c6
   subst c6
   have H1 : (impl_GoodAho.j0 k (l0_0.length : Int) true l0_0 l0_1 l0_2 l0_3) = some r := by rw [if_neg (show ¬ (false = true) by decide)] at H; exact H
   clear H
   have H := H1
   clear H1
   have H' := Aside0.mk H
   clear H
   go_wp2_with (first | ((with_reducible refine gate_callee (f := 63) rfl ?_); refine goesL_ (some 9) rfl rfl Try.func63 (by kernel_rfl) rfl #[.int .i64 (l0_0.length : Int), .int .i64 1, .int .i64 100] rfl (by (try simp only [List.map_toArray, List.map_cons, List.map_nil]); first | done | rfl | (simp only [List.length_drop, List.length_take]; rfl)) ?_; (with_reducible refine (impl_inRange.calls (l0_0.length : Int) 1 100 false _ A5.out).mono ?_); rintro e w' ⟨rfl, ⟨nd, rfl⟩⟩; refine ⟨_, rfl, ?_⟩))
   go_meet
   case rel => exact ⟨_, (true), (by first | rfl | (simp; done) | (simp [*]; done)), H', ⟨by first | omega | exact Nat.le_refl _⟩, ⟨by (with_reducible repeat (first | refine blk_drewN ?_ _ | refine blk_drew ?_ | refine blk_alloc ?_ _)); exact BK195.out⟩, ⟨by repeat (first | (with_reducible first | exact HB.out | apply below_alloc | apply pw_below_drewN | apply below_drew1 | refine below_set ?_ GE195.out) | exact HB.out)⟩⟩
 case rest =>
  clear HC2
  try clear c1
  try clear p1
  try clear q1
  try clear hx1
  try clear qi1
  try clear p2
  try clear c3
  try clear c6
  try clear c7
  try clear c7b0
  try clear c7b1
  try clear c7b2
  try clear c8
  try clear c8b0
  try clear c8b1
  try clear c8b2
  try clear c9
  try clear c9b0
  try clear c9b1
  try clear c9b2
  try clear c10
  try clear c10b0
  try clear c10b1
  try clear c11
  try clear c11b0
  try clear c11b1
  try clear c12
  try clear c12b0
  try clear c12b1
  try clear c13
  try clear c13b0
  try clear c13b1
  try clear c14
  try clear c14b0
  try clear c14b1
  try clear p19
  try clear q19
  try clear hx19
  try clear qi19
  try clear hcz15_0
  try clear hcz15_1
  try clear hcz15_2
  try clear hcz15_3
  try clear hcz16_0
  try clear hcz16_1
  try clear hcz16_2
  try clear hcz16_3
  try clear hcz17_0
  try clear hcz17_1
  try clear hcz17_2
  try clear hcz17_3
  try clear hcz18_0
  try clear hcz18_1
  try clear hcz18_2
  try clear hcz18_3
  try clear hcz19_0
  try clear hcz19_1
  try clear hcz19_2
  try clear hcz19_3
  try clear hcz20_0
  try clear hcz20_1
  try clear hcz20_2
  try clear hcz20_3
  try clear hcz4_0
  try clear hcz4_1
  try clear hcz4_2
  try clear hcz4_3
  try clear hfz15_0
  try clear hfz15_1
  try clear hfz15_2
  try clear hfz15_3
  try clear hfz16_0
  try clear hfz16_1
  try clear hfz16_2
  try clear hfz16_3
  try clear hfz17_0
  try clear hfz17_1
  try clear hfz17_2
  try clear hfz17_3
  try clear hfz18_0
  try clear hfz18_1
  try clear hfz18_2
  try clear hfz18_3
  try clear hfz19_0
  try clear hfz19_1
  try clear hfz19_2
  try clear hfz19_3
  try clear hfz20_0
  try clear hfz20_1
  try clear hfz20_2
  try clear hfz20_3
  try clear hfz4_0
  try clear hfz4_1
  try clear hfz4_2
  try clear hfz4_3
  try clear hx197_0
  try clear hx198_0
  try clear hx199_0
  try clear p197
  try clear p198
  try clear p199
  try clear q197
  try clear q198
  try clear q199
  obtain ⟨kq, x52_1, rfl, HA, HJ1, BK195, HB⟩ := hcut
  cases kq with
  | zero => exact absurd HA.out (by simp [impl_GoodAho.j0])
  | succ kj1 =>
   have H := HA.out
   clear HA
   simp only [impl_GoodAho.j0] at H
   by_cases c21 : x52_1 = true
   ·subst c21
    have H1 : (some false) = some r := by rw [if_pos rfl] at H; exact H
    clear H
    have H := H1
    clear H1
    obtain rfl := Option.some.inj H
    go_wp2
    go_ret
    exact ⟨by first | rfl | (simp [errW_none, errW_some] <;> rfl) | (simp [*, errW_none, errW_some] <;> rfl), by repeat (first | (with_reducible first | exact HB.out | apply below_alloc | apply pw_below_drewN | apply below_drew1 | refine below_set ?_ GE195.out) | exact HB.out)⟩
   ·replace c21 := Bool.eq_false_iff.mpr c21
    subst c21
    have H1 : (impl_GoodAho.l0 kj1 (l0_0.length : Int) 0 l0_0 l0_1 l0_2 l0_3) = some r := by rw [if_neg (show ¬ (false = true) by decide)] at H; exact H
    clear H
    have H := H1
    clear H1
    have H' := Aside0.mk H
    clear H
    go_wp2
    go_loopg [54] kj1 (fun kq v54 w' => ∃ (x54_2 : Int), v54 = .int .i64 x54_2 ∧ Aside0 (impl_GoodAho.l0 kq (l0_0.length : Int) x54_2 l0_0 l0_1 l0_2 l0_3 = some r) ∧ Aside0 (kq ≤ kj1) ∧ Aside0 (w'.heap[gb195]? = some (.cells #[(.slice A0_0 l0_0.length c0_0), (.slice A0_1 l0_1.length c0_1), (.slice A0_2 l0_2.length c0_2), (.slice A0_3 l0_3.length c0_3)] 30 (0, 0))) ∧ Aside0 (Below w.heap.size w w'))
    case atStart => exact ⟨(0), (by first | rfl | (simp; done) | (simp [*]; done)), H', ⟨Nat.le_refl _⟩, ⟨by (with_reducible repeat (first | refine blk_drewN ?_ _ | refine blk_drew ?_ | refine blk_alloc ?_ _)); exact BK195.out⟩, ⟨by repeat (first | (with_reducible first | exact HB.out | apply below_alloc | apply pw_below_drewN | apply below_drew1 | refine below_set ?_ GE195.out) | exact HB.out)⟩⟩
    case round =>
     clear H'
     try clear c1
     try clear p1
     try clear q1
     try clear hx1
     try clear qi1
     try clear c2
     try clear p2
     try clear c3
     try clear c6
     try clear c7
     try clear c7b0
     try clear c7b1
     try clear c7b2
     try clear c8
     try clear c8b0
     try clear c8b1
     try clear c8b2
     try clear c9
     try clear c9b0
     try clear c9b1
     try clear c9b2
     try clear c10
     try clear c10b0
     try clear c10b1
     try clear c11
     try clear c11b0
     try clear c11b1
     try clear c12
     try clear c12b0
     try clear c12b1
     try clear c13
     try clear c13b0
     try clear c13b1
     try clear c14
     try clear c14b0
     try clear c14b1
     try clear p19
     try clear q19
     try clear hx19
     try clear qi19
     try clear c21
     try clear hcz15_0
     try clear hcz15_1
     try clear hcz15_2
     try clear hcz15_3
     try clear hcz16_0
     try clear hcz16_1
     try clear hcz16_2
     try clear hcz16_3
     try clear hcz17_0
     try clear hcz17_1
     try clear hcz17_2
     try clear hcz17_3
     try clear hcz18_0
     try clear hcz18_1
     try clear hcz18_2
     try clear hcz18_3
     try clear hcz19_0
     try clear hcz19_1
     try clear hcz19_2
     try clear hcz19_3
     try clear hcz20_0
     try clear hcz20_1
     try clear hcz20_2
     try clear hcz20_3
     try clear hcz4_0
     try clear hcz4_1
     try clear hcz4_2
     try clear hcz4_3
     try clear hfz15_0
     try clear hfz15_1
     try clear hfz15_2
     try clear hfz15_3
     try clear hfz16_0
     try clear hfz16_1
     try clear hfz16_2
     try clear hfz16_3
     try clear hfz17_0
     try clear hfz17_1
     try clear hfz17_2
     try clear hfz17_3
     try clear hfz18_0
     try clear hfz18_1
     try clear hfz18_2
     try clear hfz18_3
     try clear hfz19_0
     try clear hfz19_1
     try clear hfz19_2
     try clear hfz19_3
     try clear hfz20_0
     try clear hfz20_1
     try clear hfz20_2
     try clear hfz20_3
     try clear hfz4_0
     try clear hfz4_1
     try clear hfz4_2
     try clear hfz4_3
     try clear hx197_0
     try clear hx198_0
     try clear hx199_0
     try clear p1
     try clear p19
     try clear p197
     try clear p198
     try clear p199
     try clear p2
     try clear q1
     try clear q19
     try clear q197
     try clear q198
     try clear q199
     obtain ⟨x54_2, rfl, HA, HK2, BK195, HB⟩ := hrel
     cases gk with
     | zero => exact absurd HA.out (by simp [impl_GoodAho.l0])
     | succ k2 =>
      have H := HA.out
      clear HA
      simp only [impl_GoodAho.l0] at H
      by_cases c22 : x54_2 < (l0_0.length : Int)
      ·rw [if_pos c22] at H
       have c22b0 : decide (x54_2 < (l0_0.length : Int)) = true := decide_eq_true c22
       clear c22
       by_cases c23 : 0 ≤ x54_2
       ·rw [if_pos c23] at H
        have c23b0 : decide (0 ≤ x54_2) = true := decide_eq_true c23
        clear c23
        by_cases c24 : x54_2 < (l0_3.length : Int)
        ·rw [if_pos c24] at H
         have c24b0 : decide (x54_2 < (l0_3.length : Int)) = true := decide_eq_true c24
         clear c24
         replace H := Option.bind_eq_some_iff.mp H
         obtain ⟨t201, A250, H⟩ := H
         replace H : (if t201 = true then (if x54_2 > 0 then (if x54_2 < (l0_0.length : Int) then ((impl_isPlace.f (rd l0_0 x54_2) x54_2).bind fun t203 => (if t203 = true then (if x54_2 < (l0_1.length : Int) then ((impl_GoodRune.f (rd l0_1 x54_2)).bind fun t205 => (if t205 = true then (if x54_2 < (l0_2.length : Int) then ((impl_isPlace.f (rd l0_2 x54_2) x54_2).bind fun t207 => (if t207 = true then ((impl_Aho_kid.f k2 l0_0 l0_1 l0_2 l0_3 (rd l0_0 x54_2) (rd l0_1 x54_2)).bind fun t210 => (if t210 = x54_2 then (impl_GoodAho.l0 k2 (l0_0.length : Int) (wrap64 (x54_2 + 1)) l0_0 l0_1 l0_2 l0_3) else (some false))) else (some false))) else (none)) else (some false))) else (none)) else (some false))) else (none)) else (impl_GoodAho.l0 k2 (l0_0.length : Int) (wrap64 (x54_2 + 1)) l0_0 l0_1 l0_2 l0_3)) else (some false)) = some r := H
         have A25 := Aside0.mk A250
         clear A250
         by_cases c26 : t201 = true
         ·subst c26
          have H1 : (if x54_2 > 0 then (if x54_2 < (l0_0.length : Int) then ((impl_isPlace.f (rd l0_0 x54_2) x54_2).bind fun t203 => (if t203 = true then (if x54_2 < (l0_1.length : Int) then ((impl_GoodRune.f (rd l0_1 x54_2)).bind fun t205 => (if t205 = true then (if x54_2 < (l0_2.length : Int) then ((impl_isPlace.f (rd l0_2 x54_2) x54_2).bind fun t207 => (if t207 = true then ((impl_Aho_kid.f k2 l0_0 l0_1 l0_2 l0_3 (rd l0_0 x54_2) (rd l0_1 x54_2)).bind fun t210 => (if t210 = x54_2 then (impl_GoodAho.l0 k2 (l0_0.length : Int) (wrap64 (x54_2 + 1)) l0_0 l0_1 l0_2 l0_3) else (some false))) else (some false))) else (none)) else (some false))) else (none)) else (some false))) else (none)) else (impl_GoodAho.l0 k2 (l0_0.length : Int) (wrap64 (x54_2 + 1)) l0_0 l0_1 l0_2 l0_3)) = some r := by rw [if_pos rfl] at H; exact H
          clear H
          have H := H1
          clear H1
          by_cases c27 : x54_2 > 0
          ·rw [if_pos c27] at H
           have c27b0 : decide (0 < x54_2) = true := decide_eq_true c27
           clear c27
           by_cases c28 : x54_2 < (l0_0.length : Int)
           ·rw [if_pos c28] at H
            have c28b0 : decide (x54_2 < (l0_0.length : Int)) = true := decide_eq_true c28
            clear c28
            replace H := Option.bind_eq_some_iff.mp H
            obtain ⟨t203, A290, H⟩ := H
            replace H : (if t203 = true then (if x54_2 < (l0_1.length : Int) then ((impl_GoodRune.f (rd l0_1 x54_2)).bind fun t205 => (if t205 = true then (if x54_2 < (l0_2.length : Int) then ((impl_isPlace.f (rd l0_2 x54_2) x54_2).bind fun t207 => (if t207 = true then ((impl_Aho_kid.f k2 l0_0 l0_1 l0_2 l0_3 (rd l0_0 x54_2) (rd l0_1 x54_2)).bind fun t210 => (if t210 = x54_2 then (impl_GoodAho.l0 k2 (l0_0.length : Int) (wrap64 (x54_2 + 1)) l0_0 l0_1 l0_2 l0_3) else (some false))) else (some false))) else (none)) else (some false))) else (none)) else (some false)) = some r := H
            have A29 := Aside0.mk A290
            clear A290
            by_cases c30 : t203 = true
            ·subst c30
             have H1 : (if x54_2 < (l0_1.length : Int) then ((impl_GoodRune.f (rd l0_1 x54_2)).bind fun t205 => (if t205 = true then (if x54_2 < (l0_2.length : Int) then ((impl_isPlace.f (rd l0_2 x54_2) x54_2).bind fun t207 => (if t207 = true then ((impl_Aho_kid.f k2 l0_0 l0_1 l0_2 l0_3 (rd l0_0 x54_2) (rd l0_1 x54_2)).bind fun t210 => (if t210 = x54_2 then (impl_GoodAho.l0 k2 (l0_0.length : Int) (wrap64 (x54_2 + 1)) l0_0 l0_1 l0_2 l0_3) else (some false))) else (some false))) else (none)) else (some false))) else (none)) = some r := by rw [if_pos rfl] at H; exact H
             clear H
             have H := H1
             clear H1
             by_cases c31 : x54_2 < (l0_1.length : Int)
             ·rw [if_pos c31] at H
              have c31b0 : decide (x54_2 < (l0_1.length : Int)) = true := decide_eq_true c31
              clear c31
              replace H := Option.bind_eq_some_iff.mp H
              obtain ⟨t205, A320, H⟩ := H
              replace H : (if t205 = true then (if x54_2 < (l0_2.length : Int) then ((impl_isPlace.f (rd l0_2 x54_2) x54_2).bind fun t207 => (if t207 = true then ((impl_Aho_kid.f k2 l0_0 l0_1 l0_2 l0_3 (rd l0_0 x54_2) (rd l0_1 x54_2)).bind fun t210 => (if t210 = x54_2 then (impl_GoodAho.l0 k2 (l0_0.length : Int) (wrap64 (x54_2 + 1)) l0_0 l0_1 l0_2 l0_3) else (some false))) else (some false))) else (none)) else (some false)) = some r := H
              have A32 := Aside0.mk A320
              clear A320
              by_cases c33 : t205 = true
              ·subst c33
               have H1 : (if x54_2 < (l0_2.length : Int) then ((impl_isPlace.f (rd l0_2 x54_2) x54_2).bind fun t207 => (if t207 = true then ((impl_Aho_kid.f k2 l0_0 l0_1 l0_2 l0_3 (rd l0_0 x54_2) (rd l0_1 x54_2)).bind fun t210 => (if t210 = x54_2 then (impl_GoodAho.l0 k2 (l0_0.length : Int) (wrap64 (x54_2 + 1)) l0_0 l0_1 l0_2 l0_3) else (some false))) else (some false))) else (none)) = some r := by rw [if_pos rfl] at H; exact H
               clear H
               have H := H1
               clear H1
               by_cases c34 : x54_2 < (l0_2.length : Int)
               ·rw [if_pos c34] at H
                have c34b0 : decide (x54_2 < (l0_2.length : Int)) = true := decide_eq_true c34
                clear c34
                replace H := Option.bind_eq_some_iff.mp H
                obtain ⟨t207, A350, H⟩ := H
                replace H : (if t207 = true then ((impl_Aho_kid.f k2 l0_0 l0_1 l0_2 l0_3 (rd l0_0 x54_2) (rd l0_1 x54_2)).bind fun t210 => (if t210 = x54_2 then (impl_GoodAho.l0 k2 (l0_0.length : Int) (wrap64 (x54_2 + 1)) l0_0 l0_1 l0_2 l0_3) else (some false))) else (some false)) = some r := H
                have A35 := Aside0.mk A350
                clear A350
                by_cases c36 : t207 = true
                ·subst c36
                 have H1 : ((impl_Aho_kid.f k2 l0_0 l0_1 l0_2 l0_3 (rd l0_0 x54_2) (rd l0_1 x54_2)).bind fun t210 => (if t210 = x54_2 then (impl_GoodAho.l0 k2 (l0_0.length : Int) (wrap64 (x54_2 + 1)) l0_0 l0_1 l0_2 l0_3) else (some false))) = some r := by rw [if_pos rfl] at H; exact H
                 clear H
                 have H := H1
                 clear H1
                 replace H := Option.bind_eq_some_iff.mp H
                 obtain ⟨t210, A370, H⟩ := H
                 replace H : (if t210 = x54_2 then (impl_GoodAho.l0 k2 (l0_0.length : Int) (wrap64 (x54_2 + 1)) l0_0 l0_1 l0_2 l0_3) else (some false)) = some r := H
                 have A37 := Aside0.mk A370
                 clear A370
                 by_cases c38 : t210 = x54_2
                 ·rw [if_pos c38] at H
                  have c38b0 : (t210 == x54_2) = true := beq_iff_eq.mpr c38
                  have c38b1 : (t210 != x54_2) = false := bne_eq_false_iff_eq.mpr c38
                  clear c38
                  have H' := Aside0.mk H
                  clear H
                  have hcz39_0 := bc0 BK195.out
                  have hcz39_1 := bc1 BK195.out
                  have hcz39_2 := bc2 BK195.out
                  have hcz39_3 := bc3 BK195.out
                  have hfz39_0 := blk_frozen BK195.out 0
                  have hfz39_1 := blk_frozen BK195.out 1
                  have hfz39_2 := blk_frozen BK195.out 2
                  have hfz39_3 := blk_frozen BK195.out 3
                  have p200 : 0 ≤ (x54_2 : Int) := of_decide_eq_true (by first | (with_reducible assumption) | assumption)
                  have q200 : x54_2 < (l0_3.length : Int) := of_decide_eq_true (by first | (with_reducible assumption) | assumption)
                  obtain ⟨ad200, A200_0, c200_0, e200, hx200_0, hl200_0, hi200_0⟩ := at_L1 HR0_3.out x54_2 p200 q200
                  cases e200
                  replace hx200_0 := (HB.out.cell (World.block_lt_of_cell? w _ hx200_0)).trans hx200_0
                  have HR200_0 := Aside0.mk hi200_0
                  have HC200_0 := Aside0.mk hl200_0
                  clear hi200_0 hl200_0
                  replace p200 := eq_true p200
                  replace q200 := eq_true q200
                  try go_wp2_with (first | ((with_reducible refine gate_callee (f := 64) rfl ?_); refine goesL_ (some 62) rfl rfl Try.func64 (by kernel_rfl) rfl #[.slice A200_0 (rd_L1 l0_3 x54_2).length c200_0, .int .i64 0, .int .i64 7] rfl (by (try simp only [List.map_toArray, List.map_cons, List.map_nil]); first | done | rfl | (simp only [List.length_drop, List.length_take]; rfl)) ?_; (with_reducible refine (impl_isRising.calls k2 _ _ (rd_L1 l0_3 x54_2) 0 7 true _ ?side1 ?side2 A25.out).mono ?_); (case side1 => repeat (first | exact (Kd.C_below HR200_0.out HB.out) | (with_reducible refine Kd.C_alloc ?_ _) | (with_reducible refine Kd.C_drewN ?_ _) | (with_reducible refine Kd.C_drew ?_))); (case side2 => exact HC200_0.out); rintro e w' ⟨rfl, ⟨nd, rfl⟩⟩; refine ⟨_, rfl, ?_⟩))
                  (try (rw [drewN_self wr]; generalize hq_ : World.drewN wr _ = wr; have n0_ : Aside0 (wr.heap[gb195]? = some (.cells #[.slice A0_0 l0_0.length c0_0, .slice A0_1 l0_1.length c0_1, .slice A0_2 l0_2.length c0_2, .slice (some ad200) l0_3.length c0_3] 30 (0, 0))) := ⟨by rw [← hq_]; exact (by (with_reducible repeat (first | refine blk_drewN ?_ _ | refine blk_drew ?_ | refine blk_alloc ?_ _)); exact BK195.out)⟩; have n1_ : Aside0 (Below w.heap.size w wr) := ⟨by rw [← hq_]; exact (by repeat (first | (with_reducible first | exact HB.out | apply below_alloc | apply pw_below_drewN | apply below_drew1 | refine below_set ?_ GE195.out) | exact HB.out))⟩; clear BK195 HB hq_; have BK195 := n0_; have HB := n1_; clear n0_ n1_))
                  have n0_ := Aside0.mk (blk_drew BK195.out)
                  have n1_ := Aside0.mk (below_drew1 HB.out)
                  clear BK195
                  clear HB
                  have BK195 := n0_
                  have HB := n1_
                  clear n0_ n1_
                  have p202 : 0 ≤ (x54_2 : Int) := of_decide_eq_true (by first | (with_reducible assumption) | assumption)
                  have q202 : x54_2 < (l0_0.length : Int) := of_decide_eq_true (by first | (with_reducible assumption) | assumption)
                  obtain ⟨ad202, e202, hx202_0⟩ := Kd.at_int HR0_0.out x54_2 p202 q202
                  have hw202_0 := hx202_0
                  cases e202
                  replace hx202_0 := (HB.out.cell (World.block_lt_of_cell? w _ hx202_0)).trans hx202_0
                  replace p202 := eq_true p202
                  replace q202 := eq_true q202
                  have p204 : 0 ≤ (x54_2 : Int) := of_decide_eq_true (by first | (with_reducible assumption) | assumption)
                  have q204 : x54_2 < (l0_1.length : Int) := of_decide_eq_true (by first | (with_reducible assumption) | assumption)
                  obtain ⟨ad204, e204, hx204_0⟩ := Kd.at_int HR0_1.out x54_2 p204 q204
                  have hw204_0 := hx204_0
                  cases e204
                  replace hx204_0 := (HB.out.cell (World.block_lt_of_cell? w _ hx204_0)).trans hx204_0
                  replace p204 := eq_true p204
                  replace q204 := eq_true q204
                  have p206 : 0 ≤ (x54_2 : Int) := of_decide_eq_true (by first | (with_reducible assumption) | assumption)
                  have q206 : x54_2 < (l0_2.length : Int) := of_decide_eq_true (by first | (with_reducible assumption) | assumption)
                  obtain ⟨ad206, e206, hx206_0⟩ := Kd.at_int HR0_2.out x54_2 p206 q206
                  have hw206_0 := hx206_0
                  cases e206
                  replace hx206_0 := (HB.out.cell (World.block_lt_of_cell? w _ hx206_0)).trans hx206_0
                  replace p206 := eq_true p206
                  replace q206 := eq_true q206
                  have p208 : 0 ≤ (x54_2 : Int) := of_decide_eq_true (by first | (with_reducible assumption) | assumption)
                  have q208 : x54_2 < (l0_0.length : Int) := of_decide_eq_true (by first | (with_reducible assumption) | assumption)
                  obtain ⟨ad208, e208, hx208_0⟩ := Kd.at_int HR0_0.out x54_2 p208 q208
                  have hw208_0 := hx208_0
                  obtain rfl : ad202 = ad208 := (by injection e208)
                  replace hx208_0 := (HB.out.cell (World.block_lt_of_cell? w _ hx208_0)).trans hx208_0
                  replace p208 := eq_true p208
                  replace q208 := eq_true q208
                  have p209 : 0 ≤ (x54_2 : Int) := of_decide_eq_true (by first | (with_reducible assumption) | assumption)
                  have q209 : x54_2 < (l0_1.length : Int) := of_decide_eq_true (by first | (with_reducible assumption) | assumption)
                  obtain ⟨ad209, e209, hx209_0⟩ := Kd.at_int HR0_1.out x54_2 p209 q209
                  have hw209_0 := hx209_0
                  obtain rfl : ad204 = ad209 := (by injection e209)
                  replace hx209_0 := (HB.out.cell (World.block_lt_of_cell? w _ hx209_0)).trans hx209_0
                  replace p209 := eq_true p209
                  replace q209 := eq_true q209
                  refine start_ (n := 47) (S := fun w' => w'.cell? ⟨gb195, 0, none⟩ = some (.slice (some ad202) l0_0.length c0_0) ∧ w'.cell? ⟨gb195, 1, none⟩ = some (.slice (some ad204) l0_1.length c0_1) ∧ w'.cell? ⟨gb195, 2, none⟩ = some (.slice (some ad206) l0_2.length c0_2) ∧ w'.cell? ⟨gb195, 3, none⟩ = some (.slice (some ad200) l0_3.length c0_3) ∧ w'.cell? (ad202.add (x54_2).toNat) = some (.int .i64 (rd l0_0 x54_2)) ∧ w'.cell? (ad204.add (x54_2).toNat) = some (.int .i64 (rd l0_1 x54_2)) ∧ w'.cell? (ad206.add (x54_2).toNat) = some (.int .i64 (rd l0_2 x54_2)) ∧ w'.cell? (ad202.add (x54_2).toNat) = some (.int .i64 (rd l0_0 x54_2)) ∧ w'.cell? (ad204.add (x54_2).toNat) = some (.int .i64 (rd l0_1 x54_2))) (ds := []) #[ff15,ff15,ff15,ff15,ff15,ff15,ff15,ff15,ff15,ff15,ff15,ff15,ff15,ff15,ff15,ff15,ff15,ff15,ff15,ff15,ff15,ff15,ff15,ff15,ff15,ff15,ff15,ff15,ff15,ff15,ff15,ff15,ff15,ff15,ff15,ff15,ff15,ff15,ff15,ff15,ff15,ff15,ff15,ff15,ff15,ff15,ff15] (by kernel_rfl) rfl rfl ⟨(blk_cell BK195.out 0).trans rfl, (blk_cell BK195.out 1).trans rfl, (blk_cell BK195.out 2).trans rfl, (blk_cell BK195.out 3).trans rfl, ((HB.out.cell (World.block_lt_of_cell? w _ hw202_0)).trans hw202_0), ((HB.out.cell (World.block_lt_of_cell? w _ hw204_0)).trans hw204_0), ((HB.out.cell (World.block_lt_of_cell? w _ hw206_0)).trans hw206_0), ((HB.out.cell (World.block_lt_of_cell? w _ hw208_0)).trans hw208_0), ((HB.out.cell (World.block_lt_of_cell? w _ hw209_0)).trans hw209_0)⟩ (fun hHeld => ?_); refine with_tabW impl_GoodAho.tab9 impl_GoodAho.bits9 (fun HT_ HW_ => ?_)
                  generalize wr.drew = w40 at BK195 HB hx202_0 hx204_0 hx206_0 hx208_0 hx209_0 hHeld ⊢
                  refine pure_ (i := 0) (N := some 64) (v := ?_) (a' := ?_) #[tt15,ff15,ff15,ff15,ff15,ff15,ff15,ff15,ff15,ff15,ff15,ff15,ff15,ff15,ff15,ff15,ff15,ff15,ff15,ff15,ff15,ff15,ff15,ff15,ff15,ff15,ff15,ff15,ff15,ff15,ff15,ff15,ff15,ff15,ff15,ff15,ff15,ff15,ff15,ff15,ff15,ff15,ff15,ff15,ff15,ff15,ff15] rfl rfl (any_of HT_.out (by kernel_rfl)) (fun _ _ _ h => h) (Or.inl ⟨by rfl, ?_⟩) ?_ ?_
                  rotate_left
                  ·intro w'
                   go_simp
                   with_reducible rfl
                  rotate_left
                  ·simp only [Act.put, List.setIfInBounds_toArray, List.set_cons_zero, List.set_cons_succ, i64_w, i32_w]
                   rfl
                  refine pure_ (i := 1) (N := some 65) (v := ?_) (a' := ?_) #[tt15,tt15,ff15,ff15,ff15,ff15,ff15,ff15,ff15,ff15,ff15,ff15,ff15,ff15,ff15,ff15,ff15,ff15,ff15,ff15,ff15,ff15,ff15,ff15,ff15,ff15,ff15,ff15,ff15,ff15,ff15,ff15,ff15,ff15,ff15,ff15,ff15,ff15,ff15,ff15,ff15,ff15,ff15,ff15,ff15,ff15,ff15] rfl rfl (any_of HT_.out (by kernel_rfl)) (fun _ _ _ h => h) (Or.inl ⟨by rfl, ?_⟩) ?_ ?_
                  rotate_left
                  ·intro w'
                   go_simp
                   with_reducible rfl
                  rotate_left
                  ·simp only [Act.put, List.setIfInBounds_toArray, List.set_cons_zero, List.set_cons_succ, i64_w, i32_w]
                   rfl
                  refine pure_ (i := 2) (N := some 66) (v := ?_) (a' := ?_) #[tt15,tt15,tt15,ff15,ff15,ff15,ff15,ff15,ff15,ff15,ff15,ff15,ff15,ff15,ff15,ff15,ff15,ff15,ff15,ff15,ff15,ff15,ff15,ff15,ff15,ff15,ff15,ff15,ff15,ff15,ff15,ff15,ff15,ff15,ff15,ff15,ff15,ff15,ff15,ff15,ff15,ff15,ff15,ff15,ff15,ff15,ff15] rfl rfl (any_of HT_.out (by kernel_rfl)) (fun _ _ _ h => h) (Or.inl ⟨by rfl, ?_⟩) ?_ ?_
                  rotate_left
                  ·intro w'
                   go_simp
                   with_reducible rfl
                  rotate_left
                  ·simp only [Act.put, List.setIfInBounds_toArray, List.set_cons_zero, List.set_cons_succ, i64_w, i32_w]
                   rfl
                  refine pure_ (i := 3) (N := some 67) (v := ?_) (a' := ?_) #[tt15,tt15,tt15,tt15,ff15,ff15,ff15,ff15,ff15,ff15,ff15,ff15,ff15,ff15,ff15,ff15,ff15,ff15,ff15,ff15,ff15,ff15,ff15,ff15,ff15,ff15,ff15,ff15,ff15,ff15,ff15,ff15,ff15,ff15,ff15,ff15,ff15,ff15,ff15,ff15,ff15,ff15,ff15,ff15,ff15,ff15,ff15] rfl rfl (any_of HT_.out (by kernel_rfl)) (fun _ _ _ h => h) (Or.inl ⟨by rfl, ?_⟩) ?_ ?_
                  rotate_left
                  ·intro w'
                   go_simp
                   with_reducible rfl
                  rotate_left
                  ·simp only [Act.put, List.setIfInBounds_toArray, List.set_cons_zero, List.set_cons_succ, i64_w, i32_w]
                   rfl
                  refine pure_ (i := 5) (N := some 69) (v := ?_) (a' := ?_) #[tt15,tt15,tt15,tt15,ff15,tt15,ff15,ff15,ff15,ff15,ff15,ff15,ff15,ff15,ff15,ff15,ff15,ff15,ff15,ff15,ff15,ff15,ff15,ff15,ff15,ff15,ff15,ff15,ff15,ff15,ff15,ff15,ff15,ff15,ff15,ff15,ff15,ff15,ff15,ff15,ff15,ff15,ff15,ff15,ff15,ff15,ff15] rfl rfl (any_of HT_.out (by kernel_rfl)) (fun _ _ _ h => h) (Or.inl ⟨by rfl, ?_⟩) ?_ ?_
                  rotate_left
                  ·intro w'
                   go_simp
                   with_reducible rfl
                  rotate_left
                  ·simp only [Act.put, List.setIfInBounds_toArray, List.set_cons_zero, List.set_cons_succ, i64_w, i32_w]
                   rfl
                  refine pure_ (i := 8) (N := some 72) (v := ?_) (a' := ?_) #[tt15,tt15,tt15,tt15,ff15,tt15,ff15,ff15,tt15,ff15,ff15,ff15,ff15,ff15,ff15,ff15,ff15,ff15,ff15,ff15,ff15,ff15,ff15,ff15,ff15,ff15,ff15,ff15,ff15,ff15,ff15,ff15,ff15,ff15,ff15,ff15,ff15,ff15,ff15,ff15,ff15,ff15,ff15,ff15,ff15,ff15,ff15] rfl rfl (any_of HT_.out (by kernel_rfl)) (fun _ _ _ h => h) (Or.inl ⟨by rfl, ?_⟩) ?_ ?_
                  rotate_left
                  ·intro w'
                   go_simp
                   with_reducible rfl
                  rotate_left
                  ·simp only [Act.put, List.setIfInBounds_toArray, List.set_cons_zero, List.set_cons_succ, i64_w, i32_w]
                   rfl
                  refine take_ (i := 4) (N := some 68) (v := ?_) (a' := ?_) #[tt15,tt15,tt15,tt15,tt15,tt15,ff15,ff15,tt15,ff15,ff15,ff15,ff15,ff15,ff15,ff15,ff15,ff15,ff15,ff15,ff15,ff15,ff15,ff15,ff15,ff15,ff15,ff15,ff15,ff15,ff15,ff15,ff15,ff15,ff15,ff15,ff15,ff15,ff15,ff15,ff15,ff15,ff15,ff15,ff15,ff15,ff15] rfl rfl (take_ofW HT_.out HW_.out (by kernel_rfl)) (fun _ _ _ h => h) (Or.inl ⟨by rfl, ?_⟩) hHeld ?_ ?_
                  rotate_left
                  ·rintro w' ⟨s0, s1, s2, s3, s4, s5, s6, s7, s8⟩
                   go_simp
                   with_reducible rfl
                  rotate_left
                  ·simp only [Act.put, List.setIfInBounds_toArray, List.set_cons_zero, List.set_cons_succ, i64_w, i32_w]
                   rfl
                  refine pure_ (i := 6) (N := some 70) (v := ?_) (a' := ?_) #[tt15,tt15,tt15,tt15,tt15,tt15,tt15,ff15,tt15,ff15,ff15,ff15,ff15,ff15,ff15,ff15,ff15,ff15,ff15,ff15,ff15,ff15,ff15,ff15,ff15,ff15,ff15,ff15,ff15,ff15,ff15,ff15,ff15,ff15,ff15,ff15,ff15,ff15,ff15,ff15,ff15,ff15,ff15,ff15,ff15,ff15,ff15] rfl rfl (any_of HT_.out (by kernel_rfl)) (fun _ _ _ h => h) (Or.inl ⟨by rfl, ?_⟩) ?_ ?_
                  rotate_left
                  ·intro w'
                   go_simp
                   with_reducible rfl
                  rotate_left
                  ·simp only [Act.put, List.setIfInBounds_toArray, List.set_cons_zero, List.set_cons_succ, i64_w, i32_w]
                   rfl
                  refine take_ (i := 7) (N := some 71) (v := ?_) (a' := ?_) #[tt15,tt15,tt15,tt15,tt15,tt15,tt15,tt15,tt15,ff15,ff15,ff15,ff15,ff15,ff15,ff15,ff15,ff15,ff15,ff15,ff15,ff15,ff15,ff15,ff15,ff15,ff15,ff15,ff15,ff15,ff15,ff15,ff15,ff15,ff15,ff15,ff15,ff15,ff15,ff15,ff15,ff15,ff15,ff15,ff15,ff15,ff15] rfl rfl (take_ofW HT_.out HW_.out (by kernel_rfl)) (fun _ _ _ h => h) (Or.inl ⟨by rfl, ?_⟩) hHeld ?_ ?_
                  rotate_left
                  ·rintro w' ⟨s0, s1, s2, s3, s4, s5, s6, s7, s8⟩
                   go_simp
                   with_reducible rfl
                  rotate_left
                  ·simp only [Act.put, List.setIfInBounds_toArray, List.set_cons_zero, List.set_cons_succ, i64_w, i32_w]
                   rfl
                  refine one_ (i := 9) (N := some 73) #[tt15,tt15,tt15,tt15,tt15,tt15,tt15,tt15,tt15,tt15,ff15,ff15,ff15,ff15,ff15,ff15,ff15,ff15,ff15,ff15,ff15,ff15,ff15,ff15,ff15,ff15,ff15,ff15,ff15,ff15,ff15,ff15,ff15,ff15,ff15,ff15,ff15,ff15,ff15,ff15,ff15,ff15,ff15,ff15,ff15,ff15,ff15] rfl rfl (one_of HT_.out (by kernel_rfl)) (by decide) (fun K hK => ?_)
                  refine goes_ Try.func65 (by kernel_rfl) rfl #[.int .i64 (rd l0_0 x54_2), .int .i64 x54_2] (by rfl) rfl rfl (by (try simp only [List.map_toArray, List.map_cons, List.map_nil]); first | done | rfl | (simp only [List.length_drop, List.length_take]; rfl)) ?_
                  with_reducible refine (impl_isPlace.calls (rd l0_0 x54_2) x54_2 true _ A29.out).mono ?_
                  rintro e w' ⟨rfl, ⟨nd, rfl⟩⟩
                  refine ⟨_, rfl, ?_⟩
                  refine hK.out _ _ ⟨(blk_cell BK195.out 0).trans rfl, (blk_cell BK195.out 1).trans rfl, (blk_cell BK195.out 2).trans rfl, (blk_cell BK195.out 3).trans rfl, ((HB.out.cell (World.block_lt_of_cell? w _ hw202_0)).trans hw202_0), ((HB.out.cell (World.block_lt_of_cell? w _ hw204_0)).trans hw204_0), ((HB.out.cell (World.block_lt_of_cell? w _ hw206_0)).trans hw206_0), ((HB.out.cell (World.block_lt_of_cell? w _ hw208_0)).trans hw208_0), ((HB.out.cell (World.block_lt_of_cell? w _ hw209_0)).trans hw209_0)⟩ (fun hHeld => ?_)
                  clear hK K
                  refine norm_ (a' := ?_) ?_ ?_
                  rotate_left
                  ·show Act.put _ (some 73) _ = _
                   simp only [Act.put, List.setIfInBounds_toArray, List.set_cons_zero, List.set_cons_succ, i64_w, i32_w]
                   rfl
                  refine pure_ (i := 10) (N := some 74) (v := ?_) (a' := ?_) #[tt15,tt15,tt15,tt15,tt15,tt15,tt15,tt15,tt15,tt15,tt15,ff15,ff15,ff15,ff15,ff15,ff15,ff15,ff15,ff15,ff15,ff15,ff15,ff15,ff15,ff15,ff15,ff15,ff15,ff15,ff15,ff15,ff15,ff15,ff15,ff15,ff15,ff15,ff15,ff15,ff15,ff15,ff15,ff15,ff15,ff15,ff15] rfl rfl (any_of HT_.out (by kernel_rfl)) (fun _ _ _ h => h) (Or.inl ⟨by rfl, ?_⟩) ?_ ?_
                  rotate_left
                  ·intro w'
                   go_simp
                   with_reducible rfl
                  rotate_left
                  ·simp only [Act.put, List.setIfInBounds_toArray, List.set_cons_zero, List.set_cons_succ, i64_w, i32_w]
                   rfl
                  refine pure_ (i := 11) (N := some 75) (v := ?_) (a' := ?_) #[tt15,tt15,tt15,tt15,tt15,tt15,tt15,tt15,tt15,tt15,tt15,tt15,ff15,ff15,ff15,ff15,ff15,ff15,ff15,ff15,ff15,ff15,ff15,ff15,ff15,ff15,ff15,ff15,ff15,ff15,ff15,ff15,ff15,ff15,ff15,ff15,ff15,ff15,ff15,ff15,ff15,ff15,ff15,ff15,ff15,ff15,ff15] rfl rfl (any_of HT_.out (by kernel_rfl)) (fun _ _ _ h => h) (Or.inl ⟨by rfl, ?_⟩) ?_ ?_
                  rotate_left
                  ·intro w'
                   go_simp
                   with_reducible rfl
                  rotate_left
                  ·simp only [Act.put, List.setIfInBounds_toArray, List.set_cons_zero, List.set_cons_succ, i64_w, i32_w]
                   rfl
                  refine pure_ (i := 12) (N := some 76) (v := ?_) (a' := ?_) #[tt15,tt15,tt15,tt15,tt15,tt15,tt15,tt15,tt15,tt15,tt15,tt15,tt15,ff15,ff15,ff15,ff15,ff15,ff15,ff15,ff15,ff15,ff15,ff15,ff15,ff15,ff15,ff15,ff15,ff15,ff15,ff15,ff15,ff15,ff15,ff15,ff15,ff15,ff15,ff15,ff15,ff15,ff15,ff15,ff15,ff15,ff15] rfl rfl (any_of HT_.out (by kernel_rfl)) (fun _ _ _ h => h) (Or.inl ⟨by rfl, ?_⟩) ?_ ?_
                  rotate_left
                  ·intro w'
                   go_simp
                   with_reducible rfl
                  rotate_left
                  ·simp only [Act.put, List.setIfInBounds_toArray, List.set_cons_zero, List.set_cons_succ, i64_w, i32_w]
                   rfl
                  refine pure_ (i := 14) (N := some 78) (v := ?_) (a' := ?_) #[tt15,tt15,tt15,tt15,tt15,tt15,tt15,tt15,tt15,tt15,tt15,tt15,tt15,ff15,tt15,ff15,ff15,ff15,ff15,ff15,ff15,ff15,ff15,ff15,ff15,ff15,ff15,ff15,ff15,ff15,ff15,ff15,ff15,ff15,ff15,ff15,ff15,ff15,ff15,ff15,ff15,ff15,ff15,ff15,ff15,ff15,ff15] rfl rfl (any_of HT_.out (by kernel_rfl)) (fun _ _ _ h => h) (Or.inl ⟨by rfl, ?_⟩) ?_ ?_
                  rotate_left
                  ·intro w'
                   go_simp
                   with_reducible rfl
                  rotate_left
                  ·simp only [Act.put, List.setIfInBounds_toArray, List.set_cons_zero, List.set_cons_succ, i64_w, i32_w]
                   rfl
                  refine take_ (i := 13) (N := some 77) (v := ?_) (a' := ?_) #[tt15,tt15,tt15,tt15,tt15,tt15,tt15,tt15,tt15,tt15,tt15,tt15,tt15,tt15,tt15,ff15,ff15,ff15,ff15,ff15,ff15,ff15,ff15,ff15,ff15,ff15,ff15,ff15,ff15,ff15,ff15,ff15,ff15,ff15,ff15,ff15,ff15,ff15,ff15,ff15,ff15,ff15,ff15,ff15,ff15,ff15,ff15] rfl rfl (take_ofW HT_.out HW_.out (by kernel_rfl)) (fun _ _ _ h => h) (Or.inl ⟨by rfl, ?_⟩) hHeld ?_ ?_
                  rotate_left
                  ·rintro w' ⟨s0, s1, s2, s3, s4, s5, s6, s7, s8⟩
                   go_simp
                   with_reducible rfl
                  rotate_left
                  ·simp only [Act.put, List.setIfInBounds_toArray, List.set_cons_zero, List.set_cons_succ, i64_w, i32_w]
                   rfl
                  refine pure_ (i := 15) (N := some 79) (v := ?_) (a' := ?_) #[tt15,tt15,tt15,tt15,tt15,tt15,tt15,tt15,tt15,tt15,tt15,tt15,tt15,tt15,tt15,tt15,ff15,ff15,ff15,ff15,ff15,ff15,ff15,ff15,ff15,ff15,ff15,ff15,ff15,ff15,ff15,ff15,ff15,ff15,ff15,ff15,ff15,ff15,ff15,ff15,ff15,ff15,ff15,ff15,ff15,ff15,ff15] rfl rfl (any_of HT_.out (by kernel_rfl)) (fun _ _ _ h => h) (Or.inl ⟨by rfl, ?_⟩) ?_ ?_
                  rotate_left
                  ·intro w'
                   go_simp
                   with_reducible rfl
                  rotate_left
                  ·simp only [Act.put, List.setIfInBounds_toArray, List.set_cons_zero, List.set_cons_succ, i64_w, i32_w]
                   rfl
                  refine take_ (i := 16) (N := some 80) (v := ?_) (a' := ?_) #[tt15,tt15,tt15,tt15,tt15,tt15,tt15,tt15,tt15,tt15,tt15,tt15,tt15,tt15,tt15,tt15,tt15,ff15,ff15,ff15,ff15,ff15,ff15,ff15,ff15,ff15,ff15,ff15,ff15,ff15,ff15,ff15,ff15,ff15,ff15,ff15,ff15,ff15,ff15,ff15,ff15,ff15,ff15,ff15,ff15,ff15,ff15] rfl rfl (take_ofW HT_.out HW_.out (by kernel_rfl)) (fun _ _ _ h => h) (Or.inl ⟨by rfl, ?_⟩) hHeld ?_ ?_
                  rotate_left
                  ·rintro w' ⟨s0, s1, s2, s3, s4, s5, s6, s7, s8⟩
                   go_simp
                   with_reducible rfl
                  rotate_left
                  ·simp only [Act.put, List.setIfInBounds_toArray, List.set_cons_zero, List.set_cons_succ, i64_w, i32_w]
                   rfl
                  refine one_ (i := 17) (N := some 81) #[tt15,tt15,tt15,tt15,tt15,tt15,tt15,tt15,tt15,tt15,tt15,tt15,tt15,tt15,tt15,tt15,tt15,tt15,ff15,ff15,ff15,ff15,ff15,ff15,ff15,ff15,ff15,ff15,ff15,ff15,ff15,ff15,ff15,ff15,ff15,ff15,ff15,ff15,ff15,ff15,ff15,ff15,ff15,ff15,ff15,ff15,ff15] rfl rfl (one_of HT_.out (by kernel_rfl)) (by decide) (fun K hK => ?_)
                  refine goes_ Try.func66 (by kernel_rfl) rfl #[.int .i64 (rd l0_1 x54_2)] (by rfl) rfl rfl (by (try simp only [List.map_toArray, List.map_cons, List.map_nil]); first | done | rfl | (simp only [List.length_drop, List.length_take]; rfl)) ?_
                  with_reducible refine (impl_GoodRune.calls (rd l0_1 x54_2) true _ A32.out).mono ?_
                  rintro e w' ⟨rfl, ⟨nd, rfl⟩⟩
                  refine ⟨_, rfl, ?_⟩
                  refine hK.out _ _ ⟨(blk_cell BK195.out 0).trans rfl, (blk_cell BK195.out 1).trans rfl, (blk_cell BK195.out 2).trans rfl, (blk_cell BK195.out 3).trans rfl, ((HB.out.cell (World.block_lt_of_cell? w _ hw202_0)).trans hw202_0), ((HB.out.cell (World.block_lt_of_cell? w _ hw204_0)).trans hw204_0), ((HB.out.cell (World.block_lt_of_cell? w _ hw206_0)).trans hw206_0), ((HB.out.cell (World.block_lt_of_cell? w _ hw208_0)).trans hw208_0), ((HB.out.cell (World.block_lt_of_cell? w _ hw209_0)).trans hw209_0)⟩ (fun hHeld => ?_)
                  clear hK K
                  refine norm_ (a' := ?_) ?_ ?_
                  rotate_left
                  ·show Act.put _ (some 81) _ = _
                   simp only [Act.put, List.setIfInBounds_toArray, List.set_cons_zero, List.set_cons_succ, i64_w, i32_w]
                   rfl
                  refine pure_ (i := 18) (N := some 82) (v := ?_) (a' := ?_) #[tt15,tt15,tt15,tt15,tt15,tt15,tt15,tt15,tt15,tt15,tt15,tt15,tt15,tt15,tt15,tt15,tt15,tt15,tt15,ff15,ff15,ff15,ff15,ff15,ff15,ff15,ff15,ff15,ff15,ff15,ff15,ff15,ff15,ff15,ff15,ff15,ff15,ff15,ff15,ff15,ff15,ff15,ff15,ff15,ff15,ff15,ff15] rfl rfl (any_of HT_.out (by kernel_rfl)) (fun _ _ _ h => h) (Or.inl ⟨by rfl, ?_⟩) ?_ ?_
                  rotate_left
                  ·intro w'
                   go_simp
                   with_reducible rfl
                  rotate_left
                  ·simp only [Act.put, List.setIfInBounds_toArray, List.set_cons_zero, List.set_cons_succ, i64_w, i32_w]
                   rfl
                  refine pure_ (i := 19) (N := some 83) (v := ?_) (a' := ?_) #[tt15,tt15,tt15,tt15,tt15,tt15,tt15,tt15,tt15,tt15,tt15,tt15,tt15,tt15,tt15,tt15,tt15,tt15,tt15,tt15,ff15,ff15,ff15,ff15,ff15,ff15,ff15,ff15,ff15,ff15,ff15,ff15,ff15,ff15,ff15,ff15,ff15,ff15,ff15,ff15,ff15,ff15,ff15,ff15,ff15,ff15,ff15] rfl rfl (any_of HT_.out (by kernel_rfl)) (fun _ _ _ h => h) (Or.inl ⟨by rfl, ?_⟩) ?_ ?_
                  rotate_left
                  ·intro w'
                   go_simp
                   with_reducible rfl
                  rotate_left
                  ·simp only [Act.put, List.setIfInBounds_toArray, List.set_cons_zero, List.set_cons_succ, i64_w, i32_w]
                   rfl
                  refine pure_ (i := 20) (N := some 84) (v := ?_) (a' := ?_) #[tt15,tt15,tt15,tt15,tt15,tt15,tt15,tt15,tt15,tt15,tt15,tt15,tt15,tt15,tt15,tt15,tt15,tt15,tt15,tt15,tt15,ff15,ff15,ff15,ff15,ff15,ff15,ff15,ff15,ff15,ff15,ff15,ff15,ff15,ff15,ff15,ff15,ff15,ff15,ff15,ff15,ff15,ff15,ff15,ff15,ff15,ff15] rfl rfl (any_of HT_.out (by kernel_rfl)) (fun _ _ _ h => h) (Or.inl ⟨by rfl, ?_⟩) ?_ ?_
                  rotate_left
                  ·intro w'
                   go_simp
                   with_reducible rfl
                  rotate_left
                  ·simp only [Act.put, List.setIfInBounds_toArray, List.set_cons_zero, List.set_cons_succ, i64_w, i32_w]
                   rfl
                  refine pure_ (i := 21) (N := some 85) (v := ?_) (a' := ?_) #[tt15,tt15,tt15,tt15,tt15,tt15,tt15,tt15,tt15,tt15,tt15,tt15,tt15,tt15,tt15,tt15,tt15,tt15,tt15,tt15,tt15,tt15,ff15,ff15,ff15,ff15,ff15,ff15,ff15,ff15,ff15,ff15,ff15,ff15,ff15,ff15,ff15,ff15,ff15,ff15,ff15,ff15,ff15,ff15,ff15,ff15,ff15] rfl rfl (any_of HT_.out (by kernel_rfl)) (fun _ _ _ h => h) (Or.inl ⟨by rfl, ?_⟩) ?_ ?_
                  rotate_left
                  ·intro w'
                   go_simp
                   with_reducible rfl
                  rotate_left
                  ·simp only [Act.put, List.setIfInBounds_toArray, List.set_cons_zero, List.set_cons_succ, i64_w, i32_w]
                   rfl
                  refine pure_ (i := 23) (N := some 87) (v := ?_) (a' := ?_) #[tt15,tt15,tt15,tt15,tt15,tt15,tt15,tt15,tt15,tt15,tt15,tt15,tt15,tt15,tt15,tt15,tt15,tt15,tt15,tt15,tt15,tt15,ff15,tt15,ff15,ff15,ff15,ff15,ff15,ff15,ff15,ff15,ff15,ff15,ff15,ff15,ff15,ff15,ff15,ff15,ff15,ff15,ff15,ff15,ff15,ff15,ff15] rfl rfl (any_of HT_.out (by kernel_rfl)) (fun _ _ _ h => h) (Or.inl ⟨by rfl, ?_⟩) ?_ ?_
                  rotate_left
                  ·intro w'
                   go_simp
                   with_reducible rfl
                  rotate_left
                  ·simp only [Act.put, List.setIfInBounds_toArray, List.set_cons_zero, List.set_cons_succ, i64_w, i32_w]
                   rfl
                  refine pure_ (i := 26) (N := some 90) (v := ?_) (a' := ?_) #[tt15,tt15,tt15,tt15,tt15,tt15,tt15,tt15,tt15,tt15,tt15,tt15,tt15,tt15,tt15,tt15,tt15,tt15,tt15,tt15,tt15,tt15,ff15,tt15,ff15,ff15,tt15,ff15,ff15,ff15,ff15,ff15,ff15,ff15,ff15,ff15,ff15,ff15,ff15,ff15,ff15,ff15,ff15,ff15,ff15,ff15,ff15] rfl rfl (any_of HT_.out (by kernel_rfl)) (fun _ _ _ h => h) (Or.inl ⟨by rfl, ?_⟩) ?_ ?_
                  rotate_left
                  ·intro w'
                   go_simp
                   with_reducible rfl
                  rotate_left
                  ·simp only [Act.put, List.setIfInBounds_toArray, List.set_cons_zero, List.set_cons_succ, i64_w, i32_w]
                   rfl
                  refine take_ (i := 22) (N := some 86) (v := ?_) (a' := ?_) #[tt15,tt15,tt15,tt15,tt15,tt15,tt15,tt15,tt15,tt15,tt15,tt15,tt15,tt15,tt15,tt15,tt15,tt15,tt15,tt15,tt15,tt15,tt15,tt15,ff15,ff15,tt15,ff15,ff15,ff15,ff15,ff15,ff15,ff15,ff15,ff15,ff15,ff15,ff15,ff15,ff15,ff15,ff15,ff15,ff15,ff15,ff15] rfl rfl (take_ofW HT_.out HW_.out (by kernel_rfl)) (fun _ _ _ h => h) (Or.inl ⟨by rfl, ?_⟩) hHeld ?_ ?_
                  rotate_left
                  ·rintro w' ⟨s0, s1, s2, s3, s4, s5, s6, s7, s8⟩
                   go_simp
                   with_reducible rfl
                  rotate_left
                  ·simp only [Act.put, List.setIfInBounds_toArray, List.set_cons_zero, List.set_cons_succ, i64_w, i32_w]
                   rfl
                  refine pure_ (i := 24) (N := some 88) (v := ?_) (a' := ?_) #[tt15,tt15,tt15,tt15,tt15,tt15,tt15,tt15,tt15,tt15,tt15,tt15,tt15,tt15,tt15,tt15,tt15,tt15,tt15,tt15,tt15,tt15,tt15,tt15,tt15,ff15,tt15,ff15,ff15,ff15,ff15,ff15,ff15,ff15,ff15,ff15,ff15,ff15,ff15,ff15,ff15,ff15,ff15,ff15,ff15,ff15,ff15] rfl rfl (any_of HT_.out (by kernel_rfl)) (fun _ _ _ h => h) (Or.inl ⟨by rfl, ?_⟩) ?_ ?_
                  rotate_left
                  ·intro w'
                   go_simp
                   with_reducible rfl
                  rotate_left
                  ·simp only [Act.put, List.setIfInBounds_toArray, List.set_cons_zero, List.set_cons_succ, i64_w, i32_w]
                   rfl
                  refine take_ (i := 25) (N := some 89) (v := ?_) (a' := ?_) #[tt15,tt15,tt15,tt15,tt15,tt15,tt15,tt15,tt15,tt15,tt15,tt15,tt15,tt15,tt15,tt15,tt15,tt15,tt15,tt15,tt15,tt15,tt15,tt15,tt15,tt15,tt15,ff15,ff15,ff15,ff15,ff15,ff15,ff15,ff15,ff15,ff15,ff15,ff15,ff15,ff15,ff15,ff15,ff15,ff15,ff15,ff15] rfl rfl (take_ofW HT_.out HW_.out (by kernel_rfl)) (fun _ _ _ h => h) (Or.inl ⟨by rfl, ?_⟩) hHeld ?_ ?_
                  rotate_left
                  ·rintro w' ⟨s0, s1, s2, s3, s4, s5, s6, s7, s8⟩
                   go_simp
                   with_reducible rfl
                  rotate_left
                  ·simp only [Act.put, List.setIfInBounds_toArray, List.set_cons_zero, List.set_cons_succ, i64_w, i32_w]
                   rfl
                  refine one_ (i := 27) (N := some 91) #[tt15,tt15,tt15,tt15,tt15,tt15,tt15,tt15,tt15,tt15,tt15,tt15,tt15,tt15,tt15,tt15,tt15,tt15,tt15,tt15,tt15,tt15,tt15,tt15,tt15,tt15,tt15,tt15,ff15,ff15,ff15,ff15,ff15,ff15,ff15,ff15,ff15,ff15,ff15,ff15,ff15,ff15,ff15,ff15,ff15,ff15,ff15] rfl rfl (one_of HT_.out (by kernel_rfl)) (by decide) (fun K hK => ?_)
                  refine goes_ Try.func65 (by kernel_rfl) rfl #[.int .i64 (rd l0_2 x54_2), .int .i64 x54_2] (by rfl) rfl rfl (by (try simp only [List.map_toArray, List.map_cons, List.map_nil]); first | done | rfl | (simp only [List.length_drop, List.length_take]; rfl)) ?_
                  with_reducible refine (impl_isPlace.calls (rd l0_2 x54_2) x54_2 true _ A35.out).mono ?_
                  rintro e w' ⟨rfl, ⟨nd, rfl⟩⟩
                  refine ⟨_, rfl, ?_⟩
                  refine hK.out _ _ ⟨(blk_cell BK195.out 0).trans rfl, (blk_cell BK195.out 1).trans rfl, (blk_cell BK195.out 2).trans rfl, (blk_cell BK195.out 3).trans rfl, ((HB.out.cell (World.block_lt_of_cell? w _ hw202_0)).trans hw202_0), ((HB.out.cell (World.block_lt_of_cell? w _ hw204_0)).trans hw204_0), ((HB.out.cell (World.block_lt_of_cell? w _ hw206_0)).trans hw206_0), ((HB.out.cell (World.block_lt_of_cell? w _ hw208_0)).trans hw208_0), ((HB.out.cell (World.block_lt_of_cell? w _ hw209_0)).trans hw209_0)⟩ (fun hHeld => ?_)
                  clear hK K
                  refine norm_ (a' := ?_) ?_ ?_
                  rotate_left
                  ·show Act.put _ (some 91) _ = _
                   simp only [Act.put, List.setIfInBounds_toArray, List.set_cons_zero, List.set_cons_succ, i64_w, i32_w]
                   rfl
                  refine pure_ (i := 28) (N := some 92) (v := ?_) (a' := ?_) #[tt15,tt15,tt15,tt15,tt15,tt15,tt15,tt15,tt15,tt15,tt15,tt15,tt15,tt15,tt15,tt15,tt15,tt15,tt15,tt15,tt15,tt15,tt15,tt15,tt15,tt15,tt15,tt15,tt15,ff15,ff15,ff15,ff15,ff15,ff15,ff15,ff15,ff15,ff15,ff15,ff15,ff15,ff15,ff15,ff15,ff15,ff15] rfl rfl (any_of HT_.out (by kernel_rfl)) (fun _ _ _ h => h) (Or.inl ⟨by rfl, ?_⟩) ?_ ?_
                  rotate_left
                  ·intro w'
                   go_simp
                   with_reducible rfl
                  rotate_left
                  ·simp only [Act.put, List.setIfInBounds_toArray, List.set_cons_zero, List.set_cons_succ, i64_w, i32_w]
                   rfl
                  refine pure_ (i := 29) (N := some 93) (v := ?_) (a' := ?_) #[tt15,tt15,tt15,tt15,tt15,tt15,tt15,tt15,tt15,tt15,tt15,tt15,tt15,tt15,tt15,tt15,tt15,tt15,tt15,tt15,tt15,tt15,tt15,tt15,tt15,tt15,tt15,tt15,tt15,tt15,ff15,ff15,ff15,ff15,ff15,ff15,ff15,ff15,ff15,ff15,ff15,ff15,ff15,ff15,ff15,ff15,ff15] rfl rfl (any_of HT_.out (by kernel_rfl)) (fun _ _ _ h => h) (Or.inl ⟨by rfl, ?_⟩) ?_ ?_
                  rotate_left
                  ·intro w'
                   go_simp
                   with_reducible rfl
                  rotate_left
                  ·simp only [Act.put, List.setIfInBounds_toArray, List.set_cons_zero, List.set_cons_succ, i64_w, i32_w]
                   rfl
                  refine pure_ (i := 30) (N := some 94) (v := ?_) (a' := ?_) #[tt15,tt15,tt15,tt15,tt15,tt15,tt15,tt15,tt15,tt15,tt15,tt15,tt15,tt15,tt15,tt15,tt15,tt15,tt15,tt15,tt15,tt15,tt15,tt15,tt15,tt15,tt15,tt15,tt15,tt15,tt15,ff15,ff15,ff15,ff15,ff15,ff15,ff15,ff15,ff15,ff15,ff15,ff15,ff15,ff15,ff15,ff15] rfl rfl (any_of HT_.out (by kernel_rfl)) (fun _ _ _ h => h) (Or.inl ⟨by rfl, ?_⟩) ?_ ?_
                  rotate_left
                  ·intro w'
                   go_simp
                   with_reducible rfl
                  rotate_left
                  ·simp only [Act.put, List.setIfInBounds_toArray, List.set_cons_zero, List.set_cons_succ, i64_w, i32_w]
                   rfl
                  refine pure_ (i := 32) (N := some 96) (v := ?_) (a' := ?_) #[tt15,tt15,tt15,tt15,tt15,tt15,tt15,tt15,tt15,tt15,tt15,tt15,tt15,tt15,tt15,tt15,tt15,tt15,tt15,tt15,tt15,tt15,tt15,tt15,tt15,tt15,tt15,tt15,tt15,tt15,tt15,ff15,tt15,ff15,ff15,ff15,ff15,ff15,ff15,ff15,ff15,ff15,ff15,ff15,ff15,ff15,ff15] rfl rfl (any_of HT_.out (by kernel_rfl)) (fun _ _ _ h => h) (Or.inl ⟨by rfl, ?_⟩) ?_ ?_
                  rotate_left
                  ·intro w'
                   go_simp
                   with_reducible rfl
                  rotate_left
                  ·simp only [Act.put, List.setIfInBounds_toArray, List.set_cons_zero, List.set_cons_succ, i64_w, i32_w]
                   rfl
                  refine pure_ (i := 34) (N := some 98) (v := ?_) (a' := ?_) #[tt15,tt15,tt15,tt15,tt15,tt15,tt15,tt15,tt15,tt15,tt15,tt15,tt15,tt15,tt15,tt15,tt15,tt15,tt15,tt15,tt15,tt15,tt15,tt15,tt15,tt15,tt15,tt15,tt15,tt15,tt15,ff15,tt15,ff15,tt15,ff15,ff15,ff15,ff15,ff15,ff15,ff15,ff15,ff15,ff15,ff15,ff15] rfl rfl (any_of HT_.out (by kernel_rfl)) (fun _ _ _ h => h) (Or.inl ⟨by rfl, ?_⟩) ?_ ?_
                  rotate_left
                  ·intro w'
                   go_simp
                   with_reducible rfl
                  rotate_left
                  ·simp only [Act.put, List.setIfInBounds_toArray, List.set_cons_zero, List.set_cons_succ, i64_w, i32_w]
                   rfl
                  refine pure_ (i := 37) (N := some 101) (v := ?_) (a' := ?_) #[tt15,tt15,tt15,tt15,tt15,tt15,tt15,tt15,tt15,tt15,tt15,tt15,tt15,tt15,tt15,tt15,tt15,tt15,tt15,tt15,tt15,tt15,tt15,tt15,tt15,tt15,tt15,tt15,tt15,tt15,tt15,ff15,tt15,ff15,tt15,ff15,ff15,tt15,ff15,ff15,ff15,ff15,ff15,ff15,ff15,ff15,ff15] rfl rfl (any_of HT_.out (by kernel_rfl)) (fun _ _ _ h => h) (Or.inl ⟨by rfl, ?_⟩) ?_ ?_
                  rotate_left
                  ·intro w'
                   go_simp
                   with_reducible rfl
                  rotate_left
                  ·simp only [Act.put, List.setIfInBounds_toArray, List.set_cons_zero, List.set_cons_succ, i64_w, i32_w]
                   rfl
                  refine pure_ (i := 39) (N := some 103) (v := ?_) (a' := ?_) #[tt15,tt15,tt15,tt15,tt15,tt15,tt15,tt15,tt15,tt15,tt15,tt15,tt15,tt15,tt15,tt15,tt15,tt15,tt15,tt15,tt15,tt15,tt15,tt15,tt15,tt15,tt15,tt15,tt15,tt15,tt15,ff15,tt15,ff15,tt15,ff15,ff15,tt15,ff15,tt15,ff15,ff15,ff15,ff15,ff15,ff15,ff15] rfl rfl (any_of HT_.out (by kernel_rfl)) (fun _ _ _ h => h) (Or.inl ⟨by rfl, ?_⟩) ?_ ?_
                  rotate_left
                  ·intro w'
                   go_simp
                   with_reducible rfl
                  rotate_left
                  ·simp only [Act.put, List.setIfInBounds_toArray, List.set_cons_zero, List.set_cons_succ, i64_w, i32_w]
                   rfl
                  refine pure_ (i := 43) (N := some 107) (v := ?_) (a' := ?_) #[tt15,tt15,tt15,tt15,tt15,tt15,tt15,tt15,tt15,tt15,tt15,tt15,tt15,tt15,tt15,tt15,tt15,tt15,tt15,tt15,tt15,tt15,tt15,tt15,tt15,tt15,tt15,tt15,tt15,tt15,tt15,ff15,tt15,ff15,tt15,ff15,ff15,tt15,ff15,tt15,ff15,ff15,ff15,tt15,ff15,ff15,ff15] rfl rfl (any_of HT_.out (by kernel_rfl)) (fun _ _ _ h => h) (Or.inl ⟨by rfl, ?_⟩) ?_ ?_
                  rotate_left
                  ·intro w'
                   go_simp
                   with_reducible rfl
                  rotate_left
                  ·simp only [Act.put, List.setIfInBounds_toArray, List.set_cons_zero, List.set_cons_succ, i64_w, i32_w]
                   rfl
                  refine take_ (i := 31) (N := some 95) (v := ?_) (a' := ?_) #[tt15,tt15,tt15,tt15,tt15,tt15,tt15,tt15,tt15,tt15,tt15,tt15,tt15,tt15,tt15,tt15,tt15,tt15,tt15,tt15,tt15,tt15,tt15,tt15,tt15,tt15,tt15,tt15,tt15,tt15,tt15,tt15,tt15,ff15,tt15,ff15,ff15,tt15,ff15,tt15,ff15,ff15,ff15,tt15,ff15,ff15,ff15] rfl rfl (take_ofW HT_.out HW_.out (by kernel_rfl)) (fun _ _ _ h => h) (Or.inl ⟨by rfl, ?_⟩) hHeld ?_ ?_
                  rotate_left
                  ·rintro w' ⟨s0, s1, s2, s3, s4, s5, s6, s7, s8⟩
                   go_simp
                   with_reducible rfl
                  rotate_left
                  ·simp only [Act.put, List.setIfInBounds_toArray, List.set_cons_zero, List.set_cons_succ, i64_w, i32_w]
                   rfl
                  refine take_ (i := 33) (N := some 97) (v := ?_) (a' := ?_) #[tt15,tt15,tt15,tt15,tt15,tt15,tt15,tt15,tt15,tt15,tt15,tt15,tt15,tt15,tt15,tt15,tt15,tt15,tt15,tt15,tt15,tt15,tt15,tt15,tt15,tt15,tt15,tt15,tt15,tt15,tt15,tt15,tt15,tt15,tt15,ff15,ff15,tt15,ff15,tt15,ff15,ff15,ff15,tt15,ff15,ff15,ff15] rfl rfl (take_ofW HT_.out HW_.out (by kernel_rfl)) (fun _ _ _ h => h) (Or.inl ⟨by rfl, ?_⟩) hHeld ?_ ?_
                  rotate_left
                  ·rintro w' ⟨s0, s1, s2, s3, s4, s5, s6, s7, s8⟩
                   go_simp
                   with_reducible rfl
                  rotate_left
                  ·simp only [Act.put, List.setIfInBounds_toArray, List.set_cons_zero, List.set_cons_succ, i64_w, i32_w]
                   rfl
                  refine pure_ (i := 35) (N := some 99) (v := ?_) (a' := ?_) #[tt15,tt15,tt15,tt15,tt15,tt15,tt15,tt15,tt15,tt15,tt15,tt15,tt15,tt15,tt15,tt15,tt15,tt15,tt15,tt15,tt15,tt15,tt15,tt15,tt15,tt15,tt15,tt15,tt15,tt15,tt15,tt15,tt15,tt15,tt15,tt15,ff15,tt15,ff15,tt15,ff15,ff15,ff15,tt15,ff15,ff15,ff15] rfl rfl (any_of HT_.out (by kernel_rfl)) (fun _ _ _ h => h) (Or.inl ⟨by rfl, ?_⟩) ?_ ?_
                  rotate_left
                  ·intro w'
                   go_simp
                   with_reducible rfl
                  rotate_left
                  ·simp only [Act.put, List.setIfInBounds_toArray, List.set_cons_zero, List.set_cons_succ, i64_w, i32_w]
                   rfl
                  refine take_ (i := 36) (N := some 100) (v := ?_) (a' := ?_) #[tt15,tt15,tt15,tt15,tt15,tt15,tt15,tt15,tt15,tt15,tt15,tt15,tt15,tt15,tt15,tt15,tt15,tt15,tt15,tt15,tt15,tt15,tt15,tt15,tt15,tt15,tt15,tt15,tt15,tt15,tt15,tt15,tt15,tt15,tt15,tt15,tt15,tt15,ff15,tt15,ff15,ff15,ff15,tt15,ff15,ff15,ff15] rfl rfl (take_ofW HT_.out HW_.out (by kernel_rfl)) (fun _ _ _ h => h) (Or.inl ⟨by rfl, ?_⟩) hHeld ?_ ?_
                  rotate_left
                  ·rintro w' ⟨s0, s1, s2, s3, s4, s5, s6, s7, s8⟩
                   go_simp
                   with_reducible rfl
                  rotate_left
                  ·simp only [Act.put, List.setIfInBounds_toArray, List.set_cons_zero, List.set_cons_succ, i64_w, i32_w]
                   rfl
                  refine take_ (i := 38) (N := some 102) (v := ?_) (a' := ?_) #[tt15,tt15,tt15,tt15,tt15,tt15,tt15,tt15,tt15,tt15,tt15,tt15,tt15,tt15,tt15,tt15,tt15,tt15,tt15,tt15,tt15,tt15,tt15,tt15,tt15,tt15,tt15,tt15,tt15,tt15,tt15,tt15,tt15,tt15,tt15,tt15,tt15,tt15,tt15,tt15,ff15,ff15,ff15,tt15,ff15,ff15,ff15] rfl rfl (take_ofW HT_.out HW_.out (by kernel_rfl)) (fun _ _ _ h => h) (Or.inl ⟨by rfl, ?_⟩) hHeld ?_ ?_
                  rotate_left
                  ·rintro w' ⟨s0, s1, s2, s3, s4, s5, s6, s7, s8⟩
                   go_simp
                   with_reducible rfl
                  rotate_left
                  ·simp only [Act.put, List.setIfInBounds_toArray, List.set_cons_zero, List.set_cons_succ, i64_w, i32_w]
                   rfl
                  refine pure_ (i := 40) (N := some 104) (v := ?_) (a' := ?_) #[tt15,tt15,tt15,tt15,tt15,tt15,tt15,tt15,tt15,tt15,tt15,tt15,tt15,tt15,tt15,tt15,tt15,tt15,tt15,tt15,tt15,tt15,tt15,tt15,tt15,tt15,tt15,tt15,tt15,tt15,tt15,tt15,tt15,tt15,tt15,tt15,tt15,tt15,tt15,tt15,tt15,ff15,ff15,tt15,ff15,ff15,ff15] rfl rfl (any_of HT_.out (by kernel_rfl)) (fun _ _ _ h => h) (Or.inl ⟨by rfl, ?_⟩) ?_ ?_
                  rotate_left
                  ·intro w'
                   go_simp
                   with_reducible rfl
                  rotate_left
                  ·simp only [Act.put, List.setIfInBounds_toArray, List.set_cons_zero, List.set_cons_succ, i64_w, i32_w]
                   rfl
                  refine take_ (i := 41) (N := some 105) (v := ?_) (a' := ?_) #[tt15,tt15,tt15,tt15,tt15,tt15,tt15,tt15,tt15,tt15,tt15,tt15,tt15,tt15,tt15,tt15,tt15,tt15,tt15,tt15,tt15,tt15,tt15,tt15,tt15,tt15,tt15,tt15,tt15,tt15,tt15,tt15,tt15,tt15,tt15,tt15,tt15,tt15,tt15,tt15,tt15,tt15,ff15,tt15,ff15,ff15,ff15] rfl rfl (take_ofW HT_.out HW_.out (by kernel_rfl)) (fun _ _ _ h => h) (Or.inl ⟨by rfl, ?_⟩) hHeld ?_ ?_
                  rotate_left
                  ·rintro w' ⟨s0, s1, s2, s3, s4, s5, s6, s7, s8⟩
                   go_simp
                   with_reducible rfl
                  rotate_left
                  ·simp only [Act.put, List.setIfInBounds_toArray, List.set_cons_zero, List.set_cons_succ, i64_w, i32_w]
                   rfl
                  refine one_ (i := 42) (N := some 106) #[tt15,tt15,tt15,tt15,tt15,tt15,tt15,tt15,tt15,tt15,tt15,tt15,tt15,tt15,tt15,tt15,tt15,tt15,tt15,tt15,tt15,tt15,tt15,tt15,tt15,tt15,tt15,tt15,tt15,tt15,tt15,tt15,tt15,tt15,tt15,tt15,tt15,tt15,tt15,tt15,tt15,tt15,tt15,tt15,ff15,ff15,ff15] rfl rfl (one_of HT_.out (by kernel_rfl)) (by decide) (fun K hK => ?_)
                  refine goes_ Try.func67 (by kernel_rfl) rfl #[.agg #[.slice (some ad202) l0_0.length c0_0, .slice (some ad204) l0_1.length c0_1, .slice (some ad206) l0_2.length c0_2, .slice (some ad200) l0_3.length c0_3], .int .i64 (rd l0_0 x54_2), .int .i64 (rd l0_1 x54_2)] (by rfl) rfl rfl (by (try simp only [List.map_toArray, List.map_cons, List.map_nil]); first | done | rfl | (simp only [List.length_drop, List.length_take]; rfl)) ?_
                  with_reducible refine (impl_Aho_kid.calls k2 _ _ l0_0 _ _ l0_1 _ _ l0_2 _ _ l0_3 (rd l0_0 x54_2) (rd l0_1 x54_2) t210 _ ?side1 ?side2 ?side3 ?side4 ?side5 ?side6 ?side7 ?side8 A37.out).mono ?_
                  (case side1 => repeat (first | exact (Kd.C_below HR0_0.out (by repeat (first | (with_reducible first | exact HB.out | apply below_alloc | apply pw_below_drewN | apply below_drew1 | refine below_set ?_ GE195.out) | exact HB.out))) | (with_reducible refine Kd.C_alloc ?_ _) | (with_reducible refine Kd.C_drewN ?_ _) | (with_reducible refine Kd.C_drew ?_)))
                  (case side2 => exact HC0_0.out)
                  (case side3 => repeat (first | exact (Kd.C_below HR0_1.out (by repeat (first | (with_reducible first | exact HB.out | apply below_alloc | apply pw_below_drewN | apply below_drew1 | refine below_set ?_ GE195.out) | exact HB.out))) | (with_reducible refine Kd.C_alloc ?_ _) | (with_reducible refine Kd.C_drewN ?_ _) | (with_reducible refine Kd.C_drew ?_)))
                  (case side4 => exact HC0_1.out)
                  (case side5 => repeat (first | exact (Kd.C_below HR0_2.out (by repeat (first | (with_reducible first | exact HB.out | apply below_alloc | apply pw_below_drewN | apply below_drew1 | refine below_set ?_ GE195.out) | exact HB.out))) | (with_reducible refine Kd.C_alloc ?_ _) | (with_reducible refine Kd.C_drewN ?_ _) | (with_reducible refine Kd.C_drew ?_)))
                  (case side6 => exact HC0_2.out)
                  (case side7 => repeat (first | exact (Kd.C_below HR0_3.out (by repeat (first | (with_reducible first | exact HB.out | apply below_alloc | apply pw_below_drewN | apply below_drew1 | refine below_set ?_ GE195.out) | exact HB.out))) | (with_reducible refine Kd.C_alloc ?_ _) | (with_reducible refine Kd.C_drewN ?_ _) | (with_reducible refine Kd.C_drew ?_)))
                  (case side8 => exact HC0_3.out)
                  rintro e w41 ⟨rfl, hb⟩
                  refine ⟨_, rfl, ?_⟩
                  have n0_ := Aside0.mk (blk_below (g := gb195) (o := .cells #[.slice (some ad202) l0_0.length c0_0, .slice (some ad204) l0_1.length c0_1, .slice (some ad206) l0_2.length c0_2, .slice (some ad200) l0_3.length c0_3] 30 (0, 0)) (by (with_reducible repeat (first | refine blk_drewN ?_ _ | refine blk_drew ?_ | refine blk_alloc ?_ _)); exact BK195.out) hb)
                  have n1_ := Aside0.mk (below_step (by repeat (first | (with_reducible first | exact HB.out | apply below_alloc | apply pw_below_drewN | apply below_drew1 | refine below_set ?_ GE195.out) | exact HB.out)) hb)
                  clear BK195
                  clear HB
                  have BK195 := n0_
                  have HB := n1_
                  clear n0_ n1_
                  (try clear hb)
                  (try clear hb2)
                  (try clear hk)
                  (try clear hi)
                  refine hK.out _ _ ⟨(blk_cell BK195.out 0).trans rfl, (blk_cell BK195.out 1).trans rfl, (blk_cell BK195.out 2).trans rfl, (blk_cell BK195.out 3).trans rfl, ((HB.out.cell (World.block_lt_of_cell? w _ hw202_0)).trans hw202_0), ((HB.out.cell (World.block_lt_of_cell? w _ hw204_0)).trans hw204_0), ((HB.out.cell (World.block_lt_of_cell? w _ hw206_0)).trans hw206_0), ((HB.out.cell (World.block_lt_of_cell? w _ hw208_0)).trans hw208_0), ((HB.out.cell (World.block_lt_of_cell? w _ hw209_0)).trans hw209_0)⟩ (fun hHeld => ?_)
                  clear hK K
                  refine norm_ (a' := ?_) ?_ ?_
                  rotate_left
                  ·show Act.put _ (some 106) _ = _
                   simp only [Act.put, List.setIfInBounds_toArray, List.set_cons_zero, List.set_cons_succ, i64_w, i32_w]
                   rfl
                  refine pure_ (i := 44) (N := some 108) (v := ?_) (a' := ?_) #[tt15,tt15,tt15,tt15,tt15,tt15,tt15,tt15,tt15,tt15,tt15,tt15,tt15,tt15,tt15,tt15,tt15,tt15,tt15,tt15,tt15,tt15,tt15,tt15,tt15,tt15,tt15,tt15,tt15,tt15,tt15,tt15,tt15,tt15,tt15,tt15,tt15,tt15,tt15,tt15,tt15,tt15,tt15,tt15,tt15,ff15,ff15] rfl rfl (any_of HT_.out (by kernel_rfl)) (fun _ _ _ h => h) (Or.inl ⟨by rfl, ?_⟩) ?_ ?_
                  rotate_left
                  ·intro w'
                   go_simp
                   with_reducible rfl
                  rotate_left
                  ·simp only [Act.put, List.setIfInBounds_toArray, List.set_cons_zero, List.set_cons_succ, i64_w, i32_w]
                   rfl
                  refine pure_ (i := 45) (N := some 109) (v := ?_) (a' := ?_) #[tt15,tt15,tt15,tt15,tt15,tt15,tt15,tt15,tt15,tt15,tt15,tt15,tt15,tt15,tt15,tt15,tt15,tt15,tt15,tt15,tt15,tt15,tt15,tt15,tt15,tt15,tt15,tt15,tt15,tt15,tt15,tt15,tt15,tt15,tt15,tt15,tt15,tt15,tt15,tt15,tt15,tt15,tt15,tt15,tt15,tt15,ff15] rfl rfl (any_of HT_.out (by kernel_rfl)) (fun _ _ _ h => h) (Or.inl ⟨by rfl, ?_⟩) ?_ ?_
                  rotate_left
                  ·intro w'
                   go_simp
                   with_reducible rfl
                  rotate_left
                  ·simp only [Act.put, List.setIfInBounds_toArray, List.set_cons_zero, List.set_cons_succ, i64_w, i32_w]
                   rfl
                  refine pure_ (i := 46) (N := some 110) (v := ?_) (a' := ?_) #[tt15,tt15,tt15,tt15,tt15,tt15,tt15,tt15,tt15,tt15,tt15,tt15,tt15,tt15,tt15,tt15,tt15,tt15,tt15,tt15,tt15,tt15,tt15,tt15,tt15,tt15,tt15,tt15,tt15,tt15,tt15,tt15,tt15,tt15,tt15,tt15,tt15,tt15,tt15,tt15,tt15,tt15,tt15,tt15,tt15,tt15,tt15] rfl rfl (any_of HT_.out (by kernel_rfl)) (fun _ _ _ h => h) (Or.inl ⟨by rfl, ?_⟩) ?_ ?_
                  rotate_left
                  ·intro w'
                   go_simp
                   with_reducible rfl
                  rotate_left
                  ·simp only [Act.put, List.setIfInBounds_toArray, List.set_cons_zero, List.set_cons_succ, i64_w, i32_w]
                   rfl
                  refine done_ (done_of HT_.out (by kernel_rfl)) ?_
                  try go_wp2
                  go_roundg k2
                  case measure => have := HJ1.out; have := HK2.out; omega
                  case rel => exact ⟨(wrap64 (x54_2 + 1)), (by first | rfl | (simp; done) | (simp [*]; done)), H', ⟨by have := HJ1.out; have := HK2.out; omega⟩, ⟨by (with_reducible repeat (first | refine blk_drewN ?_ _ | refine blk_drew ?_ | refine blk_alloc ?_ _)); exact BK195.out⟩, ⟨by repeat (first | (with_reducible first | exact HB.out | apply below_alloc | apply pw_below_drewN | apply below_drew1 | refine below_set ?_ GE195.out) | exact HB.out)⟩⟩
                 ·rw [if_neg c38] at H
                  have c38b0 : (t210 == x54_2) = false := beq_eq_false_iff_ne.mpr c38
                  have c38b1 : (t210 != x54_2) = true := bne_iff_ne.mpr c38
                  obtain rfl := Option.some.inj H
                  have hcz42_0 := bc0 BK195.out
                  have hcz42_1 := bc1 BK195.out
                  have hcz42_2 := bc2 BK195.out
                  have hcz42_3 := bc3 BK195.out
                  have hfz42_0 := blk_frozen BK195.out 0
                  have hfz42_1 := blk_frozen BK195.out 1
                  have hfz42_2 := blk_frozen BK195.out 2
                  have hfz42_3 := blk_frozen BK195.out 3
                  have p200 : 0 ≤ (x54_2 : Int) := of_decide_eq_true (by first | (with_reducible assumption) | assumption)
                  have q200 : x54_2 < (l0_3.length : Int) := of_decide_eq_true (by first | (with_reducible assumption) | assumption)
                  obtain ⟨ad200, A200_0, c200_0, e200, hx200_0, hl200_0, hi200_0⟩ := at_L1 HR0_3.out x54_2 p200 q200
                  cases e200
                  replace hx200_0 := (HB.out.cell (World.block_lt_of_cell? w _ hx200_0)).trans hx200_0
                  have HR200_0 := Aside0.mk hi200_0
                  have HC200_0 := Aside0.mk hl200_0
                  clear hi200_0 hl200_0
                  replace p200 := eq_true p200
                  replace q200 := eq_true q200
                  try go_wp2_with (first | ((with_reducible refine gate_callee (f := 64) rfl ?_); refine goesL_ (some 62) rfl rfl Try.func64 (by kernel_rfl) rfl #[.slice A200_0 (rd_L1 l0_3 x54_2).length c200_0, .int .i64 0, .int .i64 7] rfl (by (try simp only [List.map_toArray, List.map_cons, List.map_nil]); first | done | rfl | (simp only [List.length_drop, List.length_take]; rfl)) ?_; (with_reducible refine (impl_isRising.calls k2 _ _ (rd_L1 l0_3 x54_2) 0 7 true _ ?side1 ?side2 A25.out).mono ?_); (case side1 => repeat (first | exact (Kd.C_below HR200_0.out HB.out) | (with_reducible refine Kd.C_alloc ?_ _) | (with_reducible refine Kd.C_drewN ?_ _) | (with_reducible refine Kd.C_drew ?_))); (case side2 => exact HC200_0.out); rintro e w' ⟨rfl, ⟨nd, rfl⟩⟩; refine ⟨_, rfl, ?_⟩))
                  (try (rw [drewN_self wr]; generalize hq_ : World.drewN wr _ = wr; have n0_ : Aside0 (wr.heap[gb195]? = some (.cells #[.slice A0_0 l0_0.length c0_0, .slice A0_1 l0_1.length c0_1, .slice A0_2 l0_2.length c0_2, .slice (some ad200) l0_3.length c0_3] 30 (0, 0))) := ⟨by rw [← hq_]; exact (by (with_reducible repeat (first | refine blk_drewN ?_ _ | refine blk_drew ?_ | refine blk_alloc ?_ _)); exact BK195.out)⟩; have n1_ : Aside0 (Below w.heap.size w wr) := ⟨by rw [← hq_]; exact (by repeat (first | (with_reducible first | exact HB.out | apply below_alloc | apply pw_below_drewN | apply below_drew1 | refine below_set ?_ GE195.out) | exact HB.out))⟩; clear BK195 HB hq_; have BK195 := n0_; have HB := n1_; clear n0_ n1_))
                  have n0_ := Aside0.mk (blk_drew BK195.out)
                  have n1_ := Aside0.mk (below_drew1 HB.out)
                  clear BK195
                  clear HB
                  have BK195 := n0_
                  have HB := n1_
                  clear n0_ n1_
                  have p202 : 0 ≤ (x54_2 : Int) := of_decide_eq_true (by first | (with_reducible assumption) | assumption)
                  have q202 : x54_2 < (l0_0.length : Int) := of_decide_eq_true (by first | (with_reducible assumption) | assumption)
                  obtain ⟨ad202, e202, hx202_0⟩ := Kd.at_int HR0_0.out x54_2 p202 q202
                  have hw202_0 := hx202_0
                  cases e202
                  replace hx202_0 := (HB.out.cell (World.block_lt_of_cell? w _ hx202_0)).trans hx202_0
                  replace p202 := eq_true p202
                  replace q202 := eq_true q202
                  have p204 : 0 ≤ (x54_2 : Int) := of_decide_eq_true (by first | (with_reducible assumption) | assumption)
                  have q204 : x54_2 < (l0_1.length : Int) := of_decide_eq_true (by first | (with_reducible assumption) | assumption)
                  obtain ⟨ad204, e204, hx204_0⟩ := Kd.at_int HR0_1.out x54_2 p204 q204
                  have hw204_0 := hx204_0
                  cases e204
                  replace hx204_0 := (HB.out.cell (World.block_lt_of_cell? w _ hx204_0)).trans hx204_0
                  replace p204 := eq_true p204
                  replace q204 := eq_true q204
                  have p206 : 0 ≤ (x54_2 : Int) := of_decide_eq_true (by first | (with_reducible assumption) | assumption)
                  have q206 : x54_2 < (l0_2.length : Int) := of_decide_eq_true (by first | (with_reducible assumption) | assumption)
                  obtain ⟨ad206, e206, hx206_0⟩ := Kd.at_int HR0_2.out x54_2 p206 q206
                  have hw206_0 := hx206_0
                  cases e206
                  replace hx206_0 := (HB.out.cell (World.block_lt_of_cell? w _ hx206_0)).trans hx206_0
                  replace p206 := eq_true p206
                  replace q206 := eq_true q206
                  have p208 : 0 ≤ (x54_2 : Int) := of_decide_eq_true (by first | (with_reducible assumption) | assumption)
                  have q208 : x54_2 < (l0_0.length : Int) := of_decide_eq_true (by first | (with_reducible assumption) | assumption)
                  obtain ⟨ad208, e208, hx208_0⟩ := Kd.at_int HR0_0.out x54_2 p208 q208
                  have hw208_0 := hx208_0
                  obtain rfl : ad202 = ad208 := (by injection e208)
                  replace hx208_0 := (HB.out.cell (World.block_lt_of_cell? w _ hx208_0)).trans hx208_0
                  replace p208 := eq_true p208
                  replace q208 := eq_true q208
                  have p209 : 0 ≤ (x54_2 : Int) := of_decide_eq_true (by first | (with_reducible assumption) | assumption)
                  have q209 : x54_2 < (l0_1.length : Int) := of_decide_eq_true (by first | (with_reducible assumption) | assumption)
                  obtain ⟨ad209, e209, hx209_0⟩ := Kd.at_int HR0_1.out x54_2 p209 q209
                  have hw209_0 := hx209_0
                  obtain rfl : ad204 = ad209 := (by injection e209)
                  replace hx209_0 := (HB.out.cell (World.block_lt_of_cell? w _ hx209_0)).trans hx209_0
                  replace p209 := eq_true p209
                  replace q209 := eq_true q209
                  refine start_ (n := 47) (S := fun w' => w'.cell? ⟨gb195, 0, none⟩ = some (.slice (some ad202) l0_0.length c0_0) ∧ w'.cell? ⟨gb195, 1, none⟩ = some (.slice (some ad204) l0_1.length c0_1) ∧ w'.cell? ⟨gb195, 2, none⟩ = some (.slice (some ad206) l0_2.length c0_2) ∧ w'.cell? ⟨gb195, 3, none⟩ = some (.slice (some ad200) l0_3.length c0_3) ∧ w'.cell? (ad202.add (x54_2).toNat) = some (.int .i64 (rd l0_0 x54_2)) ∧ w'.cell? (ad204.add (x54_2).toNat) = some (.int .i64 (rd l0_1 x54_2)) ∧ w'.cell? (ad206.add (x54_2).toNat) = some (.int .i64 (rd l0_2 x54_2)) ∧ w'.cell? (ad202.add (x54_2).toNat) = some (.int .i64 (rd l0_0 x54_2)) ∧ w'.cell? (ad204.add (x54_2).toNat) = some (.int .i64 (rd l0_1 x54_2))) (ds := []) #[ff15,ff15,ff15,ff15,ff15,ff15,ff15,ff15,ff15,ff15,ff15,ff15,ff15,ff15,ff15,ff15,ff15,ff15,ff15,ff15,ff15,ff15,ff15,ff15,ff15,ff15,ff15,ff15,ff15,ff15,ff15,ff15,ff15,ff15,ff15,ff15,ff15,ff15,ff15,ff15,ff15,ff15,ff15,ff15,ff15,ff15,ff15] (by kernel_rfl) rfl rfl ⟨(blk_cell BK195.out 0).trans rfl, (blk_cell BK195.out 1).trans rfl, (blk_cell BK195.out 2).trans rfl, (blk_cell BK195.out 3).trans rfl, ((HB.out.cell (World.block_lt_of_cell? w _ hw202_0)).trans hw202_0), ((HB.out.cell (World.block_lt_of_cell? w _ hw204_0)).trans hw204_0), ((HB.out.cell (World.block_lt_of_cell? w _ hw206_0)).trans hw206_0), ((HB.out.cell (World.block_lt_of_cell? w _ hw208_0)).trans hw208_0), ((HB.out.cell (World.block_lt_of_cell? w _ hw209_0)).trans hw209_0)⟩ (fun hHeld => ?_); refine with_tabW impl_GoodAho.tab9 impl_GoodAho.bits9 (fun HT_ HW_ => ?_)
                  generalize wr.drew = w43 at BK195 HB hx202_0 hx204_0 hx206_0 hx208_0 hx209_0 hHeld ⊢
                  refine pure_ (i := 0) (N := some 64) (v := ?_) (a' := ?_) #[tt15,ff15,ff15,ff15,ff15,ff15,ff15,ff15,ff15,ff15,ff15,ff15,ff15,ff15,ff15,ff15,ff15,ff15,ff15,ff15,ff15,ff15,ff15,ff15,ff15,ff15,ff15,ff15,ff15,ff15,ff15,ff15,ff15,ff15,ff15,ff15,ff15,ff15,ff15,ff15,ff15,ff15,ff15,ff15,ff15,ff15,ff15] rfl rfl (any_of HT_.out (by kernel_rfl)) (fun _ _ _ h => h) (Or.inl ⟨by rfl, ?_⟩) ?_ ?_
                  rotate_left
                  ·intro w'
                   go_simp
                   with_reducible rfl
                  rotate_left
                  ·simp only [Act.put, List.setIfInBounds_toArray, List.set_cons_zero, List.set_cons_succ, i64_w, i32_w]
                   rfl
                  refine pure_ (i := 1) (N := some 65) (v := ?_) (a' := ?_) #[tt15,tt15,ff15,ff15,ff15,ff15,ff15,ff15,ff15,ff15,ff15,ff15,ff15,ff15,ff15,ff15,ff15,ff15,ff15,ff15,ff15,ff15,ff15,ff15,ff15,ff15,ff15,ff15,ff15,ff15,ff15,ff15,ff15,ff15,ff15,ff15,ff15,ff15,ff15,ff15,ff15,ff15,ff15,ff15,ff15,ff15,ff15] rfl rfl (any_of HT_.out (by kernel_rfl)) (fun _ _ _ h => h) (Or.inl ⟨by rfl, ?_⟩) ?_ ?_
                  rotate_left
                  ·intro w'
                   go_simp
                   with_reducible rfl
                  rotate_left
                  ·simp only [Act.put, List.setIfInBounds_toArray, List.set_cons_zero, List.set_cons_succ, i64_w, i32_w]
                   rfl
                  refine pure_ (i := 2) (N := some 66) (v := ?_) (a' := ?_) #[tt15,tt15,tt15,ff15,ff15,ff15,ff15,ff15,ff15,ff15,ff15,ff15,ff15,ff15,ff15,ff15,ff15,ff15,ff15,ff15,ff15,ff15,ff15,ff15,ff15,ff15,ff15,ff15,ff15,ff15,ff15,ff15,ff15,ff15,ff15,ff15,ff15,ff15,ff15,ff15,ff15,ff15,ff15,ff15,ff15,ff15,ff15] rfl rfl (any_of HT_.out (by kernel_rfl)) (fun _ _ _ h => h) (Or.inl ⟨by rfl, ?_⟩) ?_ ?_
                  rotate_left
                  ·intro w'
                   go_simp
                   with_reducible rfl
                  rotate_left
                  ·simp only [Act.put, List.setIfInBounds_toArray, List.set_cons_zero, List.set_cons_succ, i64_w, i32_w]
                   rfl
                  refine pure_ (i := 3) (N := some 67) (v := ?_) (a' := ?_) #[tt15,tt15,tt15,tt15,ff15,ff15,ff15,ff15,ff15,ff15,ff15,ff15,ff15,ff15,ff15,ff15,ff15,ff15,ff15,ff15,ff15,ff15,ff15,ff15,ff15,ff15,ff15,ff15,ff15,ff15,ff15,ff15,ff15,ff15,ff15,ff15,ff15,ff15,ff15,ff15,ff15,ff15,ff15,ff15,ff15,ff15,ff15] rfl rfl (any_of HT_.out (by kernel_rfl)) (fun _ _ _ h => h) (Or.inl ⟨by rfl, ?_⟩) ?_ ?_
                  rotate_left
                  ·intro w'
                   go_simp
                   with_reducible rfl
                  rotate_left
                  ·simp only [Act.put, List.setIfInBounds_toArray, List.set_cons_zero, List.set_cons_succ, i64_w, i32_w]
                   rfl
                  refine pure_ (i := 5) (N := some 69) (v := ?_) (a' := ?_) #[tt15,tt15,tt15,tt15,ff15,tt15,ff15,ff15,ff15,ff15,ff15,ff15,ff15,ff15,ff15,ff15,ff15,ff15,ff15,ff15,ff15,ff15,ff15,ff15,ff15,ff15,ff15,ff15,ff15,ff15,ff15,ff15,ff15,ff15,ff15,ff15,ff15,ff15,ff15,ff15,ff15,ff15,ff15,ff15,ff15,ff15,ff15] rfl rfl (any_of HT_.out (by kernel_rfl)) (fun _ _ _ h => h) (Or.inl ⟨by rfl, ?_⟩) ?_ ?_
                  rotate_left
                  ·intro w'
                   go_simp
                   with_reducible rfl
                  rotate_left
                  ·simp only [Act.put, List.setIfInBounds_toArray, List.set_cons_zero, List.set_cons_succ, i64_w, i32_w]
                   rfl
                  refine pure_ (i := 8) (N := some 72) (v := ?_) (a' := ?_) #[tt15,tt15,tt15,tt15,ff15,tt15,ff15,ff15,tt15,ff15,ff15,ff15,ff15,ff15,ff15,ff15,ff15,ff15,ff15,ff15,ff15,ff15,ff15,ff15,ff15,ff15,ff15,ff15,ff15,ff15,ff15,ff15,ff15,ff15,ff15,ff15,ff15,ff15,ff15,ff15,ff15,ff15,ff15,ff15,ff15,ff15,ff15] rfl rfl (any_of HT_.out (by kernel_rfl)) (fun _ _ _ h => h) (Or.inl ⟨by rfl, ?_⟩) ?_ ?_
                  rotate_left
                  ·intro w'
                   go_simp
                   with_reducible rfl
                  rotate_left
                  ·simp only [Act.put, List.setIfInBounds_toArray, List.set_cons_zero, List.set_cons_succ, i64_w, i32_w]
                   rfl
                  refine take_ (i := 4) (N := some 68) (v := ?_) (a' := ?_) #[tt15,tt15,tt15,tt15,tt15,tt15,ff15,ff15,tt15,ff15,ff15,ff15,ff15,ff15,ff15,ff15,ff15,ff15,ff15,ff15,ff15,ff15,ff15,ff15,ff15,ff15,ff15,ff15,ff15,ff15,ff15,ff15,ff15,ff15,ff15,ff15,ff15,ff15,ff15,ff15,ff15,ff15,ff15,ff15,ff15,ff15,ff15] rfl rfl (take_ofW HT_.out HW_.out (by kernel_rfl)) (fun _ _ _ h => h) (Or.inl ⟨by rfl, ?_⟩) hHeld ?_ ?_
                  rotate_left
                  ·rintro w' ⟨s0, s1, s2, s3, s4, s5, s6, s7, s8⟩
                   go_simp
                   with_reducible rfl
                  rotate_left
                  ·simp only [Act.put, List.setIfInBounds_toArray, List.set_cons_zero, List.set_cons_succ, i64_w, i32_w]
                   rfl
                  refine pure_ (i := 6) (N := some 70) (v := ?_) (a' := ?_) #[tt15,tt15,tt15,tt15,tt15,tt15,tt15,ff15,tt15,ff15,ff15,ff15,ff15,ff15,ff15,ff15,ff15,ff15,ff15,ff15,ff15,ff15,ff15,ff15,ff15,ff15,ff15,ff15,ff15,ff15,ff15,ff15,ff15,ff15,ff15,ff15,ff15,ff15,ff15,ff15,ff15,ff15,ff15,ff15,ff15,ff15,ff15] rfl rfl (any_of HT_.out (by kernel_rfl)) (fun _ _ _ h => h) (Or.inl ⟨by rfl, ?_⟩) ?_ ?_
                  rotate_left
                  ·intro w'
                   go_simp
                   with_reducible rfl
                  rotate_left
                  ·simp only [Act.put, List.setIfInBounds_toArray, List.set_cons_zero, List.set_cons_succ, i64_w, i32_w]
                   rfl
                  refine take_ (i := 7) (N := some 71) (v := ?_) (a' := ?_) #[tt15,tt15,tt15,tt15,tt15,tt15,tt15,tt15,tt15,ff15,ff15,ff15,ff15,ff15,ff15,ff15,ff15,ff15,ff15,ff15,ff15,ff15,ff15,ff15,ff15,ff15,ff15,ff15,ff15,ff15,ff15,ff15,ff15,ff15,ff15,ff15,ff15,ff15,ff15,ff15,ff15,ff15,ff15,ff15,ff15,ff15,ff15] rfl rfl (take_ofW HT_.out HW_.out (by kernel_rfl)) (fun _ _ _ h => h) (Or.inl ⟨by rfl, ?_⟩) hHeld ?_ ?_
                  rotate_left
                  ·rintro w' ⟨s0, s1, s2, s3, s4, s5, s6, s7, s8⟩
                   go_simp
                   with_reducible rfl
                  rotate_left
                  ·simp only [Act.put, List.setIfInBounds_toArray, List.set_cons_zero, List.set_cons_succ, i64_w, i32_w]
                   rfl
                  refine one_ (i := 9) (N := some 73) #[tt15,tt15,tt15,tt15,tt15,tt15,tt15,tt15,tt15,tt15,ff15,ff15,ff15,ff15,ff15,ff15,ff15,ff15,ff15,ff15,ff15,ff15,ff15,ff15,ff15,ff15,ff15,ff15,ff15,ff15,ff15,ff15,ff15,ff15,ff15,ff15,ff15,ff15,ff15,ff15,ff15,ff15,ff15,ff15,ff15,ff15,ff15] rfl rfl (one_of HT_.out (by kernel_rfl)) (by decide) (fun K hK => ?_)
                  refine goes_ Try.func65 (by kernel_rfl) rfl #[.int .i64 (rd l0_0 x54_2), .int .i64 x54_2] (by rfl) rfl rfl (by (try simp only [List.map_toArray, List.map_cons, List.map_nil]); first | done | rfl | (simp only [List.length_drop, List.length_take]; rfl)) ?_
                  with_reducible refine (impl_isPlace.calls (rd l0_0 x54_2) x54_2 true _ A29.out).mono ?_
                  rintro e w' ⟨rfl, ⟨nd, rfl⟩⟩
                  refine ⟨_, rfl, ?_⟩
                  refine hK.out _ _ ⟨(blk_cell BK195.out 0).trans rfl, (blk_cell BK195.out 1).trans rfl, (blk_cell BK195.out 2).trans rfl, (blk_cell BK195.out 3).trans rfl, ((HB.out.cell (World.block_lt_of_cell? w _ hw202_0)).trans hw202_0), ((HB.out.cell (World.block_lt_of_cell? w _ hw204_0)).trans hw204_0), ((HB.out.cell (World.block_lt_of_cell? w _ hw206_0)).trans hw206_0), ((HB.out.cell (World.block_lt_of_cell? w _ hw208_0)).trans hw208_0), ((HB.out.cell (World.block_lt_of_cell? w _ hw209_0)).trans hw209_0)⟩ (fun hHeld => ?_)
                  clear hK K
                  refine norm_ (a' := ?_) ?_ ?_
                  rotate_left
                  ·show Act.put _ (some 73) _ = _
                   simp only [Act.put, List.setIfInBounds_toArray, List.set_cons_zero, List.set_cons_succ, i64_w, i32_w]
                   rfl
                  refine pure_ (i := 10) (N := some 74) (v := ?_) (a' := ?_) #[tt15,tt15,tt15,tt15,tt15,tt15,tt15,tt15,tt15,tt15,tt15,ff15,ff15,ff15,ff15,ff15,ff15,ff15,ff15,ff15,ff15,ff15,ff15,ff15,ff15,ff15,ff15,ff15,ff15,ff15,ff15,ff15,ff15,ff15,ff15,ff15,ff15,ff15,ff15,ff15,ff15,ff15,ff15,ff15,ff15,ff15,ff15] rfl rfl (any_of HT_.out (by kernel_rfl)) (fun _ _ _ h => h) (Or.inl ⟨by rfl, ?_⟩) ?_ ?_
                  rotate_left
                  ·intro w'
                   go_simp
                   with_reducible rfl
                  rotate_left
                  ·simp only [Act.put, List.setIfInBounds_toArray, List.set_cons_zero, List.set_cons_succ, i64_w, i32_w]
                   rfl
                  refine pure_ (i := 11) (N := some 75) (v := ?_) (a' := ?_) #[tt15,tt15,tt15,tt15,tt15,tt15,tt15,tt15,tt15,tt15,tt15,tt15,ff15,ff15,ff15,ff15,ff15,ff15,ff15,ff15,ff15,ff15,ff15,ff15,ff15,ff15,ff15,ff15,ff15,ff15,ff15,ff15,ff15,ff15,ff15,ff15,ff15,ff15,ff15,ff15,ff15,ff15,ff15,ff15,ff15,ff15,ff15] rfl rfl (any_of HT_.out (by kernel_rfl)) (fun _ _ _ h => h) (Or.inl ⟨by rfl, ?_⟩) ?_ ?_
                  rotate_left
                  ·intro w'
                   go_simp
                   with_reducible rfl
                  rotate_left
                  ·simp only [Act.put, List.setIfInBounds_toArray, List.set_cons_zero, List.set_cons_succ, i64_w, i32_w]
                   rfl
                  refine pure_ (i := 12) (N := some 76) (v := ?_) (a' := ?_) #[tt15,tt15,tt15,tt15,tt15,tt15,tt15,tt15,tt15,tt15,tt15,tt15,tt15,ff15,ff15,ff15,ff15,ff15,ff15,ff15,ff15,ff15,ff15,ff15,ff15,ff15,ff15,ff15,ff15,ff15,ff15,ff15,ff15,ff15,ff15,ff15,ff15,ff15,ff15,ff15,ff15,ff15,ff15,ff15,ff15,ff15,ff15] rfl rfl (any_of HT_.out (by kernel_rfl)) (fun _ _ _ h => h) (Or.inl ⟨by rfl, ?_⟩) ?_ ?_
                  rotate_left
                  ·intro w'
                   go_simp
                   with_reducible rfl
                  rotate_left
                  ·simp only [Act.put, List.setIfInBounds_toArray, List.set_cons_zero, List.set_cons_succ, i64_w, i32_w]
                   rfl
                  refine pure_ (i := 14) (N := some 78) (v := ?_) (a' := ?_) #[tt15,tt15,tt15,tt15,tt15,tt15,tt15,tt15,tt15,tt15,tt15,tt15,tt15,ff15,tt15,ff15,ff15,ff15,ff15,ff15,ff15,ff15,ff15,ff15,ff15,ff15,ff15,ff15,ff15,ff15,ff15,ff15,ff15,ff15,ff15,ff15,ff15,ff15,ff15,ff15,ff15,ff15,ff15,ff15,ff15,ff15,ff15] rfl rfl (any_of HT_.out (by kernel_rfl)) (fun _ _ _ h => h) (Or.inl ⟨by rfl, ?_⟩) ?_ ?_
                  rotate_left
                  ·intro w'
                   go_simp
                   with_reducible rfl
                  rotate_left
                  ·simp only [Act.put, List.setIfInBounds_toArray, List.set_cons_zero, List.set_cons_succ, i64_w, i32_w]
                   rfl
                  refine take_ (i := 13) (N := some 77) (v := ?_) (a' := ?_) #[tt15,tt15,tt15,tt15,tt15,tt15,tt15,tt15,tt15,tt15,tt15,tt15,tt15,tt15,tt15,ff15,ff15,ff15,ff15,ff15,ff15,ff15,ff15,ff15,ff15,ff15,ff15,ff15,ff15,ff15,ff15,ff15,ff15,ff15,ff15,ff15,ff15,ff15,ff15,ff15,ff15,ff15,ff15,ff15,ff15,ff15,ff15] rfl rfl (take_ofW HT_.out HW_.out (by kernel_rfl)) (fun _ _ _ h => h) (Or.inl ⟨by rfl, ?_⟩) hHeld ?_ ?_
                  rotate_left
                  ·rintro w' ⟨s0, s1, s2, s3, s4, s5, s6, s7, s8⟩
                   go_simp
                   with_reducible rfl
                  rotate_left
                  ·simp only [Act.put, List.setIfInBounds_toArray, List.set_cons_zero, List.set_cons_succ, i64_w, i32_w]
                   rfl
                  refine pure_ (i := 15) (N := some 79) (v := ?_) (a' := ?_) #[tt15,tt15,tt15,tt15,tt15,tt15,tt15,tt15,tt15,tt15,tt15,tt15,tt15,tt15,tt15,tt15,ff15,ff15,ff15,ff15,ff15,ff15,ff15,ff15,ff15,ff15,ff15,ff15,ff15,ff15,ff15,ff15,ff15,ff15,ff15,ff15,ff15,ff15,ff15,ff15,ff15,ff15,ff15,ff15,ff15,ff15,ff15] rfl rfl (any_of HT_.out (by kernel_rfl)) (fun _ _ _ h => h) (Or.inl ⟨by rfl, ?_⟩) ?_ ?_
                  rotate_left
                  ·intro w'
                   go_simp
                   with_reducible rfl
                  rotate_left
                  ·simp only [Act.put, List.setIfInBounds_toArray, List.set_cons_zero, List.set_cons_succ, i64_w, i32_w]
                   rfl
                  refine take_ (i := 16) (N := some 80) (v := ?_) (a' := ?_) #[tt15,tt15,tt15,tt15,tt15,tt15,tt15,tt15,tt15,tt15,tt15,tt15,tt15,tt15,tt15,tt15,tt15,ff15,ff15,ff15,ff15,ff15,ff15,ff15,ff15,ff15,ff15,ff15,ff15,ff15,ff15,ff15,ff15,ff15,ff15,ff15,ff15,ff15,ff15,ff15,ff15,ff15,ff15,ff15,ff15,ff15,ff15] rfl rfl (take_ofW HT_.out HW_.out (by kernel_rfl)) (fun _ _ _ h => h) (Or.inl ⟨by rfl, ?_⟩) hHeld ?_ ?_
                  rotate_left
                  ·rintro w' ⟨s0, s1, s2, s3, s4, s5, s6, s7, s8⟩
                   go_simp
                   with_reducible rfl
                  rotate_left
                  ·simp only [Act.put, List.setIfInBounds_toArray, List.set_cons_zero, List.set_cons_succ, i64_w, i32_w]
                   rfl
                  refine one_ (i := 17) (N := some 81) #[tt15,tt15,tt15,tt15,tt15,tt15,tt15,tt15,tt15,tt15,tt15,tt15,tt15,tt15,tt15,tt15,tt15,tt15,ff15,ff15,ff15,ff15,ff15,ff15,ff15,ff15,ff15,ff15,ff15,ff15,ff15,ff15,ff15,ff15,ff15,ff15,ff15,ff15,ff15,ff15,ff15,ff15,ff15,ff15,ff15,ff15,ff15] rfl rfl (one_of HT_.out (by kernel_rfl)) (by decide) (fun K hK => ?_)
                  refine goes_ Try.func66 (by kernel_rfl) rfl #[.int .i64 (rd l0_1 x54_2)] (by rfl) rfl rfl (by (try simp only [List.map_toArray, List.map_cons, List.map_nil]); first | done | rfl | (simp only [List.length_drop, List.length_take]; rfl)) ?_
                  with_reducible refine (impl_GoodRune.calls (rd l0_1 x54_2) true _ A32.out).mono ?_
                  rintro e w' ⟨rfl, ⟨nd, rfl⟩⟩
                  refine ⟨_, rfl, ?_⟩
                  refine hK.out _ _ ⟨(blk_cell BK195.out 0).trans rfl, (blk_cell BK195.out 1).trans rfl, (blk_cell BK195.out 2).trans rfl, (blk_cell BK195.out 3).trans rfl, ((HB.out.cell (World.block_lt_of_cell? w _ hw202_0)).trans hw202_0), ((HB.out.cell (World.block_lt_of_cell? w _ hw204_0)).trans hw204_0), ((HB.out.cell (World.block_lt_of_cell? w _ hw206_0)).trans hw206_0), ((HB.out.cell (World.block_lt_of_cell? w _ hw208_0)).trans hw208_0), ((HB.out.cell (World.block_lt_of_cell? w _ hw209_0)).trans hw209_0)⟩ (fun hHeld => ?_)
                  clear hK K
                  refine norm_ (a' := ?_) ?_ ?_
                  rotate_left
                  ·show Act.put _ (some 81) _ = _
                   simp only [Act.put, List.setIfInBounds_toArray, List.set_cons_zero, List.set_cons_succ, i64_w, i32_w]
                   rfl
                  refine pure_ (i := 18) (N := some 82) (v := ?_) (a' := ?_) #[tt15,tt15,tt15,tt15,tt15,tt15,tt15,tt15,tt15,tt15,tt15,tt15,tt15,tt15,tt15,tt15,tt15,tt15,tt15,ff15,ff15,ff15,ff15,ff15,ff15,ff15,ff15,ff15,ff15,ff15,ff15,ff15,ff15,ff15,ff15,ff15,ff15,ff15,ff15,ff15,ff15,ff15,ff15,ff15,ff15,ff15,ff15] rfl rfl (any_of HT_.out (by kernel_rfl)) (fun _ _ _ h => h) (Or.inl ⟨by rfl, ?_⟩) ?_ ?_
                  rotate_left
                  ·intro w'
                   go_simp
                   with_reducible rfl
                  rotate_left
                  ·simp only [Act.put, List.setIfInBounds_toArray, List.set_cons_zero, List.set_cons_succ, i64_w, i32_w]
                   rfl
                  refine pure_ (i := 19) (N := some 83) (v := ?_) (a' := ?_) #[tt15,tt15,tt15,tt15,tt15,tt15,tt15,tt15,tt15,tt15,tt15,tt15,tt15,tt15,tt15,tt15,tt15,tt15,tt15,tt15,ff15,ff15,ff15,ff15,ff15,ff15,ff15,ff15,ff15,ff15,ff15,ff15,ff15,ff15,ff15,ff15,ff15,ff15,ff15,ff15,ff15,ff15,ff15,ff15,ff15,ff15,ff15] rfl rfl (any_of HT_.out (by kernel_rfl)) (fun _ _ _ h => h) (Or.inl ⟨by rfl, ?_⟩) ?_ ?_
                  rotate_left
                  ·intro w'
                   go_simp
                   with_reducible rfl
                  rotate_left
                  ·simp only [Act.put, List.setIfInBounds_toArray, List.set_cons_zero, List.set_cons_succ, i64_w, i32_w]
                   rfl
                  refine pure_ (i := 20) (N := some 84) (v := ?_) (a' := ?_) #[tt15,tt15,tt15,tt15,tt15,tt15,tt15,tt15,tt15,tt15,tt15,tt15,tt15,tt15,tt15,tt15,tt15,tt15,tt15,tt15,tt15,ff15,ff15,ff15,ff15,ff15,ff15,ff15,ff15,ff15,ff15,ff15,ff15,ff15,ff15,ff15,ff15,ff15,ff15,ff15,ff15,ff15,ff15,ff15,ff15,ff15,ff15] rfl rfl (any_of HT_.out (by kernel_rfl)) (fun _ _ _ h => h) (Or.inl ⟨by rfl, ?_⟩) ?_ ?_
                  rotate_left
                  ·intro w'
                   go_simp
                   with_reducible rfl
                  rotate_left
                  ·simp only [Act.put, List.setIfInBounds_toArray, List.set_cons_zero, List.set_cons_succ, i64_w, i32_w]
                   rfl
                  refine pure_ (i := 21) (N := some 85) (v := ?_) (a' := ?_) #[tt15,tt15,tt15,tt15,tt15,tt15,tt15,tt15,tt15,tt15,tt15,tt15,tt15,tt15,tt15,tt15,tt15,tt15,tt15,tt15,tt15,tt15,ff15,ff15,ff15,ff15,ff15,ff15,ff15,ff15,ff15,ff15,ff15,ff15,ff15,ff15,ff15,ff15,ff15,ff15,ff15,ff15,ff15,ff15,ff15,ff15,ff15] rfl rfl (any_of HT_.out (by kernel_rfl)) (fun _ _ _ h => h) (Or.inl ⟨by rfl, ?_⟩) ?_ ?_
                  rotate_left
                  ·intro w'
                   go_simp
                   with_reducible rfl
                  rotate_left
                  ·simp only [Act.put, List.setIfInBounds_toArray, List.set_cons_zero, List.set_cons_succ, i64_w, i32_w]
                   rfl
                  refine pure_ (i := 23) (N := some 87) (v := ?_) (a' := ?_) #[tt15,tt15,tt15,tt15,tt15,tt15,tt15,tt15,tt15,tt15,tt15,tt15,tt15,tt15,tt15,tt15,tt15,tt15,tt15,tt15,tt15,tt15,ff15,tt15,ff15,ff15,ff15,ff15,ff15,ff15,ff15,ff15,ff15,ff15,ff15,ff15,ff15,ff15,ff15,ff15,ff15,ff15,ff15,ff15,ff15,ff15,ff15] rfl rfl (any_of HT_.out (by kernel_rfl)) (fun _ _ _ h => h) (Or.inl ⟨by rfl, ?_⟩) ?_ ?_
                  rotate_left
                  ·intro w'
                   go_simp
                   with_reducible rfl
                  rotate_left
                  ·simp only [Act.put, List.setIfInBounds_toArray, List.set_cons_zero, List.set_cons_succ, i64_w, i32_w]
                   rfl
                  refine pure_ (i := 26) (N := some 90) (v := ?_) (a' := ?_) #[tt15,tt15,tt15,tt15,tt15,tt15,tt15,tt15,tt15,tt15,tt15,tt15,tt15,tt15,tt15,tt15,tt15,tt15,tt15,tt15,tt15,tt15,ff15,tt15,ff15,ff15,tt15,ff15,ff15,ff15,ff15,ff15,ff15,ff15,ff15,ff15,ff15,ff15,ff15,ff15,ff15,ff15,ff15,ff15,ff15,ff15,ff15] rfl rfl (any_of HT_.out (by kernel_rfl)) (fun _ _ _ h => h) (Or.inl ⟨by rfl, ?_⟩) ?_ ?_
                  rotate_left
                  ·intro w'
                   go_simp
                   with_reducible rfl
                  rotate_left
                  ·simp only [Act.put, List.setIfInBounds_toArray, List.set_cons_zero, List.set_cons_succ, i64_w, i32_w]
                   rfl
                  refine take_ (i := 22) (N := some 86) (v := ?_) (a' := ?_) #[tt15,tt15,tt15,tt15,tt15,tt15,tt15,tt15,tt15,tt15,tt15,tt15,tt15,tt15,tt15,tt15,tt15,tt15,tt15,tt15,tt15,tt15,tt15,tt15,ff15,ff15,tt15,ff15,ff15,ff15,ff15,ff15,ff15,ff15,ff15,ff15,ff15,ff15,ff15,ff15,ff15,ff15,ff15,ff15,ff15,ff15,ff15] rfl rfl (take_ofW HT_.out HW_.out (by kernel_rfl)) (fun _ _ _ h => h) (Or.inl ⟨by rfl, ?_⟩) hHeld ?_ ?_
                  rotate_left
                  ·rintro w' ⟨s0, s1, s2, s3, s4, s5, s6, s7, s8⟩
                   go_simp
                   with_reducible rfl
                  rotate_left
                  ·simp only [Act.put, List.setIfInBounds_toArray, List.set_cons_zero, List.set_cons_succ, i64_w, i32_w]
                   rfl
                  refine pure_ (i := 24) (N := some 88) (v := ?_) (a' := ?_) #[tt15,tt15,tt15,tt15,tt15,tt15,tt15,tt15,tt15,tt15,tt15,tt15,tt15,tt15,tt15,tt15,tt15,tt15,tt15,tt15,tt15,tt15,tt15,tt15,tt15,ff15,tt15,ff15,ff15,ff15,ff15,ff15,ff15,ff15,ff15,ff15,ff15,ff15,ff15,ff15,ff15,ff15,ff15,ff15,ff15,ff15,ff15] rfl rfl (any_of HT_.out (by kernel_rfl)) (fun _ _ _ h => h) (Or.inl ⟨by rfl, ?_⟩) ?_ ?_
                  rotate_left
                  ·intro w'
                   go_simp
                   with_reducible rfl
                  rotate_left
                  ·simp only [Act.put, List.setIfInBounds_toArray, List.set_cons_zero, List.set_cons_succ, i64_w, i32_w]
                   rfl
                  refine take_ (i := 25) (N := some 89) (v := ?_) (a' := ?_) #[tt15,tt15,tt15,tt15,tt15,tt15,tt15,tt15,tt15,tt15,tt15,tt15,tt15,tt15,tt15,tt15,tt15,tt15,tt15,tt15,tt15,tt15,tt15,tt15,tt15,tt15,tt15,ff15,ff15,ff15,ff15,ff15,ff15,ff15,ff15,ff15,ff15,ff15,ff15,ff15,ff15,ff15,ff15,ff15,ff15,ff15,ff15] rfl rfl (take_ofW HT_.out HW_.out (by kernel_rfl)) (fun _ _ _ h => h) (Or.inl ⟨by rfl, ?_⟩) hHeld ?_ ?_
                  rotate_left
                  ·rintro w' ⟨s0, s1, s2, s3, s4, s5, s6, s7, s8⟩
                   go_simp
                   with_reducible rfl
                  rotate_left
                  ·simp only [Act.put, List.setIfInBounds_toArray, List.set_cons_zero, List.set_cons_succ, i64_w, i32_w]
                   rfl
                  refine one_ (i := 27) (N := some 91) #[tt15,tt15,tt15,tt15,tt15,tt15,tt15,tt15,tt15,tt15,tt15,tt15,tt15,tt15,tt15,tt15,tt15,tt15,tt15,tt15,tt15,tt15,tt15,tt15,tt15,tt15,tt15,tt15,ff15,ff15,ff15,ff15,ff15,ff15,ff15,ff15,ff15,ff15,ff15,ff15,ff15,ff15,ff15,ff15,ff15,ff15,ff15] rfl rfl (one_of HT_.out (by kernel_rfl)) (by decide) (fun K hK => ?_)
                  refine goes_ Try.func65 (by kernel_rfl) rfl #[.int .i64 (rd l0_2 x54_2), .int .i64 x54_2] (by rfl) rfl rfl (by (try simp only [List.map_toArray, List.map_cons, List.map_nil]); first | done | rfl | (simp only [List.length_drop, List.length_take]; rfl)) ?_
                  with_reducible refine (impl_isPlace.calls (rd l0_2 x54_2) x54_2 true _ A35.out).mono ?_
                  rintro e w' ⟨rfl, ⟨nd, rfl⟩⟩
                  refine ⟨_, rfl, ?_⟩
                  refine hK.out _ _ ⟨(blk_cell BK195.out 0).trans rfl, (blk_cell BK195.out 1).trans rfl, (blk_cell BK195.out 2).trans rfl, (blk_cell BK195.out 3).trans rfl, ((HB.out.cell (World.block_lt_of_cell? w _ hw202_0)).trans hw202_0), ((HB.out.cell (World.block_lt_of_cell? w _ hw204_0)).trans hw204_0), ((HB.out.cell (World.block_lt_of_cell? w _ hw206_0)).trans hw206_0), ((HB.out.cell (World.block_lt_of_cell? w _ hw208_0)).trans hw208_0), ((HB.out.cell (World.block_lt_of_cell? w _ hw209_0)).trans hw209_0)⟩ (fun hHeld => ?_)
                  clear hK K
                  refine norm_ (a' := ?_) ?_ ?_
                  rotate_left
                  ·show Act.put _ (some 91) _ = _
                   simp only [Act.put, List.setIfInBounds_toArray, List.set_cons_zero, List.set_cons_succ, i64_w, i32_w]
                   rfl
                  refine pure_ (i := 28) (N := some 92) (v := ?_) (a' := ?_) #[tt15,tt15,tt15,tt15,tt15,tt15,tt15,tt15,tt15,tt15,tt15,tt15,tt15,tt15,tt15,tt15,tt15,tt15,tt15,tt15,tt15,tt15,tt15,tt15,tt15,tt15,tt15,tt15,tt15,ff15,ff15,ff15,ff15,ff15,ff15,ff15,ff15,ff15,ff15,ff15,ff15,ff15,ff15,ff15,ff15,ff15,ff15] rfl rfl (any_of HT_.out (by kernel_rfl)) (fun _ _ _ h => h) (Or.inl ⟨by rfl, ?_⟩) ?_ ?_
                  rotate_left
                  ·intro w'
                   go_simp
                   with_reducible rfl
                  rotate_left
                  ·simp only [Act.put, List.setIfInBounds_toArray, List.set_cons_zero, List.set_cons_succ, i64_w, i32_w]
                   rfl
                  refine pure_ (i := 29) (N := some 93) (v := ?_) (a' := ?_) #[tt15,tt15,tt15,tt15,tt15,tt15,tt15,tt15,tt15,tt15,tt15,tt15,tt15,tt15,tt15,tt15,tt15,tt15,tt15,tt15,tt15,tt15,tt15,tt15,tt15,tt15,tt15,tt15,tt15,tt15,ff15,ff15,ff15,ff15,ff15,ff15,ff15,ff15,ff15,ff15,ff15,ff15,ff15,ff15,ff15,ff15,ff15] rfl rfl (any_of HT_.out (by kernel_rfl)) (fun _ _ _ h => h) (Or.inl ⟨by rfl, ?_⟩) ?_ ?_
                  rotate_left
                  ·intro w'
                   go_simp
                   with_reducible rfl
                  rotate_left
                  ·simp only [Act.put, List.setIfInBounds_toArray, List.set_cons_zero, List.set_cons_succ, i64_w, i32_w]
                   rfl
                  refine pure_ (i := 30) (N := some 94) (v := ?_) (a' := ?_) #[tt15,tt15,tt15,tt15,tt15,tt15,tt15,tt15,tt15,tt15,tt15,tt15,tt15,tt15,tt15,tt15,tt15,tt15,tt15,tt15,tt15,tt15,tt15,tt15,tt15,tt15,tt15,tt15,tt15,tt15,tt15,ff15,ff15,ff15,ff15,ff15,ff15,ff15,ff15,ff15,ff15,ff15,ff15,ff15,ff15,ff15,ff15] rfl rfl (any_of HT_.out (by kernel_rfl)) (fun _ _ _ h => h) (Or.inl ⟨by rfl, ?_⟩) ?_ ?_
                  rotate_left
                  ·intro w'
                   go_simp
                   with_reducible rfl
                  rotate_left
                  ·simp only [Act.put, List.setIfInBounds_toArray, List.set_cons_zero, List.set_cons_succ, i64_w, i32_w]
                   rfl
                  refine pure_ (i := 32) (N := some 96) (v := ?_) (a' := ?_) #[tt15,tt15,tt15,tt15,tt15,tt15,tt15,tt15,tt15,tt15,tt15,tt15,tt15,tt15,tt15,tt15,tt15,tt15,tt15,tt15,tt15,tt15,tt15,tt15,tt15,tt15,tt15,tt15,tt15,tt15,tt15,ff15,tt15,ff15,ff15,ff15,ff15,ff15,ff15,ff15,ff15,ff15,ff15,ff15,ff15,ff15,ff15] rfl rfl (any_of HT_.out (by kernel_rfl)) (fun _ _ _ h => h) (Or.inl ⟨by rfl, ?_⟩) ?_ ?_
                  rotate_left
                  ·intro w'
                   go_simp
                   with_reducible rfl
                  rotate_left
                  ·simp only [Act.put, List.setIfInBounds_toArray, List.set_cons_zero, List.set_cons_succ, i64_w, i32_w]
                   rfl
                  refine pure_ (i := 34) (N := some 98) (v := ?_) (a' := ?_) #[tt15,tt15,tt15,tt15,tt15,tt15,tt15,tt15,tt15,tt15,tt15,tt15,tt15,tt15,tt15,tt15,tt15,tt15,tt15,tt15,tt15,tt15,tt15,tt15,tt15,tt15,tt15,tt15,tt15,tt15,tt15,ff15,tt15,ff15,tt15,ff15,ff15,ff15,ff15,ff15,ff15,ff15,ff15,ff15,ff15,ff15,ff15] rfl rfl (any_of HT_.out (by kernel_rfl)) (fun _ _ _ h => h) (Or.inl ⟨by rfl, ?_⟩) ?_ ?_
                  rotate_left
                  ·intro w'
                   go_simp
                   with_reducible rfl
                  rotate_left
                  ·simp only [Act.put, List.setIfInBounds_toArray, List.set_cons_zero, List.set_cons_succ, i64_w, i32_w]
                   rfl
                  refine pure_ (i := 37) (N := some 101) (v := ?_) (a' := ?_) #[tt15,tt15,tt15,tt15,tt15,tt15,tt15,tt15,tt15,tt15,tt15,tt15,tt15,tt15,tt15,tt15,tt15,tt15,tt15,tt15,tt15,tt15,tt15,tt15,tt15,tt15,tt15,tt15,tt15,tt15,tt15,ff15,tt15,ff15,tt15,ff15,ff15,tt15,ff15,ff15,ff15,ff15,ff15,ff15,ff15,ff15,ff15] rfl rfl (any_of HT_.out (by kernel_rfl)) (fun _ _ _ h => h) (Or.inl ⟨by rfl, ?_⟩) ?_ ?_
                  rotate_left
                  ·intro w'
                   go_simp
                   with_reducible rfl
                  rotate_left
                  ·simp only [Act.put, List.setIfInBounds_toArray, List.set_cons_zero, List.set_cons_succ, i64_w, i32_w]
                   rfl
                  refine pure_ (i := 39) (N := some 103) (v := ?_) (a' := ?_) #[tt15,tt15,tt15,tt15,tt15,tt15,tt15,tt15,tt15,tt15,tt15,tt15,tt15,tt15,tt15,tt15,tt15,tt15,tt15,tt15,tt15,tt15,tt15,tt15,tt15,tt15,tt15,tt15,tt15,tt15,tt15,ff15,tt15,ff15,tt15,ff15,ff15,tt15,ff15,tt15,ff15,ff15,ff15,ff15,ff15,ff15,ff15] rfl rfl (any_of HT_.out (by kernel_rfl)) (fun _ _ _ h => h) (Or.inl ⟨by rfl, ?_⟩) ?_ ?_
                  rotate_left
                  ·intro w'
                   go_simp
                   with_reducible rfl
                  rotate_left
                  ·simp only [Act.put, List.setIfInBounds_toArray, List.set_cons_zero, List.set_cons_succ, i64_w, i32_w]
                   rfl
                  refine pure_ (i := 43) (N := some 107) (v := ?_) (a' := ?_) #[tt15,tt15,tt15,tt15,tt15,tt15,tt15,tt15,tt15,tt15,tt15,tt15,tt15,tt15,tt15,tt15,tt15,tt15,tt15,tt15,tt15,tt15,tt15,tt15,tt15,tt15,tt15,tt15,tt15,tt15,tt15,ff15,tt15,ff15,tt15,ff15,ff15,tt15,ff15,tt15,ff15,ff15,ff15,tt15,ff15,ff15,ff15] rfl rfl (any_of HT_.out (by kernel_rfl)) (fun _ _ _ h => h) (Or.inl ⟨by rfl, ?_⟩) ?_ ?_
                  rotate_left
                  ·intro w'
                   go_simp
                   with_reducible rfl
                  rotate_left
                  ·simp only [Act.put, List.setIfInBounds_toArray, List.set_cons_zero, List.set_cons_succ, i64_w, i32_w]
                   rfl
                  refine take_ (i := 31) (N := some 95) (v := ?_) (a' := ?_) #[tt15,tt15,tt15,tt15,tt15,tt15,tt15,tt15,tt15,tt15,tt15,tt15,tt15,tt15,tt15,tt15,tt15,tt15,tt15,tt15,tt15,tt15,tt15,tt15,tt15,tt15,tt15,tt15,tt15,tt15,tt15,tt15,tt15,ff15,tt15,ff15,ff15,tt15,ff15,tt15,ff15,ff15,ff15,tt15,ff15,ff15,ff15] rfl rfl (take_ofW HT_.out HW_.out (by kernel_rfl)) (fun _ _ _ h => h) (Or.inl ⟨by rfl, ?_⟩) hHeld ?_ ?_
                  rotate_left
                  ·rintro w' ⟨s0, s1, s2, s3, s4, s5, s6, s7, s8⟩
                   go_simp
                   with_reducible rfl
                  rotate_left
                  ·simp only [Act.put, List.setIfInBounds_toArray, List.set_cons_zero, List.set_cons_succ, i64_w, i32_w]
                   rfl
                  refine take_ (i := 33) (N := some 97) (v := ?_) (a' := ?_) #[tt15,tt15,tt15,tt15,tt15,tt15,tt15,tt15,tt15,tt15,tt15,tt15,tt15,tt15,tt15,tt15,tt15,tt15,tt15,tt15,tt15,tt15,tt15,tt15,tt15,tt15,tt15,tt15,tt15,tt15,tt15,tt15,tt15,tt15,tt15,ff15,ff15,tt15,ff15,tt15,ff15,ff15,ff15,tt15,ff15,ff15,ff15] rfl rfl (take_ofW HT_.out HW_.out (by kernel_rfl)) (fun _ _ _ h => h) (Or.inl ⟨by rfl, ?_⟩) hHeld ?_ ?_
                  rotate_left
                  ·rintro w' ⟨s0, s1, s2, s3, s4, s5, s6, s7, s8⟩
                   go_simp
                   with_reducible rfl
                  rotate_left
                  ·simp only [Act.put, List.setIfInBounds_toArray, List.set_cons_zero, List.set_cons_succ, i64_w, i32_w]
                   rfl
                  refine pure_ (i := 35) (N := some 99) (v := ?_) (a' := ?_) #[tt15,tt15,tt15,tt15,tt15,tt15,tt15,tt15,tt15,tt15,tt15,tt15,tt15,tt15,tt15,tt15,tt15,tt15,tt15,tt15,tt15,tt15,tt15,tt15,tt15,tt15,tt15,tt15,tt15,tt15,tt15,tt15,tt15,tt15,tt15,tt15,ff15,tt15,ff15,tt15,ff15,ff15,ff15,tt15,ff15,ff15,ff15] rfl rfl (any_of HT_.out (by kernel_rfl)) (fun _ _ _ h => h) (Or.inl ⟨by rfl, ?_⟩) ?_ ?_
                  rotate_left
                  ·intro w'
                   go_simp
                   with_reducible rfl
                  rotate_left
                  ·simp only [Act.put, List.setIfInBounds_toArray, List.set_cons_zero, List.set_cons_succ, i64_w, i32_w]
                   rfl
                  refine take_ (i := 36) (N := some 100) (v := ?_) (a' := ?_) #[tt15,tt15,tt15,tt15,tt15,tt15,tt15,tt15,tt15,tt15,tt15,tt15,tt15,tt15,tt15,tt15,tt15,tt15,tt15,tt15,tt15,tt15,tt15,tt15,tt15,tt15,tt15,tt15,tt15,tt15,tt15,tt15,tt15,tt15,tt15,tt15,tt15,tt15,ff15,tt15,ff15,ff15,ff15,tt15,ff15,ff15,ff15] rfl rfl (take_ofW HT_.out HW_.out (by kernel_rfl)) (fun _ _ _ h => h) (Or.inl ⟨by rfl, ?_⟩) hHeld ?_ ?_
                  rotate_left
                  ·rintro w' ⟨s0, s1, s2, s3, s4, s5, s6, s7, s8⟩
                   go_simp
                   with_reducible rfl
                  rotate_left
                  ·simp only [Act.put, List.setIfInBounds_toArray, List.set_cons_zero, List.set_cons_succ, i64_w, i32_w]
                   rfl
                  refine take_ (i := 38) (N := some 102) (v := ?_) (a' := ?_) #[tt15,tt15,tt15,tt15,tt15,tt15,tt15,tt15,tt15,tt15,tt15,tt15,tt15,tt15,tt15,tt15,tt15,tt15,tt15,tt15,tt15,tt15,tt15,tt15,tt15,tt15,tt15,tt15,tt15,tt15,tt15,tt15,tt15,tt15,tt15,tt15,tt15,tt15,tt15,tt15,ff15,ff15,ff15,tt15,ff15,ff15,ff15] rfl rfl (take_ofW HT_.out HW_.out (by kernel_rfl)) (fun _ _ _ h => h) (Or.inl ⟨by rfl, ?_⟩) hHeld ?_ ?_
                  rotate_left
                  ·rintro w' ⟨s0, s1, s2, s3, s4, s5, s6, s7, s8⟩
                   go_simp
                   with_reducible rfl
                  rotate_left
                  ·simp only [Act.put, List.setIfInBounds_toArray, List.set_cons_zero, List.set_cons_succ, i64_w, i32_w]
                   rfl
                  refine pure_ (i := 40) (N := some 104) (v := ?_) (a' := ?_) #[tt15,tt15,tt15,tt15,tt15,tt15,tt15,tt15,tt15,tt15,tt15,tt15,tt15,tt15,tt15,tt15,tt15,tt15,tt15,tt15,tt15,tt15,tt15,tt15,tt15,tt15,tt15,tt15,tt15,tt15,tt15,tt15,tt15,tt15,tt15,tt15,tt15,tt15,tt15,tt15,tt15,ff15,ff15,tt15,ff15,ff15,ff15] rfl rfl (any_of HT_.out (by kernel_rfl)) (fun _ _ _ h => h) (Or.inl ⟨by rfl, ?_⟩) ?_ ?_
                  rotate_left
                  ·intro w'
                   go_simp
                   with_reducible rfl
                  rotate_left
                  ·simp only [Act.put, List.setIfInBounds_toArray, List.set_cons_zero, List.set_cons_succ, i64_w, i32_w]
                   rfl
                  refine take_ (i := 41) (N := some 105) (v := ?_) (a' := ?_) #[tt15,tt15,tt15,tt15,tt15,tt15,tt15,tt15,tt15,tt15,tt15,tt15,tt15,tt15,tt15,tt15,tt15,tt15,tt15,tt15,tt15,tt15,tt15,tt15,tt15,tt15,tt15,tt15,tt15,tt15,tt15,tt15,tt15,tt15,tt15,tt15,tt15,tt15,tt15,tt15,tt15,tt15,ff15,tt15,ff15,ff15,ff15] rfl rfl (take_ofW HT_.out HW_.out (by kernel_rfl)) (fun _ _ _ h => h) (Or.inl ⟨by rfl, ?_⟩) hHeld ?_ ?_
                  rotate_left
                  ·rintro w' ⟨s0, s1, s2, s3, s4, s5, s6, s7, s8⟩
                   go_simp
                   with_reducible rfl
                  rotate_left
                  ·simp only [Act.put, List.setIfInBounds_toArray, List.set_cons_zero, List.set_cons_succ, i64_w, i32_w]
                   rfl
                  refine one_ (i := 42) (N := some 106) #[tt15,tt15,tt15,tt15,tt15,tt15,tt15,tt15,tt15,tt15,tt15,tt15,tt15,tt15,tt15,tt15,tt15,tt15,tt15,tt15,tt15,tt15,tt15,tt15,tt15,tt15,tt15,tt15,tt15,tt15,tt15,tt15,tt15,tt15,tt15,tt15,tt15,tt15,tt15,tt15,tt15,tt15,tt15,tt15,ff15,ff15,ff15] rfl rfl (one_of HT_.out (by kernel_rfl)) (by decide) (fun K hK => ?_)
                  refine goes_ Try.func67 (by kernel_rfl) rfl #[.agg #[.slice (some ad202) l0_0.length c0_0, .slice (some ad204) l0_1.length c0_1, .slice (some ad206) l0_2.length c0_2, .slice (some ad200) l0_3.length c0_3], .int .i64 (rd l0_0 x54_2), .int .i64 (rd l0_1 x54_2)] (by rfl) rfl rfl (by (try simp only [List.map_toArray, List.map_cons, List.map_nil]); first | done | rfl | (simp only [List.length_drop, List.length_take]; rfl)) ?_
                  with_reducible refine (impl_Aho_kid.calls k2 _ _ l0_0 _ _ l0_1 _ _ l0_2 _ _ l0_3 (rd l0_0 x54_2) (rd l0_1 x54_2) t210 _ ?side1 ?side2 ?side3 ?side4 ?side5 ?side6 ?side7 ?side8 A37.out).mono ?_
                  (case side1 => repeat (first | exact (Kd.C_below HR0_0.out (by repeat (first | (with_reducible first | exact HB.out | apply below_alloc | apply pw_below_drewN | apply below_drew1 | refine below_set ?_ GE195.out) | exact HB.out))) | (with_reducible refine Kd.C_alloc ?_ _) | (with_reducible refine Kd.C_drewN ?_ _) | (with_reducible refine Kd.C_drew ?_)))
                  (case side2 => exact HC0_0.out)
                  (case side3 => repeat (first | exact (Kd.C_below HR0_1.out (by repeat (first | (with_reducible first | exact HB.out | apply below_alloc | apply pw_below_drewN | apply below_drew1 | refine below_set ?_ GE195.out) | exact HB.out))) | (with_reducible refine Kd.C_alloc ?_ _) | (with_reducible refine Kd.C_drewN ?_ _) | (with_reducible refine Kd.C_drew ?_)))
                  (case side4 => exact HC0_1.out)
                  (case side5 => repeat (first | exact (Kd.C_below HR0_2.out (by repeat (first | (with_reducible first | exact HB.out | apply below_alloc | apply pw_below_drewN | apply below_drew1 | refine below_set ?_ GE195.out) | exact HB.out))) | (with_reducible refine Kd.C_alloc ?_ _) | (with_reducible refine Kd.C_drewN ?_ _) | (with_reducible refine Kd.C_drew ?_)))
                  (case side6 => exact HC0_2.out)
                  (case side7 => repeat (first | exact (Kd.C_below HR0_3.out (by repeat (first | (with_reducible first | exact HB.out | apply below_alloc | apply pw_below_drewN | apply below_drew1 | refine below_set ?_ GE195.out) | exact HB.out))) | (with_reducible refine Kd.C_alloc ?_ _) | (with_reducible refine Kd.C_drewN ?_ _) | (with_reducible refine Kd.C_drew ?_)))
                  (case side8 => exact HC0_3.out)
                  rintro e w44 ⟨rfl, hb⟩
                  refine ⟨_, rfl, ?_⟩
                  have n0_ := Aside0.mk (blk_below (g := gb195) (o := .cells #[.slice (some ad202) l0_0.length c0_0, .slice (some ad204) l0_1.length c0_1, .slice (some ad206) l0_2.length c0_2, .slice (some ad200) l0_3.length c0_3] 30 (0, 0)) (by (with_reducible repeat (first | refine blk_drewN ?_ _ | refine blk_drew ?_ | refine blk_alloc ?_ _)); exact BK195.out) hb)
                  have n1_ := Aside0.mk (below_step (by repeat (first | (with_reducible first | exact HB.out | apply below_alloc | apply pw_below_drewN | apply below_drew1 | refine below_set ?_ GE195.out) | exact HB.out)) hb)
                  clear BK195
                  clear HB
                  have BK195 := n0_
                  have HB := n1_
                  clear n0_ n1_
                  (try clear hb)
                  (try clear hb2)
                  (try clear hk)
                  (try clear hi)
                  refine hK.out _ _ ⟨(blk_cell BK195.out 0).trans rfl, (blk_cell BK195.out 1).trans rfl, (blk_cell BK195.out 2).trans rfl, (blk_cell BK195.out 3).trans rfl, ((HB.out.cell (World.block_lt_of_cell? w _ hw202_0)).trans hw202_0), ((HB.out.cell (World.block_lt_of_cell? w _ hw204_0)).trans hw204_0), ((HB.out.cell (World.block_lt_of_cell? w _ hw206_0)).trans hw206_0), ((HB.out.cell (World.block_lt_of_cell? w _ hw208_0)).trans hw208_0), ((HB.out.cell (World.block_lt_of_cell? w _ hw209_0)).trans hw209_0)⟩ (fun hHeld => ?_)
                  clear hK K
                  refine norm_ (a' := ?_) ?_ ?_
                  rotate_left
                  ·show Act.put _ (some 106) _ = _
                   simp only [Act.put, List.setIfInBounds_toArray, List.set_cons_zero, List.set_cons_succ, i64_w, i32_w]
                   rfl
                  refine pure_ (i := 44) (N := some 108) (v := ?_) (a' := ?_) #[tt15,tt15,tt15,tt15,tt15,tt15,tt15,tt15,tt15,tt15,tt15,tt15,tt15,tt15,tt15,tt15,tt15,tt15,tt15,tt15,tt15,tt15,tt15,tt15,tt15,tt15,tt15,tt15,tt15,tt15,tt15,tt15,tt15,tt15,tt15,tt15,tt15,tt15,tt15,tt15,tt15,tt15,tt15,tt15,tt15,ff15,ff15] rfl rfl (any_of HT_.out (by kernel_rfl)) (fun _ _ _ h => h) (Or.inl ⟨by rfl, ?_⟩) ?_ ?_
                  rotate_left
                  ·intro w'
                   go_simp
                   with_reducible rfl
                  rotate_left
                  ·simp only [Act.put, List.setIfInBounds_toArray, List.set_cons_zero, List.set_cons_succ, i64_w, i32_w]
                   rfl
                  refine pure_ (i := 45) (N := some 109) (v := ?_) (a' := ?_) #[tt15,tt15,tt15,tt15,tt15,tt15,tt15,tt15,tt15,tt15,tt15,tt15,tt15,tt15,tt15,tt15,tt15,tt15,tt15,tt15,tt15,tt15,tt15,tt15,tt15,tt15,tt15,tt15,tt15,tt15,tt15,tt15,tt15,tt15,tt15,tt15,tt15,tt15,tt15,tt15,tt15,tt15,tt15,tt15,tt15,tt15,ff15] rfl rfl (any_of HT_.out (by kernel_rfl)) (fun _ _ _ h => h) (Or.inl ⟨by rfl, ?_⟩) ?_ ?_
                  rotate_left
                  ·intro w'
                   go_simp
                   with_reducible rfl
                  rotate_left
                  ·simp only [Act.put, List.setIfInBounds_toArray, List.set_cons_zero, List.set_cons_succ, i64_w, i32_w]
                   rfl
                  refine pure_ (i := 46) (N := some 110) (v := ?_) (a' := ?_) #[tt15,tt15,tt15,tt15,tt15,tt15,tt15,tt15,tt15,tt15,tt15,tt15,tt15,tt15,tt15,tt15,tt15,tt15,tt15,tt15,tt15,tt15,tt15,tt15,tt15,tt15,tt15,tt15,tt15,tt15,tt15,tt15,tt15,tt15,tt15,tt15,tt15,tt15,tt15,tt15,tt15,tt15,tt15,tt15,tt15,tt15,tt15] rfl rfl (any_of HT_.out (by kernel_rfl)) (fun _ _ _ h => h) (Or.inl ⟨by rfl, ?_⟩) ?_ ?_
                  rotate_left
                  ·intro w'
                   go_simp
                   with_reducible rfl
                  rotate_left
                  ·simp only [Act.put, List.setIfInBounds_toArray, List.set_cons_zero, List.set_cons_succ, i64_w, i32_w]
                   rfl
                  refine done_ (done_of HT_.out (by kernel_rfl)) ?_
                  try go_wp2
                  go_ret
                  exact ⟨by first | rfl | (simp [errW_none, errW_some] <;> rfl) | (simp [*, errW_none, errW_some] <;> rfl), by repeat (first | (with_reducible first | exact HB.out | apply below_alloc | apply pw_below_drewN | apply below_drew1 | refine below_set ?_ GE195.out) | exact HB.out)⟩
                ·replace c36 := Bool.eq_false_iff.mpr c36
                 subst c36
                 have H1 : (some false) = some r := by rw [if_neg (show ¬ (false = true) by decide)] at H; exact H
                 clear H
                 have H := H1
                 clear H1
                 obtain rfl := Option.some.inj H
                 have hcz45_0 := bc0 BK195.out
                 have hcz45_1 := bc1 BK195.out
                 have hcz45_2 := bc2 BK195.out
                 have hcz45_3 := bc3 BK195.out
                 have hfz45_0 := blk_frozen BK195.out 0
                 have hfz45_1 := blk_frozen BK195.out 1
                 have hfz45_2 := blk_frozen BK195.out 2
                 have hfz45_3 := blk_frozen BK195.out 3
                 have p200 : 0 ≤ (x54_2 : Int) := of_decide_eq_true (by first | (with_reducible assumption) | assumption)
                 have q200 : x54_2 < (l0_3.length : Int) := of_decide_eq_true (by first | (with_reducible assumption) | assumption)
                 obtain ⟨ad200, A200_0, c200_0, e200, hx200_0, hl200_0, hi200_0⟩ := at_L1 HR0_3.out x54_2 p200 q200
                 cases e200
                 replace hx200_0 := (HB.out.cell (World.block_lt_of_cell? w _ hx200_0)).trans hx200_0
                 have HR200_0 := Aside0.mk hi200_0
                 have HC200_0 := Aside0.mk hl200_0
                 clear hi200_0 hl200_0
                 replace p200 := eq_true p200
                 replace q200 := eq_true q200
                 try go_wp2_with (first | ((with_reducible refine gate_callee (f := 64) rfl ?_); refine goesL_ (some 62) rfl rfl Try.func64 (by kernel_rfl) rfl #[.slice A200_0 (rd_L1 l0_3 x54_2).length c200_0, .int .i64 0, .int .i64 7] rfl (by (try simp only [List.map_toArray, List.map_cons, List.map_nil]); first | done | rfl | (simp only [List.length_drop, List.length_take]; rfl)) ?_; (with_reducible refine (impl_isRising.calls k2 _ _ (rd_L1 l0_3 x54_2) 0 7 true _ ?side1 ?side2 A25.out).mono ?_); (case side1 => repeat (first | exact (Kd.C_below HR200_0.out HB.out) | (with_reducible refine Kd.C_alloc ?_ _) | (with_reducible refine Kd.C_drewN ?_ _) | (with_reducible refine Kd.C_drew ?_))); (case side2 => exact HC200_0.out); rintro e w' ⟨rfl, ⟨nd, rfl⟩⟩; refine ⟨_, rfl, ?_⟩))
                 (try (rw [drewN_self wr]; generalize hq_ : World.drewN wr _ = wr; have n0_ : Aside0 (wr.heap[gb195]? = some (.cells #[.slice A0_0 l0_0.length c0_0, .slice A0_1 l0_1.length c0_1, .slice A0_2 l0_2.length c0_2, .slice (some ad200) l0_3.length c0_3] 30 (0, 0))) := ⟨by rw [← hq_]; exact (by (with_reducible repeat (first | refine blk_drewN ?_ _ | refine blk_drew ?_ | refine blk_alloc ?_ _)); exact BK195.out)⟩; have n1_ : Aside0 (Below w.heap.size w wr) := ⟨by rw [← hq_]; exact (by repeat (first | (with_reducible first | exact HB.out | apply below_alloc | apply pw_below_drewN | apply below_drew1 | refine below_set ?_ GE195.out) | exact HB.out))⟩; clear BK195 HB hq_; have BK195 := n0_; have HB := n1_; clear n0_ n1_))
                 have n0_ := Aside0.mk (blk_drew BK195.out)
                 have n1_ := Aside0.mk (below_drew1 HB.out)
                 clear BK195
                 clear HB
                 have BK195 := n0_
                 have HB := n1_
                 clear n0_ n1_
                 have p202 : 0 ≤ (x54_2 : Int) := of_decide_eq_true (by first | (with_reducible assumption) | assumption)
                 have q202 : x54_2 < (l0_0.length : Int) := of_decide_eq_true (by first | (with_reducible assumption) | assumption)
                 obtain ⟨ad202, e202, hx202_0⟩ := Kd.at_int HR0_0.out x54_2 p202 q202
                 have hw202_0 := hx202_0
                 cases e202
                 replace hx202_0 := (HB.out.cell (World.block_lt_of_cell? w _ hx202_0)).trans hx202_0
                 replace p202 := eq_true p202
                 replace q202 := eq_true q202
                 have p204 : 0 ≤ (x54_2 : Int) := of_decide_eq_true (by first | (with_reducible assumption) | assumption)
                 have q204 : x54_2 < (l0_1.length : Int) := of_decide_eq_true (by first | (with_reducible assumption) | assumption)
                 obtain ⟨ad204, e204, hx204_0⟩ := Kd.at_int HR0_1.out x54_2 p204 q204
                 have hw204_0 := hx204_0
                 cases e204
                 replace hx204_0 := (HB.out.cell (World.block_lt_of_cell? w _ hx204_0)).trans hx204_0
                 replace p204 := eq_true p204
                 replace q204 := eq_true q204
                 have p206 : 0 ≤ (x54_2 : Int) := of_decide_eq_true (by first | (with_reducible assumption) | assumption)
                 have q206 : x54_2 < (l0_2.length : Int) := of_decide_eq_true (by first | (with_reducible assumption) | assumption)
                 obtain ⟨ad206, e206, hx206_0⟩ := Kd.at_int HR0_2.out x54_2 p206 q206
                 have hw206_0 := hx206_0
                 cases e206
                 replace hx206_0 := (HB.out.cell (World.block_lt_of_cell? w _ hx206_0)).trans hx206_0
                 replace p206 := eq_true p206
                 replace q206 := eq_true q206
                 refine start_ (n := 47) (S := fun w' => w'.cell? ⟨gb195, 0, none⟩ = some (.slice (some ad202) l0_0.length c0_0) ∧ w'.cell? ⟨gb195, 1, none⟩ = some (.slice (some ad204) l0_1.length c0_1) ∧ w'.cell? ⟨gb195, 2, none⟩ = some (.slice (some ad206) l0_2.length c0_2) ∧ w'.cell? ⟨gb195, 3, none⟩ = some (.slice (some ad200) l0_3.length c0_3) ∧ w'.cell? (ad202.add (x54_2).toNat) = some (.int .i64 (rd l0_0 x54_2)) ∧ w'.cell? (ad204.add (x54_2).toNat) = some (.int .i64 (rd l0_1 x54_2)) ∧ w'.cell? (ad206.add (x54_2).toNat) = some (.int .i64 (rd l0_2 x54_2))) (ds := []) #[ff15,ff15,ff15,ff15,ff15,ff15,ff15,ff15,ff15,ff15,ff15,ff15,ff15,ff15,ff15,ff15,ff15,ff15,ff15,ff15,ff15,ff15,ff15,ff15,ff15,ff15,ff15,ff15,ff15,ff15,ff15,ff15,ff15,ff15,ff15,ff15,ff15,ff15,ff15,ff15,ff15,ff15,ff15,ff15,ff15,ff15,ff15] (by kernel_rfl) rfl rfl ⟨(blk_cell BK195.out 0).trans rfl, (blk_cell BK195.out 1).trans rfl, (blk_cell BK195.out 2).trans rfl, (blk_cell BK195.out 3).trans rfl, ((HB.out.cell (World.block_lt_of_cell? w _ hw202_0)).trans hw202_0), ((HB.out.cell (World.block_lt_of_cell? w _ hw204_0)).trans hw204_0), ((HB.out.cell (World.block_lt_of_cell? w _ hw206_0)).trans hw206_0)⟩ (fun hHeld => ?_); refine with_tabW impl_GoodAho.tab9 impl_GoodAho.bits9 (fun HT_ HW_ => ?_)
                 generalize wr.drew = w46 at BK195 HB hx202_0 hx204_0 hx206_0 hHeld ⊢
                 refine pure_ (i := 0) (N := some 64) (v := ?_) (a' := ?_) #[tt15,ff15,ff15,ff15,ff15,ff15,ff15,ff15,ff15,ff15,ff15,ff15,ff15,ff15,ff15,ff15,ff15,ff15,ff15,ff15,ff15,ff15,ff15,ff15,ff15,ff15,ff15,ff15,ff15,ff15,ff15,ff15,ff15,ff15,ff15,ff15,ff15,ff15,ff15,ff15,ff15,ff15,ff15,ff15,ff15,ff15,ff15] rfl rfl (any_of HT_.out (by kernel_rfl)) (fun _ _ _ h => h) (Or.inl ⟨by rfl, ?_⟩) ?_ ?_
                 rotate_left
                 ·intro w'
                  go_simp
                  with_reducible rfl
                 rotate_left
                 ·simp only [Act.put, List.setIfInBounds_toArray, List.set_cons_zero, List.set_cons_succ, i64_w, i32_w]
                  rfl
                 refine pure_ (i := 1) (N := some 65) (v := ?_) (a' := ?_) #[tt15,tt15,ff15,ff15,ff15,ff15,ff15,ff15,ff15,ff15,ff15,ff15,ff15,ff15,ff15,ff15,ff15,ff15,ff15,ff15,ff15,ff15,ff15,ff15,ff15,ff15,ff15,ff15,ff15,ff15,ff15,ff15,ff15,ff15,ff15,ff15,ff15,ff15,ff15,ff15,ff15,ff15,ff15,ff15,ff15,ff15,ff15] rfl rfl (any_of HT_.out (by kernel_rfl)) (fun _ _ _ h => h) (Or.inl ⟨by rfl, ?_⟩) ?_ ?_
                 rotate_left
                 ·intro w'
                  go_simp
                  with_reducible rfl
                 rotate_left
                 ·simp only [Act.put, List.setIfInBounds_toArray, List.set_cons_zero, List.set_cons_succ, i64_w, i32_w]
                  rfl
                 refine pure_ (i := 2) (N := some 66) (v := ?_) (a' := ?_) #[tt15,tt15,tt15,ff15,ff15,ff15,ff15,ff15,ff15,ff15,ff15,ff15,ff15,ff15,ff15,ff15,ff15,ff15,ff15,ff15,ff15,ff15,ff15,ff15,ff15,ff15,ff15,ff15,ff15,ff15,ff15,ff15,ff15,ff15,ff15,ff15,ff15,ff15,ff15,ff15,ff15,ff15,ff15,ff15,ff15,ff15,ff15] rfl rfl (any_of HT_.out (by kernel_rfl)) (fun _ _ _ h => h) (Or.inl ⟨by rfl, ?_⟩) ?_ ?_
                 rotate_left
                 ·intro w'
                  go_simp
                  with_reducible rfl
                 rotate_left
                 ·simp only [Act.put, List.setIfInBounds_toArray, List.set_cons_zero, List.set_cons_succ, i64_w, i32_w]
                  rfl
                 refine pure_ (i := 3) (N := some 67) (v := ?_) (a' := ?_) #[tt15,tt15,tt15,tt15,ff15,ff15,ff15,ff15,ff15,ff15,ff15,ff15,ff15,ff15,ff15,ff15,ff15,ff15,ff15,ff15,ff15,ff15,ff15,ff15,ff15,ff15,ff15,ff15,ff15,ff15,ff15,ff15,ff15,ff15,ff15,ff15,ff15,ff15,ff15,ff15,ff15,ff15,ff15,ff15,ff15,ff15,ff15] rfl rfl (any_of HT_.out (by kernel_rfl)) (fun _ _ _ h => h) (Or.inl ⟨by rfl, ?_⟩) ?_ ?_
                 rotate_left
                 ·intro w'
                  go_simp
                  with_reducible rfl
                 rotate_left
                 ·simp only [Act.put, List.setIfInBounds_toArray, List.set_cons_zero, List.set_cons_succ, i64_w, i32_w]
                  rfl
                 refine pure_ (i := 5) (N := some 69) (v := ?_) (a' := ?_) #[tt15,tt15,tt15,tt15,ff15,tt15,ff15,ff15,ff15,ff15,ff15,ff15,ff15,ff15,ff15,ff15,ff15,ff15,ff15,ff15,ff15,ff15,ff15,ff15,ff15,ff15,ff15,ff15,ff15,ff15,ff15,ff15,ff15,ff15,ff15,ff15,ff15,ff15,ff15,ff15,ff15,ff15,ff15,ff15,ff15,ff15,ff15] rfl rfl (any_of HT_.out (by kernel_rfl)) (fun _ _ _ h => h) (Or.inl ⟨by rfl, ?_⟩) ?_ ?_
                 rotate_left
                 ·intro w'
                  go_simp
                  with_reducible rfl
                 rotate_left
                 ·simp only [Act.put, List.setIfInBounds_toArray, List.set_cons_zero, List.set_cons_succ, i64_w, i32_w]
                  rfl
                 refine pure_ (i := 8) (N := some 72) (v := ?_) (a' := ?_) #[tt15,tt15,tt15,tt15,ff15,tt15,ff15,ff15,tt15,ff15,ff15,ff15,ff15,ff15,ff15,ff15,ff15,ff15,ff15,ff15,ff15,ff15,ff15,ff15,ff15,ff15,ff15,ff15,ff15,ff15,ff15,ff15,ff15,ff15,ff15,ff15,ff15,ff15,ff15,ff15,ff15,ff15,ff15,ff15,ff15,ff15,ff15] rfl rfl (any_of HT_.out (by kernel_rfl)) (fun _ _ _ h => h) (Or.inl ⟨by rfl, ?_⟩) ?_ ?_
                 rotate_left
                 ·intro w'
                  go_simp
                  with_reducible rfl
                 rotate_left
                 ·simp only [Act.put, List.setIfInBounds_toArray, List.set_cons_zero, List.set_cons_succ, i64_w, i32_w]
                  rfl
                 refine take_ (i := 4) (N := some 68) (v := ?_) (a' := ?_) #[tt15,tt15,tt15,tt15,tt15,tt15,ff15,ff15,tt15,ff15,ff15,ff15,ff15,ff15,ff15,ff15,ff15,ff15,ff15,ff15,ff15,ff15,ff15,ff15,ff15,ff15,ff15,ff15,ff15,ff15,ff15,ff15,ff15,ff15,ff15,ff15,ff15,ff15,ff15,ff15,ff15,ff15,ff15,ff15,ff15,ff15,ff15] rfl rfl (take_ofW HT_.out HW_.out (by kernel_rfl)) (fun _ _ _ h => h) (Or.inl ⟨by rfl, ?_⟩) hHeld ?_ ?_
                 rotate_left
                 ·rintro w' ⟨s0, s1, s2, s3, s4, s5, s6⟩
                  go_simp
                  with_reducible rfl
                 rotate_left
                 ·simp only [Act.put, List.setIfInBounds_toArray, List.set_cons_zero, List.set_cons_succ, i64_w, i32_w]
                  rfl
                 refine pure_ (i := 6) (N := some 70) (v := ?_) (a' := ?_) #[tt15,tt15,tt15,tt15,tt15,tt15,tt15,ff15,tt15,ff15,ff15,ff15,ff15,ff15,ff15,ff15,ff15,ff15,ff15,ff15,ff15,ff15,ff15,ff15,ff15,ff15,ff15,ff15,ff15,ff15,ff15,ff15,ff15,ff15,ff15,ff15,ff15,ff15,ff15,ff15,ff15,ff15,ff15,ff15,ff15,ff15,ff15] rfl rfl (any_of HT_.out (by kernel_rfl)) (fun _ _ _ h => h) (Or.inl ⟨by rfl, ?_⟩) ?_ ?_
                 rotate_left
                 ·intro w'
                  go_simp
                  with_reducible rfl
                 rotate_left
                 ·simp only [Act.put, List.setIfInBounds_toArray, List.set_cons_zero, List.set_cons_succ, i64_w, i32_w]
                  rfl
                 refine take_ (i := 7) (N := some 71) (v := ?_) (a' := ?_) #[tt15,tt15,tt15,tt15,tt15,tt15,tt15,tt15,tt15,ff15,ff15,ff15,ff15,ff15,ff15,ff15,ff15,ff15,ff15,ff15,ff15,ff15,ff15,ff15,ff15,ff15,ff15,ff15,ff15,ff15,ff15,ff15,ff15,ff15,ff15,ff15,ff15,ff15,ff15,ff15,ff15,ff15,ff15,ff15,ff15,ff15,ff15] rfl rfl (take_ofW HT_.out HW_.out (by kernel_rfl)) (fun _ _ _ h => h) (Or.inl ⟨by rfl, ?_⟩) hHeld ?_ ?_
                 rotate_left
                 ·rintro w' ⟨s0, s1, s2, s3, s4, s5, s6⟩
                  go_simp
                  with_reducible rfl
                 rotate_left
                 ·simp only [Act.put, List.setIfInBounds_toArray, List.set_cons_zero, List.set_cons_succ, i64_w, i32_w]
                  rfl
                 refine one_ (i := 9) (N := some 73) #[tt15,tt15,tt15,tt15,tt15,tt15,tt15,tt15,tt15,tt15,ff15,ff15,ff15,ff15,ff15,ff15,ff15,ff15,ff15,ff15,ff15,ff15,ff15,ff15,ff15,ff15,ff15,ff15,ff15,ff15,ff15,ff15,ff15,ff15,ff15,ff15,ff15,ff15,ff15,ff15,ff15,ff15,ff15,ff15,ff15,ff15,ff15] rfl rfl (one_of HT_.out (by kernel_rfl)) (by decide) (fun K hK => ?_)
                 refine goes_ Try.func65 (by kernel_rfl) rfl #[.int .i64 (rd l0_0 x54_2), .int .i64 x54_2] (by rfl) rfl rfl (by (try simp only [List.map_toArray, List.map_cons, List.map_nil]); first | done | rfl | (simp only [List.length_drop, List.length_take]; rfl)) ?_
                 with_reducible refine (impl_isPlace.calls (rd l0_0 x54_2) x54_2 true _ A29.out).mono ?_
                 rintro e w' ⟨rfl, ⟨nd, rfl⟩⟩
                 refine ⟨_, rfl, ?_⟩
                 refine hK.out _ _ ⟨(blk_cell BK195.out 0).trans rfl, (blk_cell BK195.out 1).trans rfl, (blk_cell BK195.out 2).trans rfl, (blk_cell BK195.out 3).trans rfl, ((HB.out.cell (World.block_lt_of_cell? w _ hw202_0)).trans hw202_0), ((HB.out.cell (World.block_lt_of_cell? w _ hw204_0)).trans hw204_0), ((HB.out.cell (World.block_lt_of_cell? w _ hw206_0)).trans hw206_0)⟩ (fun hHeld => ?_)
                 clear hK K
                 refine norm_ (a' := ?_) ?_ ?_
                 rotate_left
                 ·show Act.put _ (some 73) _ = _
                  simp only [Act.put, List.setIfInBounds_toArray, List.set_cons_zero, List.set_cons_succ, i64_w, i32_w]
                  rfl
                 refine pure_ (i := 10) (N := some 74) (v := ?_) (a' := ?_) #[tt15,tt15,tt15,tt15,tt15,tt15,tt15,tt15,tt15,tt15,tt15,ff15,ff15,ff15,ff15,ff15,ff15,ff15,ff15,ff15,ff15,ff15,ff15,ff15,ff15,ff15,ff15,ff15,ff15,ff15,ff15,ff15,ff15,ff15,ff15,ff15,ff15,ff15,ff15,ff15,ff15,ff15,ff15,ff15,ff15,ff15,ff15] rfl rfl (any_of HT_.out (by kernel_rfl)) (fun _ _ _ h => h) (Or.inl ⟨by rfl, ?_⟩) ?_ ?_
                 rotate_left
                 ·intro w'
                  go_simp
                  with_reducible rfl
                 rotate_left
                 ·simp only [Act.put, List.setIfInBounds_toArray, List.set_cons_zero, List.set_cons_succ, i64_w, i32_w]
                  rfl
                 refine pure_ (i := 11) (N := some 75) (v := ?_) (a' := ?_) #[tt15,tt15,tt15,tt15,tt15,tt15,tt15,tt15,tt15,tt15,tt15,tt15,ff15,ff15,ff15,ff15,ff15,ff15,ff15,ff15,ff15,ff15,ff15,ff15,ff15,ff15,ff15,ff15,ff15,ff15,ff15,ff15,ff15,ff15,ff15,ff15,ff15,ff15,ff15,ff15,ff15,ff15,ff15,ff15,ff15,ff15,ff15] rfl rfl (any_of HT_.out (by kernel_rfl)) (fun _ _ _ h => h) (Or.inl ⟨by rfl, ?_⟩) ?_ ?_
                 rotate_left
                 ·intro w'
                  go_simp
                  with_reducible rfl
                 rotate_left
                 ·simp only [Act.put, List.setIfInBounds_toArray, List.set_cons_zero, List.set_cons_succ, i64_w, i32_w]
                  rfl
                 refine pure_ (i := 12) (N := some 76) (v := ?_) (a' := ?_) #[tt15,tt15,tt15,tt15,tt15,tt15,tt15,tt15,tt15,tt15,tt15,tt15,tt15,ff15,ff15,ff15,ff15,ff15,ff15,ff15,ff15,ff15,ff15,ff15,ff15,ff15,ff15,ff15,ff15,ff15,ff15,ff15,ff15,ff15,ff15,ff15,ff15,ff15,ff15,ff15,ff15,ff15,ff15,ff15,ff15,ff15,ff15] rfl rfl (any_of HT_.out (by kernel_rfl)) (fun _ _ _ h => h) (Or.inl ⟨by rfl, ?_⟩) ?_ ?_
                 rotate_left
                 ·intro w'
                  go_simp
                  with_reducible rfl
                 rotate_left
                 ·simp only [Act.put, List.setIfInBounds_toArray, List.set_cons_zero, List.set_cons_succ, i64_w, i32_w]
                  rfl
                 refine pure_ (i := 14) (N := some 78) (v := ?_) (a' := ?_) #[tt15,tt15,tt15,tt15,tt15,tt15,tt15,tt15,tt15,tt15,tt15,tt15,tt15,ff15,tt15,ff15,ff15,ff15,ff15,ff15,ff15,ff15,ff15,ff15,ff15,ff15,ff15,ff15,ff15,ff15,ff15,ff15,ff15,ff15,ff15,ff15,ff15,ff15,ff15,ff15,ff15,ff15,ff15,ff15,ff15,ff15,ff15] rfl rfl (any_of HT_.out (by kernel_rfl)) (fun _ _ _ h => h) (Or.inl ⟨by rfl, ?_⟩) ?_ ?_
                 rotate_left
                 ·intro w'
                  go_simp
                  with_reducible rfl
                 rotate_left
                 ·simp only [Act.put, List.setIfInBounds_toArray, List.set_cons_zero, List.set_cons_succ, i64_w, i32_w]
                  rfl
                 refine take_ (i := 13) (N := some 77) (v := ?_) (a' := ?_) #[tt15,tt15,tt15,tt15,tt15,tt15,tt15,tt15,tt15,tt15,tt15,tt15,tt15,tt15,tt15,ff15,ff15,ff15,ff15,ff15,ff15,ff15,ff15,ff15,ff15,ff15,ff15,ff15,ff15,ff15,ff15,ff15,ff15,ff15,ff15,ff15,ff15,ff15,ff15,ff15,ff15,ff15,ff15,ff15,ff15,ff15,ff15] rfl rfl (take_ofW HT_.out HW_.out (by kernel_rfl)) (fun _ _ _ h => h) (Or.inl ⟨by rfl, ?_⟩) hHeld ?_ ?_
                 rotate_left
                 ·rintro w' ⟨s0, s1, s2, s3, s4, s5, s6⟩
                  go_simp
                  with_reducible rfl
                 rotate_left
                 ·simp only [Act.put, List.setIfInBounds_toArray, List.set_cons_zero, List.set_cons_succ, i64_w, i32_w]
                  rfl
                 refine pure_ (i := 15) (N := some 79) (v := ?_) (a' := ?_) #[tt15,tt15,tt15,tt15,tt15,tt15,tt15,tt15,tt15,tt15,tt15,tt15,tt15,tt15,tt15,tt15,ff15,ff15,ff15,ff15,ff15,ff15,ff15,ff15,ff15,ff15,ff15,ff15,ff15,ff15,ff15,ff15,ff15,ff15,ff15,ff15,ff15,ff15,ff15,ff15,ff15,ff15,ff15,ff15,ff15,ff15,ff15] rfl rfl (any_of HT_.out (by kernel_rfl)) (fun _ _ _ h => h) (Or.inl ⟨by rfl, ?_⟩) ?_ ?_
                 rotate_left
                 ·intro w'
                  go_simp
                  with_reducible rfl
                 rotate_left
                 ·simp only [Act.put, List.setIfInBounds_toArray, List.set_cons_zero, List.set_cons_succ, i64_w, i32_w]
                  rfl
                 refine take_ (i := 16) (N := some 80) (v := ?_) (a' := ?_) #[tt15,tt15,tt15,tt15,tt15,tt15,tt15,tt15,tt15,tt15,tt15,tt15,tt15,tt15,tt15,tt15,tt15,ff15,ff15,ff15,ff15,ff15,ff15,ff15,ff15,ff15,ff15,ff15,ff15,ff15,ff15,ff15,ff15,ff15,ff15,ff15,ff15,ff15,ff15,ff15,ff15,ff15,ff15,ff15,ff15,ff15,ff15] rfl rfl (take_ofW HT_.out HW_.out (by kernel_rfl)) (fun _ _ _ h => h) (Or.inl ⟨by rfl, ?_⟩) hHeld ?_ ?_
                 rotate_left
                 ·rintro w' ⟨s0, s1, s2, s3, s4, s5, s6⟩
                  go_simp
                  with_reducible rfl
                 rotate_left
                 ·simp only [Act.put, List.setIfInBounds_toArray, List.set_cons_zero, List.set_cons_succ, i64_w, i32_w]
                  rfl
                 refine one_ (i := 17) (N := some 81) #[tt15,tt15,tt15,tt15,tt15,tt15,tt15,tt15,tt15,tt15,tt15,tt15,tt15,tt15,tt15,tt15,tt15,tt15,ff15,ff15,ff15,ff15,ff15,ff15,ff15,ff15,ff15,ff15,ff15,ff15,ff15,ff15,ff15,ff15,ff15,ff15,ff15,ff15,ff15,ff15,ff15,ff15,ff15,ff15,ff15,ff15,ff15] rfl rfl (one_of HT_.out (by kernel_rfl)) (by decide) (fun K hK => ?_)
                 refine goes_ Try.func66 (by kernel_rfl) rfl #[.int .i64 (rd l0_1 x54_2)] (by rfl) rfl rfl (by (try simp only [List.map_toArray, List.map_cons, List.map_nil]); first | done | rfl | (simp only [List.length_drop, List.length_take]; rfl)) ?_
                 with_reducible refine (impl_GoodRune.calls (rd l0_1 x54_2) true _ A32.out).mono ?_
                 rintro e w' ⟨rfl, ⟨nd, rfl⟩⟩
                 refine ⟨_, rfl, ?_⟩
                 refine hK.out _ _ ⟨(blk_cell BK195.out 0).trans rfl, (blk_cell BK195.out 1).trans rfl, (blk_cell BK195.out 2).trans rfl, (blk_cell BK195.out 3).trans rfl, ((HB.out.cell (World.block_lt_of_cell? w _ hw202_0)).trans hw202_0), ((HB.out.cell (World.block_lt_of_cell? w _ hw204_0)).trans hw204_0), ((HB.out.cell (World.block_lt_of_cell? w _ hw206_0)).trans hw206_0)⟩ (fun hHeld => ?_)
                 clear hK K
                 refine norm_ (a' := ?_) ?_ ?_
                 rotate_left
                 ·show Act.put _ (some 81) _ = _
                  simp only [Act.put, List.setIfInBounds_toArray, List.set_cons_zero, List.set_cons_succ, i64_w, i32_w]
                  rfl
                 refine pure_ (i := 18) (N := some 82) (v := ?_) (a' := ?_) #[tt15,tt15,tt15,tt15,tt15,tt15,tt15,tt15,tt15,tt15,tt15,tt15,tt15,tt15,tt15,tt15,tt15,tt15,tt15,ff15,ff15,ff15,ff15,ff15,ff15,ff15,ff15,ff15,ff15,ff15,ff15,ff15,ff15,ff15,ff15,ff15,ff15,ff15,ff15,ff15,ff15,ff15,ff15,ff15,ff15,ff15,ff15] rfl rfl (any_of HT_.out (by kernel_rfl)) (fun _ _ _ h => h) (Or.inl ⟨by rfl, ?_⟩) ?_ ?_
                 rotate_left
                 ·intro w'
                  go_simp
                  with_reducible rfl
                 rotate_left
                 ·simp only [Act.put, List.setIfInBounds_toArray, List.set_cons_zero, List.set_cons_succ, i64_w, i32_w]
                  rfl
                 refine pure_ (i := 19) (N := some 83) (v := ?_) (a' := ?_) #[tt15,tt15,tt15,tt15,tt15,tt15,tt15,tt15,tt15,tt15,tt15,tt15,tt15,tt15,tt15,tt15,tt15,tt15,tt15,tt15,ff15,ff15,ff15,ff15,ff15,ff15,ff15,ff15,ff15,ff15,ff15,ff15,ff15,ff15,ff15,ff15,ff15,ff15,ff15,ff15,ff15,ff15,ff15,ff15,ff15,ff15,ff15] rfl rfl (any_of HT_.out (by kernel_rfl)) (fun _ _ _ h => h) (Or.inl ⟨by rfl, ?_⟩) ?_ ?_
                 rotate_left
                 ·intro w'
                  go_simp
                  with_reducible rfl
                 rotate_left
                 ·simp only [Act.put, List.setIfInBounds_toArray, List.set_cons_zero, List.set_cons_succ, i64_w, i32_w]
                  rfl
                 refine pure_ (i := 20) (N := some 84) (v := ?_) (a' := ?_) #[tt15,tt15,tt15,tt15,tt15,tt15,tt15,tt15,tt15,tt15,tt15,tt15,tt15,tt15,tt15,tt15,tt15,tt15,tt15,tt15,tt15,ff15,ff15,ff15,ff15,ff15,ff15,ff15,ff15,ff15,ff15,ff15,ff15,ff15,ff15,ff15,ff15,ff15,ff15,ff15,ff15,ff15,ff15,ff15,ff15,ff15,ff15] rfl rfl (any_of HT_.out (by kernel_rfl)) (fun _ _ _ h => h) (Or.inl ⟨by rfl, ?_⟩) ?_ ?_
                 rotate_left
                 ·intro w'
                  go_simp
                  with_reducible rfl
                 rotate_left
                 ·simp only [Act.put, List.setIfInBounds_toArray, List.set_cons_zero, List.set_cons_succ, i64_w, i32_w]
                  rfl
                 refine pure_ (i := 21) (N := some 85) (v := ?_) (a' := ?_) #[tt15,tt15,tt15,tt15,tt15,tt15,tt15,tt15,tt15,tt15,tt15,tt15,tt15,tt15,tt15,tt15,tt15,tt15,tt15,tt15,tt15,tt15,ff15,ff15,ff15,ff15,ff15,ff15,ff15,ff15,ff15,ff15,ff15,ff15,ff15,ff15,ff15,ff15,ff15,ff15,ff15,ff15,ff15,ff15,ff15,ff15,ff15] rfl rfl (any_of HT_.out (by kernel_rfl)) (fun _ _ _ h => h) (Or.inl ⟨by rfl, ?_⟩) ?_ ?_
                 rotate_left
                 ·intro w'
                  go_simp
                  with_reducible rfl
                 rotate_left
                 ·simp only [Act.put, List.setIfInBounds_toArray, List.set_cons_zero, List.set_cons_succ, i64_w, i32_w]
                  rfl
                 refine pure_ (i := 23) (N := some 87) (v := ?_) (a' := ?_) #[tt15,tt15,tt15,tt15,tt15,tt15,tt15,tt15,tt15,tt15,tt15,tt15,tt15,tt15,tt15,tt15,tt15,tt15,tt15,tt15,tt15,tt15,ff15,tt15,ff15,ff15,ff15,ff15,ff15,ff15,ff15,ff15,ff15,ff15,ff15,ff15,ff15,ff15,ff15,ff15,ff15,ff15,ff15,ff15,ff15,ff15,ff15] rfl rfl (any_of HT_.out (by kernel_rfl)) (fun _ _ _ h => h) (Or.inl ⟨by rfl, ?_⟩) ?_ ?_
                 rotate_left
                 ·intro w'
                  go_simp
                  with_reducible rfl
                 rotate_left
                 ·simp only [Act.put, List.setIfInBounds_toArray, List.set_cons_zero, List.set_cons_succ, i64_w, i32_w]
                  rfl
                 refine pure_ (i := 26) (N := some 90) (v := ?_) (a' := ?_) #[tt15,tt15,tt15,tt15,tt15,tt15,tt15,tt15,tt15,tt15,tt15,tt15,tt15,tt15,tt15,tt15,tt15,tt15,tt15,tt15,tt15,tt15,ff15,tt15,ff15,ff15,tt15,ff15,ff15,ff15,ff15,ff15,ff15,ff15,ff15,ff15,ff15,ff15,ff15,ff15,ff15,ff15,ff15,ff15,ff15,ff15,ff15] rfl rfl (any_of HT_.out (by kernel_rfl)) (fun _ _ _ h => h) (Or.inl ⟨by rfl, ?_⟩) ?_ ?_
                 rotate_left
                 ·intro w'
                  go_simp
                  with_reducible rfl
                 rotate_left
                 ·simp only [Act.put, List.setIfInBounds_toArray, List.set_cons_zero, List.set_cons_succ, i64_w, i32_w]
                  rfl
                 refine take_ (i := 22) (N := some 86) (v := ?_) (a' := ?_) #[tt15,tt15,tt15,tt15,tt15,tt15,tt15,tt15,tt15,tt15,tt15,tt15,tt15,tt15,tt15,tt15,tt15,tt15,tt15,tt15,tt15,tt15,tt15,tt15,ff15,ff15,tt15,ff15,ff15,ff15,ff15,ff15,ff15,ff15,ff15,ff15,ff15,ff15,ff15,ff15,ff15,ff15,ff15,ff15,ff15,ff15,ff15] rfl rfl (take_ofW HT_.out HW_.out (by kernel_rfl)) (fun _ _ _ h => h) (Or.inl ⟨by rfl, ?_⟩) hHeld ?_ ?_
                 rotate_left
                 ·rintro w' ⟨s0, s1, s2, s3, s4, s5, s6⟩
                  go_simp
                  with_reducible rfl
                 rotate_left
                 ·simp only [Act.put, List.setIfInBounds_toArray, List.set_cons_zero, List.set_cons_succ, i64_w, i32_w]
                  rfl
                 refine pure_ (i := 24) (N := some 88) (v := ?_) (a' := ?_) #[tt15,tt15,tt15,tt15,tt15,tt15,tt15,tt15,tt15,tt15,tt15,tt15,tt15,tt15,tt15,tt15,tt15,tt15,tt15,tt15,tt15,tt15,tt15,tt15,tt15,ff15,tt15,ff15,ff15,ff15,ff15,ff15,ff15,ff15,ff15,ff15,ff15,ff15,ff15,ff15,ff15,ff15,ff15,ff15,ff15,ff15,ff15] rfl rfl (any_of HT_.out (by kernel_rfl)) (fun _ _ _ h => h) (Or.inl ⟨by rfl, ?_⟩) ?_ ?_
                 rotate_left
                 ·intro w'
                  go_simp
                  with_reducible rfl
                 rotate_left
                 ·simp only [Act.put, List.setIfInBounds_toArray, List.set_cons_zero, List.set_cons_succ, i64_w, i32_w]
                  rfl
                 refine take_ (i := 25) (N := some 89) (v := ?_) (a' := ?_) #[tt15,tt15,tt15,tt15,tt15,tt15,tt15,tt15,tt15,tt15,tt15,tt15,tt15,tt15,tt15,tt15,tt15,tt15,tt15,tt15,tt15,tt15,tt15,tt15,tt15,tt15,tt15,ff15,ff15,ff15,ff15,ff15,ff15,ff15,ff15,ff15,ff15,ff15,ff15,ff15,ff15,ff15,ff15,ff15,ff15,ff15,ff15] rfl rfl (take_ofW HT_.out HW_.out (by kernel_rfl)) (fun _ _ _ h => h) (Or.inl ⟨by rfl, ?_⟩) hHeld ?_ ?_
                 rotate_left
                 ·rintro w' ⟨s0, s1, s2, s3, s4, s5, s6⟩
                  go_simp
                  with_reducible rfl
                 rotate_left
                 ·simp only [Act.put, List.setIfInBounds_toArray, List.set_cons_zero, List.set_cons_succ, i64_w, i32_w]
                  rfl
                 refine one_ (i := 27) (N := some 91) #[tt15,tt15,tt15,tt15,tt15,tt15,tt15,tt15,tt15,tt15,tt15,tt15,tt15,tt15,tt15,tt15,tt15,tt15,tt15,tt15,tt15,tt15,tt15,tt15,tt15,tt15,tt15,tt15,ff15,ff15,ff15,ff15,ff15,ff15,ff15,ff15,ff15,ff15,ff15,ff15,ff15,ff15,ff15,ff15,ff15,ff15,ff15] rfl rfl (one_of HT_.out (by kernel_rfl)) (by decide) (fun K hK => ?_)
                 refine goes_ Try.func65 (by kernel_rfl) rfl #[.int .i64 (rd l0_2 x54_2), .int .i64 x54_2] (by rfl) rfl rfl (by (try simp only [List.map_toArray, List.map_cons, List.map_nil]); first | done | rfl | (simp only [List.length_drop, List.length_take]; rfl)) ?_
                 with_reducible refine (impl_isPlace.calls (rd l0_2 x54_2) x54_2 false _ A35.out).mono ?_
                 rintro e w' ⟨rfl, ⟨nd, rfl⟩⟩
                 refine ⟨_, rfl, ?_⟩
                 refine hK.out _ _ ⟨(blk_cell BK195.out 0).trans rfl, (blk_cell BK195.out 1).trans rfl, (blk_cell BK195.out 2).trans rfl, (blk_cell BK195.out 3).trans rfl, ((HB.out.cell (World.block_lt_of_cell? w _ hw202_0)).trans hw202_0), ((HB.out.cell (World.block_lt_of_cell? w _ hw204_0)).trans hw204_0), ((HB.out.cell (World.block_lt_of_cell? w _ hw206_0)).trans hw206_0)⟩ (fun hHeld => ?_)
                 clear hK K
                 refine norm_ (a' := ?_) ?_ ?_
                 rotate_left
                 ·show Act.put _ (some 91) _ = _
                  simp only [Act.put, List.setIfInBounds_toArray, List.set_cons_zero, List.set_cons_succ, i64_w, i32_w]
                  rfl
                 refine pure_ (i := 28) (N := some 92) (v := ?_) (a' := ?_) #[tt15,tt15,tt15,tt15,tt15,tt15,tt15,tt15,tt15,tt15,tt15,tt15,tt15,tt15,tt15,tt15,tt15,tt15,tt15,tt15,tt15,tt15,tt15,tt15,tt15,tt15,tt15,tt15,tt15,ff15,ff15,ff15,ff15,ff15,ff15,ff15,ff15,ff15,ff15,ff15,ff15,ff15,ff15,ff15,ff15,ff15,ff15] rfl rfl (any_of HT_.out (by kernel_rfl)) (fun _ _ _ h => h) (Or.inl ⟨by rfl, ?_⟩) ?_ ?_
                 rotate_left
                 ·intro w'
                  go_simp
                  with_reducible rfl
                 rotate_left
                 ·simp only [Act.put, List.setIfInBounds_toArray, List.set_cons_zero, List.set_cons_succ, i64_w, i32_w]
                  rfl
                 refine pure_ (i := 29) (N := some 93) (v := ?_) (a' := ?_) #[tt15,tt15,tt15,tt15,tt15,tt15,tt15,tt15,tt15,tt15,tt15,tt15,tt15,tt15,tt15,tt15,tt15,tt15,tt15,tt15,tt15,tt15,tt15,tt15,tt15,tt15,tt15,tt15,tt15,tt15,ff15,ff15,ff15,ff15,ff15,ff15,ff15,ff15,ff15,ff15,ff15,ff15,ff15,ff15,ff15,ff15,ff15] rfl rfl (any_of HT_.out (by kernel_rfl)) (fun _ _ _ h => h) (Or.inl ⟨by rfl, ?_⟩) ?_ ?_
                 rotate_left
                 ·intro w'
                  go_simp
                  with_reducible rfl
                 rotate_left
                 ·simp only [Act.put, List.setIfInBounds_toArray, List.set_cons_zero, List.set_cons_succ, i64_w, i32_w]
                  rfl
                 refine pure_ (i := 30) (N := some 94) (v := ?_) (a' := ?_) #[tt15,tt15,tt15,tt15,tt15,tt15,tt15,tt15,tt15,tt15,tt15,tt15,tt15,tt15,tt15,tt15,tt15,tt15,tt15,tt15,tt15,tt15,tt15,tt15,tt15,tt15,tt15,tt15,tt15,tt15,tt15,ff15,ff15,ff15,ff15,ff15,ff15,ff15,ff15,ff15,ff15,ff15,ff15,ff15,ff15,ff15,ff15] rfl rfl (any_of HT_.out (by kernel_rfl)) (fun _ _ _ h => h) (Or.inl ⟨by rfl, ?_⟩) ?_ ?_
                 rotate_left
                 ·intro w'
                  go_simp
                  with_reducible rfl
                 rotate_left
                 ·simp only [Act.put, List.setIfInBounds_toArray, List.set_cons_zero, List.set_cons_succ, i64_w, i32_w]
                  rfl
                 refine pure_ (i := 31) (N := some 95) (v := undef) (a' := ?_) #[tt15,tt15,tt15,tt15,tt15,tt15,tt15,tt15,tt15,tt15,tt15,tt15,tt15,tt15,tt15,tt15,tt15,tt15,tt15,tt15,tt15,tt15,tt15,tt15,tt15,tt15,tt15,tt15,tt15,tt15,tt15,tt15,ff15,ff15,ff15,ff15,ff15,ff15,ff15,ff15,ff15,ff15,ff15,ff15,ff15,ff15,ff15] rfl rfl (any_of HT_.out (by kernel_rfl)) (fun _ _ _ h => h) (Or.inr ⟨by rfl, rfl⟩) ?_ ?_
                 rotate_left
                 ·simp only [Act.put, List.setIfInBounds_toArray, List.set_cons_zero, List.set_cons_succ, i64_w, i32_w]
                  rfl
                 refine pure_ (i := 32) (N := some 96) (v := undef) (a' := ?_) #[tt15,tt15,tt15,tt15,tt15,tt15,tt15,tt15,tt15,tt15,tt15,tt15,tt15,tt15,tt15,tt15,tt15,tt15,tt15,tt15,tt15,tt15,tt15,tt15,tt15,tt15,tt15,tt15,tt15,tt15,tt15,tt15,tt15,ff15,ff15,ff15,ff15,ff15,ff15,ff15,ff15,ff15,ff15,ff15,ff15,ff15,ff15] rfl rfl (any_of HT_.out (by kernel_rfl)) (fun _ _ _ h => h) (Or.inr ⟨by rfl, rfl⟩) ?_ ?_
                 rotate_left
                 ·simp only [Act.put, List.setIfInBounds_toArray, List.set_cons_zero, List.set_cons_succ, i64_w, i32_w]
                  rfl
                 refine pure_ (i := 33) (N := some 97) (v := undef) (a' := ?_) #[tt15,tt15,tt15,tt15,tt15,tt15,tt15,tt15,tt15,tt15,tt15,tt15,tt15,tt15,tt15,tt15,tt15,tt15,tt15,tt15,tt15,tt15,tt15,tt15,tt15,tt15,tt15,tt15,tt15,tt15,tt15,tt15,tt15,tt15,ff15,ff15,ff15,ff15,ff15,ff15,ff15,ff15,ff15,ff15,ff15,ff15,ff15] rfl rfl (any_of HT_.out (by kernel_rfl)) (fun _ _ _ h => h) (Or.inr ⟨by rfl, rfl⟩) ?_ ?_
                 rotate_left
                 ·simp only [Act.put, List.setIfInBounds_toArray, List.set_cons_zero, List.set_cons_succ, i64_w, i32_w]
                  rfl
                 refine pure_ (i := 34) (N := some 98) (v := undef) (a' := ?_) #[tt15,tt15,tt15,tt15,tt15,tt15,tt15,tt15,tt15,tt15,tt15,tt15,tt15,tt15,tt15,tt15,tt15,tt15,tt15,tt15,tt15,tt15,tt15,tt15,tt15,tt15,tt15,tt15,tt15,tt15,tt15,tt15,tt15,tt15,tt15,ff15,ff15,ff15,ff15,ff15,ff15,ff15,ff15,ff15,ff15,ff15,ff15] rfl rfl (any_of HT_.out (by kernel_rfl)) (fun _ _ _ h => h) (Or.inr ⟨by rfl, rfl⟩) ?_ ?_
                 rotate_left
                 ·simp only [Act.put, List.setIfInBounds_toArray, List.set_cons_zero, List.set_cons_succ, i64_w, i32_w]
                  rfl
                 refine pure_ (i := 35) (N := some 99) (v := undef) (a' := ?_) #[tt15,tt15,tt15,tt15,tt15,tt15,tt15,tt15,tt15,tt15,tt15,tt15,tt15,tt15,tt15,tt15,tt15,tt15,tt15,tt15,tt15,tt15,tt15,tt15,tt15,tt15,tt15,tt15,tt15,tt15,tt15,tt15,tt15,tt15,tt15,tt15,ff15,ff15,ff15,ff15,ff15,ff15,ff15,ff15,ff15,ff15,ff15] rfl rfl (any_of HT_.out (by kernel_rfl)) (fun _ _ _ h => h) (Or.inr ⟨by rfl, rfl⟩) ?_ ?_
                 rotate_left
                 ·simp only [Act.put, List.setIfInBounds_toArray, List.set_cons_zero, List.set_cons_succ, i64_w, i32_w]
                  rfl
                 refine pure_ (i := 36) (N := some 100) (v := undef) (a' := ?_) #[tt15,tt15,tt15,tt15,tt15,tt15,tt15,tt15,tt15,tt15,tt15,tt15,tt15,tt15,tt15,tt15,tt15,tt15,tt15,tt15,tt15,tt15,tt15,tt15,tt15,tt15,tt15,tt15,tt15,tt15,tt15,tt15,tt15,tt15,tt15,tt15,tt15,ff15,ff15,ff15,ff15,ff15,ff15,ff15,ff15,ff15,ff15] rfl rfl (any_of HT_.out (by kernel_rfl)) (fun _ _ _ h => h) (Or.inr ⟨by rfl, rfl⟩) ?_ ?_
                 rotate_left
                 ·simp only [Act.put, List.setIfInBounds_toArray, List.set_cons_zero, List.set_cons_succ, i64_w, i32_w]
                  rfl
                 refine pure_ (i := 37) (N := some 101) (v := undef) (a' := ?_) #[tt15,tt15,tt15,tt15,tt15,tt15,tt15,tt15,tt15,tt15,tt15,tt15,tt15,tt15,tt15,tt15,tt15,tt15,tt15,tt15,tt15,tt15,tt15,tt15,tt15,tt15,tt15,tt15,tt15,tt15,tt15,tt15,tt15,tt15,tt15,tt15,tt15,tt15,ff15,ff15,ff15,ff15,ff15,ff15,ff15,ff15,ff15] rfl rfl (any_of HT_.out (by kernel_rfl)) (fun _ _ _ h => h) (Or.inr ⟨by rfl, rfl⟩) ?_ ?_
                 rotate_left
                 ·simp only [Act.put, List.setIfInBounds_toArray, List.set_cons_zero, List.set_cons_succ, i64_w, i32_w]
                  rfl
                 refine pure_ (i := 38) (N := some 102) (v := undef) (a' := ?_) #[tt15,tt15,tt15,tt15,tt15,tt15,tt15,tt15,tt15,tt15,tt15,tt15,tt15,tt15,tt15,tt15,tt15,tt15,tt15,tt15,tt15,tt15,tt15,tt15,tt15,tt15,tt15,tt15,tt15,tt15,tt15,tt15,tt15,tt15,tt15,tt15,tt15,tt15,tt15,ff15,ff15,ff15,ff15,ff15,ff15,ff15,ff15] rfl rfl (any_of HT_.out (by kernel_rfl)) (fun _ _ _ h => h) (Or.inr ⟨by rfl, rfl⟩) ?_ ?_
                 rotate_left
                 ·simp only [Act.put, List.setIfInBounds_toArray, List.set_cons_zero, List.set_cons_succ, i64_w, i32_w]
                  rfl
                 refine pure_ (i := 39) (N := some 103) (v := undef) (a' := ?_) #[tt15,tt15,tt15,tt15,tt15,tt15,tt15,tt15,tt15,tt15,tt15,tt15,tt15,tt15,tt15,tt15,tt15,tt15,tt15,tt15,tt15,tt15,tt15,tt15,tt15,tt15,tt15,tt15,tt15,tt15,tt15,tt15,tt15,tt15,tt15,tt15,tt15,tt15,tt15,tt15,ff15,ff15,ff15,ff15,ff15,ff15,ff15] rfl rfl (any_of HT_.out (by kernel_rfl)) (fun _ _ _ h => h) (Or.inr ⟨by rfl, rfl⟩) ?_ ?_
                 rotate_left
                 ·simp only [Act.put, List.setIfInBounds_toArray, List.set_cons_zero, List.set_cons_succ, i64_w, i32_w]
                  rfl
                 refine pure_ (i := 40) (N := some 104) (v := undef) (a' := ?_) #[tt15,tt15,tt15,tt15,tt15,tt15,tt15,tt15,tt15,tt15,tt15,tt15,tt15,tt15,tt15,tt15,tt15,tt15,tt15,tt15,tt15,tt15,tt15,tt15,tt15,tt15,tt15,tt15,tt15,tt15,tt15,tt15,tt15,tt15,tt15,tt15,tt15,tt15,tt15,tt15,tt15,ff15,ff15,ff15,ff15,ff15,ff15] rfl rfl (any_of HT_.out (by kernel_rfl)) (fun _ _ _ h => h) (Or.inr ⟨by rfl, rfl⟩) ?_ ?_
                 rotate_left
                 ·simp only [Act.put, List.setIfInBounds_toArray, List.set_cons_zero, List.set_cons_succ, i64_w, i32_w]
                  rfl
                 refine pure_ (i := 41) (N := some 105) (v := undef) (a' := ?_) #[tt15,tt15,tt15,tt15,tt15,tt15,tt15,tt15,tt15,tt15,tt15,tt15,tt15,tt15,tt15,tt15,tt15,tt15,tt15,tt15,tt15,tt15,tt15,tt15,tt15,tt15,tt15,tt15,tt15,tt15,tt15,tt15,tt15,tt15,tt15,tt15,tt15,tt15,tt15,tt15,tt15,tt15,ff15,ff15,ff15,ff15,ff15] rfl rfl (any_of HT_.out (by kernel_rfl)) (fun _ _ _ h => h) (Or.inr ⟨by rfl, rfl⟩) ?_ ?_
                 rotate_left
                 ·simp only [Act.put, List.setIfInBounds_toArray, List.set_cons_zero, List.set_cons_succ, i64_w, i32_w]
                  rfl
                 refine pure_ (i := 42) (N := some 106) (v := undef) (a' := ?_) #[tt15,tt15,tt15,tt15,tt15,tt15,tt15,tt15,tt15,tt15,tt15,tt15,tt15,tt15,tt15,tt15,tt15,tt15,tt15,tt15,tt15,tt15,tt15,tt15,tt15,tt15,tt15,tt15,tt15,tt15,tt15,tt15,tt15,tt15,tt15,tt15,tt15,tt15,tt15,tt15,tt15,tt15,tt15,ff15,ff15,ff15,ff15] rfl rfl (any_of HT_.out (by kernel_rfl)) (fun _ _ _ h => h) (Or.inr ⟨by rfl, rfl⟩) ?_ ?_
                 rotate_left
                 ·simp only [Act.put, List.setIfInBounds_toArray, List.set_cons_zero, List.set_cons_succ, i64_w, i32_w]
                  rfl
                 refine pure_ (i := 43) (N := some 107) (v := undef) (a' := ?_) #[tt15,tt15,tt15,tt15,tt15,tt15,tt15,tt15,tt15,tt15,tt15,tt15,tt15,tt15,tt15,tt15,tt15,tt15,tt15,tt15,tt15,tt15,tt15,tt15,tt15,tt15,tt15,tt15,tt15,tt15,tt15,tt15,tt15,tt15,tt15,tt15,tt15,tt15,tt15,tt15,tt15,tt15,tt15,tt15,ff15,ff15,ff15] rfl rfl (any_of HT_.out (by kernel_rfl)) (fun _ _ _ h => h) (Or.inr ⟨by rfl, rfl⟩) ?_ ?_
                 rotate_left
                 ·simp only [Act.put, List.setIfInBounds_toArray, List.set_cons_zero, List.set_cons_succ, i64_w, i32_w]
                  rfl
                 refine pure_ (i := 44) (N := some 108) (v := undef) (a' := ?_) #[tt15,tt15,tt15,tt15,tt15,tt15,tt15,tt15,tt15,tt15,tt15,tt15,tt15,tt15,tt15,tt15,tt15,tt15,tt15,tt15,tt15,tt15,tt15,tt15,tt15,tt15,tt15,tt15,tt15,tt15,tt15,tt15,tt15,tt15,tt15,tt15,tt15,tt15,tt15,tt15,tt15,tt15,tt15,tt15,tt15,ff15,ff15] rfl rfl (any_of HT_.out (by kernel_rfl)) (fun _ _ _ h => h) (Or.inr ⟨by rfl, rfl⟩) ?_ ?_
                 rotate_left
                 ·simp only [Act.put, List.setIfInBounds_toArray, List.set_cons_zero, List.set_cons_succ, i64_w, i32_w]
                  rfl
                 refine pure_ (i := 45) (N := some 109) (v := ?_) (a' := ?_) #[tt15,tt15,tt15,tt15,tt15,tt15,tt15,tt15,tt15,tt15,tt15,tt15,tt15,tt15,tt15,tt15,tt15,tt15,tt15,tt15,tt15,tt15,tt15,tt15,tt15,tt15,tt15,tt15,tt15,tt15,tt15,tt15,tt15,tt15,tt15,tt15,tt15,tt15,tt15,tt15,tt15,tt15,tt15,tt15,tt15,tt15,ff15] rfl rfl (any_of HT_.out (by kernel_rfl)) (fun _ _ _ h => h) (Or.inl ⟨by rfl, ?_⟩) ?_ ?_
                 rotate_left
                 ·intro w'
                  go_simp
                  with_reducible rfl
                 rotate_left
                 ·simp only [Act.put, List.setIfInBounds_toArray, List.set_cons_zero, List.set_cons_succ, i64_w, i32_w]
                  rfl
                 refine pure_ (i := 46) (N := some 110) (v := ?_) (a' := ?_) #[tt15,tt15,tt15,tt15,tt15,tt15,tt15,tt15,tt15,tt15,tt15,tt15,tt15,tt15,tt15,tt15,tt15,tt15,tt15,tt15,tt15,tt15,tt15,tt15,tt15,tt15,tt15,tt15,tt15,tt15,tt15,tt15,tt15,tt15,tt15,tt15,tt15,tt15,tt15,tt15,tt15,tt15,tt15,tt15,tt15,tt15,tt15] rfl rfl (any_of HT_.out (by kernel_rfl)) (fun _ _ _ h => h) (Or.inl ⟨by rfl, ?_⟩) ?_ ?_
                 rotate_left
                 ·intro w'
                  go_simp
                  with_reducible rfl
                 rotate_left
                 ·simp only [Act.put, List.setIfInBounds_toArray, List.set_cons_zero, List.set_cons_succ, i64_w, i32_w]
                  rfl
                 refine done_ (done_of HT_.out (by kernel_rfl)) ?_
                 try go_wp2
                 go_ret
                 exact ⟨by first | rfl | (simp [errW_none, errW_some] <;> rfl) | (simp [*, errW_none, errW_some] <;> rfl), by repeat (first | (with_reducible first | exact HB.out | apply below_alloc | apply pw_below_drewN | apply below_drew1 | refine below_set ?_ GE195.out) | exact HB.out)⟩
               ·rw [if_neg c34] at H
                exact absurd H (by simp)
              ·replace c33 := Bool.eq_false_iff.mpr c33
               subst c33
               have H1 : (some false) = some r := by rw [if_neg (show ¬ (false = true) by decide)] at H; exact H
               clear H
               have H := H1
               clear H1
               obtain rfl := Option.some.inj H
               have hcz47_0 := bc0 BK195.out
               have hcz47_1 := bc1 BK195.out
               have hcz47_2 := bc2 BK195.out
               have hcz47_3 := bc3 BK195.out
               have hfz47_0 := blk_frozen BK195.out 0
               have hfz47_1 := blk_frozen BK195.out 1
               have hfz47_2 := blk_frozen BK195.out 2
               have hfz47_3 := blk_frozen BK195.out 3
               have p200 : 0 ≤ (x54_2 : Int) := of_decide_eq_true (by first | (with_reducible assumption) | assumption)
               have q200 : x54_2 < (l0_3.length : Int) := of_decide_eq_true (by first | (with_reducible assumption) | assumption)
               obtain ⟨ad200, A200_0, c200_0, e200, hx200_0, hl200_0, hi200_0⟩ := at_L1 HR0_3.out x54_2 p200 q200
               cases e200
               replace hx200_0 := (HB.out.cell (World.block_lt_of_cell? w _ hx200_0)).trans hx200_0
               have HR200_0 := Aside0.mk hi200_0
               have HC200_0 := Aside0.mk hl200_0
               clear hi200_0 hl200_0
               replace p200 := eq_true p200
               replace q200 := eq_true q200
               try go_wp2_with (first | ((with_reducible refine gate_callee (f := 64) rfl ?_); refine goesL_ (some 62) rfl rfl Try.func64 (by kernel_rfl) rfl #[.slice A200_0 (rd_L1 l0_3 x54_2).length c200_0, .int .i64 0, .int .i64 7] rfl (by (try simp only [List.map_toArray, List.map_cons, List.map_nil]); first | done | rfl | (simp only [List.length_drop, List.length_take]; rfl)) ?_; (with_reducible refine (impl_isRising.calls k2 _ _ (rd_L1 l0_3 x54_2) 0 7 true _ ?side1 ?side2 A25.out).mono ?_); (case side1 => repeat (first | exact (Kd.C_below HR200_0.out HB.out) | (with_reducible refine Kd.C_alloc ?_ _) | (with_reducible refine Kd.C_drewN ?_ _) | (with_reducible refine Kd.C_drew ?_))); (case side2 => exact HC200_0.out); rintro e w' ⟨rfl, ⟨nd, rfl⟩⟩; refine ⟨_, rfl, ?_⟩))
               (try (rw [drewN_self wr]; generalize hq_ : World.drewN wr _ = wr; have n0_ : Aside0 (wr.heap[gb195]? = some (.cells #[.slice A0_0 l0_0.length c0_0, .slice A0_1 l0_1.length c0_1, .slice A0_2 l0_2.length c0_2, .slice (some ad200) l0_3.length c0_3] 30 (0, 0))) := ⟨by rw [← hq_]; exact (by (with_reducible repeat (first | refine blk_drewN ?_ _ | refine blk_drew ?_ | refine blk_alloc ?_ _)); exact BK195.out)⟩; have n1_ : Aside0 (Below w.heap.size w wr) := ⟨by rw [← hq_]; exact (by repeat (first | (with_reducible first | exact HB.out | apply below_alloc | apply pw_below_drewN | apply below_drew1 | refine below_set ?_ GE195.out) | exact HB.out))⟩; clear BK195 HB hq_; have BK195 := n0_; have HB := n1_; clear n0_ n1_))
               have n0_ := Aside0.mk (blk_drew BK195.out)
               have n1_ := Aside0.mk (below_drew1 HB.out)
               clear BK195
               clear HB
               have BK195 := n0_
               have HB := n1_
               clear n0_ n1_
               have p202 : 0 ≤ (x54_2 : Int) := of_decide_eq_true (by first | (with_reducible assumption) | assumption)
               have q202 : x54_2 < (l0_0.length : Int) := of_decide_eq_true (by first | (with_reducible assumption) | assumption)
               obtain ⟨ad202, e202, hx202_0⟩ := Kd.at_int HR0_0.out x54_2 p202 q202
               have hw202_0 := hx202_0
               cases e202
               replace hx202_0 := (HB.out.cell (World.block_lt_of_cell? w _ hx202_0)).trans hx202_0
               replace p202 := eq_true p202
               replace q202 := eq_true q202
               have p204 : 0 ≤ (x54_2 : Int) := of_decide_eq_true (by first | (with_reducible assumption) | assumption)
               have q204 : x54_2 < (l0_1.length : Int) := of_decide_eq_true (by first | (with_reducible assumption) | assumption)
               obtain ⟨ad204, e204, hx204_0⟩ := Kd.at_int HR0_1.out x54_2 p204 q204
               have hw204_0 := hx204_0
               cases e204
               replace hx204_0 := (HB.out.cell (World.block_lt_of_cell? w _ hx204_0)).trans hx204_0
               replace p204 := eq_true p204
               replace q204 := eq_true q204
               refine start_ (n := 47) (S := fun w' => w'.cell? ⟨gb195, 0, none⟩ = some (.slice (some ad202) l0_0.length c0_0) ∧ w'.cell? ⟨gb195, 1, none⟩ = some (.slice (some ad204) l0_1.length c0_1) ∧ w'.cell? ⟨gb195, 2, none⟩ = some (.slice A0_2 l0_2.length c0_2) ∧ w'.cell? ⟨gb195, 3, none⟩ = some (.slice (some ad200) l0_3.length c0_3) ∧ w'.cell? (ad202.add (x54_2).toNat) = some (.int .i64 (rd l0_0 x54_2)) ∧ w'.cell? (ad204.add (x54_2).toNat) = some (.int .i64 (rd l0_1 x54_2))) (ds := []) #[ff15,ff15,ff15,ff15,ff15,ff15,ff15,ff15,ff15,ff15,ff15,ff15,ff15,ff15,ff15,ff15,ff15,ff15,ff15,ff15,ff15,ff15,ff15,ff15,ff15,ff15,ff15,ff15,ff15,ff15,ff15,ff15,ff15,ff15,ff15,ff15,ff15,ff15,ff15,ff15,ff15,ff15,ff15,ff15,ff15,ff15,ff15] (by kernel_rfl) rfl rfl ⟨(blk_cell BK195.out 0).trans rfl, (blk_cell BK195.out 1).trans rfl, (blk_cell BK195.out 2).trans rfl, (blk_cell BK195.out 3).trans rfl, ((HB.out.cell (World.block_lt_of_cell? w _ hw202_0)).trans hw202_0), ((HB.out.cell (World.block_lt_of_cell? w _ hw204_0)).trans hw204_0)⟩ (fun hHeld => ?_); refine with_tabW impl_GoodAho.tab9 impl_GoodAho.bits9 (fun HT_ HW_ => ?_)
               generalize wr.drew = w48 at BK195 HB hx202_0 hx204_0 hHeld ⊢
               refine pure_ (i := 0) (N := some 64) (v := ?_) (a' := ?_) #[tt15,ff15,ff15,ff15,ff15,ff15,ff15,ff15,ff15,ff15,ff15,ff15,ff15,ff15,ff15,ff15,ff15,ff15,ff15,ff15,ff15,ff15,ff15,ff15,ff15,ff15,ff15,ff15,ff15,ff15,ff15,ff15,ff15,ff15,ff15,ff15,ff15,ff15,ff15,ff15,ff15,ff15,ff15,ff15,ff15,ff15,ff15] rfl rfl (any_of HT_.out (by kernel_rfl)) (fun _ _ _ h => h) (Or.inl ⟨by rfl, ?_⟩) ?_ ?_
               rotate_left
               ·intro w'
                go_simp
                with_reducible rfl
               rotate_left
               ·simp only [Act.put, List.setIfInBounds_toArray, List.set_cons_zero, List.set_cons_succ, i64_w, i32_w]
                rfl
               refine pure_ (i := 1) (N := some 65) (v := ?_) (a' := ?_) #[tt15,tt15,ff15,ff15,ff15,ff15,ff15,ff15,ff15,ff15,ff15,ff15,ff15,ff15,ff15,ff15,ff15,ff15,ff15,ff15,ff15,ff15,ff15,ff15,ff15,ff15,ff15,ff15,ff15,ff15,ff15,ff15,ff15,ff15,ff15,ff15,ff15,ff15,ff15,ff15,ff15,ff15,ff15,ff15,ff15,ff15,ff15] rfl rfl (any_of HT_.out (by kernel_rfl)) (fun _ _ _ h => h) (Or.inl ⟨by rfl, ?_⟩) ?_ ?_
               rotate_left
               ·intro w'
                go_simp
                with_reducible rfl
               rotate_left
               ·simp only [Act.put, List.setIfInBounds_toArray, List.set_cons_zero, List.set_cons_succ, i64_w, i32_w]
                rfl
               refine pure_ (i := 2) (N := some 66) (v := ?_) (a' := ?_) #[tt15,tt15,tt15,ff15,ff15,ff15,ff15,ff15,ff15,ff15,ff15,ff15,ff15,ff15,ff15,ff15,ff15,ff15,ff15,ff15,ff15,ff15,ff15,ff15,ff15,ff15,ff15,ff15,ff15,ff15,ff15,ff15,ff15,ff15,ff15,ff15,ff15,ff15,ff15,ff15,ff15,ff15,ff15,ff15,ff15,ff15,ff15] rfl rfl (any_of HT_.out (by kernel_rfl)) (fun _ _ _ h => h) (Or.inl ⟨by rfl, ?_⟩) ?_ ?_
               rotate_left
               ·intro w'
                go_simp
                with_reducible rfl
               rotate_left
               ·simp only [Act.put, List.setIfInBounds_toArray, List.set_cons_zero, List.set_cons_succ, i64_w, i32_w]
                rfl
               refine pure_ (i := 3) (N := some 67) (v := ?_) (a' := ?_) #[tt15,tt15,tt15,tt15,ff15,ff15,ff15,ff15,ff15,ff15,ff15,ff15,ff15,ff15,ff15,ff15,ff15,ff15,ff15,ff15,ff15,ff15,ff15,ff15,ff15,ff15,ff15,ff15,ff15,ff15,ff15,ff15,ff15,ff15,ff15,ff15,ff15,ff15,ff15,ff15,ff15,ff15,ff15,ff15,ff15,ff15,ff15] rfl rfl (any_of HT_.out (by kernel_rfl)) (fun _ _ _ h => h) (Or.inl ⟨by rfl, ?_⟩) ?_ ?_
               rotate_left
               ·intro w'
                go_simp
                with_reducible rfl
               rotate_left
               ·simp only [Act.put, List.setIfInBounds_toArray, List.set_cons_zero, List.set_cons_succ, i64_w, i32_w]
                rfl
               refine pure_ (i := 5) (N := some 69) (v := ?_) (a' := ?_) #[tt15,tt15,tt15,tt15,ff15,tt15,ff15,ff15,ff15,ff15,ff15,ff15,ff15,ff15,ff15,ff15,ff15,ff15,ff15,ff15,ff15,ff15,ff15,ff15,ff15,ff15,ff15,ff15,ff15,ff15,ff15,ff15,ff15,ff15,ff15,ff15,ff15,ff15,ff15,ff15,ff15,ff15,ff15,ff15,ff15,ff15,ff15] rfl rfl (any_of HT_.out (by kernel_rfl)) (fun _ _ _ h => h) (Or.inl ⟨by rfl, ?_⟩) ?_ ?_
               rotate_left
               ·intro w'
                go_simp
                with_reducible rfl
               rotate_left
               ·simp only [Act.put, List.setIfInBounds_toArray, List.set_cons_zero, List.set_cons_succ, i64_w, i32_w]
                rfl
               refine pure_ (i := 8) (N := some 72) (v := ?_) (a' := ?_) #[tt15,tt15,tt15,tt15,ff15,tt15,ff15,ff15,tt15,ff15,ff15,ff15,ff15,ff15,ff15,ff15,ff15,ff15,ff15,ff15,ff15,ff15,ff15,ff15,ff15,ff15,ff15,ff15,ff15,ff15,ff15,ff15,ff15,ff15,ff15,ff15,ff15,ff15,ff15,ff15,ff15,ff15,ff15,ff15,ff15,ff15,ff15] rfl rfl (any_of HT_.out (by kernel_rfl)) (fun _ _ _ h => h) (Or.inl ⟨by rfl, ?_⟩) ?_ ?_
               rotate_left
               ·intro w'
                go_simp
                with_reducible rfl
               rotate_left
               ·simp only [Act.put, List.setIfInBounds_toArray, List.set_cons_zero, List.set_cons_succ, i64_w, i32_w]
                rfl
               refine take_ (i := 4) (N := some 68) (v := ?_) (a' := ?_) #[tt15,tt15,tt15,tt15,tt15,tt15,ff15,ff15,tt15,ff15,ff15,ff15,ff15,ff15,ff15,ff15,ff15,ff15,ff15,ff15,ff15,ff15,ff15,ff15,ff15,ff15,ff15,ff15,ff15,ff15,ff15,ff15,ff15,ff15,ff15,ff15,ff15,ff15,ff15,ff15,ff15,ff15,ff15,ff15,ff15,ff15,ff15] rfl rfl (take_ofW HT_.out HW_.out (by kernel_rfl)) (fun _ _ _ h => h) (Or.inl ⟨by rfl, ?_⟩) hHeld ?_ ?_
               rotate_left
               ·rintro w' ⟨s0, s1, s2, s3, s4, s5⟩
                go_simp
                with_reducible rfl
               rotate_left
               ·simp only [Act.put, List.setIfInBounds_toArray, List.set_cons_zero, List.set_cons_succ, i64_w, i32_w]
                rfl
               refine pure_ (i := 6) (N := some 70) (v := ?_) (a' := ?_) #[tt15,tt15,tt15,tt15,tt15,tt15,tt15,ff15,tt15,ff15,ff15,ff15,ff15,ff15,ff15,ff15,ff15,ff15,ff15,ff15,ff15,ff15,ff15,ff15,ff15,ff15,ff15,ff15,ff15,ff15,ff15,ff15,ff15,ff15,ff15,ff15,ff15,ff15,ff15,ff15,ff15,ff15,ff15,ff15,ff15,ff15,ff15] rfl rfl (any_of HT_.out (by kernel_rfl)) (fun _ _ _ h => h) (Or.inl ⟨by rfl, ?_⟩) ?_ ?_
               rotate_left
               ·intro w'
                go_simp
                with_reducible rfl
               rotate_left
               ·simp only [Act.put, List.setIfInBounds_toArray, List.set_cons_zero, List.set_cons_succ, i64_w, i32_w]
                rfl
               refine take_ (i := 7) (N := some 71) (v := ?_) (a' := ?_) #[tt15,tt15,tt15,tt15,tt15,tt15,tt15,tt15,tt15,ff15,ff15,ff15,ff15,ff15,ff15,ff15,ff15,ff15,ff15,ff15,ff15,ff15,ff15,ff15,ff15,ff15,ff15,ff15,ff15,ff15,ff15,ff15,ff15,ff15,ff15,ff15,ff15,ff15,ff15,ff15,ff15,ff15,ff15,ff15,ff15,ff15,ff15] rfl rfl (take_ofW HT_.out HW_.out (by kernel_rfl)) (fun _ _ _ h => h) (Or.inl ⟨by rfl, ?_⟩) hHeld ?_ ?_
               rotate_left
               ·rintro w' ⟨s0, s1, s2, s3, s4, s5⟩
                go_simp
                with_reducible rfl
               rotate_left
               ·simp only [Act.put, List.setIfInBounds_toArray, List.set_cons_zero, List.set_cons_succ, i64_w, i32_w]
                rfl
               refine one_ (i := 9) (N := some 73) #[tt15,tt15,tt15,tt15,tt15,tt15,tt15,tt15,tt15,tt15,ff15,ff15,ff15,ff15,ff15,ff15,ff15,ff15,ff15,ff15,ff15,ff15,ff15,ff15,ff15,ff15,ff15,ff15,ff15,ff15,ff15,ff15,ff15,ff15,ff15,ff15,ff15,ff15,ff15,ff15,ff15,ff15,ff15,ff15,ff15,ff15,ff15] rfl rfl (one_of HT_.out (by kernel_rfl)) (by decide) (fun K hK => ?_)
               refine goes_ Try.func65 (by kernel_rfl) rfl #[.int .i64 (rd l0_0 x54_2), .int .i64 x54_2] (by rfl) rfl rfl (by (try simp only [List.map_toArray, List.map_cons, List.map_nil]); first | done | rfl | (simp only [List.length_drop, List.length_take]; rfl)) ?_
               with_reducible refine (impl_isPlace.calls (rd l0_0 x54_2) x54_2 true _ A29.out).mono ?_
               rintro e w' ⟨rfl, ⟨nd, rfl⟩⟩
               refine ⟨_, rfl, ?_⟩
               refine hK.out _ _ ⟨(blk_cell BK195.out 0).trans rfl, (blk_cell BK195.out 1).trans rfl, (blk_cell BK195.out 2).trans rfl, (blk_cell BK195.out 3).trans rfl, ((HB.out.cell (World.block_lt_of_cell? w _ hw202_0)).trans hw202_0), ((HB.out.cell (World.block_lt_of_cell? w _ hw204_0)).trans hw204_0)⟩ (fun hHeld => ?_)
               clear hK K
               refine norm_ (a' := ?_) ?_ ?_
               rotate_left
               ·show Act.put _ (some 73) _ = _
                simp only [Act.put, List.setIfInBounds_toArray, List.set_cons_zero, List.set_cons_succ, i64_w, i32_w]
                rfl
               refine pure_ (i := 10) (N := some 74) (v := ?_) (a' := ?_) #[tt15,tt15,tt15,tt15,tt15,tt15,tt15,tt15,tt15,tt15,tt15,ff15,ff15,ff15,ff15,ff15,ff15,ff15,ff15,ff15,ff15,ff15,ff15,ff15,ff15,ff15,ff15,ff15,ff15,ff15,ff15,ff15,ff15,ff15,ff15,ff15,ff15,ff15,ff15,ff15,ff15,ff15,ff15,ff15,ff15,ff15,ff15] rfl rfl (any_of HT_.out (by kernel_rfl)) (fun _ _ _ h => h) (Or.inl ⟨by rfl, ?_⟩) ?_ ?_
               rotate_left
               ·intro w'
                go_simp
                with_reducible rfl
               rotate_left
               ·simp only [Act.put, List.setIfInBounds_toArray, List.set_cons_zero, List.set_cons_succ, i64_w, i32_w]
                rfl
               refine pure_ (i := 11) (N := some 75) (v := ?_) (a' := ?_) #[tt15,tt15,tt15,tt15,tt15,tt15,tt15,tt15,tt15,tt15,tt15,tt15,ff15,ff15,ff15,ff15,ff15,ff15,ff15,ff15,ff15,ff15,ff15,ff15,ff15,ff15,ff15,ff15,ff15,ff15,ff15,ff15,ff15,ff15,ff15,ff15,ff15,ff15,ff15,ff15,ff15,ff15,ff15,ff15,ff15,ff15,ff15] rfl rfl (any_of HT_.out (by kernel_rfl)) (fun _ _ _ h => h) (Or.inl ⟨by rfl, ?_⟩) ?_ ?_
               rotate_left
               ·intro w'
                go_simp
                with_reducible rfl
               rotate_left
               ·simp only [Act.put, List.setIfInBounds_toArray, List.set_cons_zero, List.set_cons_succ, i64_w, i32_w]
                rfl
               refine pure_ (i := 12) (N := some 76) (v := ?_) (a' := ?_) #[tt15,tt15,tt15,tt15,tt15,tt15,tt15,tt15,tt15,tt15,tt15,tt15,tt15,ff15,ff15,ff15,ff15,ff15,ff15,ff15,ff15,ff15,ff15,ff15,ff15,ff15,ff15,ff15,ff15,ff15,ff15,ff15,ff15,ff15,ff15,ff15,ff15,ff15,ff15,ff15,ff15,ff15,ff15,ff15,ff15,ff15,ff15] rfl rfl (any_of HT_.out (by kernel_rfl)) (fun _ _ _ h => h) (Or.inl ⟨by rfl, ?_⟩) ?_ ?_
               rotate_left
               ·intro w'
                go_simp
                with_reducible rfl
               rotate_left
               ·simp only [Act.put, List.setIfInBounds_toArray, List.set_cons_zero, List.set_cons_succ, i64_w, i32_w]
                rfl
               refine pure_ (i := 14) (N := some 78) (v := ?_) (a' := ?_) #[tt15,tt15,tt15,tt15,tt15,tt15,tt15,tt15,tt15,tt15,tt15,tt15,tt15,ff15,tt15,ff15,ff15,ff15,ff15,ff15,ff15,ff15,ff15,ff15,ff15,ff15,ff15,ff15,ff15,ff15,ff15,ff15,ff15,ff15,ff15,ff15,ff15,ff15,ff15,ff15,ff15,ff15,ff15,ff15,ff15,ff15,ff15] rfl rfl (any_of HT_.out (by kernel_rfl)) (fun _ _ _ h => h) (Or.inl ⟨by rfl, ?_⟩) ?_ ?_
               rotate_left
               ·intro w'
                go_simp
                with_reducible rfl
               rotate_left
               ·simp only [Act.put, List.setIfInBounds_toArray, List.set_cons_zero, List.set_cons_succ, i64_w, i32_w]
                rfl
               refine take_ (i := 13) (N := some 77) (v := ?_) (a' := ?_) #[tt15,tt15,tt15,tt15,tt15,tt15,tt15,tt15,tt15,tt15,tt15,tt15,tt15,tt15,tt15,ff15,ff15,ff15,ff15,ff15,ff15,ff15,ff15,ff15,ff15,ff15,ff15,ff15,ff15,ff15,ff15,ff15,ff15,ff15,ff15,ff15,ff15,ff15,ff15,ff15,ff15,ff15,ff15,ff15,ff15,ff15,ff15] rfl rfl (take_ofW HT_.out HW_.out (by kernel_rfl)) (fun _ _ _ h => h) (Or.inl ⟨by rfl, ?_⟩) hHeld ?_ ?_
               rotate_left
               ·rintro w' ⟨s0, s1, s2, s3, s4, s5⟩
                go_simp
                with_reducible rfl
               rotate_left
               ·simp only [Act.put, List.setIfInBounds_toArray, List.set_cons_zero, List.set_cons_succ, i64_w, i32_w]
                rfl
               refine pure_ (i := 15) (N := some 79) (v := ?_) (a' := ?_) #[tt15,tt15,tt15,tt15,tt15,tt15,tt15,tt15,tt15,tt15,tt15,tt15,tt15,tt15,tt15,tt15,ff15,ff15,ff15,ff15,ff15,ff15,ff15,ff15,ff15,ff15,ff15,ff15,ff15,ff15,ff15,ff15,ff15,ff15,ff15,ff15,ff15,ff15,ff15,ff15,ff15,ff15,ff15,ff15,ff15,ff15,ff15] rfl rfl (any_of HT_.out (by kernel_rfl)) (fun _ _ _ h => h) (Or.inl ⟨by rfl, ?_⟩) ?_ ?_
               rotate_left
               ·intro w'
                go_simp
                with_reducible rfl
               rotate_left
               ·simp only [Act.put, List.setIfInBounds_toArray, List.set_cons_zero, List.set_cons_succ, i64_w, i32_w]
                rfl
               refine take_ (i := 16) (N := some 80) (v := ?_) (a' := ?_) #[tt15,tt15,tt15,tt15,tt15,tt15,tt15,tt15,tt15,tt15,tt15,tt15,tt15,tt15,tt15,tt15,tt15,ff15,ff15,ff15,ff15,ff15,ff15,ff15,ff15,ff15,ff15,ff15,ff15,ff15,ff15,ff15,ff15,ff15,ff15,ff15,ff15,ff15,ff15,ff15,ff15,ff15,ff15,ff15,ff15,ff15,ff15] rfl rfl (take_ofW HT_.out HW_.out (by kernel_rfl)) (fun _ _ _ h => h) (Or.inl ⟨by rfl, ?_⟩) hHeld ?_ ?_
               rotate_left
               ·rintro w' ⟨s0, s1, s2, s3, s4, s5⟩
                go_simp
                with_reducible rfl
               rotate_left
               ·simp only [Act.put, List.setIfInBounds_toArray, List.set_cons_zero, List.set_cons_succ, i64_w, i32_w]
                rfl
               refine one_ (i := 17) (N := some 81) #[tt15,tt15,tt15,tt15,tt15,tt15,tt15,tt15,tt15,tt15,tt15,tt15,tt15,tt15,tt15,tt15,tt15,tt15,ff15,ff15,ff15,ff15,ff15,ff15,ff15,ff15,ff15,ff15,ff15,ff15,ff15,ff15,ff15,ff15,ff15,ff15,ff15,ff15,ff15,ff15,ff15,ff15,ff15,ff15,ff15,ff15,ff15] rfl rfl (one_of HT_.out (by kernel_rfl)) (by decide) (fun K hK => ?_)
               refine goes_ Try.func66 (by kernel_rfl) rfl #[.int .i64 (rd l0_1 x54_2)] (by rfl) rfl rfl (by (try simp only [List.map_toArray, List.map_cons, List.map_nil]); first | done | rfl | (simp only [List.length_drop, List.length_take]; rfl)) ?_
               with_reducible refine (impl_GoodRune.calls (rd l0_1 x54_2) false _ A32.out).mono ?_
               rintro e w' ⟨rfl, ⟨nd, rfl⟩⟩
               refine ⟨_, rfl, ?_⟩
               refine hK.out _ _ ⟨(blk_cell BK195.out 0).trans rfl, (blk_cell BK195.out 1).trans rfl, (blk_cell BK195.out 2).trans rfl, (blk_cell BK195.out 3).trans rfl, ((HB.out.cell (World.block_lt_of_cell? w _ hw202_0)).trans hw202_0), ((HB.out.cell (World.block_lt_of_cell? w _ hw204_0)).trans hw204_0)⟩ (fun hHeld => ?_)
               clear hK K
               refine norm_ (a' := ?_) ?_ ?_
               rotate_left
               ·show Act.put _ (some 81) _ = _
                simp only [Act.put, List.setIfInBounds_toArray, List.set_cons_zero, List.set_cons_succ, i64_w, i32_w]
                rfl
               refine pure_ (i := 18) (N := some 82) (v := ?_) (a' := ?_) #[tt15,tt15,tt15,tt15,tt15,tt15,tt15,tt15,tt15,tt15,tt15,tt15,tt15,tt15,tt15,tt15,tt15,tt15,tt15,ff15,ff15,ff15,ff15,ff15,ff15,ff15,ff15,ff15,ff15,ff15,ff15,ff15,ff15,ff15,ff15,ff15,ff15,ff15,ff15,ff15,ff15,ff15,ff15,ff15,ff15,ff15,ff15] rfl rfl (any_of HT_.out (by kernel_rfl)) (fun _ _ _ h => h) (Or.inl ⟨by rfl, ?_⟩) ?_ ?_
               rotate_left
               ·intro w'
                go_simp
                with_reducible rfl
               rotate_left
               ·simp only [Act.put, List.setIfInBounds_toArray, List.set_cons_zero, List.set_cons_succ, i64_w, i32_w]
                rfl
               refine pure_ (i := 19) (N := some 83) (v := ?_) (a' := ?_) #[tt15,tt15,tt15,tt15,tt15,tt15,tt15,tt15,tt15,tt15,tt15,tt15,tt15,tt15,tt15,tt15,tt15,tt15,tt15,tt15,ff15,ff15,ff15,ff15,ff15,ff15,ff15,ff15,ff15,ff15,ff15,ff15,ff15,ff15,ff15,ff15,ff15,ff15,ff15,ff15,ff15,ff15,ff15,ff15,ff15,ff15,ff15] rfl rfl (any_of HT_.out (by kernel_rfl)) (fun _ _ _ h => h) (Or.inl ⟨by rfl, ?_⟩) ?_ ?_
               rotate_left
               ·intro w'
                go_simp
                with_reducible rfl
               rotate_left
               ·simp only [Act.put, List.setIfInBounds_toArray, List.set_cons_zero, List.set_cons_succ, i64_w, i32_w]
                rfl
               refine pure_ (i := 20) (N := some 84) (v := ?_) (a' := ?_) #[tt15,tt15,tt15,tt15,tt15,tt15,tt15,tt15,tt15,tt15,tt15,tt15,tt15,tt15,tt15,tt15,tt15,tt15,tt15,tt15,tt15,ff15,ff15,ff15,ff15,ff15,ff15,ff15,ff15,ff15,ff15,ff15,ff15,ff15,ff15,ff15,ff15,ff15,ff15,ff15,ff15,ff15,ff15,ff15,ff15,ff15,ff15] rfl rfl (any_of HT_.out (by kernel_rfl)) (fun _ _ _ h => h) (Or.inl ⟨by rfl, ?_⟩) ?_ ?_
               rotate_left
               ·intro w'
                go_simp
                with_reducible rfl
               rotate_left
               ·simp only [Act.put, List.setIfInBounds_toArray, List.set_cons_zero, List.set_cons_succ, i64_w, i32_w]
                rfl
               refine pure_ (i := 21) (N := some 85) (v := undef) (a' := ?_) #[tt15,tt15,tt15,tt15,tt15,tt15,tt15,tt15,tt15,tt15,tt15,tt15,tt15,tt15,tt15,tt15,tt15,tt15,tt15,tt15,tt15,tt15,ff15,ff15,ff15,ff15,ff15,ff15,ff15,ff15,ff15,ff15,ff15,ff15,ff15,ff15,ff15,ff15,ff15,ff15,ff15,ff15,ff15,ff15,ff15,ff15,ff15] rfl rfl (any_of HT_.out (by kernel_rfl)) (fun _ _ _ h => h) (Or.inr ⟨by rfl, rfl⟩) ?_ ?_
               rotate_left
               ·simp only [Act.put, List.setIfInBounds_toArray, List.set_cons_zero, List.set_cons_succ, i64_w, i32_w]
                rfl
               refine pure_ (i := 22) (N := some 86) (v := undef) (a' := ?_) #[tt15,tt15,tt15,tt15,tt15,tt15,tt15,tt15,tt15,tt15,tt15,tt15,tt15,tt15,tt15,tt15,tt15,tt15,tt15,tt15,tt15,tt15,tt15,ff15,ff15,ff15,ff15,ff15,ff15,ff15,ff15,ff15,ff15,ff15,ff15,ff15,ff15,ff15,ff15,ff15,ff15,ff15,ff15,ff15,ff15,ff15,ff15] rfl rfl (any_of HT_.out (by kernel_rfl)) (fun _ _ _ h => h) (Or.inr ⟨by rfl, rfl⟩) ?_ ?_
               rotate_left
               ·simp only [Act.put, List.setIfInBounds_toArray, List.set_cons_zero, List.set_cons_succ, i64_w, i32_w]
                rfl
               refine pure_ (i := 23) (N := some 87) (v := undef) (a' := ?_) #[tt15,tt15,tt15,tt15,tt15,tt15,tt15,tt15,tt15,tt15,tt15,tt15,tt15,tt15,tt15,tt15,tt15,tt15,tt15,tt15,tt15,tt15,tt15,tt15,ff15,ff15,ff15,ff15,ff15,ff15,ff15,ff15,ff15,ff15,ff15,ff15,ff15,ff15,ff15,ff15,ff15,ff15,ff15,ff15,ff15,ff15,ff15] rfl rfl (any_of HT_.out (by kernel_rfl)) (fun _ _ _ h => h) (Or.inr ⟨by rfl, rfl⟩) ?_ ?_
               rotate_left
               ·simp only [Act.put, List.setIfInBounds_toArray, List.set_cons_zero, List.set_cons_succ, i64_w, i32_w]
                rfl
               refine pure_ (i := 24) (N := some 88) (v := undef) (a' := ?_) #[tt15,tt15,tt15,tt15,tt15,tt15,tt15,tt15,tt15,tt15,tt15,tt15,tt15,tt15,tt15,tt15,tt15,tt15,tt15,tt15,tt15,tt15,tt15,tt15,tt15,ff15,ff15,ff15,ff15,ff15,ff15,ff15,ff15,ff15,ff15,ff15,ff15,ff15,ff15,ff15,ff15,ff15,ff15,ff15,ff15,ff15,ff15] rfl rfl (any_of HT_.out (by kernel_rfl)) (fun _ _ _ h => h) (Or.inr ⟨by rfl, rfl⟩) ?_ ?_
               rotate_left
               ·simp only [Act.put, List.setIfInBounds_toArray, List.set_cons_zero, List.set_cons_succ, i64_w, i32_w]
                rfl
               refine pure_ (i := 25) (N := some 89) (v := undef) (a' := ?_) #[tt15,tt15,tt15,tt15,tt15,tt15,tt15,tt15,tt15,tt15,tt15,tt15,tt15,tt15,tt15,tt15,tt15,tt15,tt15,tt15,tt15,tt15,tt15,tt15,tt15,tt15,ff15,ff15,ff15,ff15,ff15,ff15,ff15,ff15,ff15,ff15,ff15,ff15,ff15,ff15,ff15,ff15,ff15,ff15,ff15,ff15,ff15] rfl rfl (any_of HT_.out (by kernel_rfl)) (fun _ _ _ h => h) (Or.inr ⟨by rfl, rfl⟩) ?_ ?_
               rotate_left
               ·simp only [Act.put, List.setIfInBounds_toArray, List.set_cons_zero, List.set_cons_succ, i64_w, i32_w]
                rfl
               refine pure_ (i := 26) (N := some 90) (v := undef) (a' := ?_) #[tt15,tt15,tt15,tt15,tt15,tt15,tt15,tt15,tt15,tt15,tt15,tt15,tt15,tt15,tt15,tt15,tt15,tt15,tt15,tt15,tt15,tt15,tt15,tt15,tt15,tt15,tt15,ff15,ff15,ff15,ff15,ff15,ff15,ff15,ff15,ff15,ff15,ff15,ff15,ff15,ff15,ff15,ff15,ff15,ff15,ff15,ff15] rfl rfl (any_of HT_.out (by kernel_rfl)) (fun _ _ _ h => h) (Or.inr ⟨by rfl, rfl⟩) ?_ ?_
               rotate_left
               ·simp only [Act.put, List.setIfInBounds_toArray, List.set_cons_zero, List.set_cons_succ, i64_w, i32_w]
                rfl
               refine pure_ (i := 27) (N := some 91) (v := undef) (a' := ?_) #[tt15,tt15,tt15,tt15,tt15,tt15,tt15,tt15,tt15,tt15,tt15,tt15,tt15,tt15,tt15,tt15,tt15,tt15,tt15,tt15,tt15,tt15,tt15,tt15,tt15,tt15,tt15,tt15,ff15,ff15,ff15,ff15,ff15,ff15,ff15,ff15,ff15,ff15,ff15,ff15,ff15,ff15,ff15,ff15,ff15,ff15,ff15] rfl rfl (any_of HT_.out (by kernel_rfl)) (fun _ _ _ h => h) (Or.inr ⟨by rfl, rfl⟩) ?_ ?_
               rotate_left
               ·simp only [Act.put, List.setIfInBounds_toArray, List.set_cons_zero, List.set_cons_succ, i64_w, i32_w]
                rfl
               refine pure_ (i := 28) (N := some 92) (v := undef) (a' := ?_) #[tt15,tt15,tt15,tt15,tt15,tt15,tt15,tt15,tt15,tt15,tt15,tt15,tt15,tt15,tt15,tt15,tt15,tt15,tt15,tt15,tt15,tt15,tt15,tt15,tt15,tt15,tt15,tt15,tt15,ff15,ff15,ff15,ff15,ff15,ff15,ff15,ff15,ff15,ff15,ff15,ff15,ff15,ff15,ff15,ff15,ff15,ff15] rfl rfl (any_of HT_.out (by kernel_rfl)) (fun _ _ _ h => h) (Or.inr ⟨by rfl, rfl⟩) ?_ ?_
               rotate_left
               ·simp only [Act.put, List.setIfInBounds_toArray, List.set_cons_zero, List.set_cons_succ, i64_w, i32_w]
                rfl
               refine pure_ (i := 29) (N := some 93) (v := ?_) (a' := ?_) #[tt15,tt15,tt15,tt15,tt15,tt15,tt15,tt15,tt15,tt15,tt15,tt15,tt15,tt15,tt15,tt15,tt15,tt15,tt15,tt15,tt15,tt15,tt15,tt15,tt15,tt15,tt15,tt15,tt15,tt15,ff15,ff15,ff15,ff15,ff15,ff15,ff15,ff15,ff15,ff15,ff15,ff15,ff15,ff15,ff15,ff15,ff15] rfl rfl (any_of HT_.out (by kernel_rfl)) (fun _ _ _ h => h) (Or.inl ⟨by rfl, ?_⟩) ?_ ?_
               rotate_left
               ·intro w'
                go_simp
                with_reducible rfl
               rotate_left
               ·simp only [Act.put, List.setIfInBounds_toArray, List.set_cons_zero, List.set_cons_succ, i64_w, i32_w]
                rfl
               refine pure_ (i := 30) (N := some 94) (v := ?_) (a' := ?_) #[tt15,tt15,tt15,tt15,tt15,tt15,tt15,tt15,tt15,tt15,tt15,tt15,tt15,tt15,tt15,tt15,tt15,tt15,tt15,tt15,tt15,tt15,tt15,tt15,tt15,tt15,tt15,tt15,tt15,tt15,tt15,ff15,ff15,ff15,ff15,ff15,ff15,ff15,ff15,ff15,ff15,ff15,ff15,ff15,ff15,ff15,ff15] rfl rfl (any_of HT_.out (by kernel_rfl)) (fun _ _ _ h => h) (Or.inl ⟨by rfl, ?_⟩) ?_ ?_
               rotate_left
               ·intro w'
                go_simp
                with_reducible rfl
               rotate_left
               ·simp only [Act.put, List.setIfInBounds_toArray, List.set_cons_zero, List.set_cons_succ, i64_w, i32_w]
                rfl
               refine pure_ (i := 31) (N := some 95) (v := undef) (a' := ?_) #[tt15,tt15,tt15,tt15,tt15,tt15,tt15,tt15,tt15,tt15,tt15,tt15,tt15,tt15,tt15,tt15,tt15,tt15,tt15,tt15,tt15,tt15,tt15,tt15,tt15,tt15,tt15,tt15,tt15,tt15,tt15,tt15,ff15,ff15,ff15,ff15,ff15,ff15,ff15,ff15,ff15,ff15,ff15,ff15,ff15,ff15,ff15] rfl rfl (any_of HT_.out (by kernel_rfl)) (fun _ _ _ h => h) (Or.inr ⟨by rfl, rfl⟩) ?_ ?_
               rotate_left
               ·simp only [Act.put, List.setIfInBounds_toArray, List.set_cons_zero, List.set_cons_succ, i64_w, i32_w]
                rfl
               refine pure_ (i := 32) (N := some 96) (v := undef) (a' := ?_) #[tt15,tt15,tt15,tt15,tt15,tt15,tt15,tt15,tt15,tt15,tt15,tt15,tt15,tt15,tt15,tt15,tt15,tt15,tt15,tt15,tt15,tt15,tt15,tt15,tt15,tt15,tt15,tt15,tt15,tt15,tt15,tt15,tt15,ff15,ff15,ff15,ff15,ff15,ff15,ff15,ff15,ff15,ff15,ff15,ff15,ff15,ff15] rfl rfl (any_of HT_.out (by kernel_rfl)) (fun _ _ _ h => h) (Or.inr ⟨by rfl, rfl⟩) ?_ ?_
               rotate_left
               ·simp only [Act.put, List.setIfInBounds_toArray, List.set_cons_zero, List.set_cons_succ, i64_w, i32_w]
                rfl
               refine pure_ (i := 33) (N := some 97) (v := undef) (a' := ?_) #[tt15,tt15,tt15,tt15,tt15,tt15,tt15,tt15,tt15,tt15,tt15,tt15,tt15,tt15,tt15,tt15,tt15,tt15,tt15,tt15,tt15,tt15,tt15,tt15,tt15,tt15,tt15,tt15,tt15,tt15,tt15,tt15,tt15,tt15,ff15,ff15,ff15,ff15,ff15,ff15,ff15,ff15,ff15,ff15,ff15,ff15,ff15] rfl rfl (any_of HT_.out (by kernel_rfl)) (fun _ _ _ h => h) (Or.inr ⟨by rfl, rfl⟩) ?_ ?_
               rotate_left
               ·simp only [Act.put, List.setIfInBounds_toArray, List.set_cons_zero, List.set_cons_succ, i64_w, i32_w]
                rfl
               refine pure_ (i := 34) (N := some 98) (v := undef) (a' := ?_) #[tt15,tt15,tt15,tt15,tt15,tt15,tt15,tt15,tt15,tt15,tt15,tt15,tt15,tt15,tt15,tt15,tt15,tt15,tt15,tt15,tt15,tt15,tt15,tt15,tt15,tt15,tt15,tt15,tt15,tt15,tt15,tt15,tt15,tt15,tt15,ff15,ff15,ff15,ff15,ff15,ff15,ff15,ff15,ff15,ff15,ff15,ff15] rfl rfl (any_of HT_.out (by kernel_rfl)) (fun _ _ _ h => h) (Or.inr ⟨by rfl, rfl⟩) ?_ ?_
               rotate_left
               ·simp only [Act.put, List.setIfInBounds_toArray, List.set_cons_zero, List.set_cons_succ, i64_w, i32_w]
                rfl
               refine pure_ (i := 35) (N := some 99) (v := undef) (a' := ?_) #[tt15,tt15,tt15,tt15,tt15,tt15,tt15,tt15,tt15,tt15,tt15,tt15,tt15,tt15,tt15,tt15,tt15,tt15,tt15,tt15,tt15,tt15,tt15,tt15,tt15,tt15,tt15,tt15,tt15,tt15,tt15,tt15,tt15,tt15,tt15,tt15,ff15,ff15,ff15,ff15,ff15,ff15,ff15,ff15,ff15,ff15,ff15] rfl rfl (any_of HT_.out (by kernel_rfl)) (fun _ _ _ h => h) (Or.inr ⟨by rfl, rfl⟩) ?_ ?_
               rotate_left
               ·simp only [Act.put, List.setIfInBounds_toArray, List.set_cons_zero, List.set_cons_succ, i64_w, i32_w]
                rfl
               refine pure_ (i := 36) (N := some 100) (v := undef) (a' := ?_) #[tt15,tt15,tt15,tt15,tt15,tt15,tt15,tt15,tt15,tt15,tt15,tt15,tt15,tt15,tt15,tt15,tt15,tt15,tt15,tt15,tt15,tt15,tt15,tt15,tt15,tt15,tt15,tt15,tt15,tt15,tt15,tt15,tt15,tt15,tt15,tt15,tt15,ff15,ff15,ff15,ff15,ff15,ff15,ff15,ff15,ff15,ff15] rfl rfl (any_of HT_.out (by kernel_rfl)) (fun _ _ _ h => h) (Or.inr ⟨by rfl, rfl⟩) ?_ ?_
               rotate_left
               ·simp only [Act.put, List.setIfInBounds_toArray, List.set_cons_zero, List.set_cons_succ, i64_w, i32_w]
                rfl
               refine pure_ (i := 37) (N := some 101) (v := undef) (a' := ?_) #[tt15,tt15,tt15,tt15,tt15,tt15,tt15,tt15,tt15,tt15,tt15,tt15,tt15,tt15,tt15,tt15,tt15,tt15,tt15,tt15,tt15,tt15,tt15,tt15,tt15,tt15,tt15,tt15,tt15,tt15,tt15,tt15,tt15,tt15,tt15,tt15,tt15,tt15,ff15,ff15,ff15,ff15,ff15,ff15,ff15,ff15,ff15] rfl rfl (any_of HT_.out (by kernel_rfl)) (fun _ _ _ h => h) (Or.inr ⟨by rfl, rfl⟩) ?_ ?_
               rotate_left
               ·simp only [Act.put, List.setIfInBounds_toArray, List.set_cons_zero, List.set_cons_succ, i64_w, i32_w]
                rfl
               refine pure_ (i := 38) (N := some 102) (v := undef) (a' := ?_) #[tt15,tt15,tt15,tt15,tt15,tt15,tt15,tt15,tt15,tt15,tt15,tt15,tt15,tt15,tt15,tt15,tt15,tt15,tt15,tt15,tt15,tt15,tt15,tt15,tt15,tt15,tt15,tt15,tt15,tt15,tt15,tt15,tt15,tt15,tt15,tt15,tt15,tt15,tt15,ff15,ff15,ff15,ff15,ff15,ff15,ff15,ff15] rfl rfl (any_of HT_.out (by kernel_rfl)) (fun _ _ _ h => h) (Or.inr ⟨by rfl, rfl⟩) ?_ ?_
               rotate_left
               ·simp only [Act.put, List.setIfInBounds_toArray, List.set_cons_zero, List.set_cons_succ, i64_w, i32_w]
                rfl
               refine pure_ (i := 39) (N := some 103) (v := undef) (a' := ?_) #[tt15,tt15,tt15,tt15,tt15,tt15,tt15,tt15,tt15,tt15,tt15,tt15,tt15,tt15,tt15,tt15,tt15,tt15,tt15,tt15,tt15,tt15,tt15,tt15,tt15,tt15,tt15,tt15,tt15,tt15,tt15,tt15,tt15,tt15,tt15,tt15,tt15,tt15,tt15,tt15,ff15,ff15,ff15,ff15,ff15,ff15,ff15] rfl rfl (any_of HT_.out (by kernel_rfl)) (fun _ _ _ h => h) (Or.inr ⟨by rfl, rfl⟩) ?_ ?_
               rotate_left
               ·simp only [Act.put, List.setIfInBounds_toArray, List.set_cons_zero, List.set_cons_succ, i64_w, i32_w]
                rfl
               refine pure_ (i := 40) (N := some 104) (v := undef) (a' := ?_) #[tt15,tt15,tt15,tt15,tt15,tt15,tt15,tt15,tt15,tt15,tt15,tt15,tt15,tt15,tt15,tt15,tt15,tt15,tt15,tt15,tt15,tt15,tt15,tt15,tt15,tt15,tt15,tt15,tt15,tt15,tt15,tt15,tt15,tt15,tt15,tt15,tt15,tt15,tt15,tt15,tt15,ff15,ff15,ff15,ff15,ff15,ff15] rfl rfl (any_of HT_.out (by kernel_rfl)) (fun _ _ _ h => h) (Or.inr ⟨by rfl, rfl⟩) ?_ ?_
               rotate_left
               ·simp only [Act.put, List.setIfInBounds_toArray, List.set_cons_zero, List.set_cons_succ, i64_w, i32_w]
                rfl
               refine pure_ (i := 41) (N := some 105) (v := undef) (a' := ?_) #[tt15,tt15,tt15,tt15,tt15,tt15,tt15,tt15,tt15,tt15,tt15,tt15,tt15,tt15,tt15,tt15,tt15,tt15,tt15,tt15,tt15,tt15,tt15,tt15,tt15,tt15,tt15,tt15,tt15,tt15,tt15,tt15,tt15,tt15,tt15,tt15,tt15,tt15,tt15,tt15,tt15,tt15,ff15,ff15,ff15,ff15,ff15] rfl rfl (any_of HT_.out (by kernel_rfl)) (fun _ _ _ h => h) (Or.inr ⟨by rfl, rfl⟩) ?_ ?_
               rotate_left
               ·simp only [Act.put, List.setIfInBounds_toArray, List.set_cons_zero, List.set_cons_succ, i64_w, i32_w]
                rfl
               refine pure_ (i := 42) (N := some 106) (v := undef) (a' := ?_) #[tt15,tt15,tt15,tt15,tt15,tt15,tt15,tt15,tt15,tt15,tt15,tt15,tt15,tt15,tt15,tt15,tt15,tt15,tt15,tt15,tt15,tt15,tt15,tt15,tt15,tt15,tt15,tt15,tt15,tt15,tt15,tt15,tt15,tt15,tt15,tt15,tt15,tt15,tt15,tt15,tt15,tt15,tt15,ff15,ff15,ff15,ff15] rfl rfl (any_of HT_.out (by kernel_rfl)) (fun _ _ _ h => h) (Or.inr ⟨by rfl, rfl⟩) ?_ ?_
               rotate_left
               ·simp only [Act.put, List.setIfInBounds_toArray, List.set_cons_zero, List.set_cons_succ, i64_w, i32_w]
                rfl
               refine pure_ (i := 43) (N := some 107) (v := undef) (a' := ?_) #[tt15,tt15,tt15,tt15,tt15,tt15,tt15,tt15,tt15,tt15,tt15,tt15,tt15,tt15,tt15,tt15,tt15,tt15,tt15,tt15,tt15,tt15,tt15,tt15,tt15,tt15,tt15,tt15,tt15,tt15,tt15,tt15,tt15,tt15,tt15,tt15,tt15,tt15,tt15,tt15,tt15,tt15,tt15,tt15,ff15,ff15,ff15] rfl rfl (any_of HT_.out (by kernel_rfl)) (fun _ _ _ h => h) (Or.inr ⟨by rfl, rfl⟩) ?_ ?_
               rotate_left
               ·simp only [Act.put, List.setIfInBounds_toArray, List.set_cons_zero, List.set_cons_succ, i64_w, i32_w]
                rfl
               refine pure_ (i := 44) (N := some 108) (v := undef) (a' := ?_) #[tt15,tt15,tt15,tt15,tt15,tt15,tt15,tt15,tt15,tt15,tt15,tt15,tt15,tt15,tt15,tt15,tt15,tt15,tt15,tt15,tt15,tt15,tt15,tt15,tt15,tt15,tt15,tt15,tt15,tt15,tt15,tt15,tt15,tt15,tt15,tt15,tt15,tt15,tt15,tt15,tt15,tt15,tt15,tt15,tt15,ff15,ff15] rfl rfl (any_of HT_.out (by kernel_rfl)) (fun _ _ _ h => h) (Or.inr ⟨by rfl, rfl⟩) ?_ ?_
               rotate_left
               ·simp only [Act.put, List.setIfInBounds_toArray, List.set_cons_zero, List.set_cons_succ, i64_w, i32_w]
                rfl
               refine pure_ (i := 45) (N := some 109) (v := ?_) (a' := ?_) #[tt15,tt15,tt15,tt15,tt15,tt15,tt15,tt15,tt15,tt15,tt15,tt15,tt15,tt15,tt15,tt15,tt15,tt15,tt15,tt15,tt15,tt15,tt15,tt15,tt15,tt15,tt15,tt15,tt15,tt15,tt15,tt15,tt15,tt15,tt15,tt15,tt15,tt15,tt15,tt15,tt15,tt15,tt15,tt15,tt15,tt15,ff15] rfl rfl (any_of HT_.out (by kernel_rfl)) (fun _ _ _ h => h) (Or.inl ⟨by rfl, ?_⟩) ?_ ?_
               rotate_left
               ·intro w'
                go_simp
                with_reducible rfl
               rotate_left
               ·simp only [Act.put, List.setIfInBounds_toArray, List.set_cons_zero, List.set_cons_succ, i64_w, i32_w]
                rfl
               refine pure_ (i := 46) (N := some 110) (v := ?_) (a' := ?_) #[tt15,tt15,tt15,tt15,tt15,tt15,tt15,tt15,tt15,tt15,tt15,tt15,tt15,tt15,tt15,tt15,tt15,tt15,tt15,tt15,tt15,tt15,tt15,tt15,tt15,tt15,tt15,tt15,tt15,tt15,tt15,tt15,tt15,tt15,tt15,tt15,tt15,tt15,tt15,tt15,tt15,tt15,tt15,tt15,tt15,tt15,tt15] rfl rfl (any_of HT_.out (by kernel_rfl)) (fun _ _ _ h => h) (Or.inl ⟨by rfl, ?_⟩) ?_ ?_
               rotate_left
               ·intro w'
                go_simp
                with_reducible rfl
               rotate_left
               ·simp only [Act.put, List.setIfInBounds_toArray, List.set_cons_zero, List.set_cons_succ, i64_w, i32_w]
                rfl
               refine done_ (done_of HT_.out (by kernel_rfl)) ?_
               try go_wp2
               go_ret
               exact ⟨by first | rfl | (simp [errW_none, errW_some] <;> rfl) | (simp [*, errW_none, errW_some] <;> rfl), by repeat (first | (with_reducible first | exact HB.out | apply below_alloc | apply pw_below_drewN | apply below_drew1 | refine below_set ?_ GE195.out) | exact HB.out)⟩
             ·rw [if_neg c31] at H
              exact absurd H (by simp)
            ·replace c30 := Bool.eq_false_iff.mpr c30
             subst c30
             have H1 : (some false) = some r := by rw [if_neg (show ¬ (false = true) by decide)] at H; exact H
             clear H
             have H := H1
             clear H1
             obtain rfl := Option.some.inj H
             have hcz49_0 := bc0 BK195.out
             have hcz49_1 := bc1 BK195.out
             have hcz49_2 := bc2 BK195.out
             have hcz49_3 := bc3 BK195.out
             have hfz49_0 := blk_frozen BK195.out 0
             have hfz49_1 := blk_frozen BK195.out 1
             have hfz49_2 := blk_frozen BK195.out 2
             have hfz49_3 := blk_frozen BK195.out 3
             have p200 : 0 ≤ (x54_2 : Int) := of_decide_eq_true (by first | (with_reducible assumption) | assumption)
             have q200 : x54_2 < (l0_3.length : Int) := of_decide_eq_true (by first | (with_reducible assumption) | assumption)
             obtain ⟨ad200, A200_0, c200_0, e200, hx200_0, hl200_0, hi200_0⟩ := at_L1 HR0_3.out x54_2 p200 q200
             cases e200
             replace hx200_0 := (HB.out.cell (World.block_lt_of_cell? w _ hx200_0)).trans hx200_0
             have HR200_0 := Aside0.mk hi200_0
             have HC200_0 := Aside0.mk hl200_0
             clear hi200_0 hl200_0
             replace p200 := eq_true p200
             replace q200 := eq_true q200
             try go_wp2_with (first | ((with_reducible refine gate_callee (f := 64) rfl ?_); refine goesL_ (some 62) rfl rfl Try.func64 (by kernel_rfl) rfl #[.slice A200_0 (rd_L1 l0_3 x54_2).length c200_0, .int .i64 0, .int .i64 7] rfl (by (try simp only [List.map_toArray, List.map_cons, List.map_nil]); first | done | rfl | (simp only [List.length_drop, List.length_take]; rfl)) ?_; (with_reducible refine (impl_isRising.calls k2 _ _ (rd_L1 l0_3 x54_2) 0 7 true _ ?side1 ?side2 A25.out).mono ?_); (case side1 => repeat (first | exact (Kd.C_below HR200_0.out HB.out) | (with_reducible refine Kd.C_alloc ?_ _) | (with_reducible refine Kd.C_drewN ?_ _) | (with_reducible refine Kd.C_drew ?_))); (case side2 => exact HC200_0.out); rintro e w' ⟨rfl, ⟨nd, rfl⟩⟩; refine ⟨_, rfl, ?_⟩))
             (try (rw [drewN_self wr]; generalize hq_ : World.drewN wr _ = wr; have n0_ : Aside0 (wr.heap[gb195]? = some (.cells #[.slice A0_0 l0_0.length c0_0, .slice A0_1 l0_1.length c0_1, .slice A0_2 l0_2.length c0_2, .slice (some ad200) l0_3.length c0_3] 30 (0, 0))) := ⟨by rw [← hq_]; exact (by (with_reducible repeat (first | refine blk_drewN ?_ _ | refine blk_drew ?_ | refine blk_alloc ?_ _)); exact BK195.out)⟩; have n1_ : Aside0 (Below w.heap.size w wr) := ⟨by rw [← hq_]; exact (by repeat (first | (with_reducible first | exact HB.out | apply below_alloc | apply pw_below_drewN | apply below_drew1 | refine below_set ?_ GE195.out) | exact HB.out))⟩; clear BK195 HB hq_; have BK195 := n0_; have HB := n1_; clear n0_ n1_))
             have n0_ := Aside0.mk (blk_drew BK195.out)
             have n1_ := Aside0.mk (below_drew1 HB.out)
             clear BK195
             clear HB
             have BK195 := n0_
             have HB := n1_
             clear n0_ n1_
             have p202 : 0 ≤ (x54_2 : Int) := of_decide_eq_true (by first | (with_reducible assumption) | assumption)
             have q202 : x54_2 < (l0_0.length : Int) := of_decide_eq_true (by first | (with_reducible assumption) | assumption)
             obtain ⟨ad202, e202, hx202_0⟩ := Kd.at_int HR0_0.out x54_2 p202 q202
             have hw202_0 := hx202_0
             cases e202
             replace hx202_0 := (HB.out.cell (World.block_lt_of_cell? w _ hx202_0)).trans hx202_0
             replace p202 := eq_true p202
             replace q202 := eq_true q202
             refine start_ (n := 47) (S := fun w' => w'.cell? ⟨gb195, 0, none⟩ = some (.slice (some ad202) l0_0.length c0_0) ∧ w'.cell? ⟨gb195, 1, none⟩ = some (.slice A0_1 l0_1.length c0_1) ∧ w'.cell? ⟨gb195, 2, none⟩ = some (.slice A0_2 l0_2.length c0_2) ∧ w'.cell? ⟨gb195, 3, none⟩ = some (.slice (some ad200) l0_3.length c0_3) ∧ w'.cell? (ad202.add (x54_2).toNat) = some (.int .i64 (rd l0_0 x54_2))) (ds := []) #[ff15,ff15,ff15,ff15,ff15,ff15,ff15,ff15,ff15,ff15,ff15,ff15,ff15,ff15,ff15,ff15,ff15,ff15,ff15,ff15,ff15,ff15,ff15,ff15,ff15,ff15,ff15,ff15,ff15,ff15,ff15,ff15,ff15,ff15,ff15,ff15,ff15,ff15,ff15,ff15,ff15,ff15,ff15,ff15,ff15,ff15,ff15] (by kernel_rfl) rfl rfl ⟨(blk_cell BK195.out 0).trans rfl, (blk_cell BK195.out 1).trans rfl, (blk_cell BK195.out 2).trans rfl, (blk_cell BK195.out 3).trans rfl, ((HB.out.cell (World.block_lt_of_cell? w _ hw202_0)).trans hw202_0)⟩ (fun hHeld => ?_); refine with_tabW impl_GoodAho.tab9 impl_GoodAho.bits9 (fun HT_ HW_ => ?_)
             generalize wr.drew = w50 at BK195 HB hx202_0 hHeld ⊢
             refine pure_ (i := 0) (N := some 64) (v := ?_) (a' := ?_) #[tt15,ff15,ff15,ff15,ff15,ff15,ff15,ff15,ff15,ff15,ff15,ff15,ff15,ff15,ff15,ff15,ff15,ff15,ff15,ff15,ff15,ff15,ff15,ff15,ff15,ff15,ff15,ff15,ff15,ff15,ff15,ff15,ff15,ff15,ff15,ff15,ff15,ff15,ff15,ff15,ff15,ff15,ff15,ff15,ff15,ff15,ff15] rfl rfl (any_of HT_.out (by kernel_rfl)) (fun _ _ _ h => h) (Or.inl ⟨by rfl, ?_⟩) ?_ ?_
             rotate_left
             ·intro w'
              go_simp
              with_reducible rfl
             rotate_left
             ·simp only [Act.put, List.setIfInBounds_toArray, List.set_cons_zero, List.set_cons_succ, i64_w, i32_w]
              rfl
             refine pure_ (i := 1) (N := some 65) (v := ?_) (a' := ?_) #[tt15,tt15,ff15,ff15,ff15,ff15,ff15,ff15,ff15,ff15,ff15,ff15,ff15,ff15,ff15,ff15,ff15,ff15,ff15,ff15,ff15,ff15,ff15,ff15,ff15,ff15,ff15,ff15,ff15,ff15,ff15,ff15,ff15,ff15,ff15,ff15,ff15,ff15,ff15,ff15,ff15,ff15,ff15,ff15,ff15,ff15,ff15] rfl rfl (any_of HT_.out (by kernel_rfl)) (fun _ _ _ h => h) (Or.inl ⟨by rfl, ?_⟩) ?_ ?_
             rotate_left
             ·intro w'
              go_simp
              with_reducible rfl
             rotate_left
             ·simp only [Act.put, List.setIfInBounds_toArray, List.set_cons_zero, List.set_cons_succ, i64_w, i32_w]
              rfl
             refine pure_ (i := 2) (N := some 66) (v := ?_) (a' := ?_) #[tt15,tt15,tt15,ff15,ff15,ff15,ff15,ff15,ff15,ff15,ff15,ff15,ff15,ff15,ff15,ff15,ff15,ff15,ff15,ff15,ff15,ff15,ff15,ff15,ff15,ff15,ff15,ff15,ff15,ff15,ff15,ff15,ff15,ff15,ff15,ff15,ff15,ff15,ff15,ff15,ff15,ff15,ff15,ff15,ff15,ff15,ff15] rfl rfl (any_of HT_.out (by kernel_rfl)) (fun _ _ _ h => h) (Or.inl ⟨by rfl, ?_⟩) ?_ ?_
             rotate_left
             ·intro w'
              go_simp
              with_reducible rfl
             rotate_left
             ·simp only [Act.put, List.setIfInBounds_toArray, List.set_cons_zero, List.set_cons_succ, i64_w, i32_w]
              rfl
             refine pure_ (i := 3) (N := some 67) (v := ?_) (a' := ?_) #[tt15,tt15,tt15,tt15,ff15,ff15,ff15,ff15,ff15,ff15,ff15,ff15,ff15,ff15,ff15,ff15,ff15,ff15,ff15,ff15,ff15,ff15,ff15,ff15,ff15,ff15,ff15,ff15,ff15,ff15,ff15,ff15,ff15,ff15,ff15,ff15,ff15,ff15,ff15,ff15,ff15,ff15,ff15,ff15,ff15,ff15,ff15] rfl rfl (any_of HT_.out (by kernel_rfl)) (fun _ _ _ h => h) (Or.inl ⟨by rfl, ?_⟩) ?_ ?_
             rotate_left
             ·intro w'
              go_simp
              with_reducible rfl
             rotate_left
             ·simp only [Act.put, List.setIfInBounds_toArray, List.set_cons_zero, List.set_cons_succ, i64_w, i32_w]
              rfl
             refine pure_ (i := 5) (N := some 69) (v := ?_) (a' := ?_) #[tt15,tt15,tt15,tt15,ff15,tt15,ff15,ff15,ff15,ff15,ff15,ff15,ff15,ff15,ff15,ff15,ff15,ff15,ff15,ff15,ff15,ff15,ff15,ff15,ff15,ff15,ff15,ff15,ff15,ff15,ff15,ff15,ff15,ff15,ff15,ff15,ff15,ff15,ff15,ff15,ff15,ff15,ff15,ff15,ff15,ff15,ff15] rfl rfl (any_of HT_.out (by kernel_rfl)) (fun _ _ _ h => h) (Or.inl ⟨by rfl, ?_⟩) ?_ ?_
             rotate_left
             ·intro w'
              go_simp
              with_reducible rfl
             rotate_left
             ·simp only [Act.put, List.setIfInBounds_toArray, List.set_cons_zero, List.set_cons_succ, i64_w, i32_w]
              rfl
             refine pure_ (i := 8) (N := some 72) (v := ?_) (a' := ?_) #[tt15,tt15,tt15,tt15,ff15,tt15,ff15,ff15,tt15,ff15,ff15,ff15,ff15,ff15,ff15,ff15,ff15,ff15,ff15,ff15,ff15,ff15,ff15,ff15,ff15,ff15,ff15,ff15,ff15,ff15,ff15,ff15,ff15,ff15,ff15,ff15,ff15,ff15,ff15,ff15,ff15,ff15,ff15,ff15,ff15,ff15,ff15] rfl rfl (any_of HT_.out (by kernel_rfl)) (fun _ _ _ h => h) (Or.inl ⟨by rfl, ?_⟩) ?_ ?_
             rotate_left
             ·intro w'
              go_simp
              with_reducible rfl
             rotate_left
             ·simp only [Act.put, List.setIfInBounds_toArray, List.set_cons_zero, List.set_cons_succ, i64_w, i32_w]
              rfl
             refine take_ (i := 4) (N := some 68) (v := ?_) (a' := ?_) #[tt15,tt15,tt15,tt15,tt15,tt15,ff15,ff15,tt15,ff15,ff15,ff15,ff15,ff15,ff15,ff15,ff15,ff15,ff15,ff15,ff15,ff15,ff15,ff15,ff15,ff15,ff15,ff15,ff15,ff15,ff15,ff15,ff15,ff15,ff15,ff15,ff15,ff15,ff15,ff15,ff15,ff15,ff15,ff15,ff15,ff15,ff15] rfl rfl (take_ofW HT_.out HW_.out (by kernel_rfl)) (fun _ _ _ h => h) (Or.inl ⟨by rfl, ?_⟩) hHeld ?_ ?_
             rotate_left
             ·rintro w' ⟨s0, s1, s2, s3, s4⟩
              go_simp
              with_reducible rfl
             rotate_left
             ·simp only [Act.put, List.setIfInBounds_toArray, List.set_cons_zero, List.set_cons_succ, i64_w, i32_w]
              rfl
             refine pure_ (i := 6) (N := some 70) (v := ?_) (a' := ?_) #[tt15,tt15,tt15,tt15,tt15,tt15,tt15,ff15,tt15,ff15,ff15,ff15,ff15,ff15,ff15,ff15,ff15,ff15,ff15,ff15,ff15,ff15,ff15,ff15,ff15,ff15,ff15,ff15,ff15,ff15,ff15,ff15,ff15,ff15,ff15,ff15,ff15,ff15,ff15,ff15,ff15,ff15,ff15,ff15,ff15,ff15,ff15] rfl rfl (any_of HT_.out (by kernel_rfl)) (fun _ _ _ h => h) (Or.inl ⟨by rfl, ?_⟩) ?_ ?_
             rotate_left
             ·intro w'
              go_simp
              with_reducible rfl
             rotate_left
             ·simp only [Act.put, List.setIfInBounds_toArray, List.set_cons_zero, List.set_cons_succ, i64_w, i32_w]
              rfl
             refine take_ (i := 7) (N := some 71) (v := ?_) (a' := ?_) #[tt15,tt15,tt15,tt15,tt15,tt15,tt15,tt15,tt15,ff15,ff15,ff15,ff15,ff15,ff15,ff15,ff15,ff15,ff15,ff15,ff15,ff15,ff15,ff15,ff15,ff15,ff15,ff15,ff15,ff15,ff15,ff15,ff15,ff15,ff15,ff15,ff15,ff15,ff15,ff15,ff15,ff15,ff15,ff15,ff15,ff15,ff15] rfl rfl (take_ofW HT_.out HW_.out (by kernel_rfl)) (fun _ _ _ h => h) (Or.inl ⟨by rfl, ?_⟩) hHeld ?_ ?_
             rotate_left
             ·rintro w' ⟨s0, s1, s2, s3, s4⟩
              go_simp
              with_reducible rfl
             rotate_left
             ·simp only [Act.put, List.setIfInBounds_toArray, List.set_cons_zero, List.set_cons_succ, i64_w, i32_w]
              rfl
             refine one_ (i := 9) (N := some 73) #[tt15,tt15,tt15,tt15,tt15,tt15,tt15,tt15,tt15,tt15,ff15,ff15,ff15,ff15,ff15,ff15,ff15,ff15,ff15,ff15,ff15,ff15,ff15,ff15,ff15,ff15,ff15,ff15,ff15,ff15,ff15,ff15,ff15,ff15,ff15,ff15,ff15,ff15,ff15,ff15,ff15,ff15,ff15,ff15,ff15,ff15,ff15] rfl rfl (one_of HT_.out (by kernel_rfl)) (by decide) (fun K hK => ?_)
             refine goes_ Try.func65 (by kernel_rfl) rfl #[.int .i64 (rd l0_0 x54_2), .int .i64 x54_2] (by rfl) rfl rfl (by (try simp only [List.map_toArray, List.map_cons, List.map_nil]); first | done | rfl | (simp only [List.length_drop, List.length_take]; rfl)) ?_
             with_reducible refine (impl_isPlace.calls (rd l0_0 x54_2) x54_2 false _ A29.out).mono ?_
             rintro e w' ⟨rfl, ⟨nd, rfl⟩⟩
             refine ⟨_, rfl, ?_⟩
             refine hK.out _ _ ⟨(blk_cell BK195.out 0).trans rfl, (blk_cell BK195.out 1).trans rfl, (blk_cell BK195.out 2).trans rfl, (blk_cell BK195.out 3).trans rfl, ((HB.out.cell (World.block_lt_of_cell? w _ hw202_0)).trans hw202_0)⟩ (fun hHeld => ?_)
             clear hK K
             refine norm_ (a' := ?_) ?_ ?_
             rotate_left
             ·show Act.put _ (some 73) _ = _
              simp only [Act.put, List.setIfInBounds_toArray, List.set_cons_zero, List.set_cons_succ, i64_w, i32_w]
              rfl
             refine pure_ (i := 10) (N := some 74) (v := ?_) (a' := ?_) #[tt15,tt15,tt15,tt15,tt15,tt15,tt15,tt15,tt15,tt15,tt15,ff15,ff15,ff15,ff15,ff15,ff15,ff15,ff15,ff15,ff15,ff15,ff15,ff15,ff15,ff15,ff15,ff15,ff15,ff15,ff15,ff15,ff15,ff15,ff15,ff15,ff15,ff15,ff15,ff15,ff15,ff15,ff15,ff15,ff15,ff15,ff15] rfl rfl (any_of HT_.out (by kernel_rfl)) (fun _ _ _ h => h) (Or.inl ⟨by rfl, ?_⟩) ?_ ?_
             rotate_left
             ·intro w'
              go_simp
              with_reducible rfl
             rotate_left
             ·simp only [Act.put, List.setIfInBounds_toArray, List.set_cons_zero, List.set_cons_succ, i64_w, i32_w]
              rfl
             refine pure_ (i := 11) (N := some 75) (v := ?_) (a' := ?_) #[tt15,tt15,tt15,tt15,tt15,tt15,tt15,tt15,tt15,tt15,tt15,tt15,ff15,ff15,ff15,ff15,ff15,ff15,ff15,ff15,ff15,ff15,ff15,ff15,ff15,ff15,ff15,ff15,ff15,ff15,ff15,ff15,ff15,ff15,ff15,ff15,ff15,ff15,ff15,ff15,ff15,ff15,ff15,ff15,ff15,ff15,ff15] rfl rfl (any_of HT_.out (by kernel_rfl)) (fun _ _ _ h => h) (Or.inl ⟨by rfl, ?_⟩) ?_ ?_
             rotate_left
             ·intro w'
              go_simp
              with_reducible rfl
             rotate_left
             ·simp only [Act.put, List.setIfInBounds_toArray, List.set_cons_zero, List.set_cons_succ, i64_w, i32_w]
              rfl
             refine pure_ (i := 12) (N := some 76) (v := undef) (a' := ?_) #[tt15,tt15,tt15,tt15,tt15,tt15,tt15,tt15,tt15,tt15,tt15,tt15,tt15,ff15,ff15,ff15,ff15,ff15,ff15,ff15,ff15,ff15,ff15,ff15,ff15,ff15,ff15,ff15,ff15,ff15,ff15,ff15,ff15,ff15,ff15,ff15,ff15,ff15,ff15,ff15,ff15,ff15,ff15,ff15,ff15,ff15,ff15] rfl rfl (any_of HT_.out (by kernel_rfl)) (fun _ _ _ h => h) (Or.inr ⟨by rfl, rfl⟩) ?_ ?_
             rotate_left
             ·simp only [Act.put, List.setIfInBounds_toArray, List.set_cons_zero, List.set_cons_succ, i64_w, i32_w]
              rfl
             refine pure_ (i := 13) (N := some 77) (v := undef) (a' := ?_) #[tt15,tt15,tt15,tt15,tt15,tt15,tt15,tt15,tt15,tt15,tt15,tt15,tt15,tt15,ff15,ff15,ff15,ff15,ff15,ff15,ff15,ff15,ff15,ff15,ff15,ff15,ff15,ff15,ff15,ff15,ff15,ff15,ff15,ff15,ff15,ff15,ff15,ff15,ff15,ff15,ff15,ff15,ff15,ff15,ff15,ff15,ff15] rfl rfl (any_of HT_.out (by kernel_rfl)) (fun _ _ _ h => h) (Or.inr ⟨by rfl, rfl⟩) ?_ ?_
             rotate_left
             ·simp only [Act.put, List.setIfInBounds_toArray, List.set_cons_zero, List.set_cons_succ, i64_w, i32_w]
              rfl
             refine pure_ (i := 14) (N := some 78) (v := undef) (a' := ?_) #[tt15,tt15,tt15,tt15,tt15,tt15,tt15,tt15,tt15,tt15,tt15,tt15,tt15,tt15,tt15,ff15,ff15,ff15,ff15,ff15,ff15,ff15,ff15,ff15,ff15,ff15,ff15,ff15,ff15,ff15,ff15,ff15,ff15,ff15,ff15,ff15,ff15,ff15,ff15,ff15,ff15,ff15,ff15,ff15,ff15,ff15,ff15] rfl rfl (any_of HT_.out (by kernel_rfl)) (fun _ _ _ h => h) (Or.inr ⟨by rfl, rfl⟩) ?_ ?_
             rotate_left
             ·simp only [Act.put, List.setIfInBounds_toArray, List.set_cons_zero, List.set_cons_succ, i64_w, i32_w]
              rfl
             refine pure_ (i := 15) (N := some 79) (v := undef) (a' := ?_) #[tt15,tt15,tt15,tt15,tt15,tt15,tt15,tt15,tt15,tt15,tt15,tt15,tt15,tt15,tt15,tt15,ff15,ff15,ff15,ff15,ff15,ff15,ff15,ff15,ff15,ff15,ff15,ff15,ff15,ff15,ff15,ff15,ff15,ff15,ff15,ff15,ff15,ff15,ff15,ff15,ff15,ff15,ff15,ff15,ff15,ff15,ff15] rfl rfl (any_of HT_.out (by kernel_rfl)) (fun _ _ _ h => h) (Or.inr ⟨by rfl, rfl⟩) ?_ ?_
             rotate_left
             ·simp only [Act.put, List.setIfInBounds_toArray, List.set_cons_zero, List.set_cons_succ, i64_w, i32_w]
              rfl
             refine pure_ (i := 16) (N := some 80) (v := undef) (a' := ?_) #[tt15,tt15,tt15,tt15,tt15,tt15,tt15,tt15,tt15,tt15,tt15,tt15,tt15,tt15,tt15,tt15,tt15,ff15,ff15,ff15,ff15,ff15,ff15,ff15,ff15,ff15,ff15,ff15,ff15,ff15,ff15,ff15,ff15,ff15,ff15,ff15,ff15,ff15,ff15,ff15,ff15,ff15,ff15,ff15,ff15,ff15,ff15] rfl rfl (any_of HT_.out (by kernel_rfl)) (fun _ _ _ h => h) (Or.inr ⟨by rfl, rfl⟩) ?_ ?_
             rotate_left
             ·simp only [Act.put, List.setIfInBounds_toArray, List.set_cons_zero, List.set_cons_succ, i64_w, i32_w]
              rfl
             refine pure_ (i := 17) (N := some 81) (v := undef) (a' := ?_) #[tt15,tt15,tt15,tt15,tt15,tt15,tt15,tt15,tt15,tt15,tt15,tt15,tt15,tt15,tt15,tt15,tt15,tt15,ff15,ff15,ff15,ff15,ff15,ff15,ff15,ff15,ff15,ff15,ff15,ff15,ff15,ff15,ff15,ff15,ff15,ff15,ff15,ff15,ff15,ff15,ff15,ff15,ff15,ff15,ff15,ff15,ff15] rfl rfl (any_of HT_.out (by kernel_rfl)) (fun _ _ _ h => h) (Or.inr ⟨by rfl, rfl⟩) ?_ ?_
             rotate_left
             ·simp only [Act.put, List.setIfInBounds_toArray, List.set_cons_zero, List.set_cons_succ, i64_w, i32_w]
              rfl
             refine pure_ (i := 18) (N := some 82) (v := undef) (a' := ?_) #[tt15,tt15,tt15,tt15,tt15,tt15,tt15,tt15,tt15,tt15,tt15,tt15,tt15,tt15,tt15,tt15,tt15,tt15,tt15,ff15,ff15,ff15,ff15,ff15,ff15,ff15,ff15,ff15,ff15,ff15,ff15,ff15,ff15,ff15,ff15,ff15,ff15,ff15,ff15,ff15,ff15,ff15,ff15,ff15,ff15,ff15,ff15] rfl rfl (any_of HT_.out (by kernel_rfl)) (fun _ _ _ h => h) (Or.inr ⟨by rfl, rfl⟩) ?_ ?_
             rotate_left
             ·simp only [Act.put, List.setIfInBounds_toArray, List.set_cons_zero, List.set_cons_succ, i64_w, i32_w]
              rfl
             refine pure_ (i := 19) (N := some 83) (v := ?_) (a' := ?_) #[tt15,tt15,tt15,tt15,tt15,tt15,tt15,tt15,tt15,tt15,tt15,tt15,tt15,tt15,tt15,tt15,tt15,tt15,tt15,tt15,ff15,ff15,ff15,ff15,ff15,ff15,ff15,ff15,ff15,ff15,ff15,ff15,ff15,ff15,ff15,ff15,ff15,ff15,ff15,ff15,ff15,ff15,ff15,ff15,ff15,ff15,ff15] rfl rfl (any_of HT_.out (by kernel_rfl)) (fun _ _ _ h => h) (Or.inl ⟨by rfl, ?_⟩) ?_ ?_
             rotate_left
             ·intro w'
              go_simp
              with_reducible rfl
             rotate_left
             ·simp only [Act.put, List.setIfInBounds_toArray, List.set_cons_zero, List.set_cons_succ, i64_w, i32_w]
              rfl
             refine pure_ (i := 20) (N := some 84) (v := ?_) (a' := ?_) #[tt15,tt15,tt15,tt15,tt15,tt15,tt15,tt15,tt15,tt15,tt15,tt15,tt15,tt15,tt15,tt15,tt15,tt15,tt15,tt15,tt15,ff15,ff15,ff15,ff15,ff15,ff15,ff15,ff15,ff15,ff15,ff15,ff15,ff15,ff15,ff15,ff15,ff15,ff15,ff15,ff15,ff15,ff15,ff15,ff15,ff15,ff15] rfl rfl (any_of HT_.out (by kernel_rfl)) (fun _ _ _ h => h) (Or.inl ⟨by rfl, ?_⟩) ?_ ?_
             rotate_left
             ·intro w'
              go_simp
              with_reducible rfl
             rotate_left
             ·simp only [Act.put, List.setIfInBounds_toArray, List.set_cons_zero, List.set_cons_succ, i64_w, i32_w]
              rfl
             refine pure_ (i := 21) (N := some 85) (v := undef) (a' := ?_) #[tt15,tt15,tt15,tt15,tt15,tt15,tt15,tt15,tt15,tt15,tt15,tt15,tt15,tt15,tt15,tt15,tt15,tt15,tt15,tt15,tt15,tt15,ff15,ff15,ff15,ff15,ff15,ff15,ff15,ff15,ff15,ff15,ff15,ff15,ff15,ff15,ff15,ff15,ff15,ff15,ff15,ff15,ff15,ff15,ff15,ff15,ff15] rfl rfl (any_of HT_.out (by kernel_rfl)) (fun _ _ _ h => h) (Or.inr ⟨by rfl, rfl⟩) ?_ ?_
             rotate_left
             ·simp only [Act.put, List.setIfInBounds_toArray, List.set_cons_zero, List.set_cons_succ, i64_w, i32_w]
              rfl
             refine pure_ (i := 22) (N := some 86) (v := undef) (a' := ?_) #[tt15,tt15,tt15,tt15,tt15,tt15,tt15,tt15,tt15,tt15,tt15,tt15,tt15,tt15,tt15,tt15,tt15,tt15,tt15,tt15,tt15,tt15,tt15,ff15,ff15,ff15,ff15,ff15,ff15,ff15,ff15,ff15,ff15,ff15,ff15,ff15,ff15,ff15,ff15,ff15,ff15,ff15,ff15,ff15,ff15,ff15,ff15] rfl rfl (any_of HT_.out (by kernel_rfl)) (fun _ _ _ h => h) (Or.inr ⟨by rfl, rfl⟩) ?_ ?_
             rotate_left
             ·simp only [Act.put, List.setIfInBounds_toArray, List.set_cons_zero, List.set_cons_succ, i64_w, i32_w]
              rfl
             refine pure_ (i := 23) (N := some 87) (v := undef) (a' := ?_) #[tt15,tt15,tt15,tt15,tt15,tt15,tt15,tt15,tt15,tt15,tt15,tt15,tt15,tt15,tt15,tt15,tt15,tt15,tt15,tt15,tt15,tt15,tt15,tt15,ff15,ff15,ff15,ff15,ff15,ff15,ff15,ff15,ff15,ff15,ff15,ff15,ff15,ff15,ff15,ff15,ff15,ff15,ff15,ff15,ff15,ff15,ff15] rfl rfl (any_of HT_.out (by kernel_rfl)) (fun _ _ _ h => h) (Or.inr ⟨by rfl, rfl⟩) ?_ ?_
             rotate_left
             ·simp only [Act.put, List.setIfInBounds_toArray, List.set_cons_zero, List.set_cons_succ, i64_w, i32_w]
              rfl
             refine pure_ (i := 24) (N := some 88) (v := undef) (a' := ?_) #[tt15,tt15,tt15,tt15,tt15,tt15,tt15,tt15,tt15,tt15,tt15,tt15,tt15,tt15,tt15,tt15,tt15,tt15,tt15,tt15,tt15,tt15,tt15,tt15,tt15,ff15,ff15,ff15,ff15,ff15,ff15,ff15,ff15,ff15,ff15,ff15,ff15,ff15,ff15,ff15,ff15,ff15,ff15,ff15,ff15,ff15,ff15] rfl rfl (any_of HT_.out (by kernel_rfl)) (fun _ _ _ h => h) (Or.inr ⟨by rfl, rfl⟩) ?_ ?_
             rotate_left
             ·simp only [Act.put, List.setIfInBounds_toArray, List.set_cons_zero, List.set_cons_succ, i64_w, i32_w]
              rfl
             refine pure_ (i := 25) (N := some 89) (v := undef) (a' := ?_) #[tt15,tt15,tt15,tt15,tt15,tt15,tt15,tt15,tt15,tt15,tt15,tt15,tt15,tt15,tt15,tt15,tt15,tt15,tt15,tt15,tt15,tt15,tt15,tt15,tt15,tt15,ff15,ff15,ff15,ff15,ff15,ff15,ff15,ff15,ff15,ff15,ff15,ff15,ff15,ff15,ff15,ff15,ff15,ff15,ff15,ff15,ff15] rfl rfl (any_of HT_.out (by kernel_rfl)) (fun _ _ _ h => h) (Or.inr ⟨by rfl, rfl⟩) ?_ ?_
             rotate_left
             ·simp only [Act.put, List.setIfInBounds_toArray, List.set_cons_zero, List.set_cons_succ, i64_w, i32_w]
              rfl
             refine pure_ (i := 26) (N := some 90) (v := undef) (a' := ?_) #[tt15,tt15,tt15,tt15,tt15,tt15,tt15,tt15,tt15,tt15,tt15,tt15,tt15,tt15,tt15,tt15,tt15,tt15,tt15,tt15,tt15,tt15,tt15,tt15,tt15,tt15,tt15,ff15,ff15,ff15,ff15,ff15,ff15,ff15,ff15,ff15,ff15,ff15,ff15,ff15,ff15,ff15,ff15,ff15,ff15,ff15,ff15] rfl rfl (any_of HT_.out (by kernel_rfl)) (fun _ _ _ h => h) (Or.inr ⟨by rfl, rfl⟩) ?_ ?_
             rotate_left
             ·simp only [Act.put, List.setIfInBounds_toArray, List.set_cons_zero, List.set_cons_succ, i64_w, i32_w]
              rfl
             refine pure_ (i := 27) (N := some 91) (v := undef) (a' := ?_) #[tt15,tt15,tt15,tt15,tt15,tt15,tt15,tt15,tt15,tt15,tt15,tt15,tt15,tt15,tt15,tt15,tt15,tt15,tt15,tt15,tt15,tt15,tt15,tt15,tt15,tt15,tt15,tt15,ff15,ff15,ff15,ff15,ff15,ff15,ff15,ff15,ff15,ff15,ff15,ff15,ff15,ff15,ff15,ff15,ff15,ff15,ff15] rfl rfl (any_of HT_.out (by kernel_rfl)) (fun _ _ _ h => h) (Or.inr ⟨by rfl, rfl⟩) ?_ ?_
             rotate_left
             ·simp only [Act.put, List.setIfInBounds_toArray, List.set_cons_zero, List.set_cons_succ, i64_w, i32_w]
              rfl
             refine pure_ (i := 28) (N := some 92) (v := undef) (a' := ?_) #[tt15,tt15,tt15,tt15,tt15,tt15,tt15,tt15,tt15,tt15,tt15,tt15,tt15,tt15,tt15,tt15,tt15,tt15,tt15,tt15,tt15,tt15,tt15,tt15,tt15,tt15,tt15,tt15,tt15,ff15,ff15,ff15,ff15,ff15,ff15,ff15,ff15,ff15,ff15,ff15,ff15,ff15,ff15,ff15,ff15,ff15,ff15] rfl rfl (any_of HT_.out (by kernel_rfl)) (fun _ _ _ h => h) (Or.inr ⟨by rfl, rfl⟩) ?_ ?_
             rotate_left
             ·simp only [Act.put, List.setIfInBounds_toArray, List.set_cons_zero, List.set_cons_succ, i64_w, i32_w]
              rfl
             refine pure_ (i := 29) (N := some 93) (v := ?_) (a' := ?_) #[tt15,tt15,tt15,tt15,tt15,tt15,tt15,tt15,tt15,tt15,tt15,tt15,tt15,tt15,tt15,tt15,tt15,tt15,tt15,tt15,tt15,tt15,tt15,tt15,tt15,tt15,tt15,tt15,tt15,tt15,ff15,ff15,ff15,ff15,ff15,ff15,ff15,ff15,ff15,ff15,ff15,ff15,ff15,ff15,ff15,ff15,ff15] rfl rfl (any_of HT_.out (by kernel_rfl)) (fun _ _ _ h => h) (Or.inl ⟨by rfl, ?_⟩) ?_ ?_
             rotate_left
             ·intro w'
              go_simp
              with_reducible rfl
             rotate_left
             ·simp only [Act.put, List.setIfInBounds_toArray, List.set_cons_zero, List.set_cons_succ, i64_w, i32_w]
              rfl
             refine pure_ (i := 30) (N := some 94) (v := ?_) (a' := ?_) #[tt15,tt15,tt15,tt15,tt15,tt15,tt15,tt15,tt15,tt15,tt15,tt15,tt15,tt15,tt15,tt15,tt15,tt15,tt15,tt15,tt15,tt15,tt15,tt15,tt15,tt15,tt15,tt15,tt15,tt15,tt15,ff15,ff15,ff15,ff15,ff15,ff15,ff15,ff15,ff15,ff15,ff15,ff15,ff15,ff15,ff15,ff15] rfl rfl (any_of HT_.out (by kernel_rfl)) (fun _ _ _ h => h) (Or.inl ⟨by rfl, ?_⟩) ?_ ?_
             rotate_left
             ·intro w'
              go_simp
              with_reducible rfl
             rotate_left
             ·simp only [Act.put, List.setIfInBounds_toArray, List.set_cons_zero, List.set_cons_succ, i64_w, i32_w]
              rfl
             refine pure_ (i := 31) (N := some 95) (v := undef) (a' := ?_) #[tt15,tt15,tt15,tt15,tt15,tt15,tt15,tt15,tt15,tt15,tt15,tt15,tt15,tt15,tt15,tt15,tt15,tt15,tt15,tt15,tt15,tt15,tt15,tt15,tt15,tt15,tt15,tt15,tt15,tt15,tt15,tt15,ff15,ff15,ff15,ff15,ff15,ff15,ff15,ff15,ff15,ff15,ff15,ff15,ff15,ff15,ff15] rfl rfl (any_of HT_.out (by kernel_rfl)) (fun _ _ _ h => h) (Or.inr ⟨by rfl, rfl⟩) ?_ ?_
             rotate_left
             ·simp only [Act.put, List.setIfInBounds_toArray, List.set_cons_zero, List.set_cons_succ, i64_w, i32_w]
              rfl
             refine pure_ (i := 32) (N := some 96) (v := undef) (a' := ?_) #[tt15,tt15,tt15,tt15,tt15,tt15,tt15,tt15,tt15,tt15,tt15,tt15,tt15,tt15,tt15,tt15,tt15,tt15,tt15,tt15,tt15,tt15,tt15,tt15,tt15,tt15,tt15,tt15,tt15,tt15,tt15,tt15,tt15,ff15,ff15,ff15,ff15,ff15,ff15,ff15,ff15,ff15,ff15,ff15,ff15,ff15,ff15] rfl rfl (any_of HT_.out (by kernel_rfl)) (fun _ _ _ h => h) (Or.inr ⟨by rfl, rfl⟩) ?_ ?_
             rotate_left
             ·simp only [Act.put, List.setIfInBounds_toArray, List.set_cons_zero, List.set_cons_succ, i64_w, i32_w]
              rfl
             refine pure_ (i := 33) (N := some 97) (v := undef) (a' := ?_) #[tt15,tt15,tt15,tt15,tt15,tt15,tt15,tt15,tt15,tt15,tt15,tt15,tt15,tt15,tt15,tt15,tt15,tt15,tt15,tt15,tt15,tt15,tt15,tt15,tt15,tt15,tt15,tt15,tt15,tt15,tt15,tt15,tt15,tt15,ff15,ff15,ff15,ff15,ff15,ff15,ff15,ff15,ff15,ff15,ff15,ff15,ff15] rfl rfl (any_of HT_.out (by kernel_rfl)) (fun _ _ _ h => h) (Or.inr ⟨by rfl, rfl⟩) ?_ ?_
             rotate_left
             ·simp only [Act.put, List.setIfInBounds_toArray, List.set_cons_zero, List.set_cons_succ, i64_w, i32_w]
              rfl
             refine pure_ (i := 34) (N := some 98) (v := undef) (a' := ?_) #[tt15,tt15,tt15,tt15,tt15,tt15,tt15,tt15,tt15,tt15,tt15,tt15,tt15,tt15,tt15,tt15,tt15,tt15,tt15,tt15,tt15,tt15,tt15,tt15,tt15,tt15,tt15,tt15,tt15,tt15,tt15,tt15,tt15,tt15,tt15,ff15,ff15,ff15,ff15,ff15,ff15,ff15,ff15,ff15,ff15,ff15,ff15] rfl rfl (any_of HT_.out (by kernel_rfl)) (fun _ _ _ h => h) (Or.inr ⟨by rfl, rfl⟩) ?_ ?_
             rotate_left
             ·simp only [Act.put, List.setIfInBounds_toArray, List.set_cons_zero, List.set_cons_succ, i64_w, i32_w]
              rfl
             refine pure_ (i := 35) (N := some 99) (v := undef) (a' := ?_) #[tt15,tt15,tt15,tt15,tt15,tt15,tt15,tt15,tt15,tt15,tt15,tt15,tt15,tt15,tt15,tt15,tt15,tt15,tt15,tt15,tt15,tt15,tt15,tt15,tt15,tt15,tt15,tt15,tt15,tt15,tt15,tt15,tt15,tt15,tt15,tt15,ff15,ff15,ff15,ff15,ff15,ff15,ff15,ff15,ff15,ff15,ff15] rfl rfl (any_of HT_.out (by kernel_rfl)) (fun _ _ _ h => h) (Or.inr ⟨by rfl, rfl⟩) ?_ ?_
             rotate_left
             ·simp only [Act.put, List.setIfInBounds_toArray, List.set_cons_zero, List.set_cons_succ, i64_w, i32_w]
              rfl
             refine pure_ (i := 36) (N := some 100) (v := undef) (a' := ?_) #[tt15,tt15,tt15,tt15,tt15,tt15,tt15,tt15,tt15,tt15,tt15,tt15,tt15,tt15,tt15,tt15,tt15,tt15,tt15,tt15,tt15,tt15,tt15,tt15,tt15,tt15,tt15,tt15,tt15,tt15,tt15,tt15,tt15,tt15,tt15,tt15,tt15,ff15,ff15,ff15,ff15,ff15,ff15,ff15,ff15,ff15,ff15] rfl rfl (any_of HT_.out (by kernel_rfl)) (fun _ _ _ h => h) (Or.inr ⟨by rfl, rfl⟩) ?_ ?_
             rotate_left
             ·simp only [Act.put, List.setIfInBounds_toArray, List.set_cons_zero, List.set_cons_succ, i64_w, i32_w]
              rfl
             refine pure_ (i := 37) (N := some 101) (v := undef) (a' := ?_) #[tt15,tt15,tt15,tt15,tt15,tt15,tt15,tt15,tt15,tt15,tt15,tt15,tt15,tt15,tt15,tt15,tt15,tt15,tt15,tt15,tt15,tt15,tt15,tt15,tt15,tt15,tt15,tt15,tt15,tt15,tt15,tt15,tt15,tt15,tt15,tt15,tt15,tt15,ff15,ff15,ff15,ff15,ff15,ff15,ff15,ff15,ff15] rfl rfl (any_of HT_.out (by kernel_rfl)) (fun _ _ _ h => h) (Or.inr ⟨by rfl, rfl⟩) ?_ ?_
             rotate_left
             ·simp only [Act.put, List.setIfInBounds_toArray, List.set_cons_zero, List.set_cons_succ, i64_w, i32_w]
              rfl
             refine pure_ (i := 38) (N := some 102) (v := undef) (a' := ?_) #[tt15,tt15,tt15,tt15,tt15,tt15,tt15,tt15,tt15,tt15,tt15,tt15,tt15,tt15,tt15,tt15,tt15,tt15,tt15,tt15,tt15,tt15,tt15,tt15,tt15,tt15,tt15,tt15,tt15,tt15,tt15,tt15,tt15,tt15,tt15,tt15,tt15,tt15,tt15,ff15,ff15,ff15,ff15,ff15,ff15,ff15,ff15] rfl rfl (any_of HT_.out (by kernel_rfl)) (fun _ _ _ h => h) (Or.inr ⟨by rfl, rfl⟩) ?_ ?_
             rotate_left
             ·simp only [Act.put, List.setIfInBounds_toArray, List.set_cons_zero, List.set_cons_succ, i64_w, i32_w]
              rfl
             refine pure_ (i := 39) (N := some 103) (v := undef) (a' := ?_) #[tt15,tt15,tt15,tt15,tt15,tt15,tt15,tt15,tt15,tt15,tt15,tt15,tt15,tt15,tt15,tt15,tt15,tt15,tt15,tt15,tt15,tt15,tt15,tt15,tt15,tt15,tt15,tt15,tt15,tt15,tt15,tt15,tt15,tt15,tt15,tt15,tt15,tt15,tt15,tt15,ff15,ff15,ff15,ff15,ff15,ff15,ff15] rfl rfl (any_of HT_.out (by kernel_rfl)) (fun _ _ _ h => h) (Or.inr ⟨by rfl, rfl⟩) ?_ ?_
             rotate_left
             ·simp only [Act.put, List.setIfInBounds_toArray, List.set_cons_zero, List.set_cons_succ, i64_w, i32_w]
              rfl
             refine pure_ (i := 40) (N := some 104) (v := undef) (a' := ?_) #[tt15,tt15,tt15,tt15,tt15,tt15,tt15,tt15,tt15,tt15,tt15,tt15,tt15,tt15,tt15,tt15,tt15,tt15,tt15,tt15,tt15,tt15,tt15,tt15,tt15,tt15,tt15,tt15,tt15,tt15,tt15,tt15,tt15,tt15,tt15,tt15,tt15,tt15,tt15,tt15,tt15,ff15,ff15,ff15,ff15,ff15,ff15] rfl rfl (any_of HT_.out (by kernel_rfl)) (fun _ _ _ h => h) (Or.inr ⟨by rfl, rfl⟩) ?_ ?_
             rotate_left
             ·simp only [Act.put, List.setIfInBounds_toArray, List.set_cons_zero, List.set_cons_succ, i64_w, i32_w]
              rfl
             refine pure_ (i := 41) (N := some 105) (v := undef) (a' := ?_) #[tt15,tt15,tt15,tt15,tt15,tt15,tt15,tt15,tt15,tt15,tt15,tt15,tt15,tt15,tt15,tt15,tt15,tt15,tt15,tt15,tt15,tt15,tt15,tt15,tt15,tt15,tt15,tt15,tt15,tt15,tt15,tt15,tt15,tt15,tt15,tt15,tt15,tt15,tt15,tt15,tt15,tt15,ff15,ff15,ff15,ff15,ff15] rfl rfl (any_of HT_.out (by kernel_rfl)) (fun _ _ _ h => h) (Or.inr ⟨by rfl, rfl⟩) ?_ ?_
             rotate_left
             ·simp only [Act.put, List.setIfInBounds_toArray, List.set_cons_zero, List.set_cons_succ, i64_w, i32_w]
              rfl
             refine pure_ (i := 42) (N := some 106) (v := undef) (a' := ?_) #[tt15,tt15,tt15,tt15,tt15,tt15,tt15,tt15,tt15,tt15,tt15,tt15,tt15,tt15,tt15,tt15,tt15,tt15,tt15,tt15,tt15,tt15,tt15,tt15,tt15,tt15,tt15,tt15,tt15,tt15,tt15,tt15,tt15,tt15,tt15,tt15,tt15,tt15,tt15,tt15,tt15,tt15,tt15,ff15,ff15,ff15,ff15] rfl rfl (any_of HT_.out (by kernel_rfl)) (fun _ _ _ h => h) (Or.inr ⟨by rfl, rfl⟩) ?_ ?_
             rotate_left
             ·simp only [Act.put, List.setIfInBounds_toArray, List.set_cons_zero, List.set_cons_succ, i64_w, i32_w]
              rfl
             refine pure_ (i := 43) (N := some 107) (v := undef) (a' := ?_) #[tt15,tt15,tt15,tt15,tt15,tt15,tt15,tt15,tt15,tt15,tt15,tt15,tt15,tt15,tt15,tt15,tt15,tt15,tt15,tt15,tt15,tt15,tt15,tt15,tt15,tt15,tt15,tt15,tt15,tt15,tt15,tt15,tt15,tt15,tt15,tt15,tt15,tt15,tt15,tt15,tt15,tt15,tt15,tt15,ff15,ff15,ff15] rfl rfl (any_of HT_.out (by kernel_rfl)) (fun _ _ _ h => h) (Or.inr ⟨by rfl, rfl⟩) ?_ ?_
             rotate_left
             ·simp only [Act.put, List.setIfInBounds_toArray, List.set_cons_zero, List.set_cons_succ, i64_w, i32_w]
              rfl
             refine pure_ (i := 44) (N := some 108) (v := undef) (a' := ?_) #[tt15,tt15,tt15,tt15,tt15,tt15,tt15,tt15,tt15,tt15,tt15,tt15,tt15,tt15,tt15,tt15,tt15,tt15,tt15,tt15,tt15,tt15,tt15,tt15,tt15,tt15,tt15,tt15,tt15,tt15,tt15,tt15,tt15,tt15,tt15,tt15,tt15,tt15,tt15,tt15,tt15,tt15,tt15,tt15,tt15,ff15,ff15] rfl rfl (any_of HT_.out (by kernel_rfl)) (fun _ _ _ h => h) (Or.inr ⟨by rfl, rfl⟩) ?_ ?_
             rotate_left
             ·simp only [Act.put, List.setIfInBounds_toArray, List.set_cons_zero, List.set_cons_succ, i64_w, i32_w]
              rfl
             refine pure_ (i := 45) (N := some 109) (v := ?_) (a' := ?_) #[tt15,tt15,tt15,tt15,tt15,tt15,tt15,tt15,tt15,tt15,tt15,tt15,tt15,tt15,tt15,tt15,tt15,tt15,tt15,tt15,tt15,tt15,tt15,tt15,tt15,tt15,tt15,tt15,tt15,tt15,tt15,tt15,tt15,tt15,tt15,tt15,tt15,tt15,tt15,tt15,tt15,tt15,tt15,tt15,tt15,tt15,ff15] rfl rfl (any_of HT_.out (by kernel_rfl)) (fun _ _ _ h => h) (Or.inl ⟨by rfl, ?_⟩) ?_ ?_
             rotate_left
             ·intro w'
              go_simp
              with_reducible rfl
             rotate_left
             ·simp only [Act.put, List.setIfInBounds_toArray, List.set_cons_zero, List.set_cons_succ, i64_w, i32_w]
              rfl
             refine pure_ (i := 46) (N := some 110) (v := ?_) (a' := ?_) #[tt15,tt15,tt15,tt15,tt15,tt15,tt15,tt15,tt15,tt15,tt15,tt15,tt15,tt15,tt15,tt15,tt15,tt15,tt15,tt15,tt15,tt15,tt15,tt15,tt15,tt15,tt15,tt15,tt15,tt15,tt15,tt15,tt15,tt15,tt15,tt15,tt15,tt15,tt15,tt15,tt15,tt15,tt15,tt15,tt15,tt15,tt15] rfl rfl (any_of HT_.out (by kernel_rfl)) (fun _ _ _ h => h) (Or.inl ⟨by rfl, ?_⟩) ?_ ?_
             rotate_left
             ·intro w'
              go_simp
              with_reducible rfl
             rotate_left
             ·simp only [Act.put, List.setIfInBounds_toArray, List.set_cons_zero, List.set_cons_succ, i64_w, i32_w]
              rfl
             refine done_ (done_of HT_.out (by kernel_rfl)) ?_
             try go_wp2
             go_ret
             exact ⟨by first | rfl | (simp [errW_none, errW_some] <;> rfl) | (simp [*, errW_none, errW_some] <;> rfl), by repeat (first | (with_reducible first | exact HB.out | apply below_alloc | apply pw_below_drewN | apply below_drew1 | refine below_set ?_ GE195.out) | exact HB.out)⟩
           ·rw [if_neg c28] at H
            exact absurd H (by simp)
          ·rw [if_neg c27] at H
           have c27b0 : decide (0 < x54_2) = false := decide_eq_false c27
           clear c27
           have H' := Aside0.mk H
           clear H
           have hcz51_0 := bc0 BK195.out
           have hcz51_1 := bc1 BK195.out
           have hcz51_2 := bc2 BK195.out
           have hcz51_3 := bc3 BK195.out
           have hfz51_0 := blk_frozen BK195.out 0
           have hfz51_1 := blk_frozen BK195.out 1
           have hfz51_2 := blk_frozen BK195.out 2
           have hfz51_3 := blk_frozen BK195.out 3
           have p200 : 0 ≤ (x54_2 : Int) := of_decide_eq_true (by first | (with_reducible assumption) | assumption)
           have q200 : x54_2 < (l0_3.length : Int) := of_decide_eq_true (by first | (with_reducible assumption) | assumption)
           obtain ⟨ad200, A200_0, c200_0, e200, hx200_0, hl200_0, hi200_0⟩ := at_L1 HR0_3.out x54_2 p200 q200
           cases e200
           replace hx200_0 := (HB.out.cell (World.block_lt_of_cell? w _ hx200_0)).trans hx200_0
           have HR200_0 := Aside0.mk hi200_0
           have HC200_0 := Aside0.mk hl200_0
           clear hi200_0 hl200_0
           replace p200 := eq_true p200
           replace q200 := eq_true q200
           try go_wp2_with (first | ((with_reducible refine gate_callee (f := 64) rfl ?_); refine goesL_ (some 62) rfl rfl Try.func64 (by kernel_rfl) rfl #[.slice A200_0 (rd_L1 l0_3 x54_2).length c200_0, .int .i64 0, .int .i64 7] rfl (by (try simp only [List.map_toArray, List.map_cons, List.map_nil]); first | done | rfl | (simp only [List.length_drop, List.length_take]; rfl)) ?_; (with_reducible refine (impl_isRising.calls k2 _ _ (rd_L1 l0_3 x54_2) 0 7 true _ ?side1 ?side2 A25.out).mono ?_); (case side1 => repeat (first | exact (Kd.C_below HR200_0.out HB.out) | (with_reducible refine Kd.C_alloc ?_ _) | (with_reducible refine Kd.C_drewN ?_ _) | (with_reducible refine Kd.C_drew ?_))); (case side2 => exact HC200_0.out); rintro e w' ⟨rfl, ⟨nd, rfl⟩⟩; refine ⟨_, rfl, ?_⟩))
           (try (rw [drewN_self wr]; generalize hq_ : World.drewN wr _ = wr; have n0_ : Aside0 (wr.heap[gb195]? = some (.cells #[.slice A0_0 l0_0.length c0_0, .slice A0_1 l0_1.length c0_1, .slice A0_2 l0_2.length c0_2, .slice (some ad200) l0_3.length c0_3] 30 (0, 0))) := ⟨by rw [← hq_]; exact (by (with_reducible repeat (first | refine blk_drewN ?_ _ | refine blk_drew ?_ | refine blk_alloc ?_ _)); exact BK195.out)⟩; have n1_ : Aside0 (Below w.heap.size w wr) := ⟨by rw [← hq_]; exact (by repeat (first | (with_reducible first | exact HB.out | apply below_alloc | apply pw_below_drewN | apply below_drew1 | refine below_set ?_ GE195.out) | exact HB.out))⟩; clear BK195 HB hq_; have BK195 := n0_; have HB := n1_; clear n0_ n1_))
           have n0_ := Aside0.mk (blk_drew BK195.out)
           have n1_ := Aside0.mk (below_drew1 HB.out)
           clear BK195
           clear HB
           have BK195 := n0_
           have HB := n1_
           clear n0_ n1_
           refine start_ (n := 47) (S := fun w' => True) (ds := []) #[ff15,ff15,ff15,ff15,ff15,ff15,ff15,ff15,ff15,ff15,ff15,ff15,ff15,ff15,ff15,ff15,ff15,ff15,ff15,ff15,ff15,ff15,ff15,ff15,ff15,ff15,ff15,ff15,ff15,ff15,ff15,ff15,ff15,ff15,ff15,ff15,ff15,ff15,ff15,ff15,ff15,ff15,ff15,ff15,ff15,ff15,ff15] (by kernel_rfl) rfl rfl trivial (fun hHeld => ?_); refine with_tabW impl_GoodAho.tab9 impl_GoodAho.bits9 (fun HT_ HW_ => ?_)
           generalize wr.drew = w52 at BK195 HB hHeld ⊢
           refine pure_ (i := 0) (N := some 64) (v := ?_) (a' := ?_) #[tt15,ff15,ff15,ff15,ff15,ff15,ff15,ff15,ff15,ff15,ff15,ff15,ff15,ff15,ff15,ff15,ff15,ff15,ff15,ff15,ff15,ff15,ff15,ff15,ff15,ff15,ff15,ff15,ff15,ff15,ff15,ff15,ff15,ff15,ff15,ff15,ff15,ff15,ff15,ff15,ff15,ff15,ff15,ff15,ff15,ff15,ff15] rfl rfl (any_of HT_.out (by kernel_rfl)) (fun _ _ _ h => h) (Or.inl ⟨by rfl, ?_⟩) ?_ ?_
           rotate_left
           ·intro w'
            go_simp
            with_reducible rfl
           rotate_left
           ·simp only [Act.put, List.setIfInBounds_toArray, List.set_cons_zero, List.set_cons_succ, i64_w, i32_w]
            rfl
           refine pure_ (i := 1) (N := some 65) (v := ?_) (a' := ?_) #[tt15,tt15,ff15,ff15,ff15,ff15,ff15,ff15,ff15,ff15,ff15,ff15,ff15,ff15,ff15,ff15,ff15,ff15,ff15,ff15,ff15,ff15,ff15,ff15,ff15,ff15,ff15,ff15,ff15,ff15,ff15,ff15,ff15,ff15,ff15,ff15,ff15,ff15,ff15,ff15,ff15,ff15,ff15,ff15,ff15,ff15,ff15] rfl rfl (any_of HT_.out (by kernel_rfl)) (fun _ _ _ h => h) (Or.inl ⟨by rfl, ?_⟩) ?_ ?_
           rotate_left
           ·intro w'
            go_simp
            with_reducible rfl
           rotate_left
           ·simp only [Act.put, List.setIfInBounds_toArray, List.set_cons_zero, List.set_cons_succ, i64_w, i32_w]
            rfl
           refine pure_ (i := 2) (N := some 66) (v := ?_) (a' := ?_) #[tt15,tt15,tt15,ff15,ff15,ff15,ff15,ff15,ff15,ff15,ff15,ff15,ff15,ff15,ff15,ff15,ff15,ff15,ff15,ff15,ff15,ff15,ff15,ff15,ff15,ff15,ff15,ff15,ff15,ff15,ff15,ff15,ff15,ff15,ff15,ff15,ff15,ff15,ff15,ff15,ff15,ff15,ff15,ff15,ff15,ff15,ff15] rfl rfl (any_of HT_.out (by kernel_rfl)) (fun _ _ _ h => h) (Or.inl ⟨by rfl, ?_⟩) ?_ ?_
           rotate_left
           ·intro w'
            go_simp
            with_reducible rfl
           rotate_left
           ·simp only [Act.put, List.setIfInBounds_toArray, List.set_cons_zero, List.set_cons_succ, i64_w, i32_w]
            rfl
           refine pure_ (i := 3) (N := some 67) (v := undef) (a' := ?_) #[tt15,tt15,tt15,tt15,ff15,ff15,ff15,ff15,ff15,ff15,ff15,ff15,ff15,ff15,ff15,ff15,ff15,ff15,ff15,ff15,ff15,ff15,ff15,ff15,ff15,ff15,ff15,ff15,ff15,ff15,ff15,ff15,ff15,ff15,ff15,ff15,ff15,ff15,ff15,ff15,ff15,ff15,ff15,ff15,ff15,ff15,ff15] rfl rfl (any_of HT_.out (by kernel_rfl)) (fun _ _ _ h => h) (Or.inr ⟨by rfl, rfl⟩) ?_ ?_
           rotate_left
           ·simp only [Act.put, List.setIfInBounds_toArray, List.set_cons_zero, List.set_cons_succ, i64_w, i32_w]
            rfl
           refine pure_ (i := 4) (N := some 68) (v := undef) (a' := ?_) #[tt15,tt15,tt15,tt15,tt15,ff15,ff15,ff15,ff15,ff15,ff15,ff15,ff15,ff15,ff15,ff15,ff15,ff15,ff15,ff15,ff15,ff15,ff15,ff15,ff15,ff15,ff15,ff15,ff15,ff15,ff15,ff15,ff15,ff15,ff15,ff15,ff15,ff15,ff15,ff15,ff15,ff15,ff15,ff15,ff15,ff15,ff15] rfl rfl (any_of HT_.out (by kernel_rfl)) (fun _ _ _ h => h) (Or.inr ⟨by rfl, rfl⟩) ?_ ?_
           rotate_left
           ·simp only [Act.put, List.setIfInBounds_toArray, List.set_cons_zero, List.set_cons_succ, i64_w, i32_w]
            rfl
           refine pure_ (i := 5) (N := some 69) (v := undef) (a' := ?_) #[tt15,tt15,tt15,tt15,tt15,tt15,ff15,ff15,ff15,ff15,ff15,ff15,ff15,ff15,ff15,ff15,ff15,ff15,ff15,ff15,ff15,ff15,ff15,ff15,ff15,ff15,ff15,ff15,ff15,ff15,ff15,ff15,ff15,ff15,ff15,ff15,ff15,ff15,ff15,ff15,ff15,ff15,ff15,ff15,ff15,ff15,ff15] rfl rfl (any_of HT_.out (by kernel_rfl)) (fun _ _ _ h => h) (Or.inr ⟨by rfl, rfl⟩) ?_ ?_
           rotate_left
           ·simp only [Act.put, List.setIfInBounds_toArray, List.set_cons_zero, List.set_cons_succ, i64_w, i32_w]
            rfl
           refine pure_ (i := 6) (N := some 70) (v := undef) (a' := ?_) #[tt15,tt15,tt15,tt15,tt15,tt15,tt15,ff15,ff15,ff15,ff15,ff15,ff15,ff15,ff15,ff15,ff15,ff15,ff15,ff15,ff15,ff15,ff15,ff15,ff15,ff15,ff15,ff15,ff15,ff15,ff15,ff15,ff15,ff15,ff15,ff15,ff15,ff15,ff15,ff15,ff15,ff15,ff15,ff15,ff15,ff15,ff15] rfl rfl (any_of HT_.out (by kernel_rfl)) (fun _ _ _ h => h) (Or.inr ⟨by rfl, rfl⟩) ?_ ?_
           rotate_left
           ·simp only [Act.put, List.setIfInBounds_toArray, List.set_cons_zero, List.set_cons_succ, i64_w, i32_w]
            rfl
           refine pure_ (i := 7) (N := some 71) (v := undef) (a' := ?_) #[tt15,tt15,tt15,tt15,tt15,tt15,tt15,tt15,ff15,ff15,ff15,ff15,ff15,ff15,ff15,ff15,ff15,ff15,ff15,ff15,ff15,ff15,ff15,ff15,ff15,ff15,ff15,ff15,ff15,ff15,ff15,ff15,ff15,ff15,ff15,ff15,ff15,ff15,ff15,ff15,ff15,ff15,ff15,ff15,ff15,ff15,ff15] rfl rfl (any_of HT_.out (by kernel_rfl)) (fun _ _ _ h => h) (Or.inr ⟨by rfl, rfl⟩) ?_ ?_
           rotate_left
           ·simp only [Act.put, List.setIfInBounds_toArray, List.set_cons_zero, List.set_cons_succ, i64_w, i32_w]
            rfl
           refine pure_ (i := 8) (N := some 72) (v := undef) (a' := ?_) #[tt15,tt15,tt15,tt15,tt15,tt15,tt15,tt15,tt15,ff15,ff15,ff15,ff15,ff15,ff15,ff15,ff15,ff15,ff15,ff15,ff15,ff15,ff15,ff15,ff15,ff15,ff15,ff15,ff15,ff15,ff15,ff15,ff15,ff15,ff15,ff15,ff15,ff15,ff15,ff15,ff15,ff15,ff15,ff15,ff15,ff15,ff15] rfl rfl (any_of HT_.out (by kernel_rfl)) (fun _ _ _ h => h) (Or.inr ⟨by rfl, rfl⟩) ?_ ?_
           rotate_left
           ·simp only [Act.put, List.setIfInBounds_toArray, List.set_cons_zero, List.set_cons_succ, i64_w, i32_w]
            rfl
           refine pure_ (i := 9) (N := some 73) (v := undef) (a' := ?_) #[tt15,tt15,tt15,tt15,tt15,tt15,tt15,tt15,tt15,tt15,ff15,ff15,ff15,ff15,ff15,ff15,ff15,ff15,ff15,ff15,ff15,ff15,ff15,ff15,ff15,ff15,ff15,ff15,ff15,ff15,ff15,ff15,ff15,ff15,ff15,ff15,ff15,ff15,ff15,ff15,ff15,ff15,ff15,ff15,ff15,ff15,ff15] rfl rfl (any_of HT_.out (by kernel_rfl)) (fun _ _ _ h => h) (Or.inr ⟨by rfl, rfl⟩) ?_ ?_
           rotate_left
           ·simp only [Act.put, List.setIfInBounds_toArray, List.set_cons_zero, List.set_cons_succ, i64_w, i32_w]
            rfl
           refine pure_ (i := 10) (N := some 74) (v := undef) (a' := ?_) #[tt15,tt15,tt15,tt15,tt15,tt15,tt15,tt15,tt15,tt15,tt15,ff15,ff15,ff15,ff15,ff15,ff15,ff15,ff15,ff15,ff15,ff15,ff15,ff15,ff15,ff15,ff15,ff15,ff15,ff15,ff15,ff15,ff15,ff15,ff15,ff15,ff15,ff15,ff15,ff15,ff15,ff15,ff15,ff15,ff15,ff15,ff15] rfl rfl (any_of HT_.out (by kernel_rfl)) (fun _ _ _ h => h) (Or.inr ⟨by rfl, rfl⟩) ?_ ?_
           rotate_left
           ·simp only [Act.put, List.setIfInBounds_toArray, List.set_cons_zero, List.set_cons_succ, i64_w, i32_w]
            rfl
           refine pure_ (i := 11) (N := some 75) (v := undef) (a' := ?_) #[tt15,tt15,tt15,tt15,tt15,tt15,tt15,tt15,tt15,tt15,tt15,tt15,ff15,ff15,ff15,ff15,ff15,ff15,ff15,ff15,ff15,ff15,ff15,ff15,ff15,ff15,ff15,ff15,ff15,ff15,ff15,ff15,ff15,ff15,ff15,ff15,ff15,ff15,ff15,ff15,ff15,ff15,ff15,ff15,ff15,ff15,ff15] rfl rfl (any_of HT_.out (by kernel_rfl)) (fun _ _ _ h => h) (Or.inr ⟨by rfl, rfl⟩) ?_ ?_
           rotate_left
           ·simp only [Act.put, List.setIfInBounds_toArray, List.set_cons_zero, List.set_cons_succ, i64_w, i32_w]
            rfl
           refine pure_ (i := 12) (N := some 76) (v := undef) (a' := ?_) #[tt15,tt15,tt15,tt15,tt15,tt15,tt15,tt15,tt15,tt15,tt15,tt15,tt15,ff15,ff15,ff15,ff15,ff15,ff15,ff15,ff15,ff15,ff15,ff15,ff15,ff15,ff15,ff15,ff15,ff15,ff15,ff15,ff15,ff15,ff15,ff15,ff15,ff15,ff15,ff15,ff15,ff15,ff15,ff15,ff15,ff15,ff15] rfl rfl (any_of HT_.out (by kernel_rfl)) (fun _ _ _ h => h) (Or.inr ⟨by rfl, rfl⟩) ?_ ?_
           rotate_left
           ·simp only [Act.put, List.setIfInBounds_toArray, List.set_cons_zero, List.set_cons_succ, i64_w, i32_w]
            rfl
           refine pure_ (i := 13) (N := some 77) (v := undef) (a' := ?_) #[tt15,tt15,tt15,tt15,tt15,tt15,tt15,tt15,tt15,tt15,tt15,tt15,tt15,tt15,ff15,ff15,ff15,ff15,ff15,ff15,ff15,ff15,ff15,ff15,ff15,ff15,ff15,ff15,ff15,ff15,ff15,ff15,ff15,ff15,ff15,ff15,ff15,ff15,ff15,ff15,ff15,ff15,ff15,ff15,ff15,ff15,ff15] rfl rfl (any_of HT_.out (by kernel_rfl)) (fun _ _ _ h => h) (Or.inr ⟨by rfl, rfl⟩) ?_ ?_
           rotate_left
           ·simp only [Act.put, List.setIfInBounds_toArray, List.set_cons_zero, List.set_cons_succ, i64_w, i32_w]
            rfl
           refine pure_ (i := 14) (N := some 78) (v := undef) (a' := ?_) #[tt15,tt15,tt15,tt15,tt15,tt15,tt15,tt15,tt15,tt15,tt15,tt15,tt15,tt15,tt15,ff15,ff15,ff15,ff15,ff15,ff15,ff15,ff15,ff15,ff15,ff15,ff15,ff15,ff15,ff15,ff15,ff15,ff15,ff15,ff15,ff15,ff15,ff15,ff15,ff15,ff15,ff15,ff15,ff15,ff15,ff15,ff15] rfl rfl (any_of HT_.out (by kernel_rfl)) (fun _ _ _ h => h) (Or.inr ⟨by rfl, rfl⟩) ?_ ?_
           rotate_left
           ·simp only [Act.put, List.setIfInBounds_toArray, List.set_cons_zero, List.set_cons_succ, i64_w, i32_w]
            rfl
           refine pure_ (i := 15) (N := some 79) (v := undef) (a' := ?_) #[tt15,tt15,tt15,tt15,tt15,tt15,tt15,tt15,tt15,tt15,tt15,tt15,tt15,tt15,tt15,tt15,ff15,ff15,ff15,ff15,ff15,ff15,ff15,ff15,ff15,ff15,ff15,ff15,ff15,ff15,ff15,ff15,ff15,ff15,ff15,ff15,ff15,ff15,ff15,ff15,ff15,ff15,ff15,ff15,ff15,ff15,ff15] rfl rfl (any_of HT_.out (by kernel_rfl)) (fun _ _ _ h => h) (Or.inr ⟨by rfl, rfl⟩) ?_ ?_
           rotate_left
           ·simp only [Act.put, List.setIfInBounds_toArray, List.set_cons_zero, List.set_cons_succ, i64_w, i32_w]
            rfl
           refine pure_ (i := 16) (N := some 80) (v := undef) (a' := ?_) #[tt15,tt15,tt15,tt15,tt15,tt15,tt15,tt15,tt15,tt15,tt15,tt15,tt15,tt15,tt15,tt15,tt15,ff15,ff15,ff15,ff15,ff15,ff15,ff15,ff15,ff15,ff15,ff15,ff15,ff15,ff15,ff15,ff15,ff15,ff15,ff15,ff15,ff15,ff15,ff15,ff15,ff15,ff15,ff15,ff15,ff15,ff15] rfl rfl (any_of HT_.out (by kernel_rfl)) (fun _ _ _ h => h) (Or.inr ⟨by rfl, rfl⟩) ?_ ?_
           rotate_left
           ·simp only [Act.put, List.setIfInBounds_toArray, List.set_cons_zero, List.set_cons_succ, i64_w, i32_w]
            rfl
           refine pure_ (i := 17) (N := some 81) (v := undef) (a' := ?_) #[tt15,tt15,tt15,tt15,tt15,tt15,tt15,tt15,tt15,tt15,tt15,tt15,tt15,tt15,tt15,tt15,tt15,tt15,ff15,ff15,ff15,ff15,ff15,ff15,ff15,ff15,ff15,ff15,ff15,ff15,ff15,ff15,ff15,ff15,ff15,ff15,ff15,ff15,ff15,ff15,ff15,ff15,ff15,ff15,ff15,ff15,ff15] rfl rfl (any_of HT_.out (by kernel_rfl)) (fun _ _ _ h => h) (Or.inr ⟨by rfl, rfl⟩) ?_ ?_
           rotate_left
           ·simp only [Act.put, List.setIfInBounds_toArray, List.set_cons_zero, List.set_cons_succ, i64_w, i32_w]
            rfl
           refine pure_ (i := 18) (N := some 82) (v := undef) (a' := ?_) #[tt15,tt15,tt15,tt15,tt15,tt15,tt15,tt15,tt15,tt15,tt15,tt15,tt15,tt15,tt15,tt15,tt15,tt15,tt15,ff15,ff15,ff15,ff15,ff15,ff15,ff15,ff15,ff15,ff15,ff15,ff15,ff15,ff15,ff15,ff15,ff15,ff15,ff15,ff15,ff15,ff15,ff15,ff15,ff15,ff15,ff15,ff15] rfl rfl (any_of HT_.out (by kernel_rfl)) (fun _ _ _ h => h) (Or.inr ⟨by rfl, rfl⟩) ?_ ?_
           rotate_left
           ·simp only [Act.put, List.setIfInBounds_toArray, List.set_cons_zero, List.set_cons_succ, i64_w, i32_w]
            rfl
           refine pure_ (i := 19) (N := some 83) (v := undef) (a' := ?_) #[tt15,tt15,tt15,tt15,tt15,tt15,tt15,tt15,tt15,tt15,tt15,tt15,tt15,tt15,tt15,tt15,tt15,tt15,tt15,tt15,ff15,ff15,ff15,ff15,ff15,ff15,ff15,ff15,ff15,ff15,ff15,ff15,ff15,ff15,ff15,ff15,ff15,ff15,ff15,ff15,ff15,ff15,ff15,ff15,ff15,ff15,ff15] rfl rfl (any_of HT_.out (by kernel_rfl)) (fun _ _ _ h => h) (Or.inr ⟨by rfl, rfl⟩) ?_ ?_
           rotate_left
           ·simp only [Act.put, List.setIfInBounds_toArray, List.set_cons_zero, List.set_cons_succ, i64_w, i32_w]
            rfl
           refine pure_ (i := 20) (N := some 84) (v := undef) (a' := ?_) #[tt15,tt15,tt15,tt15,tt15,tt15,tt15,tt15,tt15,tt15,tt15,tt15,tt15,tt15,tt15,tt15,tt15,tt15,tt15,tt15,tt15,ff15,ff15,ff15,ff15,ff15,ff15,ff15,ff15,ff15,ff15,ff15,ff15,ff15,ff15,ff15,ff15,ff15,ff15,ff15,ff15,ff15,ff15,ff15,ff15,ff15,ff15] rfl rfl (any_of HT_.out (by kernel_rfl)) (fun _ _ _ h => h) (Or.inr ⟨by rfl, rfl⟩) ?_ ?_
           rotate_left
           ·simp only [Act.put, List.setIfInBounds_toArray, List.set_cons_zero, List.set_cons_succ, i64_w, i32_w]
            rfl
           refine pure_ (i := 21) (N := some 85) (v := undef) (a' := ?_) #[tt15,tt15,tt15,tt15,tt15,tt15,tt15,tt15,tt15,tt15,tt15,tt15,tt15,tt15,tt15,tt15,tt15,tt15,tt15,tt15,tt15,tt15,ff15,ff15,ff15,ff15,ff15,ff15,ff15,ff15,ff15,ff15,ff15,ff15,ff15,ff15,ff15,ff15,ff15,ff15,ff15,ff15,ff15,ff15,ff15,ff15,ff15] rfl rfl (any_of HT_.out (by kernel_rfl)) (fun _ _ _ h => h) (Or.inr ⟨by rfl, rfl⟩) ?_ ?_
           rotate_left
           ·simp only [Act.put, List.setIfInBounds_toArray, List.set_cons_zero, List.set_cons_succ, i64_w, i32_w]
            rfl
           refine pure_ (i := 22) (N := some 86) (v := undef) (a' := ?_) #[tt15,tt15,tt15,tt15,tt15,tt15,tt15,tt15,tt15,tt15,tt15,tt15,tt15,tt15,tt15,tt15,tt15,tt15,tt15,tt15,tt15,tt15,tt15,ff15,ff15,ff15,ff15,ff15,ff15,ff15,ff15,ff15,ff15,ff15,ff15,ff15,ff15,ff15,ff15,ff15,ff15,ff15,ff15,ff15,ff15,ff15,ff15] rfl rfl (any_of HT_.out (by kernel_rfl)) (fun _ _ _ h => h) (Or.inr ⟨by rfl, rfl⟩) ?_ ?_
           rotate_left
           ·simp only [Act.put, List.setIfInBounds_toArray, List.set_cons_zero, List.set_cons_succ, i64_w, i32_w]
            rfl
           refine pure_ (i := 23) (N := some 87) (v := undef) (a' := ?_) #[tt15,tt15,tt15,tt15,tt15,tt15,tt15,tt15,tt15,tt15,tt15,tt15,tt15,tt15,tt15,tt15,tt15,tt15,tt15,tt15,tt15,tt15,tt15,tt15,ff15,ff15,ff15,ff15,ff15,ff15,ff15,ff15,ff15,ff15,ff15,ff15,ff15,ff15,ff15,ff15,ff15,ff15,ff15,ff15,ff15,ff15,ff15] rfl rfl (any_of HT_.out (by kernel_rfl)) (fun _ _ _ h => h) (Or.inr ⟨by rfl, rfl⟩) ?_ ?_
           rotate_left
           ·simp only [Act.put, List.setIfInBounds_toArray, List.set_cons_zero, List.set_cons_succ, i64_w, i32_w]
            rfl
           refine pure_ (i := 24) (N := some 88) (v := undef) (a' := ?_) #[tt15,tt15,tt15,tt15,tt15,tt15,tt15,tt15,tt15,tt15,tt15,tt15,tt15,tt15,tt15,tt15,tt15,tt15,tt15,tt15,tt15,tt15,tt15,tt15,tt15,ff15,ff15,ff15,ff15,ff15,ff15,ff15,ff15,ff15,ff15,ff15,ff15,ff15,ff15,ff15,ff15,ff15,ff15,ff15,ff15,ff15,ff15] rfl rfl (any_of HT_.out (by kernel_rfl)) (fun _ _ _ h => h) (Or.inr ⟨by rfl, rfl⟩) ?_ ?_
           rotate_left
           ·simp only [Act.put, List.setIfInBounds_toArray, List.set_cons_zero, List.set_cons_succ, i64_w, i32_w]
            rfl
           refine pure_ (i := 25) (N := some 89) (v := undef) (a' := ?_) #[tt15,tt15,tt15,tt15,tt15,tt15,tt15,tt15,tt15,tt15,tt15,tt15,tt15,tt15,tt15,tt15,tt15,tt15,tt15,tt15,tt15,tt15,tt15,tt15,tt15,tt15,ff15,ff15,ff15,ff15,ff15,ff15,ff15,ff15,ff15,ff15,ff15,ff15,ff15,ff15,ff15,ff15,ff15,ff15,ff15,ff15,ff15] rfl rfl (any_of HT_.out (by kernel_rfl)) (fun _ _ _ h => h) (Or.inr ⟨by rfl, rfl⟩) ?_ ?_
           rotate_left
           ·simp only [Act.put, List.setIfInBounds_toArray, List.set_cons_zero, List.set_cons_succ, i64_w, i32_w]
            rfl
           refine pure_ (i := 26) (N := some 90) (v := undef) (a' := ?_) #[tt15,tt15,tt15,tt15,tt15,tt15,tt15,tt15,tt15,tt15,tt15,tt15,tt15,tt15,tt15,tt15,tt15,tt15,tt15,tt15,tt15,tt15,tt15,tt15,tt15,tt15,tt15,ff15,ff15,ff15,ff15,ff15,ff15,ff15,ff15,ff15,ff15,ff15,ff15,ff15,ff15,ff15,ff15,ff15,ff15,ff15,ff15] rfl rfl (any_of HT_.out (by kernel_rfl)) (fun _ _ _ h => h) (Or.inr ⟨by rfl, rfl⟩) ?_ ?_
           rotate_left
           ·simp only [Act.put, List.setIfInBounds_toArray, List.set_cons_zero, List.set_cons_succ, i64_w, i32_w]
            rfl
           refine pure_ (i := 27) (N := some 91) (v := undef) (a' := ?_) #[tt15,tt15,tt15,tt15,tt15,tt15,tt15,tt15,tt15,tt15,tt15,tt15,tt15,tt15,tt15,tt15,tt15,tt15,tt15,tt15,tt15,tt15,tt15,tt15,tt15,tt15,tt15,tt15,ff15,ff15,ff15,ff15,ff15,ff15,ff15,ff15,ff15,ff15,ff15,ff15,ff15,ff15,ff15,ff15,ff15,ff15,ff15] rfl rfl (any_of HT_.out (by kernel_rfl)) (fun _ _ _ h => h) (Or.inr ⟨by rfl, rfl⟩) ?_ ?_
           rotate_left
           ·simp only [Act.put, List.setIfInBounds_toArray, List.set_cons_zero, List.set_cons_succ, i64_w, i32_w]
            rfl
           refine pure_ (i := 28) (N := some 92) (v := undef) (a' := ?_) #[tt15,tt15,tt15,tt15,tt15,tt15,tt15,tt15,tt15,tt15,tt15,tt15,tt15,tt15,tt15,tt15,tt15,tt15,tt15,tt15,tt15,tt15,tt15,tt15,tt15,tt15,tt15,tt15,tt15,ff15,ff15,ff15,ff15,ff15,ff15,ff15,ff15,ff15,ff15,ff15,ff15,ff15,ff15,ff15,ff15,ff15,ff15] rfl rfl (any_of HT_.out (by kernel_rfl)) (fun _ _ _ h => h) (Or.inr ⟨by rfl, rfl⟩) ?_ ?_
           rotate_left
           ·simp only [Act.put, List.setIfInBounds_toArray, List.set_cons_zero, List.set_cons_succ, i64_w, i32_w]
            rfl
           refine pure_ (i := 29) (N := some 93) (v := undef) (a' := ?_) #[tt15,tt15,tt15,tt15,tt15,tt15,tt15,tt15,tt15,tt15,tt15,tt15,tt15,tt15,tt15,tt15,tt15,tt15,tt15,tt15,tt15,tt15,tt15,tt15,tt15,tt15,tt15,tt15,tt15,tt15,ff15,ff15,ff15,ff15,ff15,ff15,ff15,ff15,ff15,ff15,ff15,ff15,ff15,ff15,ff15,ff15,ff15] rfl rfl (any_of HT_.out (by kernel_rfl)) (fun _ _ _ h => h) (Or.inr ⟨by rfl, rfl⟩) ?_ ?_
           rotate_left
           ·simp only [Act.put, List.setIfInBounds_toArray, List.set_cons_zero, List.set_cons_succ, i64_w, i32_w]
            rfl
           refine pure_ (i := 30) (N := some 94) (v := undef) (a' := ?_) #[tt15,tt15,tt15,tt15,tt15,tt15,tt15,tt15,tt15,tt15,tt15,tt15,tt15,tt15,tt15,tt15,tt15,tt15,tt15,tt15,tt15,tt15,tt15,tt15,tt15,tt15,tt15,tt15,tt15,tt15,tt15,ff15,ff15,ff15,ff15,ff15,ff15,ff15,ff15,ff15,ff15,ff15,ff15,ff15,ff15,ff15,ff15] rfl rfl (any_of HT_.out (by kernel_rfl)) (fun _ _ _ h => h) (Or.inr ⟨by rfl, rfl⟩) ?_ ?_
           rotate_left
           ·simp only [Act.put, List.setIfInBounds_toArray, List.set_cons_zero, List.set_cons_succ, i64_w, i32_w]
            rfl
           refine pure_ (i := 31) (N := some 95) (v := undef) (a' := ?_) #[tt15,tt15,tt15,tt15,tt15,tt15,tt15,tt15,tt15,tt15,tt15,tt15,tt15,tt15,tt15,tt15,tt15,tt15,tt15,tt15,tt15,tt15,tt15,tt15,tt15,tt15,tt15,tt15,tt15,tt15,tt15,tt15,ff15,ff15,ff15,ff15,ff15,ff15,ff15,ff15,ff15,ff15,ff15,ff15,ff15,ff15,ff15] rfl rfl (any_of HT_.out (by kernel_rfl)) (fun _ _ _ h => h) (Or.inr ⟨by rfl, rfl⟩) ?_ ?_
           rotate_left
           ·simp only [Act.put, List.setIfInBounds_toArray, List.set_cons_zero, List.set_cons_succ, i64_w, i32_w]
            rfl
           refine pure_ (i := 32) (N := some 96) (v := undef) (a' := ?_) #[tt15,tt15,tt15,tt15,tt15,tt15,tt15,tt15,tt15,tt15,tt15,tt15,tt15,tt15,tt15,tt15,tt15,tt15,tt15,tt15,tt15,tt15,tt15,tt15,tt15,tt15,tt15,tt15,tt15,tt15,tt15,tt15,tt15,ff15,ff15,ff15,ff15,ff15,ff15,ff15,ff15,ff15,ff15,ff15,ff15,ff15,ff15] rfl rfl (any_of HT_.out (by kernel_rfl)) (fun _ _ _ h => h) (Or.inr ⟨by rfl, rfl⟩) ?_ ?_
           rotate_left
           ·simp only [Act.put, List.setIfInBounds_toArray, List.set_cons_zero, List.set_cons_succ, i64_w, i32_w]
            rfl
           refine pure_ (i := 33) (N := some 97) (v := undef) (a' := ?_) #[tt15,tt15,tt15,tt15,tt15,tt15,tt15,tt15,tt15,tt15,tt15,tt15,tt15,tt15,tt15,tt15,tt15,tt15,tt15,tt15,tt15,tt15,tt15,tt15,tt15,tt15,tt15,tt15,tt15,tt15,tt15,tt15,tt15,tt15,ff15,ff15,ff15,ff15,ff15,ff15,ff15,ff15,ff15,ff15,ff15,ff15,ff15] rfl rfl (any_of HT_.out (by kernel_rfl)) (fun _ _ _ h => h) (Or.inr ⟨by rfl, rfl⟩) ?_ ?_
           rotate_left
           ·simp only [Act.put, List.setIfInBounds_toArray, List.set_cons_zero, List.set_cons_succ, i64_w, i32_w]
            rfl
           refine pure_ (i := 34) (N := some 98) (v := undef) (a' := ?_) #[tt15,tt15,tt15,tt15,tt15,tt15,tt15,tt15,tt15,tt15,tt15,tt15,tt15,tt15,tt15,tt15,tt15,tt15,tt15,tt15,tt15,tt15,tt15,tt15,tt15,tt15,tt15,tt15,tt15,tt15,tt15,tt15,tt15,tt15,tt15,ff15,ff15,ff15,ff15,ff15,ff15,ff15,ff15,ff15,ff15,ff15,ff15] rfl rfl (any_of HT_.out (by kernel_rfl)) (fun _ _ _ h => h) (Or.inr ⟨by rfl, rfl⟩) ?_ ?_
           rotate_left
           ·simp only [Act.put, List.setIfInBounds_toArray, List.set_cons_zero, List.set_cons_succ, i64_w, i32_w]
            rfl
           refine pure_ (i := 35) (N := some 99) (v := undef) (a' := ?_) #[tt15,tt15,tt15,tt15,tt15,tt15,tt15,tt15,tt15,tt15,tt15,tt15,tt15,tt15,tt15,tt15,tt15,tt15,tt15,tt15,tt15,tt15,tt15,tt15,tt15,tt15,tt15,tt15,tt15,tt15,tt15,tt15,tt15,tt15,tt15,tt15,ff15,ff15,ff15,ff15,ff15,ff15,ff15,ff15,ff15,ff15,ff15] rfl rfl (any_of HT_.out (by kernel_rfl)) (fun _ _ _ h => h) (Or.inr ⟨by rfl, rfl⟩) ?_ ?_
           rotate_left
           ·simp only [Act.put, List.setIfInBounds_toArray, List.set_cons_zero, List.set_cons_succ, i64_w, i32_w]
            rfl
           refine pure_ (i := 36) (N := some 100) (v := undef) (a' := ?_) #[tt15,tt15,tt15,tt15,tt15,tt15,tt15,tt15,tt15,tt15,tt15,tt15,tt15,tt15,tt15,tt15,tt15,tt15,tt15,tt15,tt15,tt15,tt15,tt15,tt15,tt15,tt15,tt15,tt15,tt15,tt15,tt15,tt15,tt15,tt15,tt15,tt15,ff15,ff15,ff15,ff15,ff15,ff15,ff15,ff15,ff15,ff15] rfl rfl (any_of HT_.out (by kernel_rfl)) (fun _ _ _ h => h) (Or.inr ⟨by rfl, rfl⟩) ?_ ?_
           rotate_left
           ·simp only [Act.put, List.setIfInBounds_toArray, List.set_cons_zero, List.set_cons_succ, i64_w, i32_w]
            rfl
           refine pure_ (i := 37) (N := some 101) (v := undef) (a' := ?_) #[tt15,tt15,tt15,tt15,tt15,tt15,tt15,tt15,tt15,tt15,tt15,tt15,tt15,tt15,tt15,tt15,tt15,tt15,tt15,tt15,tt15,tt15,tt15,tt15,tt15,tt15,tt15,tt15,tt15,tt15,tt15,tt15,tt15,tt15,tt15,tt15,tt15,tt15,ff15,ff15,ff15,ff15,ff15,ff15,ff15,ff15,ff15] rfl rfl (any_of HT_.out (by kernel_rfl)) (fun _ _ _ h => h) (Or.inr ⟨by rfl, rfl⟩) ?_ ?_
           rotate_left
           ·simp only [Act.put, List.setIfInBounds_toArray, List.set_cons_zero, List.set_cons_succ, i64_w, i32_w]
            rfl
           refine pure_ (i := 38) (N := some 102) (v := undef) (a' := ?_) #[tt15,tt15,tt15,tt15,tt15,tt15,tt15,tt15,tt15,tt15,tt15,tt15,tt15,tt15,tt15,tt15,tt15,tt15,tt15,tt15,tt15,tt15,tt15,tt15,tt15,tt15,tt15,tt15,tt15,tt15,tt15,tt15,tt15,tt15,tt15,tt15,tt15,tt15,tt15,ff15,ff15,ff15,ff15,ff15,ff15,ff15,ff15] rfl rfl (any_of HT_.out (by kernel_rfl)) (fun _ _ _ h => h) (Or.inr ⟨by rfl, rfl⟩) ?_ ?_
           rotate_left
           ·simp only [Act.put, List.setIfInBounds_toArray, List.set_cons_zero, List.set_cons_succ, i64_w, i32_w]
            rfl
           refine pure_ (i := 39) (N := some 103) (v := undef) (a' := ?_) #[tt15,tt15,tt15,tt15,tt15,tt15,tt15,tt15,tt15,tt15,tt15,tt15,tt15,tt15,tt15,tt15,tt15,tt15,tt15,tt15,tt15,tt15,tt15,tt15,tt15,tt15,tt15,tt15,tt15,tt15,tt15,tt15,tt15,tt15,tt15,tt15,tt15,tt15,tt15,tt15,ff15,ff15,ff15,ff15,ff15,ff15,ff15] rfl rfl (any_of HT_.out (by kernel_rfl)) (fun _ _ _ h => h) (Or.inr ⟨by rfl, rfl⟩) ?_ ?_
           rotate_left
           ·simp only [Act.put, List.setIfInBounds_toArray, List.set_cons_zero, List.set_cons_succ, i64_w, i32_w]
            rfl
           refine pure_ (i := 40) (N := some 104) (v := undef) (a' := ?_) #[tt15,tt15,tt15,tt15,tt15,tt15,tt15,tt15,tt15,tt15,tt15,tt15,tt15,tt15,tt15,tt15,tt15,tt15,tt15,tt15,tt15,tt15,tt15,tt15,tt15,tt15,tt15,tt15,tt15,tt15,tt15,tt15,tt15,tt15,tt15,tt15,tt15,tt15,tt15,tt15,tt15,ff15,ff15,ff15,ff15,ff15,ff15] rfl rfl (any_of HT_.out (by kernel_rfl)) (fun _ _ _ h => h) (Or.inr ⟨by rfl, rfl⟩) ?_ ?_
           rotate_left
           ·simp only [Act.put, List.setIfInBounds_toArray, List.set_cons_zero, List.set_cons_succ, i64_w, i32_w]
            rfl
           refine pure_ (i := 41) (N := some 105) (v := undef) (a' := ?_) #[tt15,tt15,tt15,tt15,tt15,tt15,tt15,tt15,tt15,tt15,tt15,tt15,tt15,tt15,tt15,tt15,tt15,tt15,tt15,tt15,tt15,tt15,tt15,tt15,tt15,tt15,tt15,tt15,tt15,tt15,tt15,tt15,tt15,tt15,tt15,tt15,tt15,tt15,tt15,tt15,tt15,tt15,ff15,ff15,ff15,ff15,ff15] rfl rfl (any_of HT_.out (by kernel_rfl)) (fun _ _ _ h => h) (Or.inr ⟨by rfl, rfl⟩) ?_ ?_
           rotate_left
           ·simp only [Act.put, List.setIfInBounds_toArray, List.set_cons_zero, List.set_cons_succ, i64_w, i32_w]
            rfl
           refine pure_ (i := 42) (N := some 106) (v := undef) (a' := ?_) #[tt15,tt15,tt15,tt15,tt15,tt15,tt15,tt15,tt15,tt15,tt15,tt15,tt15,tt15,tt15,tt15,tt15,tt15,tt15,tt15,tt15,tt15,tt15,tt15,tt15,tt15,tt15,tt15,tt15,tt15,tt15,tt15,tt15,tt15,tt15,tt15,tt15,tt15,tt15,tt15,tt15,tt15,tt15,ff15,ff15,ff15,ff15] rfl rfl (any_of HT_.out (by kernel_rfl)) (fun _ _ _ h => h) (Or.inr ⟨by rfl, rfl⟩) ?_ ?_
           rotate_left
           ·simp only [Act.put, List.setIfInBounds_toArray, List.set_cons_zero, List.set_cons_succ, i64_w, i32_w]
            rfl
           refine pure_ (i := 43) (N := some 107) (v := undef) (a' := ?_) #[tt15,tt15,tt15,tt15,tt15,tt15,tt15,tt15,tt15,tt15,tt15,tt15,tt15,tt15,tt15,tt15,tt15,tt15,tt15,tt15,tt15,tt15,tt15,tt15,tt15,tt15,tt15,tt15,tt15,tt15,tt15,tt15,tt15,tt15,tt15,tt15,tt15,tt15,tt15,tt15,tt15,tt15,tt15,tt15,ff15,ff15,ff15] rfl rfl (any_of HT_.out (by kernel_rfl)) (fun _ _ _ h => h) (Or.inr ⟨by rfl, rfl⟩) ?_ ?_
           rotate_left
           ·simp only [Act.put, List.setIfInBounds_toArray, List.set_cons_zero, List.set_cons_succ, i64_w, i32_w]
            rfl
           refine pure_ (i := 44) (N := some 108) (v := undef) (a' := ?_) #[tt15,tt15,tt15,tt15,tt15,tt15,tt15,tt15,tt15,tt15,tt15,tt15,tt15,tt15,tt15,tt15,tt15,tt15,tt15,tt15,tt15,tt15,tt15,tt15,tt15,tt15,tt15,tt15,tt15,tt15,tt15,tt15,tt15,tt15,tt15,tt15,tt15,tt15,tt15,tt15,tt15,tt15,tt15,tt15,tt15,ff15,ff15] rfl rfl (any_of HT_.out (by kernel_rfl)) (fun _ _ _ h => h) (Or.inr ⟨by rfl, rfl⟩) ?_ ?_
           rotate_left
           ·simp only [Act.put, List.setIfInBounds_toArray, List.set_cons_zero, List.set_cons_succ, i64_w, i32_w]
            rfl
           refine pure_ (i := 45) (N := some 109) (v := undef) (a' := ?_) #[tt15,tt15,tt15,tt15,tt15,tt15,tt15,tt15,tt15,tt15,tt15,tt15,tt15,tt15,tt15,tt15,tt15,tt15,tt15,tt15,tt15,tt15,tt15,tt15,tt15,tt15,tt15,tt15,tt15,tt15,tt15,tt15,tt15,tt15,tt15,tt15,tt15,tt15,tt15,tt15,tt15,tt15,tt15,tt15,tt15,tt15,ff15] rfl rfl (any_of HT_.out (by kernel_rfl)) (fun _ _ _ h => h) (Or.inr ⟨by rfl, rfl⟩) ?_ ?_
           rotate_left
           ·simp only [Act.put, List.setIfInBounds_toArray, List.set_cons_zero, List.set_cons_succ, i64_w, i32_w]
            rfl
           refine pure_ (i := 46) (N := some 110) (v := ?_) (a' := ?_) #[tt15,tt15,tt15,tt15,tt15,tt15,tt15,tt15,tt15,tt15,tt15,tt15,tt15,tt15,tt15,tt15,tt15,tt15,tt15,tt15,tt15,tt15,tt15,tt15,tt15,tt15,tt15,tt15,tt15,tt15,tt15,tt15,tt15,tt15,tt15,tt15,tt15,tt15,tt15,tt15,tt15,tt15,tt15,tt15,tt15,tt15,tt15] rfl rfl (any_of HT_.out (by kernel_rfl)) (fun _ _ _ h => h) (Or.inl ⟨by rfl, ?_⟩) ?_ ?_
           rotate_left
           ·intro w'
            go_simp
            with_reducible rfl
           rotate_left
           ·simp only [Act.put, List.setIfInBounds_toArray, List.set_cons_zero, List.set_cons_succ, i64_w, i32_w]
            rfl
           refine done_ (done_of HT_.out (by kernel_rfl)) ?_
           try go_wp2
           go_roundg k2
           case measure => have := HJ1.out; have := HK2.out; omega
           case rel => exact ⟨(wrap64 (x54_2 + 1)), (by first | rfl | (simp; done) | (simp [*]; done)), H', ⟨by have := HJ1.out; have := HK2.out; omega⟩, ⟨by (with_reducible repeat (first | refine blk_drewN ?_ _ | refine blk_drew ?_ | refine blk_alloc ?_ _)); exact BK195.out⟩, ⟨by repeat (first | (with_reducible first | exact HB.out | apply below_alloc | apply pw_below_drewN | apply below_drew1 | refine below_set ?_ GE195.out) | exact HB.out)⟩⟩
         ·replace c26 := Bool.eq_false_iff.mpr c26
          subst c26
          have H1 : (some false) = some r := by rw [if_neg (show ¬ (false = true) by decide)] at H; exact H
          clear H
          have H := H1
          clear H1
          obtain rfl := Option.some.inj H
          have hcz53_0 := bc0 BK195.out
          have hcz53_1 := bc1 BK195.out
          have hcz53_2 := bc2 BK195.out
          have hcz53_3 := bc3 BK195.out
          have hfz53_0 := blk_frozen BK195.out 0
          have hfz53_1 := blk_frozen BK195.out 1
          have hfz53_2 := blk_frozen BK195.out 2
          have hfz53_3 := blk_frozen BK195.out 3
          have p200 : 0 ≤ (x54_2 : Int) := of_decide_eq_true (by first | (with_reducible assumption) | assumption)
          have q200 : x54_2 < (l0_3.length : Int) := of_decide_eq_true (by first | (with_reducible assumption) | assumption)
          obtain ⟨ad200, A200_0, c200_0, e200, hx200_0, hl200_0, hi200_0⟩ := at_L1 HR0_3.out x54_2 p200 q200
          cases e200
          replace hx200_0 := (HB.out.cell (World.block_lt_of_cell? w _ hx200_0)).trans hx200_0
          have HR200_0 := Aside0.mk hi200_0
          have HC200_0 := Aside0.mk hl200_0
          clear hi200_0 hl200_0
          replace p200 := eq_true p200
          replace q200 := eq_true q200
          go_wp2_with (first | ((with_reducible refine gate_callee (f := 64) rfl ?_); refine goesL_ (some 62) rfl rfl Try.func64 (by kernel_rfl) rfl #[.slice A200_0 (rd_L1 l0_3 x54_2).length c200_0, .int .i64 0, .int .i64 7] rfl (by (try simp only [List.map_toArray, List.map_cons, List.map_nil]); first | done | rfl | (simp only [List.length_drop, List.length_take]; rfl)) ?_; (with_reducible refine (impl_isRising.calls k2 _ _ (rd_L1 l0_3 x54_2) 0 7 false _ ?side1 ?side2 A25.out).mono ?_); (case side1 => repeat (first | exact (Kd.C_below HR200_0.out HB.out) | (with_reducible refine Kd.C_alloc ?_ _) | (with_reducible refine Kd.C_drewN ?_ _) | (with_reducible refine Kd.C_drew ?_))); (case side2 => exact HC200_0.out); rintro e w' ⟨rfl, ⟨nd, rfl⟩⟩; refine ⟨_, rfl, ?_⟩))
          go_ret
          exact ⟨by first | rfl | (simp [errW_none, errW_some] <;> rfl) | (simp [*, errW_none, errW_some] <;> rfl), by repeat (first | (with_reducible first | exact HB.out | apply below_alloc | apply pw_below_drewN | apply below_drew1 | refine below_set ?_ GE195.out) | exact HB.out)⟩
        ·rw [if_neg c24] at H
         exact absurd H (by simp)
       ·rw [if_neg c23] at H
        exact absurd H (by simp)
      ·rw [if_neg c22] at H
       have c22b0 : decide (x54_2 < (l0_0.length : Int)) = false := decide_eq_false c22
       clear c22
       obtain rfl := Option.some.inj H
       go_wp2
       go_ret
       exact ⟨by first | rfl | (simp [errW_none, errW_some] <;> rfl) | (simp [*, errW_none, errW_some] <;> rfl), by repeat (first | (with_reducible first | exact HB.out | apply below_alloc | apply pw_below_drewN | apply below_drew1 | refine below_set ?_ GE195.out) | exact HB.out)⟩


end Go.Proofs.Ytoipfgpggcnkmaa.P
