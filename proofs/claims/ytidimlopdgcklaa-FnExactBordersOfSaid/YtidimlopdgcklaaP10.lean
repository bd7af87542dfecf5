-- PRINTED by print.py (a twelfth state) out of the translation. Not trusted: Lean checks it.
import Derived.Test.YtidimlopdgcklaaP0
namespace Go.Proofs.Ytidimlopdgcklaa.P
open Go.RowKit Go.Proofs.YtidimlopdgcklaaW.PrintWords Go.Proofs.YtidimlopdgcklaaW.PrintLast Go.Proofs.YtidimlopdgcklaaW.PrintMore
attribute [local go_sem] max2_int min2_int max_two min_two max_three min_three max_four min_four   -- for this text's walks alone
set_option linter.unusedVariables false
set_option linter.unusedSimpArgs false

/-! ### spec_l1Same: function 72 -/
def spec_l1Same.l0 : Nat → List Int → List Int → Int → Int → Option (Bool)
  | 0, _, _, _, _ => none
  | k + 1, x0, x1, x12, x13 => if x13 < x12 then (if 0 ≤ x13 then (if x13 < (x0.length : Int) then (if x13 < (x1.length : Int) then (if (rd x0 x13) = (rd x1 x13) then (spec_l1Same.l0 k x0 x1 x12 (wrap64 (x13 + 1))) else (some false)) else (none)) else (none)) else (none)) else (some true)
def spec_l1Same.f (k : Nat) (l0 : List Int) (l1 : List Int) : Option (Bool) := if (l0.length : Int) = (l1.length : Int) then (spec_l1Same.l0 k l0 l1 (l0.length : Int) 0) else (some false)
theorem spec_l1Same.mono_l : ∀ k, (∀ y0 y1 y2 y3, LeO (spec_l1Same.l0 k y0 y1 y2 y3) (spec_l1Same.l0 (k + 1) y0 y1 y2 y3))
  | 0 => fun _ _ _ _ r h => by simp [spec_l1Same.l0] at h
  | k + 1 => by
    have ih0 := spec_l1Same.mono_l k
    · intro y0 y1 y2 y3
      unfold spec_l1Same.l0
      repeat' first
      | (with_reducible exact ih0 _ _ _ _)
      | (with_reducible exact LeO.refl _)
      | (with_reducible exact LeO.none _)
      | (with_reducible refine LeO.ite ?_ ?_)
      | (with_reducible refine LeO.bind ?_ (fun _ => ?_))
      | exact ih0 _ _ _ _
      | exact LeO.none _
      | refine LeO.ite ?_ ?_
      | refine LeO.bind ?_ (fun _ => ?_)
theorem spec_l1Same.mono : ∀ a0 a1 k, LeO (spec_l1Same.f k a0 a1) (spec_l1Same.f (k + 1) a0 a1) := by
  intro a0 a1 k
  have ih0 := spec_l1Same.mono_l k
  unfold spec_l1Same.f
  repeat' first
      | (with_reducible exact ih0 _ _ _ _)
      | (with_reducible exact LeO.refl _)
      | (with_reducible exact LeO.none _)
      | (with_reducible refine LeO.ite ?_ ?_)
      | (with_reducible refine LeO.bind ?_ (fun _ => ?_))
      | exact ih0 _ _ _ _
      | exact LeO.none _
      | refine LeO.ite ?_ ?_
      | refine LeO.bind ?_ (fun _ => ?_)
set_option maxHeartbeats 8000000 in
set_option maxRecDepth 100000 in
theorem spec_l1Same.calls (k : Nat) (A0 : Option Addr) (c0 : Nat) (l0 : List Int) (A1 : Option Addr) (c1 : Nat) (l1 : List Int) (r : Bool) (w : World) (hr0 : Kd.C (Kd.int .i64) w A0 l0.length l0) (hc0 : l0.length ≤ c0) (hr1 : Kd.C (Kd.int .i64) w A1 l1.length l1) (hc1 : l1.length ≤ c1) (h : spec_l1Same.f k l0 l1 = some r) :
    Calls Try.prog 72 #[.slice A0 l0.length c0, .slice A1 l1.length c1] w fun e w' => e = .returned (.bool r) ∧ Drawn0 w w' := by
  have HR0 := Aside0.mk hr0
  have HC0 := Aside0.mk hc0
  clear hr0 hc0
  have HR1 := Aside0.mk hr1
  have HC1 := Aside0.mk hc1
  clear hr1 hc1
  have H : (if (l0.length : Int) = (l1.length : Int) then (spec_l1Same.l0 k l0 l1 (l0.length : Int) 0) else (some false)) = some r := h
  clear h
  by_cases c3 : (l0.length : Int) = (l1.length : Int)
  · rw [if_pos c3] at H
    have c3b0 : ((l0.length : Int) == (l1.length : Int)) = true := beq_iff_eq.mpr c3
    have c3b1 : ((l0.length : Int) != (l1.length : Int)) = false := bne_eq_false_iff_eq.mpr c3
    have c3b2 : (l0.length == l1.length) = true := by first | simpa using c3 | (simp at c3 ⊢; omega)
    clear c3
    have H' := Aside0.mk H
    clear H
    go_enter Try.func72, Try.ntmps72
    go_wp2
    repeat (go_quiet (fail); try go_wp2)
    go_loopg [13] k (fun kq v13 w' => ∃ (x13_1 : Int), v13 = .int .i64 x13_1 ∧ Aside0 (spec_l1Same.l0 kq l0 l1 (l0.length : Int) x13_1 = some r) ∧ Aside0 (kq ≤ k) ∧ Drawn0 w w')
    case atStart => exact ⟨(0), (by first | rfl | (simp; done) | (simp [*]; done)), H', ⟨Nat.le_refl _⟩, by repeat (first | exact Drawn0.refl _ | apply Drawn0.step)⟩
    case round =>
      clear H'
      try clear c1
      try clear p2
      try clear c3
      try clear c3b0
      try clear c3b1
      try clear c3b2
      obtain ⟨x13_1, rfl, HA, HK1, ⟨m1, rfl⟩⟩ := hrel
      cases gk with
      | zero => exact absurd HA.out (by simp [spec_l1Same.l0])
      | succ k1 =>
        have H := HA.out
        clear HA
        simp only [spec_l1Same.l0] at H
        by_cases c4 : x13_1 < (l0.length : Int)
        · rw [if_pos c4] at H
          have c4b0 : decide (x13_1 < (l0.length : Int)) = true := decide_eq_true c4
          clear c4
          by_cases c5 : 0 ≤ x13_1
          · rw [if_pos c5] at H
            have c5b0 : decide (0 ≤ x13_1) = true := decide_eq_true c5
            clear c5
            by_cases c6 : x13_1 < (l0.length : Int)
            · rw [if_pos c6] at H
              have c6b0 : decide (x13_1 < (l0.length : Int)) = true := decide_eq_true c6
              clear c6
              by_cases c7 : x13_1 < (l1.length : Int)
              · rw [if_pos c7] at H
                have c7b0 : decide (x13_1 < (l1.length : Int)) = true := decide_eq_true c7
                clear c7
                by_cases c8 : (rd l0 x13_1) = (rd l1 x13_1)
                · rw [if_pos c8] at H
                  have c8b0 : ((rd l0 x13_1) == (rd l1 x13_1)) = true := beq_iff_eq.mpr c8
                  have c8b1 : ((rd l0 x13_1) != (rd l1 x13_1)) = false := bne_eq_false_iff_eq.mpr c8
                  clear c8
                  have H' := Aside0.mk H
                  clear H
                  have p175 : 0 ≤ (x13_1 : Int) := of_decide_eq_true (by first | (with_reducible assumption) | assumption)
                  have q175 : x13_1 < (l0.length : Int) := of_decide_eq_true (by first | (with_reducible assumption) | assumption)
                  obtain ⟨ad175, e175, hx175_0⟩ := Kd.at_int HR0.out x13_1 p175 q175
                  cases e175
                  replace p175 := eq_true p175
                  replace q175 := eq_true q175
                  have p176 : 0 ≤ (x13_1 : Int) := of_decide_eq_true (by first | (with_reducible assumption) | assumption)
                  have q176 : x13_1 < (l1.length : Int) := of_decide_eq_true (by first | (with_reducible assumption) | assumption)
                  obtain ⟨ad176, e176, hx176_0⟩ := Kd.at_int HR1.out x13_1 p176 q176
                  cases e176
                  replace p176 := eq_true p176
                  replace q176 := eq_true q176
                  go_wp2
                  repeat (go_quiet (fail); try go_wp2)
                  go_roundg k1
                  case measure => have := HK1.out; omega
                  case rel => exact ⟨(wrap64 (x13_1 + 1)), (by first | rfl | (simp; done) | (simp [*]; done)), H', ⟨by have := HK1.out; omega⟩, by repeat (first | exact Drawn0.refl _ | apply Drawn0.step)⟩
                · rw [if_neg c8] at H
                  have c8b0 : ((rd l0 x13_1) == (rd l1 x13_1)) = false := beq_eq_false_iff_ne.mpr c8
                  have c8b1 : ((rd l0 x13_1) != (rd l1 x13_1)) = true := bne_iff_ne.mpr c8
                  obtain rfl := Option.some.inj H
                  have p175 : 0 ≤ (x13_1 : Int) := of_decide_eq_true (by first | (with_reducible assumption) | assumption)
                  have q175 : x13_1 < (l0.length : Int) := of_decide_eq_true (by first | (with_reducible assumption) | assumption)
                  obtain ⟨ad175, e175, hx175_0⟩ := Kd.at_int HR0.out x13_1 p175 q175
                  cases e175
                  replace p175 := eq_true p175
                  replace q175 := eq_true q175
                  have p176 : 0 ≤ (x13_1 : Int) := of_decide_eq_true (by first | (with_reducible assumption) | assumption)
                  have q176 : x13_1 < (l1.length : Int) := of_decide_eq_true (by first | (with_reducible assumption) | assumption)
                  obtain ⟨ad176, e176, hx176_0⟩ := Kd.at_int HR1.out x13_1 p176 q176
                  cases e176
                  replace p176 := eq_true p176
                  replace q176 := eq_true q176
                  go_wp2
                  repeat (go_quiet (fail); try go_wp2)
                  go_ret
                  exact ⟨by first | rfl | (simp; done) | (simp [*]; done), by repeat (first | exact Drawn0.refl _ | apply Drawn0.step)⟩
              · rw [if_neg c7] at H
                exact absurd H (by simp)
            · rw [if_neg c6] at H
              exact absurd H (by simp)
          · rw [if_neg c5] at H
            exact absurd H (by simp)
        · rw [if_neg c4] at H
          have c4b0 : decide (x13_1 < (l0.length : Int)) = false := decide_eq_false c4
          clear c4
          obtain rfl := Option.some.inj H
          go_wp2
          repeat (go_quiet (fail); try go_wp2)
          go_ret
          exact ⟨by first | rfl | (simp; done) | (simp [*]; done), by repeat (first | exact Drawn0.refl _ | apply Drawn0.step)⟩
  · rw [if_neg c3] at H
    have c3b0 : ((l0.length : Int) == (l1.length : Int)) = false := beq_eq_false_iff_ne.mpr c3
    have c3b1 : ((l0.length : Int) != (l1.length : Int)) = true := bne_iff_ne.mpr c3
    have c3b2 : (l0.length == l1.length) = false := by first | simpa using c3 | (simp at c3 ⊢; omega)
    obtain rfl := Option.some.inj H
    go_enter Try.func72, Try.ntmps72
    go_wp2
    repeat (go_quiet (fail); try go_wp2)
    go_ret
    exact ⟨by first | rfl | (simp; done) | (simp [*]; done), by repeat (first | exact Drawn0.refl _ | apply Drawn0.step)⟩

/-! ### spec_l8Borders: function 63 (given) -/
/-- Two lists of whole numbers are held to be the same just where they are. -/
theorem l1Same_l (a b : List Int) (hs : a.length ≤ 1000000000000) (hl : a.length = b.length) : ∀ (d i : Nat), i + d = a.length → a.take i = b.take i → Ev (fun k => spec_l1Same.l0 k a b (a.length : Int) (i : Int)) (decide (a = b))
  | 0, i, hd, ht => by
    refine Ev.step (fun k => spec_l1Same.l0.eq_2 ..) (Ev.congr (fun _ => if_neg (by omega)) ?_)
    rw [List.take_of_length_le (by omega), List.take_of_length_le (by omega)] at ht
    have h0 : true = decide (a = b) := by simp [ht]
    rw [← h0]
    exact Ev.now true
  | d + 1, i, hd, ht => by
    refine Ev.step (fun k => spec_l1Same.l0.eq_2 ..) (Ev.congr (fun _ => (if_pos (by omega)).trans ((if_pos (by omega)).trans ((if_pos (by omega)).trans (if_pos (by omega))))) ?_)
    have ea : rd a (i : Int) = a[i]'(by omega) := by unfold rd; rw [Int.toNat_natCast, List.getD_eq_getElem?_getD, List.getElem?_eq_getElem (by omega)]; rfl
    have eb : rd b (i : Int) = b[i]'(by omega) := by unfold rd; rw [Int.toNat_natCast, List.getD_eq_getElem?_getD, List.getElem?_eq_getElem (by omega)]; rfl
    rw [ea, eb]
    by_cases h : a[i]'(by omega) = b[i]'(by omega)
    · refine Ev.congr (fun _ => if_pos h) ?_
      rw [show wrap64 ((i : Int) + 1) = ((i + 1 : Nat) : Int) from by unfold wrap64; omega]
      refine l1Same_l a b hs hl d (i + 1) (by omega) ?_
      rw [List.take_succ_eq_append_getElem (by omega), List.take_succ_eq_append_getElem (by omega), ht, h]
    · refine Ev.congr (fun _ => if_neg h) ?_
      have h0 : false = decide (a = b) := by
        symm
        rw [decide_eq_false_iff_not]
        rintro rfl
        exact h rfl
      rw [← h0]
      exact Ev.now false
theorem l1Same_ev (a b : List Int) (hs : a.length ≤ 1000000000000) : Ev (fun k => spec_l1Same.f k a b) (decide (a = b)) := by
  unfold spec_l1Same.f
  by_cases hl : a.length = b.length
  · exact Ev.congr (fun _ => if_pos (by omega)) (l1Same_l a b hs hl a.length 0 (by omega) (by simp))
  · refine Ev.congr (fun _ => if_neg (by omega)) ?_
    have h0 : false = decide (a = b) := by
      symm
      rw [decide_eq_false_iff_not]
      rintro rfl
      exact hl rfl
    rw [← h0]
    exact Ev.now false
/-- The longest border, of at most so many, of what ends with place k. -/
def bestB (l : List Int) (k : Nat) : Nat → Nat
  | 0 => 0
  | n + 1 => if l.take (n + 1) = (l.take (k + 1)).drop (k - n) then n + 1 else bestB l k n
def bordersB (l : List Int) : List Int := (List.range l.length).map fun k => (bestB l k k : Int)
def spec_l8Borders.f (l0 : List Int) : Option (List Int) := if l0.length ≤ 1000000000 then some (bordersB l0) else none
set_option maxHeartbeats 8000000 in
set_option maxRecDepth 100000 in
theorem spec_l8Borders.calls (A0 : Option Addr) (c0 : Nat) (l0 : List Int) (r : List Int) (w : World) (hr0 : Kd.C (Kd.int .i64) w A0 l0.length l0) (hc0 : l0.length ≤ c0) (h : spec_l8Borders.f l0 = some r) :
    Calls Try.prog 63 #[.slice A0 l0.length c0] w fun e w' => ∃ v0_ : Value, e = .returned (v0_) ∧ Kd.R (Kd.int .i64) 3 w' w.heap.size (fun _ => True) v0_ r ∧ Below w.heap.size w w' := by
  unfold spec_l8Borders.f at h
  split at h
  case isFalse => cases h
  rename_i hs
  obtain rfl := Option.some.inj h
  clear h
  have HR0 := Aside0.mk hr0
  have HC0 := Aside0.mk hc0
  clear hr0 hc0
  have HB := Aside0.mk (Below.refl w.heap.size w)
  go_enter Try.func63, Try.ntmps63
  go_wp2
  go_loopg [3, 9] l0.length (fun kq v3 v9 w' => ∃ k : Nat, k ≤ l0.length ∧ l0.length - k ≤ kq ∧ v9 = .int .i64 k ∧ Aside0 (Kd.R (Kd.int .i64) 3 w' w.heap.size (fun _ => True) v3 ((List.range k).map fun k => (bestB l0 k k : Int))) ∧ Aside0 (Below w.heap.size w w'))
  case atStart => exact ⟨0, by omega, by omega, rfl, ⟨Kd.R_nil _ _ _ _ _⟩, ⟨HB.out⟩⟩
  case round =>
    obtain ⟨k, hk, hg, rfl, HO_3, HB⟩ := hrel
    by_cases hlt : k < l0.length
    · have hltz : (k : Int) < (l0.length : Int) := by omega
      go_wp2
      go_loopg [5, 6] (k + 1) (fun kq v5 v6 w' => ∃ m : Nat, 1 ≤ m ∧ m ≤ k + 1 ∧ k + 1 - m ≤ kq ∧ v5 = .int .i64 (bestB l0 k (m - 1)) ∧ v6 = .int .i64 (m : Int) ∧ Aside0 (Kd.R (Kd.int .i64) 3 w' w.heap.size (fun _ => True) u3 ((List.range k).map fun k => (bestB l0 k k : Int))) ∧ Aside0 (Below w.heap.size w w'))
      case atStart => exact ⟨1, by omega, by omega, by omega, rfl, rfl, ⟨HO_3.out⟩, ⟨HB.out⟩⟩
      case round =>
        clear HO_3
        obtain ⟨m, hm1, hm, hg2, rfl, rfl, HO_3, HB⟩ := hrel
        by_cases hnk : m < k + 1
        · have hnkz : (m : Int) ≤ (k : Int) := by omega
          have h0m : (0 : Int) ≤ (m : Int) := by omega
          have hlm : (m : Int) ≤ (l0.length : Int) := by omega
          obtain ⟨i012, hi012, _, hsz12, _⟩ := info_parts info3
          obtain ⟨hcut12, hA12, hC12⟩ := print_take_of (P := Try.prog) (Value.int .i64) 0 32 3 .i64 Try.underlying32 hi012 hsz12 A0 c0 l0 (m : Int) (by omega) (by omega) HC0.out
          have HR177 := Aside0.mk (Kd.C_of_reads (h1 := fun _ => rfl) (hA12 _ (Kd.reads_of_C HR0.out)))
          have HC177 := Aside0.mk hC12
          clear hA12 hC12
          obtain ⟨A13, hcut13, hA13, hC13⟩ := print_mid_of (P := Try.prog) (Value.int .i64) 0 32 3 .i64 .i64 Try.underlying32 hi012 hsz12 A0 c0 l0 ((k : Int) + 1 - (m : Int)) ((k : Int) + 1) (by omega) (by omega) (by omega) HC0.out
          have HR178 := Aside0.mk (Kd.C_of_reads (h1 := fun _ => rfl) (hA13 _ (Kd.reads_of_C HR0.out)))
          have HC178 := Aside0.mk hC13
          clear hA13 hC13 hi012 hsz12
          obtain ⟨K, hK⟩ := Ev.rounds (l1Same_ev (l0.take (m : Int).toNat) ((l0.take ((k : Int) + 1).toNat).drop ((k : Int) + 1 - (m : Int)).toNat) (by rw [List.length_take]; omega))
          have hbn : (bestB l0 k (m + 1 - 1) : Int) = if decide (l0.take (m : Int).toNat = (l0.take ((k : Int) + 1).toNat).drop ((k : Int) + 1 - (m : Int)).toNat) = true then (m : Int) else (bestB l0 k (m - 1) : Int) := by
            obtain ⟨n, rfl⟩ : ∃ n, m = n + 1 := ⟨m - 1, by omega⟩
            rw [show (((n + 1 : Nat) : Int)).toNat = n + 1 from by omega, show ((k : Int) + 1).toNat = k + 1 from by omega, show ((k : Int) + 1 - ((n + 1 : Nat) : Int)).toNat = k - n from by omega]
            simp only [Nat.add_sub_cancel, bestB, decide_eq_true_eq]
            split <;> simp
          have HBN := Aside0.mk hbn
          clear hbn
          generalize decide (l0.take (m : Int).toNat = (l0.take ((k : Int) + 1).toNat).drop ((k : Int) + 1 - (m : Int)).toNat) = b at hK HBN
          have HK := Aside0.mk hK
          clear hK
          have Q1 := Aside0.mk (show (l0.take (m : Int).toNat).length = min m l0.length by rw [List.length_take, Int.toNat_natCast])
          have Q2 := Aside0.mk (show ((l0.take ((k : Int) + 1).toNat).drop ((k : Int) + 1 - (m : Int)).toNat).length = min (k + 1) l0.length - (k + 1 - m) by rw [List.length_drop, List.length_take]; omega)
          have Q3 := Aside0.mk (show c0 - ((k : Int) + 1 - (m : Int)).toNat = c0 - (k + 1 - m) by omega)
          have e1 : IntKind.i64.wrap ((k : Int) + 1) = (k : Int) + 1 := IntWalk.i64_in _ (by omega)
          have e2 : IntKind.i64.wrap ((k : Int) + 1 - (m : Int)) = (k : Int) + 1 - (m : Int) := IntWalk.i64_in _ (by omega)
          have HQ := Aside0.mk (show (#[Value.slice A0 (l0.take (m : Int).toNat).length c0, .slice A13 ((l0.take ((k : Int) + 1).toNat).drop ((k : Int) + 1 - (m : Int)).toNat).length (c0 - ((k : Int) + 1 - (m : Int)).toNat)] : Array Value) = #[Value.slice A0 (min m l0.length) c0, Value.slice A13 (min (k + 1) l0.length - (k + 1 - m)) (c0 - (k + 1 - m))] by rw [Q1.out, Q2.out, Q3.out])
          have HCC := Aside0.mk (fun x => Calls.quiet_of ((spec_l1Same.calls K _ _ _ _ _ _ b (wr.drewN x) (Kd.C_drewN (Kd.C_below HR177.out HB.out) _) HC177.out (Kd.C_drewN (Kd.C_below HR178.out HB.out) _) HC178.out HK.out).mono fun e w' ⟨he, hd⟩ => ⟨he, hd.out⟩))
          have hx : ∀ x : Nat, Calls Try.prog 72 #[Value.slice A0 (min m l0.length) c0, Value.slice A13 (min (k + 1) l0.length - (k + 1 - m)) (c0 - (k + 1 - m))] (wr.drewN x) fun e w'' => e = Ending.returned (Value.bool b) ∧ ∃ m, w'' = wr.drewN m := by
            intro x
            rw [← HQ.out]
            exact HCC.out x
          have HX := Aside0.mk hx
          clear hx
          cases b
          all_goals
            go_wp2
            go_quiet ((go_at_call 72; exact HX.out _))
            clear e1 e2
            go_wp2
            go_roundg (k + 1 - (m + 1))
            case measure => omega
            case rel => exact ⟨m + 1, by omega, by omega, by omega, by rw [HBN.out]; rfl, by go_num, ⟨Kd.R_drewN HO_3.out _⟩, ⟨pw_below_drewN HB.out _⟩⟩
        · have hnkz : ¬ (m : Int) ≤ (k : Int) := by omega
          obtain rfl : m = k + 1 := by omega
          have hy : (List.range (k + 1)).map (fun k => (bestB l0 k k : Int)) = (List.range k).map (fun k => (bestB l0 k k : Int)) ++ [(bestB l0 k (k + 1 - 1) : Int)] := by rw [List.range_succ, List.map_append]; rfl
          have HY := Aside0.mk hy
          clear hy
          have hll : ((List.range k).map (fun k => (bestB l0 k k : Int))).length = k := by simp
          have HLL := Aside0.mk hll
          clear hll
          generalize (List.range k).map (fun k => (bestB l0 k k : Int)) = ys at HO_3 HY HLL
          generalize (bestB l0 k (k + 1 - 1) : Int) = bb at HY
          go_wp2_with (first | ((with_reducible refine gate_builtin (b := .append) (xs := #[.tmp 30, .tmp 32]) rfl ?_); at_builtin; refine Kd.R_append (Kd.int .i64) (w0 := w) w.heap.size rfl (.tmp 30) (.tmp 32) 32 3 (.int .i64 0) 8 rfl Try.underlying32 info3 rfl (by decide) (by omega) u3 ys bb [.int .i64 bb] (fun _ => True) (fun _ => False) rfl rfl ?aP (fun _ hk => hk.elim) ?aF ?aO ?aB ?aS ?aL ?_; (case aP => exact rfl); (case aB => exact (by repeat (first | (with_reducible first | exact HB.out | apply below_alloc | apply pw_below_drewN | apply below_drew1) | exact HB.out))); (case aF => exact (fun _ _ => trivial)); (case aO => exact (by (with_reducible repeat (first | apply Kd.R_alloc | apply Kd.R_drewN | apply Kd.R_drew)); exact HO_3.out)); (case aS => exact (below_size (by repeat (first | (with_reducible first | exact HB.out | apply below_alloc | apply pw_below_drewN | apply below_drew1) | exact HB.out)))); (case aL => have := HLL.out; omega); intro v181 w17 ho hb hg hat; rw [← HY.out] at ho; have n0_ := Aside0.mk (hb); have n1_ := Aside0.mk (ho); clear HB; clear HO_3; have HB := n0_; have HO_3 := n1_; clear n0_ n1_; clear ho hb hg hat))
          go_roundg (l0.length - (k + 1))
          case measure => omega
          case rel => exact ⟨k + 1, by omega, by omega, by go_num, ⟨HO_3.out⟩, ⟨HB.out⟩⟩
    · have hltz : ¬ (k : Int) < (l0.length : Int) := by omega
      obtain rfl : k = l0.length := by omega
      go_wp2
      go_ret
      exact ⟨_, rfl, HO_3.out, HB.out⟩

end Go.Proofs.Ytidimlopdgcklaa.P
