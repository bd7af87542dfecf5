import Derived.Test.YtkpeihdlmjdejaaCP0
import Derived.Test.YtkpeihdlmjdejaaC1
namespace Go.Proofs.Ytkpeihdlmjdejaa.P
open Go.RowKit Go.Proofs.YtkpeihdlmjdejaaW.PrintWords Go.Proofs.YtkpeihdlmjdejaaW.PrintLast Go.Proofs.YtkpeihdlmjdejaaW.PrintMore
attribute [local go_sem] max2_int min2_int max_two min_two max_three min_three max_four min_four   -- for this text's walks alone
set_option linter.unusedVariables false
set_option linter.unusedSimpArgs false


set_option maxHeartbeats 8000000 in
theorem slices_IndexFunc_impl_Re.fn (g : Nat) (lb : Array Value) (eg : ∀ args w, (callFunc g args).run Try.prog w = .ok (.enter g args) w) (p : S89 → Bool) (A : Option Addr) (c : Nat) (l : List (S89)) (w : World) (hr : Kd.C k89 w A l.length l)
    (hp : ∀ (w1 : World) (x : S89) (A1 : Option Addr) (c1 : Nat), x ∈ l → Below w.heap.size w w1 → (Kd.int .i64).C w A1 x.f1.length x.f1 → x.f1.length ≤ c1 → Calls Try.prog g (#[.agg #[.int .i64 x.f0, .slice A1 x.f1.length c1]] ++ lb) w1 fun e w' => e = .returned (.bool (p x)) ∧ Below w1.heap.size w1 w') :
    Calls Try.prog 160 #[.slice A l.length c, .func (.func g) #[] lb] w fun e w' => e = .returned (.int .i64 (idxOf p l)) ∧ Below w.heap.size w w' := by
  have hbig : l.length ≤ 9223372036854775807 := hr.2.1
  have HR := Aside0.mk hr
  have HP := Aside0.mk hp
  have HB := Aside0.mk (Below.refl w.heap.size w)
  have hu := Try.underlying89
  clear hr hp
  go_enter Try.func160, Try.ntmps160
  go_wp2
  go_loopg [5, 8] l.length (fun gg _ s8 wr => ∃ kk : Nat, kk ≤ l.length ∧ l.length - kk ≤ gg ∧ s8 = .int .i64 kk ∧ Aside0 (∀ j (hj : j < l.length), j < kk → p l[j] = false) ∧ Aside0 (Below w.heap.size w wr))
  case atStart => exact ⟨0, Nat.zero_le _, by omega, rfl, ⟨fun j _ hj => absurd hj (Nat.not_lt_zero _)⟩, ⟨by repeat (first | (with_reducible first | exact HB.out | apply below_alloc | apply pw_below_drewN | apply below_drew1) | exact HB.out)⟩⟩
  case round =>
    clear HB
    obtain ⟨kk, hkk, hg, rfl, HA, HB⟩ := hrel
    by_cases hlt : kk < l.length
    · have hltz : (kk : Int) < (l.length : Int) := by omega
      obtain ⟨ad, A1, c1, e, hx0, hx1, hl1, hC1⟩ := at_T89 HR.out (kk : Int) (by omega) hltz
      cases e
      have hge : rd_T89 l (kk : Int) = l[kk] := by unfold rd_T89; rw [Int.toNat_natCast, List.getD_eq_getElem?_getD, List.getElem?_eq_getElem hlt]; rfl
      replace hx0 := (HB.out.cell (World.block_lt_of_cell? w _ hx0)).trans hx0
      replace hx1 := (HB.out.cell (World.block_lt_of_cell? w _ hx1)).trans hx1
      have hm : rd_T89 l (kk : Int) ∈ l := by rw [hge]; exact List.getElem_mem hlt
      have HPE := Aside0.mk (show p (rd_T89 l (kk : Int)) = p l[kk] by rw [hge])
      have HL1 := Aside0.mk hl1
      have HC1 := Aside0.mk hC1
      have HM := Aside0.mk hm
      clear hm hge hl1 hC1
      generalize rd_T89 l (kk : Int) = y at hx0 hx1 HL1 HC1 HPE HM
      simp only [Int.toNat_natCast] at hx0 hx1
      have HC := Aside0.mk (fun (w1 : World) (hb1 : Below w.heap.size w w1) => HP.out w1 y A1 c1 HM.out hb1 HC1.out HL1.out)
      cases hq : p y with
      | true =>
        have HQ := Aside0.mk (HPE.out.symm.trans hq)
        have HC2 := Aside0.mk (fun (w1 : World) (hb1 : Below w.heap.size w w1) => hq ▸ HC.out w1 hb1)
        clear hq
        go_wp2_with (go_at_fn g; refine (HC2.out _ ?hb1).mono ?_; (case hb1 => repeat (first | (with_reducible first | exact HB.out | apply below_alloc | apply pw_below_drewN | apply below_drew1) | exact HB.out)); rintro e w' ⟨rfl, hb⟩; have n0_ := Aside0.mk (below_step (by repeat (first | (with_reducible first | exact HB.out | apply below_alloc | apply pw_below_drewN | apply below_drew1) | exact HB.out)) hb); clear HB hb; have HB := n0_; clear n0_)
        go_ret
        refine ⟨?_, by repeat (first | (with_reducible first | exact HB.out | apply below_alloc | apply pw_below_drewN | apply below_drew1) | exact HB.out)⟩
        rw [idxOf_hit p l kk hlt (fun j hj => HA.out j (by omega) hj) HQ.out]
        rfl
      | false =>
        have HQ := Aside0.mk (HPE.out.symm.trans hq)
        have HC2 := Aside0.mk (fun (w1 : World) (hb1 : Below w.heap.size w w1) => hq ▸ HC.out w1 hb1)
        clear hq
        go_wp2_with (go_at_fn g; refine (HC2.out _ ?hb1).mono ?_; (case hb1 => repeat (first | (with_reducible first | exact HB.out | apply below_alloc | apply pw_below_drewN | apply below_drew1) | exact HB.out)); rintro e w' ⟨rfl, hb⟩; have n0_ := Aside0.mk (below_step (by repeat (first | (with_reducible first | exact HB.out | apply below_alloc | apply pw_below_drewN | apply below_drew1) | exact HB.out)) hb); clear HB hb; have HB := n0_; clear n0_)
        go_roundg (l.length - (kk + 1))
        case measure => omega
        case rel =>
          refine ⟨kk + 1, by omega, by omega, by go_num, ⟨fun j hj hjk => ?_⟩, ⟨by repeat (first | (with_reducible first | exact HB.out | apply below_alloc | apply pw_below_drewN | apply below_drew1) | exact HB.out)⟩⟩
          by_cases e : j = kk
          · subst e
            exact HQ.out
          · exact HA.out j hj (by omega)
    · have hltz : ¬ (kk : Int) < (l.length : Int) := by omega
      have HMI := Aside0.mk (idxOf_miss p l (fun x hx => by
        obtain ⟨j, hj, rfl⟩ := List.getElem_of_mem hx
        exact HA.out j hj (by omega)))
      go_wp2
      go_ret
      refine ⟨?_, by repeat (first | (with_reducible first | exact HB.out | apply below_alloc | apply pw_below_drewN | apply below_drew1) | exact HB.out)⟩
      rw [HMI.out]
      rfl

set_option maxHeartbeats 8000000 in
theorem slices_ContainsFunc_impl_Re.fn (g : Nat) (lb : Array Value) (eg : ∀ args w, (callFunc g args).run Try.prog w = .ok (.enter g args) w) (p : S89 → Bool) (A : Option Addr) (c : Nat) (l : List (S89)) (w : World) (hr : Kd.C k89 w A l.length l)
    (hp : ∀ (w1 : World) (x : S89) (A1 : Option Addr) (c1 : Nat), x ∈ l → Below w.heap.size w w1 → (Kd.int .i64).C w A1 x.f1.length x.f1 → x.f1.length ≤ c1 → Calls Try.prog g (#[.agg #[.int .i64 x.f0, .slice A1 x.f1.length c1]] ++ lb) w1 fun e w' => e = .returned (.bool (p x)) ∧ Below w1.heap.size w1 w') :
    Calls Try.prog 117 #[.slice A l.length c, .func (.func g) #[] lb] w fun e w' => e = .returned (.bool (l.any p)) ∧ Below w.heap.size w w' := by
  have H := slices_IndexFunc_impl_Re.fn g lb eg p A c l w hr hp
  have HB := Aside0.mk (idxOf_any p l)
  clear hr hp
  generalize idxOf p l = i at H HB
  generalize l.any p = b at HB
  have HH := Aside0.mk H
  clear H
  by_cases h0 : 0 ≤ i
  · obtain rfl : b = true := by rw [← HB.out]; exact h0
    clear HB
    go_enter Try.func117, Try.ntmps117
    go_wp2_with (go_at_call 160; refine HH.out.mono ?_; rintro e w' ⟨rfl, hb⟩; have HB2 := Aside0.mk hb; clear hb)
    go_ret
    exact ⟨by simp [h0], by repeat (first | (with_reducible first | exact HB2.out | apply below_alloc | apply pw_below_drewN | apply below_drew1) | exact HB2.out)⟩
  · obtain rfl : b = false := by
      cases hb : b
      · rfl
      · exact absurd (HB.out.mpr hb) h0
    clear HB
    go_enter Try.func117, Try.ntmps117
    go_wp2_with (go_at_call 160; refine HH.out.mono ?_; rintro e w' ⟨rfl, hb⟩; have HB2 := Aside0.mk hb; clear hb)
    go_ret
    exact ⟨by simp [h0], by repeat (first | (with_reducible first | exact HB2.out | apply below_alloc | apply pw_below_drewN | apply below_drew1) | exact HB2.out)⟩

mutual
def impl_GoodSet.l0 : Nat → List Int → List Int → Int → Int → Option (Bool)
 | 0, _, _, _, _ => none
 | k + 1, x0, x6, x7, x8 => if x8 < x7 then (if 0 ≤ x8 then (if x8 < (x6.length : Int) then (if x8 > 0 then (impl_GoodSet.j1 k x0 x8 (rd x6 x8) 0 x6 x7 x8 ((Int.tmod x8 2) == 0)) else (impl_GoodSet.j1 k x0 x8 (rd x6 x8) 0 x6 x7 x8 false)) else (none)) else (none)) else (if ((x0.length : Int) % 2) = 0 then (some (decide ((x0.length : Int) ≤ 24))) else (some false))
def impl_GoodSet.j1 : Nat → List Int → Int → Int → Int → List Int → Int → Int → Bool → Option (Bool)
 | 0, _, _, _, _, _, _, _, _ => none
 | k + 1, x0, x3, x4, x5, x6, x7, x8, x13 => if x13 = true then (if 0 ≤ (wrap64 (x3 - 1)) then (if (wrap64 (x3 - 1)) < (x0.length : Int) then ((impl_inRange.f x4 (wrap64 ((rd x0 (wrap64 (x3 - 1))) + 2)) 1114111).bind fun t222 => (if t222 = true then (impl_GoodSet.l0 k x0 x6 x7 (wrap64 (x8 + 1))) else (some false))) else (none)) else (none)) else (if x3 > 0 then (if 0 ≤ (wrap64 (x3 - 1)) then (if (wrap64 (x3 - 1)) < (x0.length : Int) then ((impl_inRange.f x4 (rd x0 (wrap64 (x3 - 1))) 1114111).bind fun t224 => (if t224 = true then (impl_GoodSet.l0 k x0 x6 x7 (wrap64 (x8 + 1))) else (some false))) else (none)) else (none)) else ((impl_inRange.f x4 x5 1114111).bind fun t225 => (if t225 = true then (impl_GoodSet.l0 k x0 x6 x7 (wrap64 (x8 + 1))) else (some false))))
end
def impl_GoodSet.f (k : Nat) (l0 : List Int) : Option (Bool) := impl_GoodSet.l0 k l0 l0 (l0.length : Int) 0
theorem impl_GoodSet.mono_l : ∀ k, (∀ y0 y1 y2 y3, LeO (impl_GoodSet.l0 k y0 y1 y2 y3) (impl_GoodSet.l0 (k + 1) y0 y1 y2 y3)) ∧ (∀ y0 y1 y2 y3 y4 y5 y6 y7, LeO (impl_GoodSet.j1 k y0 y1 y2 y3 y4 y5 y6 y7) (impl_GoodSet.j1 (k + 1) y0 y1 y2 y3 y4 y5 y6 y7))
 | 0 => ⟨fun _ _ _ _ r h => by simp [impl_GoodSet.l0] at h, fun _ _ _ _ _ _ _ _ r h => by simp [impl_GoodSet.j1] at h⟩
 | k + 1 => by
  obtain ⟨ih0, ih1⟩ := impl_GoodSet.mono_l k
  refine ⟨?_, ?_⟩
  ·intro y0 y1 y2 y3
   unfold impl_GoodSet.l0
   repeat' first
   | (with_reducible exact ih0 _ _ _ _)
   | (with_reducible exact ih1 _ _ _ _ _ _ _ _)
   | (with_reducible exact LeO.refl _)
   | (with_reducible exact LeO.none _)
   | (with_reducible refine LeO.ite ?_ ?_)
   | (with_reducible refine LeO.bind ?_ (fun _ => ?_))
   | exact ih0 _ _ _ _
   | exact ih1 _ _ _ _ _ _ _ _
   | exact LeO.none _
   | refine LeO.ite ?_ ?_
   | refine LeO.bind ?_ (fun _ => ?_)
  ·intro y0 y1 y2 y3 y4 y5 y6 y7
   unfold impl_GoodSet.j1
   repeat' first
   | (with_reducible exact ih0 _ _ _ _)
   | (with_reducible exact ih1 _ _ _ _ _ _ _ _)
   | (with_reducible exact LeO.refl _)
   | (with_reducible exact LeO.none _)
   | (with_reducible refine LeO.ite ?_ ?_)
   | (with_reducible refine LeO.bind ?_ (fun _ => ?_))
   | exact ih0 _ _ _ _
   | exact ih1 _ _ _ _ _ _ _ _
   | exact LeO.none _
   | refine LeO.ite ?_ ?_
   | refine LeO.bind ?_ (fun _ => ?_)
theorem impl_GoodSet.mono : ∀ a0 k, LeO (impl_GoodSet.f k a0) (impl_GoodSet.f (k + 1) a0) := by
 intro a0 k
 obtain ⟨ih0, ih1⟩ := impl_GoodSet.mono_l k
 unfold impl_GoodSet.f
 repeat' first
   | (with_reducible exact ih0 _ _ _ _)
   | (with_reducible exact ih1 _ _ _ _ _ _ _ _)
   | (with_reducible exact LeO.refl _)
   | (with_reducible exact LeO.none _)
   | (with_reducible refine LeO.ite ?_ ?_)
   | (with_reducible refine LeO.bind ?_ (fun _ => ?_))
   | exact ih0 _ _ _ _
   | exact ih1 _ _ _ _ _ _ _ _
   | exact LeO.none _
   | refine LeO.ite ?_ ?_
   | refine LeO.bind ?_ (fun _ => ?_)
set_option maxHeartbeats 8000000 in
set_option maxRecDepth 100000 in
theorem impl_GoodSet.calls (k : Nat) (A0 : Option Addr) (c0 : Nat) (l0 : List Int) (r : Bool) (w : World) (hr0 : Kd.C (Kd.int .i64) w A0 l0.length l0) (hc0 : l0.length ≤ c0) (h : impl_GoodSet.f k l0 = some r) :
  Calls Try.prog 119 #[.slice A0 l0.length c0] w fun e w' => e = .returned (.bool r) ∧ Drawn0 w w' := by
 have HR0 := Aside0.mk hr0
 have HC0 := Aside0.mk hc0
 clear hr0 hc0
 have H : (impl_GoodSet.l0 k l0 l0 (l0.length : Int) 0) = some r := h
 clear h
 have H' := Aside0.mk H
 clear H
 go_enter Try.func119, Try.ntmps119
 go_wp2
 go_loopg [8] k (fun kq v8 w' => ∃ (x8_1 : Int), v8 = .int .i64 x8_1 ∧ Aside0 (impl_GoodSet.l0 kq l0 l0 (l0.length : Int) x8_1 = some r) ∧ Aside0 (kq ≤ k) ∧ Drawn0 w w')
 case atStart => exact ⟨(0), (by first | rfl | (simp; done) | (simp [*]; done)), H', ⟨Nat.le_refl _⟩, by repeat (first | exact Drawn0.refl _ | apply Drawn0.step)⟩
 case round =>
  clear H'
  try clear c1
  obtain ⟨x8_1, rfl, HA, HK1, ⟨m1, rfl⟩⟩ := hrel
  cases gk with
  | zero => exact absurd HA.out (by simp [impl_GoodSet.l0])
  | succ k1 =>
   have H := HA.out
   clear HA
   simp only [impl_GoodSet.l0] at H
   by_cases c2 : x8_1 < (l0.length : Int)
   ·rw [if_pos c2] at H
    have c2b0 : decide (x8_1 < (l0.length : Int)) = true := decide_eq_true c2
    clear c2
    by_cases c3 : 0 ≤ x8_1
    ·rw [if_pos c3] at H
     have c3b0 : decide (0 ≤ x8_1) = true := decide_eq_true c3
     clear c3
     by_cases c4 : x8_1 < (l0.length : Int)
     ·rw [if_pos c4] at H
      have c4b0 : decide (x8_1 < (l0.length : Int)) = true := decide_eq_true c4
      clear c4
      have HC5 := Aside0.mk H
      clear H
      have p220 : 0 ≤ (x8_1 : Int) := of_decide_eq_true (by assumption)
      have q220 : x8_1 < (l0.length : Int) := of_decide_eq_true (by assumption)
      obtain ⟨ad220, e220, hx220_0⟩ := Kd.at_int HR0.out x8_1 p220 q220
      cases e220
      replace p220 := eq_true p220
      replace q220 := eq_true q220
      go_upto_region 5 with (fail)
      go_cut [13] (fun v13 wc => ∃ (kq : Nat) (x13_4 : Bool), v13 = .bool x13_4 ∧ Aside0 (impl_GoodSet.j1 kq l0 x8_1 (rd l0 x8_1) 0 l0 (l0.length : Int) x8_1 x13_4 = some r) ∧ Aside0 (kq ≤ k1) ∧ Drawn0 w wc)
      case first =>
       have H := HC5.out
       clear HC5
       by_cases c6 : x8_1 > 0
       ·rw [if_pos c6] at H
        have c6b0 : decide (0 < x8_1) = true := decide_eq_true c6
        clear c6
        (first | rw [c6b0] | (simp only [i64_w, i32_w]; rw [c6b0]) | skip)
        have H' := Aside0.mk H
        clear H
        go_wp2
        go_meet
        case rel => exact ⟨_, (((Int.tmod x8_1 2) == 0)), (by first | rfl | (simp; done) | (simp [*]; done)), H', ⟨by have := HK1.out; first | omega | exact Nat.le_refl _⟩, by repeat (first | exact Drawn0.refl _ | apply Drawn0.step)⟩
       ·rw [if_neg c6] at H
        have c6b0 : decide (0 < x8_1) = false := decide_eq_false c6
        clear c6
        (first | rw [c6b0] | (simp only [i64_w, i32_w]; rw [c6b0]) | skip)
        have H' := Aside0.mk H
        clear H
        go_wp2
        go_meet
        case rel => exact ⟨_, (false), (by first | rfl | (simp; done) | (simp [*]; done)), H', ⟨by have := HK1.out; first | omega | exact Nat.le_refl _⟩, by repeat (first | exact Drawn0.refl _ | apply Drawn0.step)⟩
      case rest =>
       clear HC5
       try clear c1
       try clear c2
       try clear c2b0
       try clear p2
       try clear q2
       try clear hx2
       try clear c3
       try clear c3b0
       try clear c4
       try clear c4b0
       try clear c6
       try clear c6b0
       try clear hx220_0
       try clear p220
       try clear q220
       obtain ⟨kq, x13_4, rfl, HA, HJ4, ⟨mc4, rfl⟩⟩ := hcut
       cases kq with
       | zero => exact absurd HA.out (by simp [impl_GoodSet.j1])
       | succ kj4 =>
        have H := HA.out
        clear HA
        simp only [impl_GoodSet.j1] at H
        by_cases c7 : x13_4 = true
        ·subst c7
         have H1 : (if 0 ≤ (wrap64 (x8_1 - 1)) then (if (wrap64 (x8_1 - 1)) < (l0.length : Int) then ((impl_inRange.f (rd l0 x8_1) (wrap64 ((rd l0 (wrap64 (x8_1 - 1))) + 2)) 1114111).bind fun t222 => (if t222 = true then (impl_GoodSet.l0 kj4 l0 l0 (l0.length : Int) (wrap64 (x8_1 + 1))) else (some false))) else (none)) else (none)) = some r := by rw [if_pos rfl] at H; exact H
         clear H
         have H := H1
         clear H1
         obtain ⟨ji8, hji8⟩ : ∃ j_ : Int, (wrap64 (x8_1 - 1)) = j_ := ⟨_, rfl⟩
         replace H : (if 0 ≤ (ji8) then (if (ji8) < (l0.length : Int) then ((impl_inRange.f (rd l0 x8_1) (wrap64 ((rd l0 (ji8)) + 2)) 1114111).bind fun t222 => (if t222 = true then (impl_GoodSet.l0 kj4 l0 l0 (l0.length : Int) (wrap64 (x8_1 + 1))) else (some false))) else (none)) else (none)) = some r := by first | (rw [hji8] at H; exact H) | (simp only [hji8] at H ⊢; exact H)
         have hji8w : (IntKind.i64.wrap (x8_1 - 1)) = ji8 := (i64_w _).trans hji8
         by_cases c9 : 0 ≤ (ji8)
         ·rw [if_pos c9] at H
          have c9b0 : decide (0 ≤ (ji8)) = true := decide_eq_true c9
          clear c9
          by_cases c10 : (ji8) < (l0.length : Int)
          ·rw [if_pos c10] at H
           have c10b0 : decide ((ji8) < (l0.length : Int)) = true := decide_eq_true c10
           clear c10
           replace H := Option.bind_eq_some_iff.mp H
           obtain ⟨t222, A110, H⟩ := H
           replace H : (if t222 = true then (impl_GoodSet.l0 kj4 l0 l0 (l0.length : Int) (wrap64 (x8_1 + 1))) else (some false)) = some r := H
           have A11 := Aside0.mk A110
           clear A110
           by_cases c12 : t222 = true
           ·subst c12
            have H1 : (impl_GoodSet.l0 kj4 l0 l0 (l0.length : Int) (wrap64 (x8_1 + 1))) = some r := by rw [if_pos rfl] at H; exact H
            clear H
            have H := H1
            clear H1
            have H' := Aside0.mk H
            clear H
            have p221 : 0 ≤ ((ji8) : Int) := of_decide_eq_true (by assumption)
            have q221 : (ji8) < (l0.length : Int) := of_decide_eq_true (by assumption)
            obtain ⟨ad221, e221, hx221_0⟩ := Kd.at_int HR0.out (ji8) p221 q221
            obtain rfl : ad220 = ad221 := (by injection e221)
            replace p221 := eq_true p221
            replace q221 := eq_true q221
            go_wp2_with (first | ((with_reducible refine gate_callee (f := 68) rfl ?_); refine goesL_ (some 37) rfl rfl Try.func68 (by kernel_rfl) rfl #[.int .i64 (rd l0 x8_1), .int .i64 (wrap64 ((rd l0 (ji8)) + 2)), .int .i64 1114111] rfl (by (try simp only [List.map_toArray, List.map_cons, List.map_nil]); first | done | (simp only [hji8]; rfl) | rfl | (simp only [List.length_drop, List.length_take]; rfl)) ?_; (with_reducible refine (impl_inRange.calls (rd l0 x8_1) (wrap64 ((rd l0 (ji8)) + 2)) 1114111 true _ A11.out).mono ?_); rintro e w' ⟨rfl, ⟨nd, rfl⟩⟩; refine ⟨_, rfl, ?_⟩))
            go_roundg kj4
            case measure => have := HK1.out; have := HJ4.out; omega
            case rel => exact ⟨(wrap64 (x8_1 + 1)), (by first | rfl | (simp; done) | (simp [*]; done)), H', ⟨by have := HK1.out; have := HJ4.out; omega⟩, by repeat (first | exact Drawn0.refl _ | apply Drawn0.step)⟩
           ·replace c12 := Bool.eq_false_iff.mpr c12
            subst c12
            have H1 : (some false) = some r := by rw [if_neg (show ¬ (false = true) by decide)] at H; exact H
            clear H
            have H := H1
            clear H1
            obtain rfl := Option.some.inj H
            have p221 : 0 ≤ ((ji8) : Int) := of_decide_eq_true (by assumption)
            have q221 : (ji8) < (l0.length : Int) := of_decide_eq_true (by assumption)
            obtain ⟨ad221, e221, hx221_0⟩ := Kd.at_int HR0.out (ji8) p221 q221
            obtain rfl : ad220 = ad221 := (by injection e221)
            replace p221 := eq_true p221
            replace q221 := eq_true q221
            go_wp2_with (first | ((with_reducible refine gate_callee (f := 68) rfl ?_); refine goesL_ (some 37) rfl rfl Try.func68 (by kernel_rfl) rfl #[.int .i64 (rd l0 x8_1), .int .i64 (wrap64 ((rd l0 (ji8)) + 2)), .int .i64 1114111] rfl (by (try simp only [List.map_toArray, List.map_cons, List.map_nil]); first | done | (simp only [hji8]; rfl) | rfl | (simp only [List.length_drop, List.length_take]; rfl)) ?_; (with_reducible refine (impl_inRange.calls (rd l0 x8_1) (wrap64 ((rd l0 (ji8)) + 2)) 1114111 false _ A11.out).mono ?_); rintro e w' ⟨rfl, ⟨nd, rfl⟩⟩; refine ⟨_, rfl, ?_⟩))
            go_ret
            exact ⟨by first | rfl | (simp; done) | (simp only [← hji8] <;> (first | rfl | simp)) | (simp [*]; done), by repeat (first | exact Drawn0.refl _ | apply Drawn0.step)⟩
          ·rw [if_neg c10] at H
           exact absurd H (by simp)
         ·rw [if_neg c9] at H
          exact absurd H (by simp)
        ·replace c7 := Bool.eq_false_iff.mpr c7
         subst c7
         have H1 : (if x8_1 > 0 then (if 0 ≤ (wrap64 (x8_1 - 1)) then (if (wrap64 (x8_1 - 1)) < (l0.length : Int) then ((impl_inRange.f (rd l0 x8_1) (rd l0 (wrap64 (x8_1 - 1))) 1114111).bind fun t224 => (if t224 = true then (impl_GoodSet.l0 kj4 l0 l0 (l0.length : Int) (wrap64 (x8_1 + 1))) else (some false))) else (none)) else (none)) else ((impl_inRange.f (rd l0 x8_1) 0 1114111).bind fun t225 => (if t225 = true then (impl_GoodSet.l0 kj4 l0 l0 (l0.length : Int) (wrap64 (x8_1 + 1))) else (some false)))) = some r := by rw [if_neg (show ¬ (false = true) by decide)] at H; exact H
         clear H
         have H := H1
         clear H1
         by_cases c13 : x8_1 > 0
         ·rw [if_pos c13] at H
          have c13b0 : decide (0 < x8_1) = true := decide_eq_true c13
          clear c13
          obtain ⟨ji14, hji14⟩ : ∃ j_ : Int, (wrap64 (x8_1 - 1)) = j_ := ⟨_, rfl⟩
          replace H : (if 0 ≤ (ji14) then (if (ji14) < (l0.length : Int) then ((impl_inRange.f (rd l0 x8_1) (rd l0 (ji14)) 1114111).bind fun t224 => (if t224 = true then (impl_GoodSet.l0 kj4 l0 l0 (l0.length : Int) (wrap64 (x8_1 + 1))) else (some false))) else (none)) else (none)) = some r := by first | (rw [hji14] at H; exact H) | (simp only [hji14] at H ⊢; exact H)
          have hji14w : (IntKind.i64.wrap (x8_1 - 1)) = ji14 := (i64_w _).trans hji14
          by_cases c15 : 0 ≤ (ji14)
          ·rw [if_pos c15] at H
           have c15b0 : decide (0 ≤ (ji14)) = true := decide_eq_true c15
           clear c15
           by_cases c16 : (ji14) < (l0.length : Int)
           ·rw [if_pos c16] at H
            have c16b0 : decide ((ji14) < (l0.length : Int)) = true := decide_eq_true c16
            clear c16
            replace H := Option.bind_eq_some_iff.mp H
            obtain ⟨t224, A170, H⟩ := H
            replace H : (if t224 = true then (impl_GoodSet.l0 kj4 l0 l0 (l0.length : Int) (wrap64 (x8_1 + 1))) else (some false)) = some r := H
            have A17 := Aside0.mk A170
            clear A170
            by_cases c18 : t224 = true
            ·subst c18
             have H1 : (impl_GoodSet.l0 kj4 l0 l0 (l0.length : Int) (wrap64 (x8_1 + 1))) = some r := by rw [if_pos rfl] at H; exact H
             clear H
             have H := H1
             clear H1
             have H' := Aside0.mk H
             clear H
             have p223 : 0 ≤ ((ji14) : Int) := of_decide_eq_true (by assumption)
             have q223 : (ji14) < (l0.length : Int) := of_decide_eq_true (by assumption)
             obtain ⟨ad223, e223, hx223_0⟩ := Kd.at_int HR0.out (ji14) p223 q223
             obtain rfl : ad220 = ad223 := (by injection e223)
             replace p223 := eq_true p223
             replace q223 := eq_true q223
             go_wp2_with (first | ((with_reducible refine gate_callee (f := 68) rfl ?_); refine goesL_ (some 37) rfl rfl Try.func68 (by kernel_rfl) rfl #[.int .i64 (rd l0 x8_1), .int .i64 (rd l0 (ji14)), .int .i64 1114111] rfl (by (try simp only [List.map_toArray, List.map_cons, List.map_nil]); first | done | (simp only [hji14]; rfl) | rfl | (simp only [List.length_drop, List.length_take]; rfl)) ?_; (with_reducible refine (impl_inRange.calls (rd l0 x8_1) (rd l0 (ji14)) 1114111 true _ A17.out).mono ?_); rintro e w' ⟨rfl, ⟨nd, rfl⟩⟩; refine ⟨_, rfl, ?_⟩))
             go_roundg kj4
             case measure => have := HK1.out; have := HJ4.out; omega
             case rel => exact ⟨(wrap64 (x8_1 + 1)), (by first | rfl | (simp; done) | (simp [*]; done)), H', ⟨by have := HK1.out; have := HJ4.out; omega⟩, by repeat (first | exact Drawn0.refl _ | apply Drawn0.step)⟩
            ·replace c18 := Bool.eq_false_iff.mpr c18
             subst c18
             have H1 : (some false) = some r := by rw [if_neg (show ¬ (false = true) by decide)] at H; exact H
             clear H
             have H := H1
             clear H1
             obtain rfl := Option.some.inj H
             have p223 : 0 ≤ ((ji14) : Int) := of_decide_eq_true (by assumption)
             have q223 : (ji14) < (l0.length : Int) := of_decide_eq_true (by assumption)
             obtain ⟨ad223, e223, hx223_0⟩ := Kd.at_int HR0.out (ji14) p223 q223
             obtain rfl : ad220 = ad223 := (by injection e223)
             replace p223 := eq_true p223
             replace q223 := eq_true q223
             go_wp2_with (first | ((with_reducible refine gate_callee (f := 68) rfl ?_); refine goesL_ (some 37) rfl rfl Try.func68 (by kernel_rfl) rfl #[.int .i64 (rd l0 x8_1), .int .i64 (rd l0 (ji14)), .int .i64 1114111] rfl (by (try simp only [List.map_toArray, List.map_cons, List.map_nil]); first | done | (simp only [hji14]; rfl) | rfl | (simp only [List.length_drop, List.length_take]; rfl)) ?_; (with_reducible refine (impl_inRange.calls (rd l0 x8_1) (rd l0 (ji14)) 1114111 false _ A17.out).mono ?_); rintro e w' ⟨rfl, ⟨nd, rfl⟩⟩; refine ⟨_, rfl, ?_⟩))
             go_ret
             exact ⟨by first | rfl | (simp; done) | (simp only [← hji14] <;> (first | rfl | simp)) | (simp [*]; done), by repeat (first | exact Drawn0.refl _ | apply Drawn0.step)⟩
           ·rw [if_neg c16] at H
            exact absurd H (by simp)
          ·rw [if_neg c15] at H
           exact absurd H (by simp)
         ·rw [if_neg c13] at H
          have c13b0 : decide (0 < x8_1) = false := decide_eq_false c13
          clear c13
          replace H := Option.bind_eq_some_iff.mp H
          obtain ⟨t225, A190, H⟩ := H
          replace H : (if t225 = true then (impl_GoodSet.l0 kj4 l0 l0 (l0.length : Int) (wrap64 (x8_1 + 1))) else (some false)) = some r := H
          have A19 := Aside0.mk A190
          clear A190
          by_cases c20 : t225 = true
          ·subst c20
           have H1 : (impl_GoodSet.l0 kj4 l0 l0 (l0.length : Int) (wrap64 (x8_1 + 1))) = some r := by rw [if_pos rfl] at H; exact H
           clear H
           have H := H1
           clear H1
           have H' := Aside0.mk H
           clear H
           go_wp2_with (first | ((with_reducible refine gate_callee (f := 68) rfl ?_); refine goesL_ (some 37) rfl rfl Try.func68 (by kernel_rfl) rfl #[.int .i64 (rd l0 x8_1), .int .i64 0, .int .i64 1114111] rfl (by simp only [List.map_toArray, List.map_cons, List.map_nil] <;> rfl) ?_; (with_reducible refine (impl_inRange.calls (rd l0 x8_1) 0 1114111 true _ A19.out).mono ?_); rintro e w' ⟨rfl, ⟨nd, rfl⟩⟩; refine ⟨_, rfl, ?_⟩))
           go_roundg kj4
           case measure => have := HK1.out; have := HJ4.out; omega
           case rel => exact ⟨(wrap64 (x8_1 + 1)), (by first | rfl | (simp; done) | (simp [*]; done)), H', ⟨by have := HK1.out; have := HJ4.out; omega⟩, by repeat (first | exact Drawn0.refl _ | apply Drawn0.step)⟩
          ·replace c20 := Bool.eq_false_iff.mpr c20
           subst c20
           have H1 : (some false) = some r := by rw [if_neg (show ¬ (false = true) by decide)] at H; exact H
           clear H
           have H := H1
           clear H1
           obtain rfl := Option.some.inj H
           go_wp2_with (first | ((with_reducible refine gate_callee (f := 68) rfl ?_); refine goesL_ (some 37) rfl rfl Try.func68 (by kernel_rfl) rfl #[.int .i64 (rd l0 x8_1), .int .i64 0, .int .i64 1114111] rfl (by simp only [List.map_toArray, List.map_cons, List.map_nil] <;> rfl) ?_; (with_reducible refine (impl_inRange.calls (rd l0 x8_1) 0 1114111 false _ A19.out).mono ?_); rintro e w' ⟨rfl, ⟨nd, rfl⟩⟩; refine ⟨_, rfl, ?_⟩))
           go_ret
           exact ⟨by first | rfl | (simp; done) | (simp [*]; done), by repeat (first | exact Drawn0.refl _ | apply Drawn0.step)⟩
     ·rw [if_neg c4] at H
      exact absurd H (by simp)
    ·rw [if_neg c3] at H
     exact absurd H (by simp)
   ·rw [if_neg c2] at H
    have c2b0 : decide (x8_1 < (l0.length : Int)) = false := decide_eq_false c2
    clear c2
    by_cases c21 : ((l0.length : Int) % 2) = 0
    ·rw [if_pos c21] at H
     have c21b0 : (((l0.length : Int) % 2) == 0) = true := beq_iff_eq.mpr c21
     have c21b1 : (((l0.length : Int) % 2) != 0) = false := bne_eq_false_iff_eq.mpr c21
     clear c21
     obtain rfl := Option.some.inj H
     go_wp2
     go_ret
     exact ⟨by first | rfl | (simp; done) | (simp [*]; done), by repeat (first | exact Drawn0.refl _ | apply Drawn0.step)⟩
    ·rw [if_neg c21] at H
     have c21b0 : (((l0.length : Int) % 2) == 0) = false := beq_eq_false_iff_ne.mpr c21
     have c21b1 : (((l0.length : Int) % 2) != 0) = true := bne_iff_ne.mpr c21
     obtain rfl := Option.some.inj H
     go_wp2
     go_ret
     exact ⟨by first | rfl | (simp; done) | (simp [*]; done), by repeat (first | exact Drawn0.refl _ | apply Drawn0.step)⟩

def impl_GoodRe_1_1.f (a0 : Int) : Option (Bool) := (impl_GoodRune.f a0).bind fun t226 => (some (!t226))
set_option maxHeartbeats 8000000 in
set_option maxRecDepth 100000 in
theorem impl_GoodRe_1_1.calls (a0 : Int) (r : Bool) (w : World) (h : impl_GoodRe_1_1.f a0 = some r) :
    Calls Try.prog 120 #[.int .i64 a0] w fun e w' => e = .returned (.bool r) ∧ Drawn0 w w' := by
  have H : ((impl_GoodRune.f a0).bind fun t226 => (some (!t226))) = some r := h
  clear h
  replace H := Option.bind_eq_some_iff.mp H
  obtain ⟨t226, A20, H⟩ := H
  replace H : (some (!t226)) = some r := H
  have A2 := Aside0.mk A20
  clear A20
  obtain rfl := Option.some.inj H
  go_enter Try.func120, Try.ntmps120
  go_wp2_with (first | ((with_reducible refine gate_callee (f := 115) rfl ?_); refine goesL_ (some 4) rfl rfl Try.func115 (by kernel_rfl) rfl #[.int .i64 a0] rfl (by (try simp only [List.map_toArray, List.map_cons, List.map_nil]); first | done | rfl | (simp only [List.length_drop, List.length_take]; rfl)) ?_; (with_reducible refine (impl_GoodRune.calls a0 t226 _ A2.out).mono ?_); rintro e w' ⟨rfl, ⟨nd, rfl⟩⟩; refine ⟨_, rfl, ?_⟩))
  go_ret
  exact ⟨by first | rfl | (simp; done) | (simp [*]; done), by repeat (first | exact Drawn0.refl _ | apply Drawn0.step)⟩

def slices_ContainsFunc_int_int_120.f (k : Nat) (l0 : List Int) : Option Bool := anyO (fun x => impl_GoodRe_1_1.f x) l0
theorem slices_ContainsFunc_int_int_120.mono : ∀ a0 k, LeO (slices_ContainsFunc_int_int_120.f k a0) (slices_ContainsFunc_int_int_120.f (k + 1) a0) := fun a0 k => anyO_mono (fun x => LeO.refl _) a0
set_option maxHeartbeats 8000000 in
theorem slices_ContainsFunc_int_int_120.calls (k : Nat) (A0 : Option Addr) (c0 : Nat) (l0 : List Int) (r : Bool) (w : World) (hr0 : Kd.C (Kd.int .i64) w A0 l0.length l0) (hc0 : l0.length ≤ c0) (h : slices_ContainsFunc_int_int_120.f k l0 = some r) :
    Calls Try.prog 113 #[.slice A0 l0.length c0, .func (.func 120) #[] #[]] w fun e w' => e = .returned (.bool r) ∧ Drawn0 w w' := by
  have eg : ∀ args w, (callFunc 120 args).run Try.prog w = .ok (.enter 120 args) w := enters_of Try.func120 (by kernel_rfl) rfl
  obtain ⟨hs, rfl⟩ := anyO_some h
  exact slices_ContainsFunc_int_int.fn 120 #[] eg (fun x => (impl_GoodRe_1_1.f x).getD false) A0 c0 l0 w hr0 (fun n x hx => impl_GoodRe_1_1.calls x _ _ (by
    obtain ⟨b, hb⟩ := Option.isSome_iff_exists.1 (hs x hx)
    rw [hb]
    rfl))

def impl_GoodRe_1.f (k : Nat) (a0_0 : Int) (l0_1 : List Int) : Option (Bool) := (impl_GoodSet.f k l0_1).bind fun t228 => (if t228 = true then ((slices_ContainsFunc_int_int_120.f k l0_1).bind fun t229 => (if t229 = true then (some true) else (if a0_0 = 2 then (some false) else (some (decide ((l0_1.length : Int) > 0)))))) else (some true))
theorem impl_GoodRe_1.mono : ∀ a0 a1 k, LeO (impl_GoodRe_1.f k a0 a1) (impl_GoodRe_1.f (k + 1) a0 a1) := by
 intro a0 a1 k
 unfold impl_GoodRe_1.f
 repeat' first
   | (with_reducible exact impl_GoodSet.mono _ _)
   | (with_reducible exact slices_ContainsFunc_int_int_120.mono _ _)
   | (with_reducible exact LeO.refl _)
   | (with_reducible exact LeO.none _)
   | (with_reducible refine LeO.ite ?_ ?_)
   | (with_reducible refine LeO.bind ?_ (fun _ => ?_))
   | exact impl_GoodSet.mono _ _
   | exact slices_ContainsFunc_int_int_120.mono _ _
   | exact LeO.none _
   | refine LeO.ite ?_ ?_
   | refine LeO.bind ?_ (fun _ => ?_)
set_option maxHeartbeats 8000000 in
set_option maxRecDepth 100000 in
theorem impl_GoodRe_1.calls (k : Nat) (a0_0 : Int) (A0_1 : Option Addr) (c0_1 : Nat) (l0_1 : List Int) (r : Bool) (w : World) (hr0_1 : Kd.C (Kd.int .i64) w A0_1 l0_1.length l0_1) (hc0_1 : l0_1.length ≤ c0_1) (h : impl_GoodRe_1.f k a0_0 l0_1 = some r) :
  Calls Try.prog 118 #[.agg #[.int .i64 a0_0, .slice A0_1 l0_1.length c0_1]] w fun e w' => e = .returned (.bool r) ∧ Below w.heap.size w w' := by
 have hu89 := Try.underlying89
 have HR0_1 := Aside0.mk hr0_1
 have HC0_1 := Aside0.mk hc0_1
 clear hr0_1 hc0_1
 have HB := Aside0.mk (Below.refl w.heap.size w)
 have H : ((impl_GoodSet.f k l0_1).bind fun t228 => (if t228 = true then ((slices_ContainsFunc_int_int_120.f k l0_1).bind fun t229 => (if t229 = true then (some true) else (if a0_0 = 2 then (some false) else (some (decide ((l0_1.length : Int) > 0)))))) else (some true))) = some r := h
 clear h
 replace H := Option.bind_eq_some_iff.mp H
 obtain ⟨t228, A20, H⟩ := H
 replace H : (if t228 = true then ((slices_ContainsFunc_int_int_120.f k l0_1).bind fun t229 => (if t229 = true then (some true) else (if a0_0 = 2 then (some false) else (some (decide ((l0_1.length : Int) > 0)))))) else (some true)) = some r := H
 have A2 := Aside0.mk A20
 clear A20
 by_cases c3 : t228 = true
 ·subst c3
  have H1 : ((slices_ContainsFunc_int_int_120.f k l0_1).bind fun t229 => (if t229 = true then (some true) else (if a0_0 = 2 then (some false) else (some (decide ((l0_1.length : Int) > 0)))))) = some r := by rw [if_pos rfl] at H; exact H
  clear H
  have H := H1
  clear H1
  replace H := Option.bind_eq_some_iff.mp H
  obtain ⟨t229, A40, H⟩ := H
  replace H : (if t229 = true then (some true) else (if a0_0 = 2 then (some false) else (some (decide ((l0_1.length : Int) > 0))))) = some r := H
  have A4 := Aside0.mk A40
  clear A40
  by_cases c5 : t229 = true
  ·subst c5
   have H1 : (some true) = some r := by rw [if_pos rfl] at H; exact H
   clear H
   have H := H1
   clear H1
   obtain rfl := Option.some.inj H
   go_enter Try.func118, Try.ntmps118
   go_wp2_with (first | ((with_reducible refine gate_dst (N := 1) rfl ?_); (try (refine gate_guard (by rfl) ?_; dsimp only)); refine box_event ?hg (N := 1) ?hd (cs := #[.int .i64 a0_0, .slice A0_1 l0_1.length c0_1]) (t := 89) ?hr ?_; (case hd => rfl); (case hg => rfl); (case hr => go_simp <;> rfl); intro gb227 hg w6 hbox hb; have n0_ := Aside0.mk (below_step HB.out hb); have n1_ := Aside0.mk (hbox); have n2_ := Aside0.mk ((by rw [hg]; exact (below_size HB.out) : w.heap.size ≤ gb227)); have n3_ := Aside0.mk ((by rw [hg]; exact (below_size HB.out) : w.heap.size ≤ gb227)); clear HB; have HB := n0_; have BK227 := n1_; have GW227 := n2_; have GE227 := n3_; clear n0_ n1_ n2_ n3_; clear hb hbox hg; have hcz7_0 : w6.cell? ⟨gb227, 0, none⟩ = some (.int .i64 a0_0) := (blk_cell BK227.out 0).trans rfl; have hcz7_1 : w6.cell? ⟨gb227, 1, none⟩ = some (.slice A0_1 l0_1.length c0_1) := (blk_cell BK227.out 1).trans rfl; have hfz7_0 := blk_frozen BK227.out 0; have hfz7_1 := blk_frozen BK227.out 1) | ((with_reducible refine gate_callee (f := 119) rfl ?_); refine goesL_ (some 5) rfl rfl Try.func119 (by kernel_rfl) rfl #[.slice A0_1 l0_1.length c0_1] rfl (by simp only [List.map_toArray, List.map_cons, List.map_nil] <;> rfl) ?_; (with_reducible refine (impl_GoodSet.calls k _ _ l0_1 true _ ?side1 ?side2 A2.out).mono ?_); (case side1 => repeat (first | exact (Kd.C_below HR0_1.out HB.out) | (with_reducible refine Kd.C_alloc ?_ _) | (with_reducible refine Kd.C_drewN ?_ _) | (with_reducible refine Kd.C_drew ?_))); (case side2 => exact HC0_1.out); rintro e w' ⟨rfl, ⟨nd, rfl⟩⟩; refine ⟨_, rfl, ?_⟩) | (go_at_call 113; (with_reducible refine (slices_ContainsFunc_int_int_120.calls k _ _ l0_1  true _ ?side1 ?side2 A4.out).mono ?_); (case side1 => repeat (first | exact (Kd.C_below HR0_1.out HB.out) | (with_reducible refine Kd.C_alloc ?_ _) | (with_reducible refine Kd.C_drewN ?_ _) | (with_reducible refine Kd.C_drew ?_))); (case side2 => exact HC0_1.out); rintro e w' ⟨rfl, ⟨nd, rfl⟩⟩))
   go_ret
   exact ⟨by first | rfl | (simp [errW_none, errW_some] <;> rfl) | (simp [*, errW_none, errW_some] <;> rfl), by repeat (first | (with_reducible first | exact HB.out | apply below_alloc | apply pw_below_drewN | apply below_drew1 | refine below_set ?_ GE227.out) | exact HB.out)⟩
  ·replace c5 := Bool.eq_false_iff.mpr c5
   subst c5
   have H1 : (if a0_0 = 2 then (some false) else (some (decide ((l0_1.length : Int) > 0)))) = some r := by rw [if_neg (show ¬ (false = true) by decide)] at H; exact H
   clear H
   have H := H1
   clear H1
   by_cases c8 : a0_0 = 2
   ·rw [if_pos c8] at H
    have c8b0 : (a0_0 == 2) = true := beq_iff_eq.mpr c8
    have c8b1 : (a0_0 != 2) = false := bne_eq_false_iff_eq.mpr c8
    clear c8
    obtain rfl := Option.some.inj H
    go_enter Try.func118, Try.ntmps118
    go_wp2_with (first | ((with_reducible refine gate_dst (N := 1) rfl ?_); (try (refine gate_guard (by rfl) ?_; dsimp only)); refine box_event ?hg (N := 1) ?hd (cs := #[.int .i64 a0_0, .slice A0_1 l0_1.length c0_1]) (t := 89) ?hr ?_; (case hd => rfl); (case hg => rfl); (case hr => go_simp <;> rfl); intro gb227 hg w9 hbox hb; have n0_ := Aside0.mk (below_step HB.out hb); have n1_ := Aside0.mk (hbox); have n2_ := Aside0.mk ((by rw [hg]; exact (below_size HB.out) : w.heap.size ≤ gb227)); have n3_ := Aside0.mk ((by rw [hg]; exact (below_size HB.out) : w.heap.size ≤ gb227)); clear HB; have HB := n0_; have BK227 := n1_; have GW227 := n2_; have GE227 := n3_; clear n0_ n1_ n2_ n3_; clear hb hbox hg; have hcz10_0 : w9.cell? ⟨gb227, 0, none⟩ = some (.int .i64 a0_0) := (blk_cell BK227.out 0).trans rfl; have hcz10_1 : w9.cell? ⟨gb227, 1, none⟩ = some (.slice A0_1 l0_1.length c0_1) := (blk_cell BK227.out 1).trans rfl; have hfz10_0 := blk_frozen BK227.out 0; have hfz10_1 := blk_frozen BK227.out 1) | ((with_reducible refine gate_callee (f := 119) rfl ?_); refine goesL_ (some 5) rfl rfl Try.func119 (by kernel_rfl) rfl #[.slice A0_1 l0_1.length c0_1] rfl (by simp only [List.map_toArray, List.map_cons, List.map_nil] <;> rfl) ?_; (with_reducible refine (impl_GoodSet.calls k _ _ l0_1 true _ ?side1 ?side2 A2.out).mono ?_); (case side1 => repeat (first | exact (Kd.C_below HR0_1.out HB.out) | (with_reducible refine Kd.C_alloc ?_ _) | (with_reducible refine Kd.C_drewN ?_ _) | (with_reducible refine Kd.C_drew ?_))); (case side2 => exact HC0_1.out); rintro e w' ⟨rfl, ⟨nd, rfl⟩⟩; refine ⟨_, rfl, ?_⟩) | (go_at_call 113; (with_reducible refine (slices_ContainsFunc_int_int_120.calls k _ _ l0_1  false _ ?side1 ?side2 A4.out).mono ?_); (case side1 => repeat (first | exact (Kd.C_below HR0_1.out HB.out) | (with_reducible refine Kd.C_alloc ?_ _) | (with_reducible refine Kd.C_drewN ?_ _) | (with_reducible refine Kd.C_drew ?_))); (case side2 => exact HC0_1.out); rintro e w' ⟨rfl, ⟨nd, rfl⟩⟩))
    go_ret
    exact ⟨by first | rfl | (simp [errW_none, errW_some] <;> rfl) | (simp [*, errW_none, errW_some] <;> rfl), by repeat (first | (with_reducible first | exact HB.out | apply below_alloc | apply pw_below_drewN | apply below_drew1 | refine below_set ?_ GE227.out) | exact HB.out)⟩
   ·rw [if_neg c8] at H
    have c8b0 : (a0_0 == 2) = false := beq_eq_false_iff_ne.mpr c8
    have c8b1 : (a0_0 != 2) = true := bne_iff_ne.mpr c8
    obtain rfl := Option.some.inj H
    go_enter Try.func118, Try.ntmps118
    go_wp2_with (first | ((with_reducible refine gate_dst (N := 1) rfl ?_); (try (refine gate_guard (by rfl) ?_; dsimp only)); refine box_event ?hg (N := 1) ?hd (cs := #[.int .i64 a0_0, .slice A0_1 l0_1.length c0_1]) (t := 89) ?hr ?_; (case hd => rfl); (case hg => rfl); (case hr => go_simp <;> rfl); intro gb227 hg w11 hbox hb; have n0_ := Aside0.mk (below_step HB.out hb); have n1_ := Aside0.mk (hbox); have n2_ := Aside0.mk ((by rw [hg]; exact (below_size HB.out) : w.heap.size ≤ gb227)); have n3_ := Aside0.mk ((by rw [hg]; exact (below_size HB.out) : w.heap.size ≤ gb227)); clear HB; have HB := n0_; have BK227 := n1_; have GW227 := n2_; have GE227 := n3_; clear n0_ n1_ n2_ n3_; clear hb hbox hg; have hcz12_0 : w11.cell? ⟨gb227, 0, none⟩ = some (.int .i64 a0_0) := (blk_cell BK227.out 0).trans rfl; have hcz12_1 : w11.cell? ⟨gb227, 1, none⟩ = some (.slice A0_1 l0_1.length c0_1) := (blk_cell BK227.out 1).trans rfl; have hfz12_0 := blk_frozen BK227.out 0; have hfz12_1 := blk_frozen BK227.out 1) | ((with_reducible refine gate_callee (f := 119) rfl ?_); refine goesL_ (some 5) rfl rfl Try.func119 (by kernel_rfl) rfl #[.slice A0_1 l0_1.length c0_1] rfl (by simp only [List.map_toArray, List.map_cons, List.map_nil] <;> rfl) ?_; (with_reducible refine (impl_GoodSet.calls k _ _ l0_1 true _ ?side1 ?side2 A2.out).mono ?_); (case side1 => repeat (first | exact (Kd.C_below HR0_1.out HB.out) | (with_reducible refine Kd.C_alloc ?_ _) | (with_reducible refine Kd.C_drewN ?_ _) | (with_reducible refine Kd.C_drew ?_))); (case side2 => exact HC0_1.out); rintro e w' ⟨rfl, ⟨nd, rfl⟩⟩; refine ⟨_, rfl, ?_⟩) | (go_at_call 113; (with_reducible refine (slices_ContainsFunc_int_int_120.calls k _ _ l0_1  false _ ?side1 ?side2 A4.out).mono ?_); (case side1 => repeat (first | exact (Kd.C_below HR0_1.out HB.out) | (with_reducible refine Kd.C_alloc ?_ _) | (with_reducible refine Kd.C_drewN ?_ _) | (with_reducible refine Kd.C_drew ?_))); (case side2 => exact HC0_1.out); rintro e w' ⟨rfl, ⟨nd, rfl⟩⟩))
    go_ret
    exact ⟨by first | rfl | (simp [errW_none, errW_some] <;> rfl) | (simp [*, errW_none, errW_some] <;> rfl), by repeat (first | (with_reducible first | exact HB.out | apply below_alloc | apply pw_below_drewN | apply below_drew1 | refine below_set ?_ GE227.out) | exact HB.out)⟩
 ·replace c3 := Bool.eq_false_iff.mpr c3
  subst c3
  have H1 : (some true) = some r := by rw [if_neg (show ¬ (false = true) by decide)] at H; exact H
  clear H
  have H := H1
  clear H1
  obtain rfl := Option.some.inj H
  go_enter Try.func118, Try.ntmps118
  go_wp2_with (first | ((with_reducible refine gate_dst (N := 1) rfl ?_); (try (refine gate_guard (by rfl) ?_; dsimp only)); refine box_event ?hg (N := 1) ?hd (cs := #[.int .i64 a0_0, .slice A0_1 l0_1.length c0_1]) (t := 89) ?hr ?_; (case hd => rfl); (case hg => rfl); (case hr => go_simp <;> rfl); intro gb227 hg w13 hbox hb; have n0_ := Aside0.mk (below_step HB.out hb); have n1_ := Aside0.mk (hbox); have n2_ := Aside0.mk ((by rw [hg]; exact (below_size HB.out) : w.heap.size ≤ gb227)); have n3_ := Aside0.mk ((by rw [hg]; exact (below_size HB.out) : w.heap.size ≤ gb227)); clear HB; have HB := n0_; have BK227 := n1_; have GW227 := n2_; have GE227 := n3_; clear n0_ n1_ n2_ n3_; clear hb hbox hg; have hcz14_0 : w13.cell? ⟨gb227, 0, none⟩ = some (.int .i64 a0_0) := (blk_cell BK227.out 0).trans rfl; have hcz14_1 : w13.cell? ⟨gb227, 1, none⟩ = some (.slice A0_1 l0_1.length c0_1) := (blk_cell BK227.out 1).trans rfl; have hfz14_0 := blk_frozen BK227.out 0; have hfz14_1 := blk_frozen BK227.out 1) | ((with_reducible refine gate_callee (f := 119) rfl ?_); refine goesL_ (some 5) rfl rfl Try.func119 (by kernel_rfl) rfl #[.slice A0_1 l0_1.length c0_1] rfl (by simp only [List.map_toArray, List.map_cons, List.map_nil] <;> rfl) ?_; (with_reducible refine (impl_GoodSet.calls k _ _ l0_1 false _ ?side1 ?side2 A2.out).mono ?_); (case side1 => repeat (first | exact (Kd.C_below HR0_1.out HB.out) | (with_reducible refine Kd.C_alloc ?_ _) | (with_reducible refine Kd.C_drewN ?_ _) | (with_reducible refine Kd.C_drew ?_))); (case side2 => exact HC0_1.out); rintro e w' ⟨rfl, ⟨nd, rfl⟩⟩; refine ⟨_, rfl, ?_⟩))
  go_ret
  exact ⟨by first | rfl | (simp [errW_none, errW_some] <;> rfl) | (simp [*, errW_none, errW_some] <;> rfl), by repeat (first | (with_reducible first | exact HB.out | apply below_alloc | apply pw_below_drewN | apply below_drew1 | refine below_set ?_ GE227.out) | exact HB.out)⟩

def slices_ContainsFunc_impl_Re_118.f (k : Nat) (l0 : List (S89)) : Option Bool := anyO (fun x => impl_GoodRe_1.f k x.f0 x.f1) l0
theorem slices_ContainsFunc_impl_Re_118.mono : ∀ a0 k, LeO (slices_ContainsFunc_impl_Re_118.f k a0) (slices_ContainsFunc_impl_Re_118.f (k + 1) a0) := fun a0 k => by unfold slices_ContainsFunc_impl_Re_118.f; exact anyO_mono (fun x => impl_GoodRe_1.mono x.f0 x.f1 k) a0
set_option maxHeartbeats 8000000 in
theorem slices_ContainsFunc_impl_Re_118.calls (k : Nat) (A0 : Option Addr) (c0 : Nat) (l0 : List (S89)) (r : Bool) (w : World) (hr0 : Kd.C k89 w A0 l0.length l0) (hc0 : l0.length ≤ c0) (h : slices_ContainsFunc_impl_Re_118.f k l0 = some r) :
    Calls Try.prog 117 #[.slice A0 l0.length c0, .func (.func 118) #[] #[]] w fun e w' => e = .returned (.bool r) ∧ Below w.heap.size w w' := by
  have eg : ∀ args w, (callFunc 118 args).run Try.prog w = .ok (.enter 118 args) w := enters_of Try.func118 (by kernel_rfl) rfl
  obtain ⟨hs, rfl⟩ := anyO_some h
  exact slices_ContainsFunc_impl_Re.fn 118 #[] eg (fun x => (impl_GoodRe_1.f k x.f0 x.f1).getD false) A0 c0 l0 w hr0 (fun w1 x A1 c1 hx hB hC1 hl1 => impl_GoodRe_1.calls k x.f0 A1 c1 x.f1 _ w1 (Kd.C_below hC1 hB) hl1 (by
    obtain ⟨b, hb⟩ := Option.isSome_iff_exists.1 (hs x hx)
    rw [hb]
    rfl))

def impl_GoodRe.f (k : Nat) (l0 : List (S89)) : Option (Bool) := (impl_inRange.f (l0.length : Int) 1 40).bind fun t230 => (if t230 = true then ((slices_ContainsFunc_impl_Re_118.f k l0).bind fun t231 => (if t231 = true then (some false) else ((impl_parts.f k l0).bind fun bt232 => (some bt232.2)))) else (some false))
theorem impl_GoodRe.mono : ∀ a0 k, LeO (impl_GoodRe.f k a0) (impl_GoodRe.f (k + 1) a0) := by
 intro a0 k
 unfold impl_GoodRe.f
 repeat' first
   | (with_reducible exact impl_parts.mono _ _)
   | (with_reducible exact slices_ContainsFunc_impl_Re_118.mono _ _)
   | (with_reducible exact LeO.refl _)
   | (with_reducible exact LeO.none _)
   | (with_reducible refine LeO.ite ?_ ?_)
   | (with_reducible refine LeO.bind ?_ (fun _ => ?_))
   | exact impl_parts.mono _ _
   | exact slices_ContainsFunc_impl_Re_118.mono _ _
   | exact LeO.none _
   | refine LeO.ite ?_ ?_
   | refine LeO.bind ?_ (fun _ => ?_)
set_option maxHeartbeats 8000000 in
set_option maxRecDepth 100000 in
theorem impl_GoodRe.calls (k : Nat) (A0 : Option Addr) (c0 : Nat) (l0 : List (S89)) (r : Bool) (w : World) (hr0 : Kd.C k89 w A0 l0.length l0) (hc0 : l0.length ≤ c0) (h : impl_GoodRe.f k l0 = some r) :
  Calls Try.prog 75 #[.slice A0 l0.length c0] w fun e w' => e = .returned (.bool r) ∧ Below w.heap.size w w' := by
 have HR0 := Aside0.mk hr0
 have HC0 := Aside0.mk hc0
 clear hr0 hc0
 have HB := Aside0.mk (Below.refl w.heap.size w)
 have H : ((impl_inRange.f (l0.length : Int) 1 40).bind fun t230 => (if t230 = true then ((slices_ContainsFunc_impl_Re_118.f k l0).bind fun t231 => (if t231 = true then (some false) else ((impl_parts.f k l0).bind fun bt232 => (some bt232.2)))) else (some false))) = some r := h
 clear h
 replace H := Option.bind_eq_some_iff.mp H
 obtain ⟨t230, A20, H⟩ := H
 replace H : (if t230 = true then ((slices_ContainsFunc_impl_Re_118.f k l0).bind fun t231 => (if t231 = true then (some false) else ((impl_parts.f k l0).bind fun bt232 => (some bt232.2)))) else (some false)) = some r := H
 have A2 := Aside0.mk A20
 clear A20
 by_cases c3 : t230 = true
 ·subst c3
  have H1 : ((slices_ContainsFunc_impl_Re_118.f k l0).bind fun t231 => (if t231 = true then (some false) else ((impl_parts.f k l0).bind fun bt232 => (some bt232.2)))) = some r := by rw [if_pos rfl] at H; exact H
  clear H
  have H := H1
  clear H1
  replace H := Option.bind_eq_some_iff.mp H
  obtain ⟨t231, A40, H⟩ := H
  replace H : (if t231 = true then (some false) else ((impl_parts.f k l0).bind fun bt232 => (some bt232.2))) = some r := H
  have A4 := Aside0.mk A40
  clear A40
  by_cases c5 : t231 = true
  ·subst c5
   have H1 : (some false) = some r := by rw [if_pos rfl] at H; exact H
   clear H
   have H := H1
   clear H1
   obtain rfl := Option.some.inj H
   go_enter Try.func75, Try.ntmps75
   go_wp2_with (first | ((with_reducible refine gate_callee (f := 68) rfl ?_); refine goesL_ (some 7) rfl rfl Try.func68 (by kernel_rfl) rfl #[.int .i64 (l0.length : Int), .int .i64 1, .int .i64 40] rfl (by simp only [List.map_toArray, List.map_cons, List.map_nil] <;> rfl) ?_; (with_reducible refine (impl_inRange.calls (l0.length : Int) 1 40 true _ A2.out).mono ?_); rintro e w' ⟨rfl, ⟨nd, rfl⟩⟩; refine ⟨_, rfl, ?_⟩) | (go_at_call 117; (with_reducible refine (slices_ContainsFunc_impl_Re_118.calls k _ _ l0  true _ ?side1 ?side2 A4.out).mono ?_); (case side1 => repeat (first | exact HR0.out | (with_reducible refine Kd.C_alloc ?_ _) | (with_reducible refine Kd.C_drewN ?_ _) | (with_reducible refine Kd.C_drew ?_))); (case side2 => exact HC0.out); rintro e w6 ⟨rfl, hb⟩; have n0_ := Aside0.mk (below_step (by repeat (first | (with_reducible first | exact HB.out | apply below_alloc | apply pw_below_drewN | apply below_drew1) | exact HB.out)) hb); clear HB; have HB := n0_; clear n0_))
   go_ret
   exact ⟨by first | rfl | (simp [errW_none, errW_some] <;> rfl) | (simp [*, errW_none, errW_some] <;> rfl), HB.out⟩
  ·replace c5 := Bool.eq_false_iff.mpr c5
   subst c5
   have H1 : ((impl_parts.f k l0).bind fun bt232 => (some bt232.2)) = some r := by rw [if_neg (show ¬ (false = true) by decide)] at H; exact H
   clear H
   have H := H1
   clear H1
   replace H := Option.bind_eq_some_iff.mp H
   obtain ⟨⟨t232, t233⟩, A70, H⟩ := H
   replace H : (some t233) = some r := H
   have A7 := Aside0.mk A70
   clear A70
   obtain rfl := Option.some.inj H
   go_enter Try.func75, Try.ntmps75
   go_wp2_with (first | ((with_reducible refine gate_callee (f := 68) rfl ?_); refine goesL_ (some 7) rfl rfl Try.func68 (by kernel_rfl) rfl #[.int .i64 (l0.length : Int), .int .i64 1, .int .i64 40] rfl (by simp only [List.map_toArray, List.map_cons, List.map_nil] <;> rfl) ?_; (with_reducible refine (impl_inRange.calls (l0.length : Int) 1 40 true _ A2.out).mono ?_); rintro e w' ⟨rfl, ⟨nd, rfl⟩⟩; refine ⟨_, rfl, ?_⟩) | (go_at_call 117; (with_reducible refine (slices_ContainsFunc_impl_Re_118.calls k _ _ l0  false _ ?side1 ?side2 A4.out).mono ?_); (case side1 => repeat (first | exact HR0.out | (with_reducible refine Kd.C_alloc ?_ _) | (with_reducible refine Kd.C_drewN ?_ _) | (with_reducible refine Kd.C_drew ?_))); (case side2 => exact HC0.out); rintro e w8 ⟨rfl, hb⟩; have n0_ := Aside0.mk (below_step (by repeat (first | (with_reducible first | exact HB.out | apply below_alloc | apply pw_below_drewN | apply below_drew1) | exact HB.out)) hb); clear HB; have HB := n0_; clear n0_) | ((with_reducible refine gate_callee (f := 110) rfl ?_); refine goesL_ (some 15) rfl rfl Try.func110 (by kernel_rfl) rfl #[.slice A0 l0.length c0] rfl (by simp only [List.map_toArray, List.map_cons, List.map_nil] <;> rfl) ?_; (with_reducible refine (impl_parts.calls k _ _ l0 t232 t233 _ ?side1 ?side2 A7.out).mono ?_); (case side1 => repeat (first | exact (Kd.C_below HR0.out HB.out) | (with_reducible refine Kd.C_alloc ?_ _) | (with_reducible refine Kd.C_drewN ?_ _) | (with_reducible refine Kd.C_drew ?_))); (case side2 => exact HC0.out); rintro e w9 ⟨v234, rfl, ho0, hb⟩; refine ⟨_, rfl, ?_⟩; have n0_ := Aside0.mk (Kd.S_lower ho0 (below_size (by repeat (first | (with_reducible first | exact HB.out | apply below_alloc | apply pw_below_drewN | apply below_drew1) | exact HB.out)))); have n1_ := Aside0.mk (below_step (by repeat (first | (with_reducible first | exact HB.out | apply below_alloc | apply pw_below_drewN | apply below_drew1) | exact HB.out)) hb); clear HB; have HO235 := n0_; have HB := n1_; clear n0_ n1_))
   go_ret
   exact ⟨by first | rfl | (simp [errW_none, errW_some] <;> rfl) | (simp [*, errW_none, errW_some] <;> rfl), HB.out⟩
 ·replace c3 := Bool.eq_false_iff.mpr c3
  subst c3
  have H1 : (some false) = some r := by rw [if_neg (show ¬ (false = true) by decide)] at H; exact H
  clear H
  have H := H1
  clear H1
  obtain rfl := Option.some.inj H
  go_enter Try.func75, Try.ntmps75
  go_wp2_with (first | ((with_reducible refine gate_callee (f := 68) rfl ?_); refine goesL_ (some 7) rfl rfl Try.func68 (by kernel_rfl) rfl #[.int .i64 (l0.length : Int), .int .i64 1, .int .i64 40] rfl (by simp only [List.map_toArray, List.map_cons, List.map_nil] <;> rfl) ?_; (with_reducible refine (impl_inRange.calls (l0.length : Int) 1 40 false _ A2.out).mono ?_); rintro e w' ⟨rfl, ⟨nd, rfl⟩⟩; refine ⟨_, rfl, ?_⟩))
  go_ret
  exact ⟨by first | rfl | (simp [errW_none, errW_some] <;> rfl) | (simp [*, errW_none, errW_some] <;> rfl), by repeat (first | (with_reducible first | exact HB.out | apply below_alloc | apply pw_below_drewN | apply below_drew1) | exact HB.out)⟩

def impl_canFind.f (k : Nat) (l0 : List (S89)) (l1 : List Int) : Option (Bool) := (impl_GoodRe.f k l0).bind fun t236 => (if t236 = true then ((impl_areRunes.f k l1 120).bind fun t237 => (some t237)) else (some false))
theorem impl_canFind.mono : ∀ a0 a1 k, LeO (impl_canFind.f k a0 a1) (impl_canFind.f (k + 1) a0 a1) := by
  intro a0 a1 k
  unfold impl_canFind.f
  repeat' first
      | (with_reducible exact impl_GoodRe.mono _ _)
      | (with_reducible exact impl_areRunes.mono _ _ _)
      | (with_reducible exact LeO.refl _)
      | (with_reducible exact LeO.none _)
      | (with_reducible refine LeO.ite ?_ ?_)
      | (with_reducible refine LeO.bind ?_ (fun _ => ?_))
      | exact impl_GoodRe.mono _ _
      | exact impl_areRunes.mono _ _ _
      | exact LeO.none _
      | refine LeO.ite ?_ ?_
      | refine LeO.bind ?_ (fun _ => ?_)
set_option maxHeartbeats 8000000 in
set_option maxRecDepth 100000 in
theorem impl_canFind.calls (k : Nat) (A0 : Option Addr) (c0 : Nat) (l0 : List (S89)) (A1 : Option Addr) (c1 : Nat) (l1 : List Int) (r : Bool) (w : World) (hr0 : Kd.C k89 w A0 l0.length l0) (hc0 : l0.length ≤ c0) (hr1 : Kd.C (Kd.int .i64) w A1 l1.length l1) (hc1 : l1.length ≤ c1) (h : impl_canFind.f k l0 l1 = some r) :
    Calls Try.prog 62 #[.slice A0 l0.length c0, .slice A1 l1.length c1] w fun e w' => e = .returned (.bool r) ∧ Below w.heap.size w w' := by
  have HR0 := Aside0.mk hr0
  have HC0 := Aside0.mk hc0
  clear hr0 hc0
  have HR1 := Aside0.mk hr1
  have HC1 := Aside0.mk hc1
  clear hr1 hc1
  have HB := Aside0.mk (Below.refl w.heap.size w)
  have H : ((impl_GoodRe.f k l0).bind fun t236 => (if t236 = true then ((impl_areRunes.f k l1 120).bind fun t237 => (some t237)) else (some false))) = some r := h
  clear h
  replace H := Option.bind_eq_some_iff.mp H
  obtain ⟨t236, A30, H⟩ := H
  replace H : (if t236 = true then ((impl_areRunes.f k l1 120).bind fun t237 => (some t237)) else (some false)) = some r := H
  have A3 := Aside0.mk A30
  clear A30
  by_cases c4 : t236 = true
  · subst c4
    have H1 : ((impl_areRunes.f k l1 120).bind fun t237 => (some t237)) = some r := by rw [if_pos rfl] at H; exact H
    clear H
    have H := H1
    clear H1
    replace H := Option.bind_eq_some_iff.mp H
    obtain ⟨t237, A50, H⟩ := H
    replace H : (some t237) = some r := H
    have A5 := Aside0.mk A50
    clear A50
    obtain rfl := Option.some.inj H
    go_enter Try.func62, Try.ntmps62
    go_wp2_with (first | ((with_reducible refine gate_callee (f := 75) rfl ?_); refine goesL_ (some 6) rfl rfl Try.func75 (by kernel_rfl) rfl #[.slice A0 l0.length c0] rfl (by (try simp only [List.map_toArray, List.map_cons, List.map_nil]); first | done | rfl | (simp only [List.length_drop, List.length_take]; rfl)) ?_; (with_reducible refine (impl_GoodRe.calls k _ _ l0 true _ ?side1 ?side2 A3.out).mono ?_); (case side1 => repeat (first | exact HR0.out | (with_reducible refine Kd.C_alloc ?_ _) | (with_reducible refine Kd.C_drewN ?_ _) | (with_reducible refine Kd.C_drew ?_))); (case side2 => exact HC0.out); rintro e w6 ⟨rfl, hb⟩; refine ⟨_, rfl, ?_⟩; have n0_ := Aside0.mk (below_step (by repeat (first | (with_reducible first | exact HB.out | apply below_alloc | apply pw_below_drewN | apply below_drew1) | exact HB.out)) hb); clear HB; have HB := n0_; clear n0_; (try clear hb); (try clear hb2); (try clear hk); (try clear hi)) | (go_at_call 72; (with_reducible refine (impl_areRunes.calls k _ _ l1 120 t237 _ ?side1 ?side2 A5.out).mono ?_); (case side1 => repeat (first | exact (Kd.C_below HR1.out HB.out) | (with_reducible refine Kd.C_alloc ?_ _) | (with_reducible refine Kd.C_drewN ?_ _) | (with_reducible refine Kd.C_drew ?_))); (case side2 => exact HC1.out); rintro e w' ⟨rfl, ⟨nd, rfl⟩⟩))
    go_ret
    exact ⟨by first | rfl | (simp [errW_none, errW_some] <;> rfl) | (simp [*, errW_none, errW_some] <;> rfl), by repeat (first | (with_reducible first | exact HB.out | apply below_alloc | apply pw_below_drewN | apply below_drew1) | exact HB.out)⟩
  · replace c4 := Bool.eq_false_iff.mpr c4
    subst c4
    have H1 : (some false) = some r := by rw [if_neg (show ¬ (false = true) by decide)] at H; exact H
    clear H
    have H := H1
    clear H1
    obtain rfl := Option.some.inj H
    go_enter Try.func62, Try.ntmps62
    go_wp2_with (first | ((with_reducible refine gate_callee (f := 75) rfl ?_); refine goesL_ (some 6) rfl rfl Try.func75 (by kernel_rfl) rfl #[.slice A0 l0.length c0] rfl (by (try simp only [List.map_toArray, List.map_cons, List.map_nil]); first | done | rfl | (simp only [List.length_drop, List.length_take]; rfl)) ?_; (with_reducible refine (impl_GoodRe.calls k _ _ l0 false _ ?side1 ?side2 A3.out).mono ?_); (case side1 => repeat (first | exact HR0.out | (with_reducible refine Kd.C_alloc ?_ _) | (with_reducible refine Kd.C_drewN ?_ _) | (with_reducible refine Kd.C_drew ?_))); (case side2 => exact HC0.out); rintro e w7 ⟨rfl, hb⟩; refine ⟨_, rfl, ?_⟩; have n0_ := Aside0.mk (below_step (by repeat (first | (with_reducible first | exact HB.out | apply below_alloc | apply pw_below_drewN | apply below_drew1) | exact HB.out)) hb); clear HB; have HB := n0_; clear n0_; (try clear hb); (try clear hb2); (try clear hk); (try clear hi)))
    go_ret
    exact ⟨by first | rfl | (simp [errW_none, errW_some] <;> rfl) | (simp [*, errW_none, errW_some] <;> rfl), by repeat (first | (with_reducible first | exact HB.out | apply below_alloc | apply pw_below_drewN | apply below_drew1) | exact HB.out)⟩

theorem at_sl {α : Type} {d : Kd α} {e : Nat} {w : World} {A : Option Addr} {n : Nat} {xs : List (List α)} (h : Kd.C (Kd.slice e d) w A n xs) (i : Int) (h0 : 0 ≤ i) (h1 : i < n) : ∃ ad A0 c0, A = some ad ∧ w.cell? (ad.add i.toNat) = some (.slice A0 (xs.getD i.toNat []).length c0) ∧ (xs.getD i.toNat []).length ≤ c0 ∧ d.C w A0 (xs.getD i.toNat []).length (xs.getD i.toNat []) := by
  obtain ⟨ad, c, e, _, hK, hc0⟩ := Kd.C_get h ([] : List α) i h0 h1
  have hc : ∀ j u, c[j]? = some u → w.cell? (ad.add (i.toNat * 1 + j)) = some u := hc0
  obtain ⟨A0, c0, rfl, l0, g0⟩ := hK
  exact ⟨ad, A0, c0, e, by have hq := hc 0 _ rfl; rwa [Nat.mul_one, Nat.add_zero] at hq, l0, g0⟩
/-- A matcher at block g: its pattern, its parts, its list and its table can be read. -/
structure Mt (w : World) (g : Nat) (p : List S89) (parts : List (List Int)) (l : List Int) (tbl : List (List (List Bool))) : Prop where
  h : ∃ A0 c0 A1 c1 A2 c2 A3 c3, w.heap[g]? = some (.cells #[.slice A0 p.length c0, .slice A1 parts.length c1, .slice A2 l.length c2, .slice A3 tbl.length c3] 138 (0, 0)) ∧ Kd.C k89 w A0 p.length p ∧ Kd.C (Kd.slice 3 (Kd.int .i64)) w A1 parts.length parts ∧ Kd.C (Kd.int .i64) w A2 l.length l ∧ Kd.C (Kd.slice 131 (Kd.slice 4 Kd.bool)) w A3 tbl.length tbl ∧ p.length ≤ c0 ∧ parts.length ≤ c1 ∧ l.length ≤ c2 ∧ tbl.length ≤ c3
theorem Mt.below {w w' : World} {g : Nat} {p : List S89} {parts : List (List Int)} {l : List Int} {tbl : List (List (List Bool))} (h : Mt w g p parts l tbl) (hb : Below w.heap.size w w') : Mt w' g p parts l tbl := by
  obtain ⟨A0, c0, A1, c1, A2, c2, A3, c3, h0, h1, h2, h3, h4, h5⟩ := h.h
  exact ⟨A0, c0, A1, c1, A2, c2, A3, c3, blk_below h0 hb, Kd.C_below h1 hb, Kd.C_below h2 hb, Kd.C_below h3 hb, Kd.C_below h4 hb, h5⟩
/-- What the table says of a node, from where, to where. -/
def impl_matcher_has.at (tbl : List (List (List Bool))) (node a b : Int) : Bool := ((tbl.getD node.toNat []).getD a.toNat []).getD b.toNat false
def impl_matcher_has.f (tbl : List (List (List Bool))) (node a b : Int) : Option Bool :=
  if (0 ≤ node ∧ node < tbl.length) ∧ (0 ≤ a ∧ a < (tbl.getD node.toNat []).length) ∧ (0 ≤ b ∧ b < ((tbl.getD node.toNat []).getD a.toNat []).length) then some (impl_matcher_has.at tbl node a b) else none
set_option maxHeartbeats 4000000 in
theorem impl_matcher_has.calls (g : Nat) (p : List S89) (parts : List (List Int)) (l : List Int) (tbl : List (List (List Bool))) (node a b : Int) (r : Bool) (w : World) (hM : Mt w g p parts l tbl) (h : impl_matcher_has.f tbl node a b = some r) :
    Calls Try.prog 82 #[.pointer (some ⟨g, 0, none⟩), .int .i64 node, .int .i64 a, .int .i64 b] w fun e w' => e = .returned (.bool r) ∧ w = w' := by
  unfold impl_matcher_has.f at h
  split at h
  case isFalse => cases h
  rename_i hs
  obtain ⟨⟨n0, n1⟩, ⟨a0, a1⟩, ⟨b0, b1⟩⟩ := hs
  obtain rfl := Option.some.inj h
  clear h
  obtain ⟨A0, c0, A1, c1, A2, c2, A3, c3, hb, _, _, _, hT, _⟩ := hM.h
  obtain ⟨ad, B0, d0, e, hx, _, hT2⟩ := at_sl hT node n0 n1
  cases e
  obtain ⟨ad2, B1, d1, e, hx2, _, hT3⟩ := at_sl hT2 a a0 a1
  cases e
  obtain ⟨ad3, e, hx3⟩ := Kd.at_bool hT3 b b0 b1
  cases e
  have hcz : w.cell? ⟨g, 3, none⟩ = some (.slice (some ad) tbl.length c3) := (blk_cell hb 3).trans rfl
  have hx4 : w.cell? (ad3.add b.toNat) = some (.bool (impl_matcher_has.at tbl node a b)) := hx3
  clear hM hb hT hT2 hT3 hx3
  generalize impl_matcher_has.at tbl node a b = r at hx4 ⊢
  generalize (tbl.getD node.toNat []).getD a.toNat [] = q at hx2 b1
  generalize tbl.getD node.toNat [] = q2 at hx a1
  replace n0 := eq_true n0
  replace n1 := eq_true n1
  replace a0 := eq_true a0
  replace a1 := eq_true a1
  replace b0 := eq_true b0
  replace b1 := eq_true b1
  go_enter Try.func82, Try.ntmps82
  go_wp2
  go_ret
  exact ⟨rfl, rfl⟩

set_option maxHeartbeats 8000000 in
theorem slices_IndexFunc_impl_span.fn (g : Nat) (lb : Array Value) (eg : ∀ args w, (callFunc g args).run Try.prog w = .ok (.enter g args) w) (p : S187 → Bool) (A : Option Addr) (c : Nat) (l : List (S187)) (w : World) (hr : Kd.C k187 w A l.length l)
    (hp : ∀ (w1 : World) (x : S187), x ∈ l → Below w.heap.size w w1 → Calls Try.prog g (#[.agg #[.int .i64 x.f0, .int .i64 x.f1]] ++ lb) w1 fun e w' => e = .returned (.bool (p x)) ∧ Below w1.heap.size w1 w') :
    Calls Try.prog 183 #[.slice A l.length c, .func (.func g) #[] lb] w fun e w' => e = .returned (.int .i64 (idxOf p l)) ∧ Below w.heap.size w w' := by
  have hbig : l.length ≤ 9223372036854775807 := hr.2.1
  have HR := Aside0.mk hr
  have HP := Aside0.mk hp
  have HB := Aside0.mk (Below.refl w.heap.size w)
  have hu := Try.underlying187
  clear hr hp
  go_enter Try.func183, Try.ntmps183
  go_wp2
  go_loopg [5, 8] l.length (fun gg _ s8 wr => ∃ kk : Nat, kk ≤ l.length ∧ l.length - kk ≤ gg ∧ s8 = .int .i64 kk ∧ Aside0 (∀ j (hj : j < l.length), j < kk → p l[j] = false) ∧ Aside0 (Below w.heap.size w wr))
  case atStart => exact ⟨0, Nat.zero_le _, by omega, rfl, ⟨fun j _ hj => absurd hj (Nat.not_lt_zero _)⟩, ⟨by repeat (first | (with_reducible first | exact HB.out | apply below_alloc | apply pw_below_drewN | apply below_drew1) | exact HB.out)⟩⟩
  case round =>
    clear HB
    obtain ⟨kk, hkk, hg, rfl, HA, HB⟩ := hrel
    by_cases hlt : kk < l.length
    · have hltz : (kk : Int) < (l.length : Int) := by omega
      obtain ⟨ad, e, hx0, hx1⟩ := at_T187 HR.out (kk : Int) (by omega) hltz
      cases e
      have hge : rd_T187 l (kk : Int) = l[kk] := by unfold rd_T187; rw [Int.toNat_natCast, List.getD_eq_getElem?_getD, List.getElem?_eq_getElem hlt]; rfl
      replace hx0 := (HB.out.cell (World.block_lt_of_cell? w _ hx0)).trans hx0
      replace hx1 := (HB.out.cell (World.block_lt_of_cell? w _ hx1)).trans hx1
      have hm : rd_T187 l (kk : Int) ∈ l := by rw [hge]; exact List.getElem_mem hlt
      have HPE := Aside0.mk (show p (rd_T187 l (kk : Int)) = p l[kk] by rw [hge])
      have HM := Aside0.mk hm
      clear hm hge
      generalize rd_T187 l (kk : Int) = y at hx0 hx1 HPE HM
      simp only [Int.toNat_natCast] at hx0 hx1
      have HC := Aside0.mk (fun (w1 : World) (hb1 : Below w.heap.size w w1) => HP.out w1 y  HM.out hb1 )
      cases hq : p y with
      | true =>
        have HQ := Aside0.mk (HPE.out.symm.trans hq)
        have HC2 := Aside0.mk (fun (w1 : World) (hb1 : Below w.heap.size w w1) => hq ▸ HC.out w1 hb1)
        clear hq
        go_wp2_with (go_at_fn g; refine (HC2.out _ ?hb1).mono ?_; (case hb1 => repeat (first | (with_reducible first | exact HB.out | apply below_alloc | apply pw_below_drewN | apply below_drew1) | exact HB.out)); rintro e w' ⟨rfl, hb⟩; have n0_ := Aside0.mk (below_step (by repeat (first | (with_reducible first | exact HB.out | apply below_alloc | apply pw_below_drewN | apply below_drew1) | exact HB.out)) hb); clear HB hb; have HB := n0_; clear n0_)
        go_ret
        refine ⟨?_, by repeat (first | (with_reducible first | exact HB.out | apply below_alloc | apply pw_below_drewN | apply below_drew1) | exact HB.out)⟩
        rw [idxOf_hit p l kk hlt (fun j hj => HA.out j (by omega) hj) HQ.out]
        rfl
      | false =>
        have HQ := Aside0.mk (HPE.out.symm.trans hq)
        have HC2 := Aside0.mk (fun (w1 : World) (hb1 : Below w.heap.size w w1) => hq ▸ HC.out w1 hb1)
        clear hq
        go_wp2_with (go_at_fn g; refine (HC2.out _ ?hb1).mono ?_; (case hb1 => repeat (first | (with_reducible first | exact HB.out | apply below_alloc | apply pw_below_drewN | apply below_drew1) | exact HB.out)); rintro e w' ⟨rfl, hb⟩; have n0_ := Aside0.mk (below_step (by repeat (first | (with_reducible first | exact HB.out | apply below_alloc | apply pw_below_drewN | apply below_drew1) | exact HB.out)) hb); clear HB hb; have HB := n0_; clear n0_)
        go_roundg (l.length - (kk + 1))
        case measure => omega
        case rel =>
          refine ⟨kk + 1, by omega, by omega, by go_num, ⟨fun j hj hjk => ?_⟩, ⟨by repeat (first | (with_reducible first | exact HB.out | apply below_alloc | apply pw_below_drewN | apply below_drew1) | exact HB.out)⟩⟩
          by_cases e : j = kk
          · subst e
            exact HQ.out
          · exact HA.out j hj (by omega)
    · have hltz : ¬ (kk : Int) < (l.length : Int) := by omega
      have HMI := Aside0.mk (idxOf_miss p l (fun x hx => by
        obtain ⟨j, hj, rfl⟩ := List.getElem_of_mem hx
        exact HA.out j hj (by omega)))
      go_wp2
      go_ret
      refine ⟨?_, by repeat (first | (with_reducible first | exact HB.out | apply below_alloc | apply pw_below_drewN | apply below_drew1) | exact HB.out)⟩
      rw [HMI.out]
      rfl

set_option maxHeartbeats 8000000 in
theorem slices_ContainsFunc_impl_span.fn (g : Nat) (lb : Array Value) (eg : ∀ args w, (callFunc g args).run Try.prog w = .ok (.enter g args) w) (p : S187 → Bool) (A : Option Addr) (c : Nat) (l : List (S187)) (w : World) (hr : Kd.C k187 w A l.length l)
    (hp : ∀ (w1 : World) (x : S187), x ∈ l → Below w.heap.size w w1 → Calls Try.prog g (#[.agg #[.int .i64 x.f0, .int .i64 x.f1]] ++ lb) w1 fun e w' => e = .returned (.bool (p x)) ∧ Below w1.heap.size w1 w') :
    Calls Try.prog 171 #[.slice A l.length c, .func (.func g) #[] lb] w fun e w' => e = .returned (.bool (l.any p)) ∧ Below w.heap.size w w' := by
  have H := slices_IndexFunc_impl_span.fn g lb eg p A c l w hr hp
  have HB := Aside0.mk (idxOf_any p l)
  clear hr hp
  generalize idxOf p l = i at H HB
  generalize l.any p = b at HB
  have HH := Aside0.mk H
  clear H
  by_cases h0 : 0 ≤ i
  · obtain rfl : b = true := by rw [← HB.out]; exact h0
    clear HB
    go_enter Try.func171, Try.ntmps171
    go_wp2_with (go_at_call 183; refine HH.out.mono ?_; rintro e w' ⟨rfl, hb⟩; have HB2 := Aside0.mk hb; clear hb)
    go_ret
    exact ⟨by simp [h0], by repeat (first | (with_reducible first | exact HB2.out | apply below_alloc | apply pw_below_drewN | apply below_drew1) | exact HB2.out)⟩
  · obtain rfl : b = false := by
      cases hb : b
      · rfl
      · exact absurd (HB.out.mpr hb) h0
    clear HB
    go_enter Try.func171, Try.ntmps171
    go_wp2_with (go_at_call 183; refine HH.out.mono ?_; rintro e w' ⟨rfl, hb⟩; have HB2 := Aside0.mk hb; clear hb)
    go_ret
    exact ⟨by simp [h0], by repeat (first | (with_reducible first | exact HB2.out | apply below_alloc | apply pw_below_drewN | apply below_drew1) | exact HB2.out)⟩

abbrev tt24 : Bool := true
abbrev ff24 : Bool := false
def impl_spansOf.l0 : Nat → List Int → List (S187) → Int → Option ((List (S187)))
 | 0, _, _, _ => none
 | k + 1, x0, x3, x4 => if (wrap64 (x4 + 1)) < (x0.length : Int) then (if 0 ≤ x4 then (if x4 < (x0.length : Int) then (if 0 ≤ (wrap64 (x4 + 1)) then (if x3.length < 8796093022208 then (impl_spansOf.l0 k x0 (x3 ++ [(⟨rd x0 x4, rd x0 (wrap64 (x4 + 1))⟩ : S187)]) (wrap64 (x4 + 2))) else (none)) else (none)) else (none)) else (none)) else (some x3)
def impl_spansOf.f (k : Nat) (l0 : List Int) : Option ((List (S187))) := impl_spansOf.l0 k l0 (([] : List (S187))) 0
theorem impl_spansOf.mono_l : ∀ k, (∀ y0 y1 y2, LeO (impl_spansOf.l0 k y0 y1 y2) (impl_spansOf.l0 (k + 1) y0 y1 y2))
 | 0 => fun _ _ _ r h => by simp [impl_spansOf.l0] at h
 | k + 1 => by
  have ih0 := impl_spansOf.mono_l k
  ·intro y0 y1 y2
   unfold impl_spansOf.l0
   repeat' first
   | (with_reducible exact ih0 _ _ _)
   | (with_reducible exact LeO.refl _)
   | (with_reducible exact LeO.none _)
   | (with_reducible refine LeO.ite ?_ ?_)
   | (with_reducible refine LeO.bind ?_ (fun _ => ?_))
   | exact ih0 _ _ _
   | exact LeO.none _
   | refine LeO.ite ?_ ?_
   | refine LeO.bind ?_ (fun _ => ?_)
theorem impl_spansOf.mono : ∀ a0 k, LeO (impl_spansOf.f k a0) (impl_spansOf.f (k + 1) a0) := by
 intro a0 k
 have ih0 := impl_spansOf.mono_l k
 unfold impl_spansOf.f
 repeat' first
   | (with_reducible exact ih0 _ _ _)
   | (with_reducible exact LeO.refl _)
   | (with_reducible exact LeO.none _)
   | (with_reducible refine LeO.ite ?_ ?_)
   | (with_reducible refine LeO.bind ?_ (fun _ => ?_))
   | exact ih0 _ _ _
   | exact LeO.none _
   | refine LeO.ite ?_ ?_
   | refine LeO.bind ?_ (fun _ => ?_)
def impl_spansOf.T5 : Bool × List (List Nat × List Nat) := (true, [([], []), ([], []), ([], []), ([1, 2], [1, 2]), ([3], [3]), ([], []), ([], []), ([6], [6]), ([5, 7], [5, 7]), ([8], [8]), ([4, 9], [4, 9]), ([10], [10]), ([0, 11], [0, 11]), ([12, 12, 0, 1, 2, 3, 4, 5, 6, 7, 8, 9, 10, 11, 12], [0, 12])])
def impl_spansOf.B5 : List Nat := [0, 0, 0, 6, 14, 0, 0, 64, 224, 480, 1022, 2046, 4095, 8191]
theorem impl_spansOf.tab5 : rtab .any (opsOf Try.f172 5) = impl_spansOf.T5 := by kernel_rfl
theorem impl_spansOf.bits5 : waitsOk impl_spansOf.T5.2 impl_spansOf.B5 = true := by kernel_rfl
set_option maxHeartbeats 8000000 in
set_option maxRecDepth 100000 in
theorem impl_spansOf.calls (k : Nat) (A0 : Option Addr) (c0 : Nat) (l0 : List Int) (r : List (S187)) (w : World) (hr0 : Kd.C (Kd.int .i64) w A0 l0.length l0) (hc0 : l0.length ≤ c0) (h : impl_spansOf.f k l0 = some r) :
  Calls Try.prog 172 #[.slice A0 l0.length c0] w fun e w' => ∃ v0_ : Value, e = .returned (v0_) ∧ Kd.R k187 187 w' w.heap.size (fun _ => True) v0_ r ∧ Below w.heap.size w w' := by
 have hu187 := Try.underlying187
 have HR0 := Aside0.mk hr0
 have HC0 := Aside0.mk hc0
 clear hr0 hc0
 have HB := Aside0.mk (Below.refl w.heap.size w)
 have H : (impl_spansOf.l0 k l0 (([] : List (S187))) 0) = some r := h
 clear h
 obtain ⟨y238, hy238⟩ : ∃ y_ : List (S187), y_ = (([] : List (S187))) := ⟨_, rfl⟩
 replace H : (impl_spansOf.l0 k l0 y238 0) = some r := by rw [hy238]; exact H
 have Ny238 := Aside0.mk hy238
 clear hy238
 have H' := Aside0.mk H
 clear H
 go_enter Try.func172, Try.ntmps172
 go_wp2_with (first | ((with_reducible refine gate_dst (N := 5) rfl ?_); refine Kd.R_lit k187 _ 187 ?hg (N := 5) ?hd (xs := ([] : List (S187))) (inner := []) (ok := fun _ => True) (okp := fun _ => True) ?hr ?hp (fun _ hk => hk) trivial (Below.refl _ _) (Nat.le_refl _) (by simp) ?_; (case hd => rfl); (case hg => rfl); (case hr => go_simp <;> rfl); (case hp => exact (Reps.none _ _)); intro v239 w2 ho3 hb hg_ hnew_; clear hg_ hnew_; (first | rw [← Ny238.out] at ho3 | (simp only [Int.reduceToNat] at ho3; rw [← Ny238.out] at ho3)); have n0_ := Aside0.mk (Kd.R_lower ho3 (below_size HB.out)); have n1_ := Aside0.mk (below_step HB.out hb); clear HB; have HO240 := n0_; have HB := n1_; clear n0_ n1_; clear hb ho3))
 go_loopg [3, 4] k (fun kq v3 v4 w' => ∃ (x3_1 : List (S187)) (x4_1 : Int), v4 = .int .i64 x4_1 ∧ Aside0 (impl_spansOf.l0 kq l0 x3_1 x4_1 = some r) ∧ Aside0 (kq ≤ k) ∧ Aside0 (Kd.R k187 187 w' w.heap.size (fun _ => True) v3 x3_1) ∧ Aside0 (Below w.heap.size w w'))
 case atStart => exact ⟨(y238), (0), (by first | rfl | (simp; done) | (simp [*]; done)), H', ⟨Nat.le_refl _⟩, ⟨HO240.out⟩, ⟨HB.out⟩⟩
 case round =>
  clear H'
  try clear c1
  try clear p2
  obtain ⟨x3_1, x4_1, rfl, HA, HK1, HO_3, HB⟩ := hrel
  cases gk with
  | zero => exact absurd HA.out (by simp [impl_spansOf.l0])
  | succ k1 =>
   have H := HA.out
   clear HA
   simp only [impl_spansOf.l0] at H
   by_cases c4 : (wrap64 (x4_1 + 1)) < (l0.length : Int)
   ·rw [if_pos c4] at H
    have c4b0 : decide ((wrap64 (x4_1 + 1)) < (l0.length : Int)) = true := decide_eq_true c4
    clear c4
    by_cases c5 : 0 ≤ x4_1
    ·rw [if_pos c5] at H
     have c5b0 : decide (0 ≤ x4_1) = true := decide_eq_true c5
     clear c5
     by_cases c6 : x4_1 < (l0.length : Int)
     ·rw [if_pos c6] at H
      have c6b0 : decide (x4_1 < (l0.length : Int)) = true := decide_eq_true c6
      clear c6
      obtain ⟨ji7, hji7⟩ : ∃ j_ : Int, (wrap64 (x4_1 + 1)) = j_ := ⟨_, rfl⟩
      replace H : (if 0 ≤ (ji7) then (if x3_1.length < 8796093022208 then (impl_spansOf.l0 k1 l0 (x3_1 ++ [(⟨rd l0 x4_1, rd l0 (ji7)⟩ : S187)]) (wrap64 (x4_1 + 2))) else (none)) else (none)) = some r := by first | (rw [hji7] at H; exact H) | (simp only [hji7] at H ⊢; exact H)
      (try rw [hji7] at c4b0)
      have hji7w : (IntKind.i64.wrap (x4_1 + 1)) = ji7 := (i64_w _).trans hji7
      by_cases c8 : 0 ≤ (ji7)
      ·rw [if_pos c8] at H
       have c8b0 : decide (0 ≤ (ji7)) = true := decide_eq_true c8
       clear c8
       by_cases c9 : x3_1.length < 8796093022208
       ·rw [if_pos c9] at H
        have LMc9 := Aside0.mk c9
        clear c9
        obtain ⟨y243, hy243⟩ : ∃ y_ : List (S187), y_ = (x3_1 ++ [(⟨rd l0 x4_1, rd l0 (ji7)⟩ : S187)]) := ⟨_, rfl⟩
        replace H : (impl_spansOf.l0 k1 l0 y243 (wrap64 (x4_1 + 2))) = some r := by rw [hy243]; exact H
        have Ny243 := Aside0.mk hy243
        clear hy243
        have H' := Aside0.mk H
        clear H
        try go_wp2
        have n0_ := Aside0.mk (Kd.R_drew HO_3.out)
        have n1_ := Aside0.mk (below_drew1 HB.out)
        clear HO_3
        clear HB
        have HO_3 := n0_
        have HB := n1_
        clear n0_ n1_
        have p241 : 0 ≤ (x4_1 : Int) := of_decide_eq_true (by assumption)
        have q241 : x4_1 < (l0.length : Int) := of_decide_eq_true (by assumption)
        obtain ⟨ad241, e241, hx241_0⟩ := Kd.at_int HR0.out x4_1 p241 q241
        have hw241_0 := hx241_0
        cases e241
        replace hx241_0 := (HB.out.cell (World.block_lt_of_cell? w _ hx241_0)).trans hx241_0
        replace p241 := eq_true p241
        replace q241 := eq_true q241
        have p242 : 0 ≤ ((ji7) : Int) := of_decide_eq_true (by assumption)
        have q242 : (ji7) < (l0.length : Int) := of_decide_eq_true (by assumption)
        obtain ⟨ad242, e242, hx242_0⟩ := Kd.at_int HR0.out (ji7) p242 q242
        have hw242_0 := hx242_0
        obtain rfl : ad241 = ad242 := (by injection e242)
        replace hx242_0 := (HB.out.cell (World.block_lt_of_cell? w _ hx242_0)).trans hx242_0
        replace p242 := eq_true p242
        replace q242 := eq_true q242
        refine start_ (n := 14) (S := fun w' => w'.cell? (ad241.add (x4_1).toNat) = some (.int .i64 (rd l0 x4_1)) ∧ w'.cell? (ad241.add ((ji7)).toNat) = some (.int .i64 (rd l0 (ji7)))) (ds := []) #[ff24,ff24,ff24,ff24,ff24,ff24,ff24,ff24,ff24,ff24,ff24,ff24,ff24,ff24] (by kernel_rfl) rfl rfl ⟨((HB.out.cell (World.block_lt_of_cell? w _ hw241_0)).trans hw241_0), ((HB.out.cell (World.block_lt_of_cell? w _ hw242_0)).trans hw242_0)⟩ (fun hHeld => ?_); refine with_tabW impl_spansOf.tab5 impl_spansOf.bits5 (fun HT_ HW_ => ?_)
        generalize wr.drew = w10 at HO_3 HB hx241_0 hx242_0 hHeld ⊢
        refine pure_ (i := 0) (N := some 13) (v := ?_) (a' := ?_) #[tt24,ff24,ff24,ff24,ff24,ff24,ff24,ff24,ff24,ff24,ff24,ff24,ff24,ff24] rfl rfl (any_of HT_.out (by kernel_rfl)) (fun _ _ _ h => h) (Or.inl ⟨by rfl, ?_⟩) ?_ ?_
        rotate_left
        ·intro w'
         go_simp
         with_reducible rfl
        rotate_left
        ·simp only [Act.put, List.setIfInBounds_toArray, List.set_cons_zero, List.set_cons_succ, i64_w, i32_w]
         rfl
        refine pure_ (i := 1) (N := some 14) (v := ?_) (a' := ?_) #[tt24,tt24,ff24,ff24,ff24,ff24,ff24,ff24,ff24,ff24,ff24,ff24,ff24,ff24] rfl rfl (any_of HT_.out (by kernel_rfl)) (fun _ _ _ h => h) (Or.inl ⟨by rfl, ?_⟩) ?_ ?_
        rotate_left
        ·intro w'
         go_simp
         with_reducible rfl
        rotate_left
        ·simp only [Act.put, List.setIfInBounds_toArray, List.set_cons_zero, List.set_cons_succ, i64_w, i32_w]
         rfl
        refine pure_ (i := 2) (N := some 15) (v := ?_) (a' := ?_) #[tt24,tt24,tt24,ff24,ff24,ff24,ff24,ff24,ff24,ff24,ff24,ff24,ff24,ff24] rfl rfl (any_of HT_.out (by kernel_rfl)) (fun _ _ _ h => h) (Or.inl ⟨by rfl, ?_⟩) ?_ ?_
        rotate_left
        ·intro w'
         go_simp
         with_reducible rfl
        rotate_left
        ·simp only [Act.put, List.setIfInBounds_toArray, List.set_cons_zero, List.set_cons_succ, i64_w, i32_w]
         rfl
        refine pure_ (i := 3) (N := some 16) (v := ?_) (a' := ?_) #[tt24,tt24,tt24,tt24,ff24,ff24,ff24,ff24,ff24,ff24,ff24,ff24,ff24,ff24] rfl rfl (any_of HT_.out (by kernel_rfl)) (fun _ _ _ h => h) (Or.inl ⟨by rfl, ?_⟩) ?_ ?_
        rotate_left
        ·intro w'
         go_simp
         with_reducible rfl
        rotate_left
        ·simp only [Act.put, List.setIfInBounds_toArray, List.set_cons_zero, List.set_cons_succ, i64_w, i32_w]
         rfl
        refine pure_ (i := 5) (N := some 18) (v := ?_) (a' := ?_) #[tt24,tt24,tt24,tt24,ff24,tt24,ff24,ff24,ff24,ff24,ff24,ff24,ff24,ff24] rfl rfl (any_of HT_.out (by kernel_rfl)) (fun _ _ _ h => h) (Or.inl ⟨by rfl, ?_⟩) ?_ ?_
        rotate_left
        ·intro w'
         go_simp
         with_reducible rfl
        rotate_left
        ·simp only [Act.put, List.setIfInBounds_toArray, List.set_cons_zero, List.set_cons_succ, i64_w, i32_w]
         rfl
        refine pure_ (i := 6) (N := some 19) (v := ?_) (a' := ?_) #[tt24,tt24,tt24,tt24,ff24,tt24,tt24,ff24,ff24,ff24,ff24,ff24,ff24,ff24] rfl rfl (any_of HT_.out (by kernel_rfl)) (fun _ _ _ h => h) (Or.inl ⟨by rfl, ?_⟩) ?_ ?_
        rotate_left
        ·intro w'
         go_simp
         with_reducible rfl
        rotate_left
        ·simp only [Act.put, List.setIfInBounds_toArray, List.set_cons_zero, List.set_cons_succ, i64_w, i32_w]
         rfl
        refine pure_ (i := 7) (N := some 20) (v := ?_) (a' := ?_) #[tt24,tt24,tt24,tt24,ff24,tt24,tt24,tt24,ff24,ff24,ff24,ff24,ff24,ff24] rfl rfl (any_of HT_.out (by kernel_rfl)) (fun _ _ _ h => h) (Or.inl ⟨by rfl, ?_⟩) ?_ ?_
        rotate_left
        ·intro w'
         go_simp
         with_reducible rfl
        rotate_left
        ·simp only [Act.put, List.setIfInBounds_toArray, List.set_cons_zero, List.set_cons_succ, i64_w, i32_w]
         rfl
        refine pure_ (i := 8) (N := some 21) (v := ?_) (a' := ?_) #[tt24,tt24,tt24,tt24,ff24,tt24,tt24,tt24,tt24,ff24,ff24,ff24,ff24,ff24] rfl rfl (any_of HT_.out (by kernel_rfl)) (fun _ _ _ h => h) (Or.inl ⟨by rfl, ?_⟩) ?_ ?_
        rotate_left
        ·intro w'
         go_simp
         with_reducible rfl
        rotate_left
        ·simp only [Act.put, List.setIfInBounds_toArray, List.set_cons_zero, List.set_cons_succ, i64_w, i32_w]
         rfl
        refine take_ (i := 4) (N := some 17) (v := ?_) (a' := ?_) #[tt24,tt24,tt24,tt24,tt24,tt24,tt24,tt24,tt24,ff24,ff24,ff24,ff24,ff24] rfl rfl (take_ofW HT_.out HW_.out (by kernel_rfl)) (fun _ _ _ h => h) (Or.inl ⟨by rfl, ?_⟩) hHeld ?_ ?_
        rotate_left
        ·rintro w' ⟨s0, s1⟩
         go_simp
         with_reducible rfl
        rotate_left
        ·simp only [Act.put, List.setIfInBounds_toArray, List.set_cons_zero, List.set_cons_succ, i64_w, i32_w]
         rfl
        refine take_ (i := 9) (N := some 22) (v := ?_) (a' := ?_) #[tt24,tt24,tt24,tt24,tt24,tt24,tt24,tt24,tt24,tt24,ff24,ff24,ff24,ff24] rfl rfl (take_ofW HT_.out HW_.out (by kernel_rfl)) (fun _ _ _ h => h) (Or.inl ⟨by rfl, ?_⟩) hHeld ?_ ?_
        rotate_left
        ·rintro w' ⟨s0, s1⟩
         go_simp
         with_reducible rfl
        rotate_left
        ·simp only [Act.put, List.setIfInBounds_toArray, List.set_cons_zero, List.set_cons_succ, i64_w, i32_w]
         rfl
        refine pure_ (i := 10) (N := some 23) (v := ?_) (a' := ?_) #[tt24,tt24,tt24,tt24,tt24,tt24,tt24,tt24,tt24,tt24,tt24,ff24,ff24,ff24] rfl rfl (any_of HT_.out (by kernel_rfl)) (fun _ _ _ h => h) (Or.inl ⟨by rfl, ?_⟩) ?_ ?_
        rotate_left
        ·intro w'
         go_simp
         with_reducible rfl
        rotate_left
        ·simp only [Act.put, List.setIfInBounds_toArray, List.set_cons_zero, List.set_cons_succ, i64_w, i32_w]
         rfl
        refine one_ (i := 11) (N := some 24) #[tt24,tt24,tt24,tt24,tt24,tt24,tt24,tt24,tt24,tt24,tt24,tt24,ff24,ff24] rfl rfl (one_of HT_.out (by kernel_rfl)) (by decide) (fun K hK => ?_)
        refine value_ (w1 := ?_) (v := ?_) (by rfl) rfl ?_ ?_
        rotate_left 2
        ·go_simp
         constructor
         ·rfl
         ·rfl
        refine hK.out _ _ ⟨(World.cell?_alloc_lt _ _ _ (World.block_lt_of_cell? _ _ (((HB.out.cell (World.block_lt_of_cell? w _ hw241_0)).trans hw241_0)))).trans (((HB.out.cell (World.block_lt_of_cell? w _ hw241_0)).trans hw241_0)), (World.cell?_alloc_lt _ _ _ (World.block_lt_of_cell? _ _ (((HB.out.cell (World.block_lt_of_cell? w _ hw242_0)).trans hw242_0)))).trans (((HB.out.cell (World.block_lt_of_cell? w _ hw242_0)).trans hw242_0))⟩ (fun hHeld => ?_)
        clear hK K
        refine norm_ (a' := ?_) ?_ ?_
        rotate_left
        ·show Act.put _ (some 24) _ = _
         simp only [Act.put, List.setIfInBounds_toArray, List.set_cons_zero, List.set_cons_succ, i64_w, i32_w]
         rfl
        refine one_ (i := 12) (N := some 25) #[tt24,tt24,tt24,tt24,tt24,tt24,tt24,tt24,tt24,tt24,tt24,tt24,tt24,ff24] rfl rfl (one_of HT_.out (by kernel_rfl)) (by decide) (fun K hK => ?_)
        refine Kd.R_append_step k187 (w0 := w) w.heap.size (by rfl) (.tmp 13) (.tmp 24) 185 187 (.agg #[(.int .i64 0), (.int .i64 0)]) 16 rfl Try.underlying185 info187 rfl (by decide) (by omega) u3 x3_1 (⟨rd l0 x4_1, rd l0 (ji7)⟩ : S187) [.int .i64 (rd l0 x4_1), .int .i64 (rd l0 (ji7))] (fun _ => True) (fun _ => False) rfl rfl ?aP (fun _ hk => hk.elim) ?aF ?aO ?aB ?aS ?aL ?_
        (case aP => exact k187_mkM _ _ _ (⟨rd l0 x4_1, rd l0 (ji7)⟩ : S187))
        (case aB => exact HB.out)
        (case aF => exact (fun _ _ => trivial))
        (case aO => exact HO_3.out)
        (case aS => exact (below_size HB.out))
        (case aL => have := LMc9.out; omega)
        intro v244 w11 ho hb hg hat
        rw [← Ny243.out] at ho
        have n0_ := Aside0.mk (hb)
        have n1_ := Aside0.mk (ho)
        clear HB
        clear HO_3
        have HB := n0_
        have HO245 := n1_
        clear n0_ n1_
        clear ho hb hg hat
        refine hK.out _ _ ⟨((HB.out.cell (World.block_lt_of_cell? w _ hw241_0)).trans hw241_0), ((HB.out.cell (World.block_lt_of_cell? w _ hw242_0)).trans hw242_0)⟩ (fun hHeld => ?_)
        clear hK K
        refine norm_ (a' := ?_) ?_ ?_
        rotate_left
        ·show Act.put _ (some 25) _ = _
         simp only [Act.put, List.setIfInBounds_toArray, List.set_cons_zero, List.set_cons_succ, i64_w, i32_w]
         rfl
        refine pure_ (i := 13) (N := some 3) (v := ?_) (a' := ?_) #[tt24,tt24,tt24,tt24,tt24,tt24,tt24,tt24,tt24,tt24,tt24,tt24,tt24,tt24] rfl rfl (any_of HT_.out (by kernel_rfl)) (fun _ _ _ h => h) (Or.inl ⟨by rfl, ?_⟩) ?_ ?_
        rotate_left
        ·intro w'
         go_simp
         with_reducible rfl
        rotate_left
        ·simp only [Act.put, List.setIfInBounds_toArray, List.set_cons_zero, List.set_cons_succ, i64_w, i32_w]
         rfl
        refine done_ (done_of HT_.out (by kernel_rfl)) ?_
        try go_wp2
        go_roundg k1
        case measure => have := HK1.out; omega
        case rel => exact ⟨(y243), (wrap64 (x4_1 + 2)), (by first | rfl | (simp; done) | (simp [*]; done)), H', ⟨by have := HK1.out; omega⟩, ⟨HO245.out⟩, ⟨HB.out⟩⟩
       ·rw [if_neg c9] at H
        exact absurd H (by simp)
      ·rw [if_neg c8] at H
       exact absurd H (by simp)
     ·rw [if_neg c6] at H
      exact absurd H (by simp)
    ·rw [if_neg c5] at H
     exact absurd H (by simp)
   ·rw [if_neg c4] at H
    have c4b0 : decide ((wrap64 (x4_1 + 1)) < (l0.length : Int)) = false := decide_eq_false c4
    clear c4
    obtain rfl := Option.some.inj H
    go_wp2
    go_ret
    exact ⟨_, by first | rfl | (simp [errW_none, errW_some] <;> rfl) | (simp [*, errW_none, errW_some] <;> rfl), by (with_reducible repeat (first | apply Kd.R_alloc | apply Kd.R_drewN | apply Kd.R_drew)); exact HO_3.out, HB.out⟩

def impl_inSet_1.f (c a b : Int) : Option Bool := impl_inRange.f c a b
set_option maxHeartbeats 4000000 in
theorem impl_inSet_1.calls (g : Nat) (c a b : Int) (r : Bool) (w : World) (hb : w.heap[g]? = some (.cells #[.int .i64 c] 3 (0, 0))) (h : impl_inSet_1.f c a b = some r) :
    Calls Try.prog 173 (#[.agg #[.int .i64 a, .int .i64 b]] ++ #[.pointer (some ⟨g, 0, none⟩)]) w fun e w' => e = .returned (.bool r) ∧ Below w.heap.size w w' := by
  have hu := Try.underlying187
  have HT := Aside0.mk (show impl_inRange.f c a b = some r from h)
  have hcz : w.cell? ⟨g, 0, none⟩ = some (.int .i64 c) := (blk_cell hb 0).trans rfl
  clear hb h
  have HB := Aside0.mk (Below.refl w.heap.size w)
  go_enter Try.func173, Try.ntmps173
  go_wp2_with (first | ((with_reducible refine gate_dst (N := 2) rfl ?_); refine box_event ?hg (N := 2) ?hd (cs := #[.int .i64 a, .int .i64 b]) (t := 187) ?hr ?_; (case hd => rfl); (case hg => rfl); (case hr => first | (go_simp; done) | (go_simp; rfl)); intro gb hg w1 hbox hb1; have n0_ := Aside0.mk hb1; have hcz1 := (hb1.cell (World.block_lt_of_cell? w _ hcz)).trans hcz; have hcz2 : w1.cell? ⟨gb, 0, none⟩ = some (.int .i64 a) := (blk_cell hbox 0).trans rfl; have hcz3 : w1.cell? ⟨gb, 1, none⟩ = some (.int .i64 b) := (blk_cell hbox 1).trans rfl; clear HB hcz hb1 hbox hg; have HB := n0_; clear n0_) | (go_at_call 68; refine (impl_inRange.calls c a b r _ HT.out).mono ?_; rintro e w' ⟨rfl, ⟨nd, rfl⟩⟩))
  go_ret
  exact ⟨by first | rfl | simp [*], by repeat (first | (with_reducible first | exact HB.out | apply below_alloc | apply pw_below_drewN | apply below_drew1) | exact HB.out)⟩

def slices_ContainsFunc_impl_span_173.f (l0 : List S187) (c : Int) : Option Bool := anyO (fun x => impl_inSet_1.f c x.f0 x.f1) l0
set_option maxHeartbeats 8000000 in
theorem slices_ContainsFunc_impl_span_173.calls {g1 : Nat} (A0 : Option Addr) (c0 : Nat) (l0 : List S187) (c : Int) (r : Bool) (w : World) (hr0 : Kd.C k187 w A0 l0.length l0) (hc0 : l0.length ≤ c0)
    (hb1 : w.heap[g1]? = some (.cells #[.int .i64 c] 3 (0, 0))) (h : slices_ContainsFunc_impl_span_173.f l0 c = some r) :
    Calls Try.prog 171 #[.slice A0 l0.length c0, .func (.func 173) #[] #[.pointer (some ⟨g1, 0, none⟩)]] w fun e w' => e = .returned (.bool r) ∧ Below w.heap.size w w' := by
  have eg : ∀ args w, (callFunc 173 args).run Try.prog w = .ok (.enter 173 args) w := enters_of Try.func173 (by kernel_rfl) rfl
  obtain ⟨hs, rfl⟩ := anyO_some h
  exact slices_ContainsFunc_impl_span.fn 173 #[.pointer (some ⟨g1, 0, none⟩)] eg (fun x => (impl_inSet_1.f c x.f0 x.f1).getD false) A0 c0 l0 w hr0 (fun w1 x hx hB => impl_inSet_1.calls g1 c x.f0 x.f1 _ w1 (blk_below hb1 hB) (by
    obtain ⟨b, hb⟩ := Option.isSome_iff_exists.1 (hs x hx)
    rw [hb]
    rfl))

def impl_inSet.f (k : Nat) (l0 : List Int) (a1 : Int) : Option (Bool) := (impl_spansOf.f k l0).bind fun t247 => ((slices_ContainsFunc_impl_span_173.f t247 a1).bind fun t250 => (some t250))
theorem impl_inSet.mono : ∀ a0 a1 k, LeO (impl_inSet.f k a0 a1) (impl_inSet.f (k + 1) a0 a1) := by
 intro a0 a1 k
 unfold impl_inSet.f
 repeat' first
   | (with_reducible exact impl_spansOf.mono _ _)
   | (with_reducible exact LeO.refl _)
   | (with_reducible exact LeO.none _)
   | (with_reducible refine LeO.ite ?_ ?_)
   | (with_reducible refine LeO.bind ?_ (fun _ => ?_))
   | exact impl_spansOf.mono _ _
   | exact LeO.none _
   | refine LeO.ite ?_ ?_
   | refine LeO.bind ?_ (fun _ => ?_)
set_option maxHeartbeats 8000000 in
set_option maxRecDepth 100000 in
theorem impl_inSet.calls (k : Nat) (A0 : Option Addr) (c0 : Nat) (l0 : List Int) (a1 : Int) (r : Bool) (w : World) (hr0 : Kd.C (Kd.int .i64) w A0 l0.length l0) (hc0 : l0.length ≤ c0) (h : impl_inSet.f k l0 a1 = some r) :
  Calls Try.prog 146 #[.slice A0 l0.length c0, .int .i64 a1] w fun e w' => e = .returned (.bool r) ∧ Below w.heap.size w w' := by
 have HR0 := Aside0.mk hr0
 have HC0 := Aside0.mk hc0
 clear hr0 hc0
 have HB := Aside0.mk (Below.refl w.heap.size w)
 have H : ((impl_spansOf.f k l0).bind fun t247 => ((slices_ContainsFunc_impl_span_173.f t247 a1).bind fun t250 => (some t250))) = some r := h
 clear h
 replace H := Option.bind_eq_some_iff.mp H
 obtain ⟨t247, A30, H⟩ := H
 replace H : ((slices_ContainsFunc_impl_span_173.f t247 a1).bind fun t250 => (some t250)) = some r := H
 have A3 := Aside0.mk A30
 clear A30
 replace H := Option.bind_eq_some_iff.mp H
 obtain ⟨t250, A40, H⟩ := H
 replace H : (some t250) = some r := H
 have A4 := Aside0.mk A40
 clear A40
 obtain rfl := Option.some.inj H
 go_enter Try.func146, Try.ntmps146
 go_wp2_with (first | ((with_reducible refine gate_dst (N := 3) rfl ?_); refine box_event ?hg (N := 3) ?hd (cs := #[.int .i64 a1]) (t := 3) ?hr ?_; (case hd => rfl); (case hg => rfl); (case hr => go_simp <;> rfl); intro gb246 hg w5 hbox hb; have n0_ := Aside0.mk (below_step HB.out hb); have n1_ := Aside0.mk (hbox); have n2_ := Aside0.mk ((by rw [hg]; exact (below_size HB.out) : w.heap.size ≤ gb246)); have n3_ := Aside0.mk ((by rw [hg]; exact (below_size HB.out) : w.heap.size ≤ gb246)); clear HB; have HB := n0_; have BK246 := n1_; have GW246 := n2_; have GE246 := n3_; clear n0_ n1_ n2_ n3_; clear hb hbox hg) | ((with_reducible refine gate_callee (f := 172) rfl ?_); refine goesL_ (some 6) rfl rfl Try.func172 (by kernel_rfl) rfl #[.slice A0 l0.length c0] rfl (by simp only [List.map_toArray, List.map_cons, List.map_nil] <;> rfl) ?_; (with_reducible refine (impl_spansOf.calls k _ _ l0 t247 _ ?side1 ?side2 A3.out).mono ?_); (case side1 => repeat (first | exact (Kd.C_below HR0.out HB.out) | (with_reducible refine Kd.C_alloc ?_ _) | (with_reducible refine Kd.C_drewN ?_ _) | (with_reducible refine Kd.C_drew ?_))); (case side2 => exact HC0.out); rintro e w6 ⟨v248, rfl, ho0, hb⟩; refine ⟨_, rfl, ?_⟩; have n0_ := Aside0.mk (Kd.R_lower ho0 (below_size HB.out)); have n1_ := Aside0.mk (blk_below (g := gb246) (o := .cells #[.int .i64 a1] 3 (0, 0)) (by (with_reducible repeat (first | refine blk_drewN ?_ _ | refine blk_drew ?_ | refine blk_alloc ?_ _)); exact BK246.out) hb); have n2_ := Aside0.mk (below_step HB.out hb); clear BK246; clear HB; have HO249 := n0_; have BK246 := n1_; have HB := n2_; clear n0_ n1_ n2_; obtain ⟨Ao7, co7, eo7⟩ := Kd.R_slice HO249.out; subst eo7) | ((with_reducible refine gate_callee (f := 171) rfl ?_); refine goesL_ (some 8) rfl rfl Try.func171 (by kernel_rfl) rfl #[.slice Ao7 t247.length co7, .func (.func 173) #[] #[.pointer (some ⟨gb246, 0, none⟩)]] rfl (by simp only [List.map_toArray, List.map_cons, List.map_nil] <;> rfl) ?_; (with_reducible refine (slices_ContainsFunc_impl_span_173.calls _ _ t247  a1 t250 _ ?side1 ?side2 ?side3 A4.out).mono ?_); (case side1 => repeat (first | exact (Kd.R_reads' HO249.out).2.2 | (with_reducible refine Kd.C_alloc ?_ _) | (with_reducible refine Kd.C_drewN ?_ _) | (with_reducible refine Kd.C_drew ?_))); (case side2 => exact (Kd.R_reads' HO249.out).2.1); (case side3 => exact (by (with_reducible repeat (first | refine blk_drewN ?_ _ | refine blk_drew ?_ | refine blk_alloc ?_ _)); exact BK246.out)); rintro e w8 ⟨rfl, hb⟩; refine ⟨_, rfl, ?_⟩; have n0_ := Aside0.mk (Kd.R_below HO249.out hb); have n1_ := Aside0.mk (blk_below (g := gb246) (o := .cells #[.int .i64 a1] 3 (0, 0)) (by (with_reducible repeat (first | refine blk_drewN ?_ _ | refine blk_drew ?_ | refine blk_alloc ?_ _)); exact BK246.out) hb); have n2_ := Aside0.mk (below_step HB.out hb); clear HO249; clear BK246; clear HB; have HO249 := n0_; have BK246 := n1_; have HB := n2_; clear n0_ n1_ n2_))
 go_ret
 exact ⟨by first | rfl | (simp [errW_none, errW_some] <;> rfl) | (simp [*, errW_none, errW_some] <;> rfl), HB.out⟩

/-- Is there a place from x on, up to b, such that one node matches up to it and another one from it on? -/
def impl_matcher_look.l0 (tbl : List (List (List Bool))) (n1 n2 a b : Int) : Nat → Int → Option Bool
  | 0, _ => none
  | k + 1, x => if x ≤ b then ((impl_matcher_has.f tbl n1 a x).bind fun u => if u = true then ((impl_matcher_has.f tbl n2 x b).bind fun v => if v = true then some true else impl_matcher_look.l0 tbl n1 n2 a b k (x + 1)) else impl_matcher_look.l0 tbl n1 n2 a b k (x + 1)) else some false
def impl_matcher_look.op (k : Nat) (op : Int) (s kids l : List Int) (tbl : List (List (List Bool))) (node a b : Int) : Option Bool :=
  if op = 1 then some (a == b)
  else if op = 2 then (if b = a + 1 then (if a < l.length then impl_inSet.f k s (rd l a) else none) else some false)
  else if (kids.length : Int) < 1 then none
  else if op = 7 then (impl_matcher_has.f tbl (rd kids 0) a b).bind fun u => some (!u)
  else if op = 6 then (if a = b then some true else impl_matcher_look.l0 tbl (rd kids 0) node a b k (a + 1))
  else if (kids.length : Int) < 2 then none
  else if op = 4 then (impl_matcher_has.f tbl (rd kids 0) a b).bind fun u => if u = true then some true else impl_matcher_has.f tbl (rd kids 1) a b
  else if op = 5 then (impl_matcher_has.f tbl (rd kids 0) a b).bind fun u => if u = true then impl_matcher_has.f tbl (rd kids 1) a b else some false
  else impl_matcher_look.l0 tbl (rd kids 0) (rd kids 1) a b k a
def impl_matcher_look.f (k : Nat) (p : List S89) (parts : List (List Int)) (l : List Int) (tbl : List (List (List Bool))) (node a b : Int) : Option Bool :=
  if (0 ≤ node ∧ node < p.length ∧ node < parts.length) ∧ (0 ≤ a ∧ a ≤ 1000000) ∧ (0 ≤ b ∧ b ≤ 1000000) then
    impl_matcher_look.op k (rd_T89 p node).f0 (rd_T89 p node).f1 (parts.getD node.toNat []) l tbl node a b
  else none
theorem impl_matcher_look.l0_mono (tbl : List (List (List Bool))) (n1 n2 a b : Int) : ∀ k x, LeO (impl_matcher_look.l0 tbl n1 n2 a b k x) (impl_matcher_look.l0 tbl n1 n2 a b (k + 1) x)
  | 0, _ => LeO.none _
  | k + 1, x => by
    unfold impl_matcher_look.l0
    exact LeO.ite (LeO.bind (LeO.refl _) fun _ => LeO.ite (LeO.bind (LeO.refl _) fun _ => LeO.ite (LeO.refl _) (impl_matcher_look.l0_mono tbl n1 n2 a b k _)) (impl_matcher_look.l0_mono tbl n1 n2 a b k _)) (LeO.refl _)
theorem impl_matcher_look.mono : ∀ p parts l tbl node a b k, LeO (impl_matcher_look.f k p parts l tbl node a b) (impl_matcher_look.f (k + 1) p parts l tbl node a b) := by
  intro p parts l tbl node a b k
  unfold impl_matcher_look.f impl_matcher_look.op
  repeat' first
    | (with_reducible exact LeO.refl _)
    | (with_reducible exact LeO.none _)
    | (with_reducible exact impl_inSet.mono _ _ _)
    | (with_reducible exact impl_matcher_look.l0_mono _ _ _ _ _ _ _)
    | (with_reducible refine LeO.ite ?_ ?_)
    | (with_reducible refine LeO.bind ?_ (fun _ => ?_))
/-- What a look reads: where it stands. -/
structure impl_matcher_look.Read (w : World) (g : Nat) (p : List S89) (parts : List (List Int)) (l : List Int) (tbl : List (List (List Bool))) (node : Int) (op : Int) (s kids : List Int) (a0 a1 : Addr) (c0 c1 : Nat) (As Ak Al : Option Addr) (cs ck cl : Nat) : Prop where
  z0 : w.cell? ⟨g, 0, none⟩ = some (.slice (some a0) p.length c0)
  z1 : w.cell? ⟨g, 1, none⟩ = some (.slice (some a1) parts.length c1)
  z2 : w.cell? ⟨g, 2, none⟩ = some (.slice Al l.length cl)
  zo : w.cell? (a0.add (node.toNat * 2)) = some (.int .i64 op)
  zs : w.cell? ⟨(a0.add (node.toNat * 2)).block, (a0.add (node.toNat * 2)).off + 1, none⟩ = some (.slice As s.length cs)
  zk : w.cell? (a1.add node.toNat) = some (.slice Ak kids.length ck)
  ls : s.length ≤ cs
  hs : (Kd.int .i64).C w As s.length s
  hk : (Kd.int .i64).C w Ak kids.length kids
  hl : (Kd.int .i64).C w Al l.length l
theorem impl_matcher_look.read {w : World} {g : Nat} {p : List S89} {parts : List (List Int)} {l : List Int} {tbl : List (List (List Bool))} {node : Int} (hM : Mt w g p parts l tbl) (h0 : 0 ≤ node) (h1 : node < p.length) (h2 : node < parts.length) :
    ∃ a0 a1 c0 c1 As Ak Al cs ck cl, impl_matcher_look.Read w g p parts l tbl node (rd_T89 p node).f0 (rd_T89 p node).f1 (parts.getD node.toNat []) a0 a1 c0 c1 As Ak Al cs ck cl := by
  obtain ⟨A0, c0, A1, c1, A2, c2, A3, c3, hb, hp, hq, hl, hT, _⟩ := hM.h
  obtain ⟨ad, As, cs, e, x0, x1, ls, hs⟩ := at_T89 hp node h0 h1
  cases e
  obtain ⟨ad2, Ak, ck, e, x2, _, hk⟩ := at_sl hq node h0 h2
  cases e
  exact ⟨ad, ad2, c0, c1, As, Ak, A2, cs, ck, c2, (blk_cell hb 0).trans rfl, (blk_cell hb 1).trans rfl, (blk_cell hb 2).trans rfl, x0, x1, x2, ls, hs, hk, hl⟩
set_option maxHeartbeats 8000000 in
set_option maxRecDepth 100000 in
theorem impl_matcher_look.calls1 (g : Nat) (p : List S89) (parts : List (List Int)) (l : List Int) (tbl : List (List (List Bool))) (node a b : Int) (s kids : List Int) (a0 a1 : Addr) (c0 c1 : Nat) (As Ak Al : Option Addr) (cs ck cl : Nat) (w : World)
    (hR : impl_matcher_look.Read w g p parts l tbl node 1 s kids a0 a1 c0 c1 As Ak Al cs ck cl) (h0 : 0 ≤ node) (h1 : node < p.length) (h2 : node < parts.length) :
    Calls Try.prog 111 #[.pointer (some ⟨g, 0, none⟩), .int .i64 node, .int .i64 a, .int .i64 b] w fun e w' => e = .returned (.bool (a == b)) ∧ Below w.heap.size w w' := by
  obtain ⟨z0, z1, z2, ho, hsx, hkx, _, _, _, _⟩ := hR
  replace h0 := eq_true h0
  replace h1 := eq_true h1
  replace h2 := eq_true h2
  go_enter Try.func111, Try.ntmps111
  go_wp2
  go_ret
  exact ⟨rfl, Below.refl _ _⟩
set_option maxHeartbeats 8000000 in
set_option maxRecDepth 100000 in
theorem impl_matcher_look.calls2n (g : Nat) (p : List S89) (parts : List (List Int)) (l : List Int) (tbl : List (List (List Bool))) (node a b : Int) (s kids : List Int) (a0 a1 : Addr) (c0 c1 : Nat) (As Ak Al : Option Addr) (cs ck cl : Nat) (w : World)
    (hR : impl_matcher_look.Read w g p parts l tbl node 2 s kids a0 a1 c0 c1 As Ak Al cs ck cl) (h0 : 0 ≤ node) (h1 : node < p.length) (h2 : node < parts.length) (ha : 0 ≤ a) (ha2 : a ≤ 1000000) (hb : b ≠ a + 1) :
    Calls Try.prog 111 #[.pointer (some ⟨g, 0, none⟩), .int .i64 node, .int .i64 a, .int .i64 b] w fun e w' => e = .returned (.bool false) ∧ Below w.heap.size w w' := by
  obtain ⟨z0, z1, z2, ho, hsx, hkx, _, _, _, _⟩ := hR
  replace h0 := eq_true h0
  replace h1 := eq_true h1
  replace h2 := eq_true h2
  have hw : IntKind.i64.wrap (a + 1) = a + 1 := IntWalk.i64_in _ (by omega)
  have hbe : (b == a + 1) = false := by simpa using hb
  clear ha ha2 hb
  have HB := Aside0.mk (below_drew (Below.refl w.heap.size w))
  go_enter Try.func111, Try.ntmps111
  go_wp2_with fail
  refine start_ (n := 23) (S := fun w' => True) (ds := []) #[false, false, false, false, false, false, false, false, false, false, false, false, false, false, false, false, false, false, false, false, false, false, false] (by kernel_rfl) rfl rfl trivial (fun hHeld => ?_)
  generalize w.drew = w9 at HB hHeld ⊢
  refine pure_ (i := 0) (N := some 34) (v := ?_) (a' := ?_) #[true, false, false, false, false, false, false, false, false, false, false, false, false, false, false, false, false, false, false, false, false, false, false] rfl rfl (by kernel_rfl) (fun _ _ _ h => h) (Or.inl ⟨by rfl, ?_⟩) ?_ ?_
  rotate_left
  · intro w'
    go_simp
    with_reducible rfl
  rotate_left
  · simp only [Act.put, List.setIfInBounds_toArray, List.set_cons_zero, List.set_cons_succ, i64_w, i32_w]
    rfl
  refine pure_ (i := 1) (N := some 35) (v := ?_) (a' := ?_) #[true, true, false, false, false, false, false, false, false, false, false, false, false, false, false, false, false, false, false, false, false, false, false] rfl rfl (by kernel_rfl) (fun _ _ _ h => h) (Or.inl ⟨by rfl, ?_⟩) ?_ ?_
  rotate_left
  · intro w'
    go_simp
    with_reducible rfl
  rotate_left
  · simp only [Act.put, List.setIfInBounds_toArray, List.set_cons_zero, List.set_cons_succ, i64_w, i32_w]
    rfl
  refine pure_ (i := 2) (N := some 36) (v := ?_) (a' := ?_) #[true, true, true, false, false, false, false, false, false, false, false, false, false, false, false, false, false, false, false, false, false, false, false] rfl rfl (by kernel_rfl) (fun _ _ _ h => h) (Or.inl ⟨by rfl, ?_⟩) ?_ ?_
  rotate_left
  · intro w'
    go_simp
    with_reducible rfl
  rotate_left
  · simp only [Act.put, List.setIfInBounds_toArray, List.set_cons_zero, List.set_cons_succ, i64_w, i32_w]
    rfl
  refine pure_ (i := 3) (N := some 37) (v := ?_) (a' := ?_) #[true, true, true, true, false, false, false, false, false, false, false, false, false, false, false, false, false, false, false, false, false, false, false] rfl rfl (by kernel_rfl) (fun _ _ _ h => h) (Or.inl ⟨by rfl, ?_⟩) ?_ ?_
  rotate_left
  · intro w'
    go_simp
    with_reducible rfl
  rotate_left
  · simp only [Act.put, List.setIfInBounds_toArray, List.set_cons_zero, List.set_cons_succ, i64_w, i32_w]
    rfl
  refine pure_ (i := 4) (N := some 38) (v := ?_) (a' := ?_) #[true, true, true, true, true, false, false, false, false, false, false, false, false, false, false, false, false, false, false, false, false, false, false] rfl rfl (by kernel_rfl) (fun _ _ _ h => h) (Or.inl ⟨by rfl, ?_⟩) ?_ ?_
  rotate_left
  · intro w'
    go_simp
    with_reducible rfl
  rotate_left
  · simp only [Act.put, List.setIfInBounds_toArray, List.set_cons_zero, List.set_cons_succ, i64_w, i32_w]
    rfl
  refine pure_ (i := 5) (N := some 39) (v := undef) (a' := ?_) #[true, true, true, true, true, true, false, false, false, false, false, false, false, false, false, false, false, false, false, false, false, false, false] rfl rfl (by kernel_rfl) (fun _ _ _ h => h) (Or.inr ⟨by rfl, rfl⟩) ?_ ?_
  rotate_left
  · simp only [Act.put, List.setIfInBounds_toArray, List.set_cons_zero, List.set_cons_succ, i64_w, i32_w]
    rfl
  refine pure_ (i := 6) (N := some 40) (v := undef) (a' := ?_) #[true, true, true, true, true, true, true, false, false, false, false, false, false, false, false, false, false, false, false, false, false, false, false] rfl rfl (by kernel_rfl) (fun _ _ _ h => h) (Or.inr ⟨by rfl, rfl⟩) ?_ ?_
  rotate_left
  · simp only [Act.put, List.setIfInBounds_toArray, List.set_cons_zero, List.set_cons_succ, i64_w, i32_w]
    rfl
  refine pure_ (i := 7) (N := some 41) (v := undef) (a' := ?_) #[true, true, true, true, true, true, true, true, false, false, false, false, false, false, false, false, false, false, false, false, false, false, false] rfl rfl (by kernel_rfl) (fun _ _ _ h => h) (Or.inr ⟨by rfl, rfl⟩) ?_ ?_
  rotate_left
  · simp only [Act.put, List.setIfInBounds_toArray, List.set_cons_zero, List.set_cons_succ, i64_w, i32_w]
    rfl
  refine pure_ (i := 8) (N := some 42) (v := undef) (a' := ?_) #[true, true, true, true, true, true, true, true, true, false, false, false, false, false, false, false, false, false, false, false, false, false, false] rfl rfl (by kernel_rfl) (fun _ _ _ h => h) (Or.inr ⟨by rfl, rfl⟩) ?_ ?_
  rotate_left
  · simp only [Act.put, List.setIfInBounds_toArray, List.set_cons_zero, List.set_cons_succ, i64_w, i32_w]
    rfl
  refine pure_ (i := 9) (N := some 43) (v := undef) (a' := ?_) #[true, true, true, true, true, true, true, true, true, true, false, false, false, false, false, false, false, false, false, false, false, false, false] rfl rfl (by kernel_rfl) (fun _ _ _ h => h) (Or.inr ⟨by rfl, rfl⟩) ?_ ?_
  rotate_left
  · simp only [Act.put, List.setIfInBounds_toArray, List.set_cons_zero, List.set_cons_succ, i64_w, i32_w]
    rfl
  refine pure_ (i := 10) (N := some 44) (v := undef) (a' := ?_) #[true, true, true, true, true, true, true, true, true, true, true, false, false, false, false, false, false, false, false, false, false, false, false] rfl rfl (by kernel_rfl) (fun _ _ _ h => h) (Or.inr ⟨by rfl, rfl⟩) ?_ ?_
  rotate_left
  · simp only [Act.put, List.setIfInBounds_toArray, List.set_cons_zero, List.set_cons_succ, i64_w, i32_w]
    rfl
  refine pure_ (i := 11) (N := some 45) (v := undef) (a' := ?_) #[true, true, true, true, true, true, true, true, true, true, true, true, false, false, false, false, false, false, false, false, false, false, false] rfl rfl (by kernel_rfl) (fun _ _ _ h => h) (Or.inr ⟨by rfl, rfl⟩) ?_ ?_
  rotate_left
  · simp only [Act.put, List.setIfInBounds_toArray, List.set_cons_zero, List.set_cons_succ, i64_w, i32_w]
    rfl
  refine pure_ (i := 12) (N := some 46) (v := undef) (a' := ?_) #[true, true, true, true, true, true, true, true, true, true, true, true, true, false, false, false, false, false, false, false, false, false, false] rfl rfl (by kernel_rfl) (fun _ _ _ h => h) (Or.inr ⟨by rfl, rfl⟩) ?_ ?_
  rotate_left
  · simp only [Act.put, List.setIfInBounds_toArray, List.set_cons_zero, List.set_cons_succ, i64_w, i32_w]
    rfl
  refine pure_ (i := 13) (N := some 47) (v := undef) (a' := ?_) #[true, true, true, true, true, true, true, true, true, true, true, true, true, true, false, false, false, false, false, false, false, false, false] rfl rfl (by kernel_rfl) (fun _ _ _ h => h) (Or.inr ⟨by rfl, rfl⟩) ?_ ?_
  rotate_left
  · simp only [Act.put, List.setIfInBounds_toArray, List.set_cons_zero, List.set_cons_succ, i64_w, i32_w]
    rfl
  refine pure_ (i := 14) (N := some 48) (v := undef) (a' := ?_) #[true, true, true, true, true, true, true, true, true, true, true, true, true, true, true, false, false, false, false, false, false, false, false] rfl rfl (by kernel_rfl) (fun _ _ _ h => h) (Or.inr ⟨by rfl, rfl⟩) ?_ ?_
  rotate_left
  · simp only [Act.put, List.setIfInBounds_toArray, List.set_cons_zero, List.set_cons_succ, i64_w, i32_w]
    rfl
  refine pure_ (i := 15) (N := some 49) (v := undef) (a' := ?_) #[true, true, true, true, true, true, true, true, true, true, true, true, true, true, true, true, false, false, false, false, false, false, false] rfl rfl (by kernel_rfl) (fun _ _ _ h => h) (Or.inr ⟨by rfl, rfl⟩) ?_ ?_
  rotate_left
  · simp only [Act.put, List.setIfInBounds_toArray, List.set_cons_zero, List.set_cons_succ, i64_w, i32_w]
    rfl
  refine pure_ (i := 16) (N := some 50) (v := undef) (a' := ?_) #[true, true, true, true, true, true, true, true, true, true, true, true, true, true, true, true, true, false, false, false, false, false, false] rfl rfl (by kernel_rfl) (fun _ _ _ h => h) (Or.inr ⟨by rfl, rfl⟩) ?_ ?_
  rotate_left
  · simp only [Act.put, List.setIfInBounds_toArray, List.set_cons_zero, List.set_cons_succ, i64_w, i32_w]
    rfl
  refine pure_ (i := 17) (N := some 51) (v := undef) (a' := ?_) #[true, true, true, true, true, true, true, true, true, true, true, true, true, true, true, true, true, true, false, false, false, false, false] rfl rfl (by kernel_rfl) (fun _ _ _ h => h) (Or.inr ⟨by rfl, rfl⟩) ?_ ?_
  rotate_left
  · simp only [Act.put, List.setIfInBounds_toArray, List.set_cons_zero, List.set_cons_succ, i64_w, i32_w]
    rfl
  refine pure_ (i := 18) (N := some 52) (v := undef) (a' := ?_) #[true, true, true, true, true, true, true, true, true, true, true, true, true, true, true, true, true, true, true, false, false, false, false] rfl rfl (by kernel_rfl) (fun _ _ _ h => h) (Or.inr ⟨by rfl, rfl⟩) ?_ ?_
  rotate_left
  · simp only [Act.put, List.setIfInBounds_toArray, List.set_cons_zero, List.set_cons_succ, i64_w, i32_w]
    rfl
  refine pure_ (i := 19) (N := some 53) (v := undef) (a' := ?_) #[true, true, true, true, true, true, true, true, true, true, true, true, true, true, true, true, true, true, true, true, false, false, false] rfl rfl (by kernel_rfl) (fun _ _ _ h => h) (Or.inr ⟨by rfl, rfl⟩) ?_ ?_
  rotate_left
  · simp only [Act.put, List.setIfInBounds_toArray, List.set_cons_zero, List.set_cons_succ, i64_w, i32_w]
    rfl
  refine pure_ (i := 20) (N := some 54) (v := undef) (a' := ?_) #[true, true, true, true, true, true, true, true, true, true, true, true, true, true, true, true, true, true, true, true, true, false, false] rfl rfl (by kernel_rfl) (fun _ _ _ h => h) (Or.inr ⟨by rfl, rfl⟩) ?_ ?_
  rotate_left
  · simp only [Act.put, List.setIfInBounds_toArray, List.set_cons_zero, List.set_cons_succ, i64_w, i32_w]
    rfl
  refine pure_ (i := 21) (N := some 55) (v := ?_) (a' := ?_) #[true, true, true, true, true, true, true, true, true, true, true, true, true, true, true, true, true, true, true, true, true, true, false] rfl rfl (by kernel_rfl) (fun _ _ _ h => h) (Or.inl ⟨by rfl, ?_⟩) ?_ ?_
  rotate_left
  · intro w'
    go_simp
    with_reducible rfl
  rotate_left
  · simp only [Act.put, List.setIfInBounds_toArray, List.set_cons_zero, List.set_cons_succ, i64_w, i32_w]
    rfl
  refine pure_ (i := 22) (N := some 8) (v := ?_) (a' := ?_) #[true, true, true, true, true, true, true, true, true, true, true, true, true, true, true, true, true, true, true, true, true, true, true] rfl rfl (by kernel_rfl) (fun _ _ _ h => h) (Or.inl ⟨by rfl, ?_⟩) ?_ ?_
  rotate_left
  · intro w'
    go_simp
    with_reducible rfl
  rotate_left
  · simp only [Act.put, List.setIfInBounds_toArray, List.set_cons_zero, List.set_cons_succ, i64_w, i32_w]
    rfl
  refine done_ (by kernel_rfl) ?_
  go_wp2
  go_ret
  exact ⟨rfl, HB.out⟩
set_option maxHeartbeats 8000000 in
set_option maxRecDepth 100000 in
theorem impl_matcher_look.calls2y (k : Nat) (g : Nat) (p : List S89) (parts : List (List Int)) (l : List Int) (tbl : List (List (List Bool))) (node a : Int) (s kids : List Int) (a0 a1 : Addr) (c0 c1 : Nat) (As Ak Al : Option Addr) (cs ck cl : Nat) (w : World) (r : Bool)
    (hR : impl_matcher_look.Read w g p parts l tbl node 2 s kids a0 a1 c0 c1 As Ak Al cs ck cl) (h0 : 0 ≤ node) (h1 : node < p.length) (h2 : node < parts.length) (ha : 0 ≤ a) (ha2 : a ≤ 1000000) (hl : a < l.length) (h : impl_inSet.f k s (rd l a) = some r) :
    Calls Try.prog 111 #[.pointer (some ⟨g, 0, none⟩), .int .i64 node, .int .i64 a, .int .i64 (a + 1)] w fun e w' => e = .returned (.bool r) ∧ Below w.heap.size w w' := by
  obtain ⟨z0, z1, z2, ho, hsx, hkx, lsc, hs, _, hlC⟩ := hR
  obtain ⟨al, e, hlx⟩ := Kd.at_int hlC a ha hl
  cases e
  have HS := Aside0.mk hs
  have HL := Aside0.mk lsc
  have HH := Aside0.mk h
  clear hs lsc h hlC
  generalize rd l a = x at hlx HH
  replace h0 := eq_true h0
  replace h1 := eq_true h1
  replace h2 := eq_true h2
  have hw : IntKind.i64.wrap (a + 1) = a + 1 := IntWalk.i64_in _ (by omega)
  have hae : (a + 1 == a + 1) = true := by simp
  have ha' : (0 ≤ a) = True := eq_true ha
  have hl' : (a < (l.length : Int)) = True := eq_true hl
  clear ha ha2 hl
  have HB := Aside0.mk (below_drew (Below.refl w.heap.size w))
  go_enter Try.func111, Try.ntmps111
  go_wp2_with fail
  refine start_ (n := 23) (S := fun w' => w'.cell? ⟨g, 0, none⟩ = some (.slice (some a0) p.length c0) ∧ w'.cell? ⟨(a0.add (node.toNat * 2)).block, (a0.add (node.toNat * 2)).off + 1, none⟩ = some (.slice As s.length cs) ∧ w'.cell? ⟨g, 2, none⟩ = some (.slice (some al) l.length cl) ∧ w'.cell? (al.add a.toNat) = some (.int .i64 x)) (ds := [20]) #[false, false, false, false, false, false, false, false, false, false, false, false, false, false, false, false, false, false, false, false, false, false, false] (by kernel_rfl) rfl rfl ⟨z0, hsx, z2, hlx⟩ (fun hHeld => ?_)
  generalize w.drew = w9 at HB hHeld ⊢
  refine pure_ (i := 0) (N := some 34) (v := ?_) (a' := ?_) #[true, false, false, false, false, false, false, false, false, false, false, false, false, false, false, false, false, false, false, false, false, false, false] rfl rfl (by kernel_rfl) (fun _ _ _ h => h) (Or.inl ⟨by rfl, ?_⟩) ?_ ?_
  rotate_left
  · intro w'
    go_simp
    with_reducible rfl
  rotate_left
  · simp only [Act.put, List.setIfInBounds_toArray, List.set_cons_zero, List.set_cons_succ, i64_w, i32_w]
    rfl
  refine pure_ (i := 1) (N := some 35) (v := ?_) (a' := ?_) #[true, true, false, false, false, false, false, false, false, false, false, false, false, false, false, false, false, false, false, false, false, false, false] rfl rfl (by kernel_rfl) (fun _ _ _ h => h) (Or.inl ⟨by rfl, ?_⟩) ?_ ?_
  rotate_left
  · intro w'
    go_simp
    with_reducible rfl
  rotate_left
  · simp only [Act.put, List.setIfInBounds_toArray, List.set_cons_zero, List.set_cons_succ, i64_w, i32_w]
    rfl
  refine pure_ (i := 2) (N := some 36) (v := ?_) (a' := ?_) #[true, true, true, false, false, false, false, false, false, false, false, false, false, false, false, false, false, false, false, false, false, false, false] rfl rfl (by kernel_rfl) (fun _ _ _ h => h) (Or.inl ⟨by rfl, ?_⟩) ?_ ?_
  rotate_left
  · intro w'
    go_simp
    with_reducible rfl
  rotate_left
  · simp only [Act.put, List.setIfInBounds_toArray, List.set_cons_zero, List.set_cons_succ, i64_w, i32_w]
    rfl
  refine pure_ (i := 3) (N := some 37) (v := ?_) (a' := ?_) #[true, true, true, true, false, false, false, false, false, false, false, false, false, false, false, false, false, false, false, false, false, false, false] rfl rfl (by kernel_rfl) (fun _ _ _ h => h) (Or.inl ⟨by rfl, ?_⟩) ?_ ?_
  rotate_left
  · intro w'
    go_simp
    with_reducible rfl
  rotate_left
  · simp only [Act.put, List.setIfInBounds_toArray, List.set_cons_zero, List.set_cons_succ, i64_w, i32_w]
    rfl
  refine pure_ (i := 4) (N := some 38) (v := ?_) (a' := ?_) #[true, true, true, true, true, false, false, false, false, false, false, false, false, false, false, false, false, false, false, false, false, false, false] rfl rfl (by kernel_rfl) (fun _ _ _ h => h) (Or.inl ⟨by rfl, ?_⟩) ?_ ?_
  rotate_left
  · intro w'
    go_simp
    with_reducible rfl
  rotate_left
  · simp only [Act.put, List.setIfInBounds_toArray, List.set_cons_zero, List.set_cons_succ, i64_w, i32_w]
    rfl
  refine pure_ (i := 5) (N := some 39) (v := ?_) (a' := ?_) #[true, true, true, true, true, true, false, false, false, false, false, false, false, false, false, false, false, false, false, false, false, false, false] rfl rfl (by kernel_rfl) (fun _ _ _ h => h) (Or.inl ⟨by rfl, ?_⟩) ?_ ?_
  rotate_left
  · intro w'
    go_simp
    with_reducible rfl
  rotate_left
  · simp only [Act.put, List.setIfInBounds_toArray, List.set_cons_zero, List.set_cons_succ, i64_w, i32_w]
    rfl
  refine pure_ (i := 6) (N := some 40) (v := ?_) (a' := ?_) #[true, true, true, true, true, true, true, false, false, false, false, false, false, false, false, false, false, false, false, false, false, false, false] rfl rfl (by kernel_rfl) (fun _ _ _ h => h) (Or.inl ⟨by rfl, ?_⟩) ?_ ?_
  rotate_left
  · intro w'
    go_simp
    with_reducible rfl
  rotate_left
  · simp only [Act.put, List.setIfInBounds_toArray, List.set_cons_zero, List.set_cons_succ, i64_w, i32_w]
    rfl
  refine pure_ (i := 7) (N := some 41) (v := ?_) (a' := ?_) #[true, true, true, true, true, true, true, true, false, false, false, false, false, false, false, false, false, false, false, false, false, false, false] rfl rfl (by kernel_rfl) (fun _ _ _ h => h) (Or.inl ⟨by rfl, ?_⟩) ?_ ?_
  rotate_left
  · intro w'
    go_simp
    with_reducible rfl
  rotate_left
  · simp only [Act.put, List.setIfInBounds_toArray, List.set_cons_zero, List.set_cons_succ, i64_w, i32_w]
    rfl
  refine pure_ (i := 9) (N := some 43) (v := ?_) (a' := ?_) #[true, true, true, true, true, true, true, true, false, true, false, false, false, false, false, false, false, false, false, false, false, false, false] rfl rfl (by kernel_rfl) (fun _ _ _ h => h) (Or.inl ⟨by rfl, ?_⟩) ?_ ?_
  rotate_left
  · intro w'
    go_simp
    with_reducible rfl
  rotate_left
  · simp only [Act.put, List.setIfInBounds_toArray, List.set_cons_zero, List.set_cons_succ, i64_w, i32_w]
    rfl
  refine pure_ (i := 13) (N := some 47) (v := ?_) (a' := ?_) #[true, true, true, true, true, true, true, true, false, true, false, false, false, true, false, false, false, false, false, false, false, false, false] rfl rfl (by kernel_rfl) (fun _ _ _ h => h) (Or.inl ⟨by rfl, ?_⟩) ?_ ?_
  rotate_left
  · intro w'
    go_simp
    with_reducible rfl
  rotate_left
  · simp only [Act.put, List.setIfInBounds_toArray, List.set_cons_zero, List.set_cons_succ, i64_w, i32_w]
    rfl
  refine pure_ (i := 14) (N := some 48) (v := ?_) (a' := ?_) #[true, true, true, true, true, true, true, true, false, true, false, false, false, true, true, false, false, false, false, false, false, false, false] rfl rfl (by kernel_rfl) (fun _ _ _ h => h) (Or.inl ⟨by rfl, ?_⟩) ?_ ?_
  rotate_left
  · intro w'
    go_simp
    with_reducible rfl
  rotate_left
  · simp only [Act.put, List.setIfInBounds_toArray, List.set_cons_zero, List.set_cons_succ, i64_w, i32_w]
    rfl
  refine pure_ (i := 15) (N := some 49) (v := ?_) (a' := ?_) #[true, true, true, true, true, true, true, true, false, true, false, false, false, true, true, true, false, false, false, false, false, false, false] rfl rfl (by kernel_rfl) (fun _ _ _ h => h) (Or.inl ⟨by rfl, ?_⟩) ?_ ?_
  rotate_left
  · intro w'
    go_simp
    with_reducible rfl
  rotate_left
  · simp only [Act.put, List.setIfInBounds_toArray, List.set_cons_zero, List.set_cons_succ, i64_w, i32_w]
    rfl
  refine pure_ (i := 17) (N := some 51) (v := ?_) (a' := ?_) #[true, true, true, true, true, true, true, true, false, true, false, false, false, true, true, true, false, true, false, false, false, false, false] rfl rfl (by kernel_rfl) (fun _ _ _ h => h) (Or.inl ⟨by rfl, ?_⟩) ?_ ?_
  rotate_left
  · intro w'
    go_simp
    with_reducible rfl
  rotate_left
  · simp only [Act.put, List.setIfInBounds_toArray, List.set_cons_zero, List.set_cons_succ, i64_w, i32_w]
    rfl
  refine take_ (i := 8) (N := some 42) (v := ?_) (a' := ?_) #[true, true, true, true, true, true, true, true, true, true, false, false, false, true, true, true, false, true, false, false, false, false, false] rfl rfl (by kernel_rfl) (fun _ _ _ h => h) (Or.inl ⟨by rfl, ?_⟩) hHeld ?_ ?_
  rotate_left
  · rintro w' ⟨s0, s1, s2, s3⟩
    go_simp
    with_reducible rfl
  rotate_left
  · simp only [Act.put, List.setIfInBounds_toArray, List.set_cons_zero, List.set_cons_succ, i64_w, i32_w]
    rfl
  refine pure_ (i := 10) (N := some 44) (v := ?_) (a' := ?_) #[true, true, true, true, true, true, true, true, true, true, true, false, false, true, true, true, false, true, false, false, false, false, false] rfl rfl (by kernel_rfl) (fun _ _ _ h => h) (Or.inl ⟨by rfl, ?_⟩) ?_ ?_
  rotate_left
  · intro w'
    go_simp
    with_reducible rfl
  rotate_left
  · simp only [Act.put, List.setIfInBounds_toArray, List.set_cons_zero, List.set_cons_succ, i64_w, i32_w]
    rfl
  refine pure_ (i := 11) (N := some 45) (v := ?_) (a' := ?_) #[true, true, true, true, true, true, true, true, true, true, true, true, false, true, true, true, false, true, false, false, false, false, false] rfl rfl (by kernel_rfl) (fun _ _ _ h => h) (Or.inl ⟨by rfl, ?_⟩) ?_ ?_
  rotate_left
  · intro w'
    go_simp
    with_reducible rfl
  rotate_left
  · simp only [Act.put, List.setIfInBounds_toArray, List.set_cons_zero, List.set_cons_succ, i64_w, i32_w]
    rfl
  refine take_ (i := 12) (N := some 46) (v := ?_) (a' := ?_) #[true, true, true, true, true, true, true, true, true, true, true, true, true, true, true, true, false, true, false, false, false, false, false] rfl rfl (by kernel_rfl) (fun _ _ _ h => h) (Or.inl ⟨by rfl, ?_⟩) hHeld ?_ ?_
  rotate_left
  · rintro w' ⟨s0, s1, s2, s3⟩
    go_simp
    with_reducible rfl
  rotate_left
  · simp only [Act.put, List.setIfInBounds_toArray, List.set_cons_zero, List.set_cons_succ, i64_w, i32_w]
    rfl
  refine take_ (i := 16) (N := some 50) (v := ?_) (a' := ?_) #[true, true, true, true, true, true, true, true, true, true, true, true, true, true, true, true, true, true, false, false, false, false, false] rfl rfl (by kernel_rfl) (fun _ _ _ h => h) (Or.inl ⟨by rfl, ?_⟩) hHeld ?_ ?_
  rotate_left
  · rintro w' ⟨s0, s1, s2, s3⟩
    go_simp
    with_reducible rfl
  rotate_left
  · simp only [Act.put, List.setIfInBounds_toArray, List.set_cons_zero, List.set_cons_succ, i64_w, i32_w]
    rfl
  refine pure_ (i := 18) (N := some 52) (v := ?_) (a' := ?_) #[true, true, true, true, true, true, true, true, true, true, true, true, true, true, true, true, true, true, true, false, false, false, false] rfl rfl (by kernel_rfl) (fun _ _ _ h => h) (Or.inl ⟨by rfl, ?_⟩) ?_ ?_
  rotate_left
  · intro w'
    go_simp
    with_reducible rfl
  rotate_left
  · simp only [Act.put, List.setIfInBounds_toArray, List.set_cons_zero, List.set_cons_succ, i64_w, i32_w]
    rfl
  refine take_ (i := 19) (N := some 53) (v := ?_) (a' := ?_) #[true, true, true, true, true, true, true, true, true, true, true, true, true, true, true, true, true, true, true, true, false, false, false] rfl rfl (by kernel_rfl) (fun _ _ _ h => h) (Or.inl ⟨by rfl, ?_⟩) hHeld ?_ ?_
  rotate_left
  · rintro w' ⟨s0, s1, s2, s3⟩
    go_simp
    with_reducible rfl
  rotate_left
  · simp only [Act.put, List.setIfInBounds_toArray, List.set_cons_zero, List.set_cons_succ, i64_w, i32_w]
    rfl
  refine last_ (i := 20) (N := some 54) #[true, true, true, true, true, true, true, true, true, true, true, true, true, true, true, true, true, true, true, true, true, false, false] rfl rfl (by kernel_rfl) (by decide) (fun K hK => ?_)
  refine goes_ Try.func146 (by kernel_rfl) rfl #[.slice As s.length cs, .int .i64 x] (by rfl) rfl rfl (by simp only [List.map_toArray, List.map_cons, List.map_nil]; rfl) ?_
  with_reducible refine (impl_inSet.calls k As cs s x r _ (Kd.C_below HS.out HB.out) HL.out HH.out).mono ?_
  rintro e w3 ⟨rfl, hb⟩
  refine ⟨_, rfl, ?_⟩
  have HB3 := Aside0.mk (below_step HB.out hb)
  clear hb
  refine hK.out _ _ ?_
  clear hK K
  refine norm_ (a' := ?_) ?_ ?_
  rotate_left
  · show Act.put _ (some 54) _ = _
    simp only [Act.put, List.setIfInBounds_toArray, List.set_cons_zero, List.set_cons_succ, i64_w, i32_w]
    rfl
  refine pure_ (i := 21) (N := some 55) (v := ?_) (a' := ?_) #[true, true, true, true, true, true, true, true, true, true, true, true, true, true, true, true, true, true, true, true, true, true, false] rfl rfl (by kernel_rfl) (fun _ _ _ h => h) (Or.inl ⟨by rfl, ?_⟩) ?_ ?_
  rotate_left
  · intro w'
    go_simp
    with_reducible rfl
  rotate_left
  · simp only [Act.put, List.setIfInBounds_toArray, List.set_cons_zero, List.set_cons_succ, i64_w, i32_w]
    rfl
  refine pure_ (i := 22) (N := some 8) (v := ?_) (a' := ?_) #[true, true, true, true, true, true, true, true, true, true, true, true, true, true, true, true, true, true, true, true, true, true, true] rfl rfl (by kernel_rfl) (fun _ _ _ h => h) (Or.inl ⟨by rfl, ?_⟩) ?_ ?_
  rotate_left
  · intro w'
    go_simp
    with_reducible rfl
  rotate_left
  · simp only [Act.put, List.setIfInBounds_toArray, List.set_cons_zero, List.set_cons_succ, i64_w, i32_w]
    rfl
  refine done_ (by kernel_rfl) ?_
  go_wp2
  go_ret
  exact ⟨rfl, HB3.out⟩
theorem impl_matcher_look.kid0 {w : World} {Ak : Option Addr} {kids : List Int} (hk : (Kd.int .i64).C w Ak kids.length kids) (h : 1 ≤ (kids.length : Int)) : ∃ ak, Ak = some ak ∧ w.cell? ak = some (.int .i64 (rd kids 0)) := by
  obtain ⟨ak, e, k0⟩ := Kd.at_int hk 0 (by omega) (by omega)
  exact ⟨ak, e, by simpa [Addr.add] using k0⟩
theorem impl_matcher_look.kid1 {w : World} {ak : Addr} {kids : List Int} (hk : (Kd.int .i64).C w (some ak) kids.length kids) (h : 2 ≤ (kids.length : Int)) : w.cell? ⟨ak.block, ak.off + 1, none⟩ = some (.int .i64 (rd kids 1)) := by
  obtain ⟨ak', e, k0⟩ := Kd.at_int hk 1 (by omega) (by omega)
  cases e
  simpa [Addr.add] using k0
set_option maxHeartbeats 8000000 in
set_option maxRecDepth 100000 in
theorem impl_matcher_look.calls7 (g : Nat) (p : List S89) (parts : List (List Int)) (l : List Int) (tbl : List (List (List Bool))) (node a b : Int) (s kids : List Int) (a0 a1 : Addr) (c0 c1 : Nat) (As Ak Al : Option Addr) (cs ck cl : Nat) (w : World) (u : Bool) (hM : Mt w g p parts l tbl)
    (hR : impl_matcher_look.Read w g p parts l tbl node 7 s kids a0 a1 c0 c1 As Ak Al cs ck cl) (h0 : 0 ≤ node) (h1 : node < p.length) (h2 : node < parts.length) (hk : 1 ≤ (kids.length : Int)) (hu : impl_matcher_has.f tbl (rd kids 0) a b = some u) :
    Calls Try.prog 111 #[.pointer (some ⟨g, 0, none⟩), .int .i64 node, .int .i64 a, .int .i64 b] w fun e w' => e = .returned (.bool (!u)) ∧ Below w.heap.size w w' := by
  obtain ⟨z0, z1, z2, ho, hsx, hkx, _, _, hkk, _⟩ := hR
  obtain ⟨ak, e, k0⟩ := impl_matcher_look.kid0 hkk hk
  cases e
  have HM := Aside0.mk hM
  have HU := Aside0.mk hu
  have hkl : 0 < kids.length := by omega
  clear hkk hM hu hk
  generalize rd kids 0 = n1 at k0 HU
  replace h0 := eq_true h0
  replace h1 := eq_true h1
  replace h2 := eq_true h2
  go_enter Try.func111, Try.ntmps111
  go_wp2_with (go_at_call 82; (with_reducible refine (impl_matcher_has.calls g p parts l tbl n1 a b u _ HM.out HU.out).mono ?_); rintro e w' ⟨rfl, rfl⟩)
  go_ret
  exact ⟨rfl, Below.refl _ _⟩
set_option maxHeartbeats 8000000 in
set_option maxRecDepth 100000 in
theorem impl_matcher_look.calls6e (g : Nat) (p : List S89) (parts : List (List Int)) (l : List Int) (tbl : List (List (List Bool))) (node a : Int) (s kids : List Int) (a0 a1 : Addr) (c0 c1 : Nat) (As Ak Al : Option Addr) (cs ck cl : Nat) (w : World)
    (hR : impl_matcher_look.Read w g p parts l tbl node 6 s kids a0 a1 c0 c1 As Ak Al cs ck cl) (h0 : 0 ≤ node) (h1 : node < p.length) (h2 : node < parts.length) :
    Calls Try.prog 111 #[.pointer (some ⟨g, 0, none⟩), .int .i64 node, .int .i64 a, .int .i64 a] w fun e w' => e = .returned (.bool true) ∧ Below w.heap.size w w' := by
  obtain ⟨z0, z1, z2, ho, hsx, hkx, _, _, hkk, _⟩ := hR
  clear hkk
  have hae : (a == a) = true := by simp
  replace h0 := eq_true h0
  replace h1 := eq_true h1
  replace h2 := eq_true h2
  go_enter Try.func111, Try.ntmps111
  go_wp2
  go_ret
  exact ⟨rfl, Below.refl _ _⟩
set_option maxHeartbeats 8000000 in
set_option maxRecDepth 100000 in
theorem impl_matcher_look.calls6n (k : Nat) (g : Nat) (p : List S89) (parts : List (List Int)) (l : List Int) (tbl : List (List (List Bool))) (node a b : Int) (s kids : List Int) (a0 a1 : Addr) (c0 c1 : Nat) (As Ak Al : Option Addr) (cs ck cl : Nat) (w : World) (r : Bool) (hM : Mt w g p parts l tbl)
    (hR : impl_matcher_look.Read w g p parts l tbl node 6 s kids a0 a1 c0 c1 As Ak Al cs ck cl) (h0 : 0 ≤ node) (h1 : node < p.length) (h2 : node < parts.length) (ha : 0 ≤ a) (ha2 : a ≤ 1000000) (hb : b ≤ 1000000) (hab : a ≠ b) (hk : 1 ≤ (kids.length : Int)) (h : impl_matcher_look.l0 tbl (rd kids 0) node a b k (a + 1) = some r) :
    Calls Try.prog 111 #[.pointer (some ⟨g, 0, none⟩), .int .i64 node, .int .i64 a, .int .i64 b] w fun e w' => e = .returned (.bool r) ∧ Below w.heap.size w w' := by
  obtain ⟨z0, z1, z2, ho, hsx, hkx, _, _, hkk, _⟩ := hR
  obtain ⟨ak, e, k0⟩ := impl_matcher_look.kid0 hkk hk
  cases e
  have HM := Aside0.mk hM
  have HH := Aside0.mk h
  have hkl : 0 < kids.length := by omega
  have hae : (a == b) = false := by simpa using hab
  clear hkk hM h hk hab
  generalize rd kids 0 = n1 at k0 HH
  replace h0 := eq_true h0
  replace h1 := eq_true h1
  replace h2 := eq_true h2
  go_enter Try.func111, Try.ntmps111
  go_wp2_with fail
  go_loopg [10] k (fun kq v w' => ∃ x : Int, v = .int .i64 x ∧ w = w' ∧ Aside0 (impl_matcher_look.l0 tbl n1 node a b kq x = some r) ∧ Aside0 (kq ≤ k) ∧ 0 ≤ x ∧ x ≤ 2000000)
  case atStart => exact ⟨a + 1, rfl, rfl, HH, ⟨Nat.le_refl _⟩, by omega, by omega⟩
  case round =>
    clear HH
    obtain ⟨x, rfl, rfl, HA, HK, x0, x1⟩ := hrel
    cases gk with
    | zero => exact absurd HA.out (by simp [impl_matcher_look.l0])
    | succ k1 =>
      have H := HA.out
      clear HA
      simp only [impl_matcher_look.l0] at H
      by_cases c : x ≤ b
      · rw [if_pos c] at H
        obtain ⟨u, hu, H⟩ := Option.bind_eq_some_iff.mp H
        have HU := Aside0.mk hu
        clear hu
        cases u with
        | false =>
          rw [if_neg (by simp)] at H
          have H' := Aside0.mk H
          clear H
          go_wp2_with (go_at_call 82; (with_reducible refine (impl_matcher_has.calls g p parts l tbl n1 a x false _ HM.out HU.out).mono ?_); rintro e w' ⟨rfl, rfl⟩)
          go_roundg k1
          case measure => have := HK.out; omega
          case rel => exact ⟨x + 1, rfl, rfl, H', ⟨by have := HK.out; omega⟩, by omega, by omega⟩
        | true =>
          rw [if_pos rfl] at H
          obtain ⟨v, hv, H⟩ := Option.bind_eq_some_iff.mp H
          have HV := Aside0.mk hv
          clear hv
          cases v with
          | false =>
            rw [if_neg (by simp)] at H
            have H' := Aside0.mk H
            clear H
            go_wp2_with (go_at_call 82; first | ((with_reducible refine (impl_matcher_has.calls g p parts l tbl n1 a x true _ HM.out HU.out).mono ?_); rintro e w' ⟨rfl, rfl⟩) | ((with_reducible refine (impl_matcher_has.calls g p parts l tbl node x b false _ HM.out HV.out).mono ?_); rintro e w' ⟨rfl, rfl⟩))
            go_roundg k1
            case measure => have := HK.out; omega
            case rel => exact ⟨x + 1, rfl, rfl, H', ⟨by have := HK.out; omega⟩, by omega, by omega⟩
          | true =>
            rw [if_pos rfl] at H
            obtain rfl := Option.some.inj H
            clear H
            go_wp2_with (go_at_call 82; first | ((with_reducible refine (impl_matcher_has.calls g p parts l tbl n1 a x true _ HM.out HU.out).mono ?_); rintro e w' ⟨rfl, rfl⟩) | ((with_reducible refine (impl_matcher_has.calls g p parts l tbl node x b true _ HM.out HV.out).mono ?_); rintro e w' ⟨rfl, rfl⟩))
            go_ret
            exact ⟨rfl, Below.refl _ _⟩
      · rw [if_neg c] at H
        obtain rfl := Option.some.inj H
        clear H
        go_wp2
        go_ret
        exact ⟨rfl, Below.refl _ _⟩
set_option maxHeartbeats 8000000 in
set_option maxRecDepth 100000 in
theorem impl_matcher_look.calls4a (g : Nat) (p : List S89) (parts : List (List Int)) (l : List Int) (tbl : List (List (List Bool))) (node a b : Int) (s kids : List Int) (a0 a1 : Addr) (c0 c1 : Nat) (As Ak Al : Option Addr) (cs ck cl : Nat) (w : World) (hM : Mt w g p parts l tbl)
    (hR : impl_matcher_look.Read w g p parts l tbl node 4 s kids a0 a1 c0 c1 As Ak Al cs ck cl) (h0 : 0 ≤ node) (h1 : node < p.length) (h2 : node < parts.length) (hk : 2 ≤ (kids.length : Int)) (hu : impl_matcher_has.f tbl (rd kids 0) a b = some true) :
    Calls Try.prog 111 #[.pointer (some ⟨g, 0, none⟩), .int .i64 node, .int .i64 a, .int .i64 b] w fun e w' => e = .returned (.bool true) ∧ Below w.heap.size w w' := by
  obtain ⟨z0, z1, z2, ho, hsx, hkx, _, _, hkk, _⟩ := hR
  obtain ⟨ak, e, k0⟩ := impl_matcher_look.kid0 hkk (by omega)
  cases e
  have k1 := impl_matcher_look.kid1 hkk hk
  have HM := Aside0.mk hM
  have HU := Aside0.mk hu
  have hkl : 0 < kids.length := by omega
  have hkl2 : 1 < kids.length := by omega
  clear hkk hM hk hu
  generalize rd kids 0 = n1 at k0 HU
  generalize rd kids 1 = n2 at k1
  replace h0 := eq_true h0
  replace h1 := eq_true h1
  replace h2 := eq_true h2
  go_enter Try.func111, Try.ntmps111
  go_wp2_with (go_at_call 82; ((with_reducible refine (impl_matcher_has.calls g p parts l tbl n1 a b true _ HM.out HU.out).mono ?_); rintro e w' ⟨rfl, rfl⟩))
  go_ret
  exact ⟨rfl, Below.refl _ _⟩
set_option maxHeartbeats 8000000 in
set_option maxRecDepth 100000 in
theorem impl_matcher_look.calls5a (g : Nat) (p : List S89) (parts : List (List Int)) (l : List Int) (tbl : List (List (List Bool))) (node a b : Int) (s kids : List Int) (a0 a1 : Addr) (c0 c1 : Nat) (As Ak Al : Option Addr) (cs ck cl : Nat) (w : World) (hM : Mt w g p parts l tbl)
    (hR : impl_matcher_look.Read w g p parts l tbl node 5 s kids a0 a1 c0 c1 As Ak Al cs ck cl) (h0 : 0 ≤ node) (h1 : node < p.length) (h2 : node < parts.length) (hk : 2 ≤ (kids.length : Int)) (hu : impl_matcher_has.f tbl (rd kids 0) a b = some false) :
    Calls Try.prog 111 #[.pointer (some ⟨g, 0, none⟩), .int .i64 node, .int .i64 a, .int .i64 b] w fun e w' => e = .returned (.bool false) ∧ Below w.heap.size w w' := by
  obtain ⟨z0, z1, z2, ho, hsx, hkx, _, _, hkk, _⟩ := hR
  obtain ⟨ak, e, k0⟩ := impl_matcher_look.kid0 hkk (by omega)
  cases e
  have k1 := impl_matcher_look.kid1 hkk hk
  have HM := Aside0.mk hM
  have HU := Aside0.mk hu
  have hkl : 0 < kids.length := by omega
  have hkl2 : 1 < kids.length := by omega
  clear hkk hM hk hu
  generalize rd kids 0 = n1 at k0 HU
  generalize rd kids 1 = n2 at k1
  replace h0 := eq_true h0
  replace h1 := eq_true h1
  replace h2 := eq_true h2
  go_enter Try.func111, Try.ntmps111
  go_wp2_with (go_at_call 82; ((with_reducible refine (impl_matcher_has.calls g p parts l tbl n1 a b false _ HM.out HU.out).mono ?_); rintro e w' ⟨rfl, rfl⟩))
  go_ret
  exact ⟨rfl, Below.refl _ _⟩
set_option maxHeartbeats 8000000 in
set_option maxRecDepth 100000 in
theorem impl_matcher_look.calls4b (g : Nat) (p : List S89) (parts : List (List Int)) (l : List Int) (tbl : List (List (List Bool))) (node a b : Int) (s kids : List Int) (a0 a1 : Addr) (c0 c1 : Nat) (As Ak Al : Option Addr) (cs ck cl : Nat) (w : World) (v : Bool) (hM : Mt w g p parts l tbl)
    (hR : impl_matcher_look.Read w g p parts l tbl node 4 s kids a0 a1 c0 c1 As Ak Al cs ck cl) (h0 : 0 ≤ node) (h1 : node < p.length) (h2 : node < parts.length) (hk : 2 ≤ (kids.length : Int)) (hu : impl_matcher_has.f tbl (rd kids 0) a b = some false) (hv : impl_matcher_has.f tbl (rd kids 1) a b = some v) :
    Calls Try.prog 111 #[.pointer (some ⟨g, 0, none⟩), .int .i64 node, .int .i64 a, .int .i64 b] w fun e w' => e = .returned (.bool v) ∧ Below w.heap.size w w' := by
  obtain ⟨z0, z1, z2, ho, hsx, hkx, _, _, hkk, _⟩ := hR
  obtain ⟨ak, e, k0⟩ := impl_matcher_look.kid0 hkk (by omega)
  cases e
  have k1 := impl_matcher_look.kid1 hkk hk
  have HM := Aside0.mk hM
  have HU := Aside0.mk hu
  have HV := Aside0.mk hv
  have hkl : 0 < kids.length := by omega
  have hkl2 : 1 < kids.length := by omega
  clear hkk hM hk hu hv
  generalize rd kids 0 = n1 at k0 HU
  generalize rd kids 1 = n2 at k1 HV
  replace h0 := eq_true h0
  replace h1 := eq_true h1
  replace h2 := eq_true h2
  go_enter Try.func111, Try.ntmps111
  go_wp2_with (go_at_call 82; first | ((with_reducible refine (impl_matcher_has.calls g p parts l tbl n1 a b false _ HM.out HU.out).mono ?_); rintro e w' ⟨rfl, rfl⟩) | ((with_reducible refine (impl_matcher_has.calls g p parts l tbl n2 a b v _ HM.out HV.out).mono ?_); rintro e w' ⟨rfl, rfl⟩))
  go_ret
  exact ⟨rfl, Below.refl _ _⟩
set_option maxHeartbeats 8000000 in
set_option maxRecDepth 100000 in
theorem impl_matcher_look.calls5b (g : Nat) (p : List S89) (parts : List (List Int)) (l : List Int) (tbl : List (List (List Bool))) (node a b : Int) (s kids : List Int) (a0 a1 : Addr) (c0 c1 : Nat) (As Ak Al : Option Addr) (cs ck cl : Nat) (w : World) (v : Bool) (hM : Mt w g p parts l tbl)
    (hR : impl_matcher_look.Read w g p parts l tbl node 5 s kids a0 a1 c0 c1 As Ak Al cs ck cl) (h0 : 0 ≤ node) (h1 : node < p.length) (h2 : node < parts.length) (hk : 2 ≤ (kids.length : Int)) (hu : impl_matcher_has.f tbl (rd kids 0) a b = some true) (hv : impl_matcher_has.f tbl (rd kids 1) a b = some v) :
    Calls Try.prog 111 #[.pointer (some ⟨g, 0, none⟩), .int .i64 node, .int .i64 a, .int .i64 b] w fun e w' => e = .returned (.bool v) ∧ Below w.heap.size w w' := by
  obtain ⟨z0, z1, z2, ho, hsx, hkx, _, _, hkk, _⟩ := hR
  obtain ⟨ak, e, k0⟩ := impl_matcher_look.kid0 hkk (by omega)
  cases e
  have k1 := impl_matcher_look.kid1 hkk hk
  have HM := Aside0.mk hM
  have HU := Aside0.mk hu
  have HV := Aside0.mk hv
  have hkl : 0 < kids.length := by omega
  have hkl2 : 1 < kids.length := by omega
  clear hkk hM hk hu hv
  generalize rd kids 0 = n1 at k0 HU
  generalize rd kids 1 = n2 at k1 HV
  replace h0 := eq_true h0
  replace h1 := eq_true h1
  replace h2 := eq_true h2
  go_enter Try.func111, Try.ntmps111
  go_wp2_with (go_at_call 82; first | ((with_reducible refine (impl_matcher_has.calls g p parts l tbl n1 a b true _ HM.out HU.out).mono ?_); rintro e w' ⟨rfl, rfl⟩) | ((with_reducible refine (impl_matcher_has.calls g p parts l tbl n2 a b v _ HM.out HV.out).mono ?_); rintro e w' ⟨rfl, rfl⟩))
  go_ret
  exact ⟨rfl, Below.refl _ _⟩
set_option maxHeartbeats 8000000 in
set_option maxRecDepth 100000 in
theorem impl_matcher_look.calls3 (g : Nat) (p : List S89) (parts : List (List Int)) (l : List Int) (tbl : List (List (List Bool))) (node a b : Int) (s kids : List Int) (a0 a1 : Addr) (c0 c1 : Nat) (As Ak Al : Option Addr) (cs ck cl : Nat) (w : World) (k : Nat) (op : Int) (r : Bool) (hM : Mt w g p parts l tbl)
    (hR : impl_matcher_look.Read w g p parts l tbl node op s kids a0 a1 c0 c1 As Ak Al cs ck cl) (h0 : 0 ≤ node) (h1 : node < p.length) (h2 : node < parts.length) (hk : 2 ≤ (kids.length : Int)) (o1 : (op == 1) = false) (o2 : (op == 2) = false) (o4 : (op == 4) = false) (o5 : (op == 5) = false) (o7 : (op == 7) = false) (o6 : (op == 6) = false) (ha : 0 ≤ a) (ha2 : a ≤ 1000000) (hb : b ≤ 1000000) (h : impl_matcher_look.l0 tbl (rd kids 0) (rd kids 1) a b k a = some r) :
    Calls Try.prog 111 #[.pointer (some ⟨g, 0, none⟩), .int .i64 node, .int .i64 a, .int .i64 b] w fun e w' => e = .returned (.bool r) ∧ Below w.heap.size w w' := by
  obtain ⟨z0, z1, z2, ho, hsx, hkx, _, _, hkk, _⟩ := hR
  obtain ⟨ak, e, k0⟩ := impl_matcher_look.kid0 hkk (by omega)
  cases e
  have k1 := impl_matcher_look.kid1 hkk hk
  have HM := Aside0.mk hM
  have HH := Aside0.mk h
  have hkl : 0 < kids.length := by omega
  have hkl2 : 1 < kids.length := by omega
  clear hkk hM hk h
  generalize rd kids 0 = n1 at k0 HH
  generalize rd kids 1 = n2 at k1 HH
  replace h0 := eq_true h0
  replace h1 := eq_true h1
  replace h2 := eq_true h2
  go_enter Try.func111, Try.ntmps111
  go_wp2_with fail
  go_loopg [11] k (fun kq v w' => ∃ x : Int, v = .int .i64 x ∧ w = w' ∧ Aside0 (impl_matcher_look.l0 tbl n1 n2 a b kq x = some r) ∧ Aside0 (kq ≤ k) ∧ 0 ≤ x ∧ x ≤ 2000000)
  case atStart => exact ⟨a, rfl, rfl, HH, ⟨Nat.le_refl _⟩, by omega, by omega⟩
  case round =>
    clear HH
    obtain ⟨x, rfl, rfl, HA, HK, x0, x1⟩ := hrel
    cases gk with
    | zero => exact absurd HA.out (by simp [impl_matcher_look.l0])
    | succ k1_ =>
      have H := HA.out
      clear HA
      simp only [impl_matcher_look.l0] at H
      by_cases c : x ≤ b
      · rw [if_pos c] at H
        obtain ⟨u, hu, H⟩ := Option.bind_eq_some_iff.mp H
        have HU := Aside0.mk hu
        clear hu
        cases u with
        | false =>
          rw [if_neg (by simp)] at H
          have H' := Aside0.mk H
          clear H
          go_wp2_with (go_at_call 82; ((with_reducible refine (impl_matcher_has.calls g p parts l tbl n1 a x false _ HM.out HU.out).mono ?_); rintro e w' ⟨rfl, rfl⟩))
          go_roundg k1_
          case measure => have := HK.out; omega
          case rel => exact ⟨x + 1, rfl, rfl, H', ⟨by have := HK.out; omega⟩, by omega, by omega⟩
        | true =>
          rw [if_pos rfl] at H
          obtain ⟨v, hv, H⟩ := Option.bind_eq_some_iff.mp H
          have HV := Aside0.mk hv
          clear hv
          cases v with
          | false =>
            rw [if_neg (by simp)] at H
            have H' := Aside0.mk H
            clear H
            go_wp2_with (go_at_call 82; first | ((with_reducible refine (impl_matcher_has.calls g p parts l tbl n1 a x true _ HM.out HU.out).mono ?_); rintro e w' ⟨rfl, rfl⟩) | ((with_reducible refine (impl_matcher_has.calls g p parts l tbl n2 x b false _ HM.out HV.out).mono ?_); rintro e w' ⟨rfl, rfl⟩))
            go_roundg k1_
            case measure => have := HK.out; omega
            case rel => exact ⟨x + 1, rfl, rfl, H', ⟨by have := HK.out; omega⟩, by omega, by omega⟩
          | true =>
            rw [if_pos rfl] at H
            obtain rfl := Option.some.inj H
            clear H
            go_wp2_with (go_at_call 82; first | ((with_reducible refine (impl_matcher_has.calls g p parts l tbl n1 a x true _ HM.out HU.out).mono ?_); rintro e w' ⟨rfl, rfl⟩) | ((with_reducible refine (impl_matcher_has.calls g p parts l tbl n2 x b true _ HM.out HV.out).mono ?_); rintro e w' ⟨rfl, rfl⟩))
            go_ret
            exact ⟨rfl, Below.refl _ _⟩
      · rw [if_neg c] at H
        obtain rfl := Option.some.inj H
        clear H
        go_wp2
        go_ret
        exact ⟨rfl, Below.refl _ _⟩
theorem impl_matcher_look.beqf {a b : Int} (h : ¬ a = b) : (a == b) = false := by simpa using h
theorem impl_matcher_look.calls (k : Nat) (g : Nat) (p : List S89) (parts : List (List Int)) (l : List Int) (tbl : List (List (List Bool))) (node a b : Int) (r : Bool) (w : World) (hM : Mt w g p parts l tbl) (h : impl_matcher_look.f k p parts l tbl node a b = some r) :
    Calls Try.prog 111 #[.pointer (some ⟨g, 0, none⟩), .int .i64 node, .int .i64 a, .int .i64 b] w fun e w' => e = .returned (.bool r) ∧ Below w.heap.size w w' := by
  unfold impl_matcher_look.f at h
  split at h
  case isFalse => cases h
  rename_i hs
  obtain ⟨⟨h0, h1, h2⟩, ⟨ha, ha2⟩, ⟨hb, hb2⟩⟩ := hs
  obtain ⟨a0, a1, c0, c1, As, Ak, Al, cs, ck, cl, hR⟩ := impl_matcher_look.read hM h0 h1 h2
  revert h hR
  generalize (rd_T89 p node).f0 = op
  generalize (rd_T89 p node).f1 = s
  generalize parts.getD node.toNat [] = kids
  intro h hR
  unfold impl_matcher_look.op at h
  split at h
  · rename_i o
    subst o
    obtain rfl := Option.some.inj h
    exact impl_matcher_look.calls1 g p parts l tbl node a b s kids a0 a1 c0 c1 As Ak Al cs ck cl w hR h0 h1 h2
  rename_i o1
  split at h
  · rename_i o
    subst o
    split at h
    · rename_i hba
      subst hba
      split at h
      · rename_i hal
        exact impl_matcher_look.calls2y k g p parts l tbl node a s kids a0 a1 c0 c1 As Ak Al cs ck cl w r hR h0 h1 h2 ha ha2 hal h
      · cases h
    · rename_i hba
      obtain rfl := Option.some.inj h
      exact impl_matcher_look.calls2n g p parts l tbl node a b s kids a0 a1 c0 c1 As Ak Al cs ck cl w hR h0 h1 h2 ha ha2 hba
  rename_i o2
  split at h
  · cases h
  rename_i hk
  split at h
  · rename_i o
    subst o
    obtain ⟨u, hu, h⟩ := Option.bind_eq_some_iff.mp h
    obtain rfl := Option.some.inj h
    exact impl_matcher_look.calls7 g p parts l tbl node a b s kids a0 a1 c0 c1 As Ak Al cs ck cl w u hM hR h0 h1 h2 (by omega) hu
  rename_i o7
  split at h
  · rename_i o
    subst o
    split at h
    · rename_i hab
      subst hab
      obtain rfl := Option.some.inj h
      exact impl_matcher_look.calls6e g p parts l tbl node a s kids a0 a1 c0 c1 As Ak Al cs ck cl w hR h0 h1 h2
    · rename_i hab
      exact impl_matcher_look.calls6n k g p parts l tbl node a b s kids a0 a1 c0 c1 As Ak Al cs ck cl w r hM hR h0 h1 h2 ha ha2 hb2 hab (by omega) h
  rename_i o6
  split at h
  · cases h
  rename_i hk2
  split at h
  · rename_i o
    subst o
    obtain ⟨u, hu, h⟩ := Option.bind_eq_some_iff.mp h
    cases u
    · rw [if_neg (by simp)] at h
      exact impl_matcher_look.calls4b g p parts l tbl node a b s kids a0 a1 c0 c1 As Ak Al cs ck cl w r hM hR h0 h1 h2 (by omega) hu h
    · rw [if_pos rfl] at h
      obtain rfl := Option.some.inj h
      exact impl_matcher_look.calls4a g p parts l tbl node a b s kids a0 a1 c0 c1 As Ak Al cs ck cl w hM hR h0 h1 h2 (by omega) hu
  rename_i o4
  split at h
  · rename_i o
    subst o
    obtain ⟨u, hu, h⟩ := Option.bind_eq_some_iff.mp h
    cases u
    · rw [if_neg (by simp)] at h
      obtain rfl := Option.some.inj h
      exact impl_matcher_look.calls5a g p parts l tbl node a b s kids a0 a1 c0 c1 As Ak Al cs ck cl w hM hR h0 h1 h2 (by omega) hu
    · rw [if_pos rfl] at h
      exact impl_matcher_look.calls5b g p parts l tbl node a b s kids a0 a1 c0 c1 As Ak Al cs ck cl w r hM hR h0 h1 h2 (by omega) hu h
  rename_i o5
  exact impl_matcher_look.calls3 g p parts l tbl node a b s kids a0 a1 c0 c1 As Ak Al cs ck cl w k op r hM hR h0 h1 h2 (by omega) (impl_matcher_look.beqf o1) (impl_matcher_look.beqf o2) (impl_matcher_look.beqf o4) (impl_matcher_look.beqf o5) (impl_matcher_look.beqf o7) (impl_matcher_look.beqf o6) ha ha2 hb2 h


end Go.Proofs.Ytkpeihdlmjdejaa.P
