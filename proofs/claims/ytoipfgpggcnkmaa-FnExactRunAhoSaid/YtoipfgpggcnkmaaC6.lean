import Derived.Test.YtoipfgpggcnkmaaCP0
import Derived.Test.YtoipfgpggcnkmaaC0
import Derived.Test.YtoipfgpggcnkmaaC1
import Derived.Test.YtoipfgpggcnkmaaC2
import Derived.Test.YtoipfgpggcnkmaaC5
namespace Go.Proofs.Ytoipfgpggcnkmaa.P
open Go.RowKit Go.Proofs.YtoipfgpggcnkmaaW.PrintWords Go.Proofs.YtoipfgpggcnkmaaW.PrintLast Go.Proofs.YtoipfgpggcnkmaaW.PrintMore
attribute [local go_sem] max2_int min2_int max_two min_two max_three min_three max_four min_four   -- for this text's walks alone
set_option linter.unusedVariables false
set_option linter.unusedSimpArgs false


def laws_markIntS.l0 : Nat → List Int → Int → Int → Option (Int × List Int)
 | 0, _, _, _ => none
 | k + 1, x0, x1, x5 => if x5 < (x0.length : Int) then (if 0 ≤ x5 then (laws_markIntS.l0 k (x0.set (x5 : Int).toNat x1) (wrap64 (x1 + 1)) (wrap64 (x5 + 1))) else (none)) else (some (x1, x0))
def laws_markIntS.f (k : Nat) (l0 : List Int) (a1 : Int) : Option (Int × List Int) := laws_markIntS.l0 k l0 a1 0
theorem laws_markIntS.mono_l : ∀ k, (∀ y0 y1 y2, LeO (laws_markIntS.l0 k y0 y1 y2) (laws_markIntS.l0 (k + 1) y0 y1 y2))
 | 0 => fun _ _ _ r h => by simp [laws_markIntS.l0] at h
 | k + 1 => by
  have ih0 := laws_markIntS.mono_l k
  ·intro y0 y1 y2
   unfold laws_markIntS.l0
   repeat' first
   | (with_reducible exact ih0 _ _ _)
   | (with_reducible exact LeO.refl _)
   | (with_reducible exact LeO.none _)
   | (with_reducible refine LeO.ite ?_ ?_)
   | (with_reducible refine LeO.bind ?_ (fun _ => ?_))
   | exact ih0 _ _ _
   | exact LeO.none _
   | refine LeO.ite ?_ ?_
   | refine LeO.bind ?_ (fun _ => ?_)
theorem laws_markIntS.mono : ∀ a0 a1 k, LeO (laws_markIntS.f k a0 a1) (laws_markIntS.f (k + 1) a0 a1) := by
 intro a0 a1 k
 have ih0 := laws_markIntS.mono_l k
 unfold laws_markIntS.f
 repeat' first
   | (with_reducible exact ih0 _ _ _)
   | (with_reducible exact LeO.refl _)
   | (with_reducible exact LeO.none _)
   | (with_reducible refine LeO.ite ?_ ?_)
   | (with_reducible refine LeO.bind ?_ (fun _ => ?_))
   | exact ih0 _ _ _
   | exact LeO.none _
   | refine LeO.ite ?_ ?_
   | refine LeO.bind ?_ (fun _ => ?_)
set_option maxHeartbeats 8000000 in
set_option maxRecDepth 100000 in
theorem laws_markIntS.calls (k : Nat) (P0_ : Nat → Prop) (u9000_ : Value) (l0 : List Int) (a1 : Int) (r1 : Int) (r2 : List Int) (w0 w : World) (hB : Below w0.heap.size w0 w) (ho0 : Kd.R (Kd.int .i64) 3 w w0.heap.size P0_ u9000_ l0) (h : laws_markIntS.f k l0 a1 = some (r1, r2)) :
  Calls Try.prog 15 #[u9000_, .int .i64 a1] w fun e w' => e = .returned (.int .i64 r1) ∧ Kd.R (Kd.int .i64) 3 w' w0.heap.size (fun k_ => (P0_ k_ ∨ w.heap.size ≤ k_)) u9000_ r2 ∧ Below w0.heap.size w0 w' ∧ Kept w w' (fun k_ => P0_ k_) := by
 have HO0 := Aside0.mk (show Kd.R (Kd.int .i64) 3 w w0.heap.size (fun k_ => (P0_ k_ ∨ w.heap.size ≤ k_)) u9000_ l0 from Kd.R_mono ho0 (fun k_ hk => (.inl hk)))
 have HK := Aside0.mk (Kept.refl w (fun k_ => P0_ k_))
 have HW0 := Aside0.mk hB.size
 have HB := Aside0.mk hB
 clear hB
 have H : (laws_markIntS.l0 k l0 a1 0) = some (r1, r2) := h
 clear h
 have H' := Aside0.mk H
 clear H
 go_enter Try.func15, Try.ntmps15
 go_wp2
 go_loopg [1, 5] k (fun kq v1 v5 w' => ∃ (x0_1 : List Int) (x1_1 : Int) (x5_1 : Int), v1 = .int .i64 x1_1 ∧ v5 = .int .i64 x5_1 ∧ Aside0 (laws_markIntS.l0 kq x0_1 x1_1 x5_1 = some (r1, r2)) ∧ Aside0 (kq ≤ k) ∧ Aside0 (Kd.R (Kd.int .i64) 3 w' w0.heap.size (fun k_ => (P0_ k_ ∨ w.heap.size ≤ k_)) u9000_ x0_1) ∧ Aside0 (Kept w w' (fun k_ => P0_ k_)) ∧ Aside0 (Below w0.heap.size w0 w'))
 case atStart => exact ⟨(l0), (a1), (0), (by first | rfl | (simp; done) | (simp [*]; done)), (by first | rfl | (simp; done) | (simp [*]; done)), H', ⟨Nat.le_refl _⟩, ⟨by (with_reducible repeat (first | apply Kd.R_alloc | apply Kd.R_drewN | apply Kd.R_drew)); exact HO0.out⟩, ⟨by repeat (first | (with_reducible first | exact HK.out | apply Kept.alloc | apply Kept.drewN | apply Kept.drew) | exact HK.out)⟩, ⟨by repeat (first | (with_reducible first | exact HB.out | apply below_alloc | apply pw_below_drewN | apply below_drew1) | exact HB.out)⟩⟩
 case round =>
  clear H'
  try clear c1
  try clear p2
  obtain ⟨x0_1, x1_1, x5_1, rfl, rfl, HA, HK1, HO_0, HK, HB⟩ := hrel
  cases gk with
  | zero => exact absurd HA.out (by simp [laws_markIntS.l0])
  | succ k1 =>
   have H := HA.out
   clear HA
   simp only [laws_markIntS.l0] at H
   by_cases c3 : x5_1 < (x0_1.length : Int)
   ·rw [if_pos c3] at H
    have c3b0 : decide (x5_1 < (x0_1.length : Int)) = true := decide_eq_true c3
    clear c3
    by_cases c4 : 0 ≤ x5_1
    ·rw [if_pos c4] at H
     have c4b0 : decide (0 ≤ x5_1) = true := decide_eq_true c4
     clear c4
     obtain ⟨y232, hy232⟩ : ∃ y_ : List Int, y_ = (x0_1.set (x5_1 : Int).toNat x1_1) := ⟨_, rfl⟩
     replace H : (laws_markIntS.l0 k1 y232 (wrap64 (x1_1 + 1)) (wrap64 (x5_1 + 1))) = some (r1, r2) := by first | (rw [hy232]; with_reducible exact H) | (have H2_ := (Option.bind_some _ _).symm.trans H; rw [hy232]; with_reducible exact H2_) | (have H2_ := (Option.bind_some _ _).symm.trans H; with_reducible exact H2_) | with_reducible exact H | (rw [hy232]; exact H) | exact H
     have Ny232 := Aside0.mk hy232
     clear hy232
     have H' := Aside0.mk H
     clear H
     obtain ⟨Ao6, co6, eo6⟩ := Kd.R_slice HO_0.out
     subst eo6
     have p5 : 0 ≤ (x5_1 : Int) := of_decide_eq_true (by first | (with_reducible assumption) | assumption)
     have q5 : (x5_1 : Int) < ((x0_1.length : Int) : Int) := of_decide_eq_true (by first | (with_reducible assumption) | assumption)
     obtain ⟨go5, co5, eo5, gb5, gl5, cl5, HG5⟩ := Kd.R_form HO_0.out (by omega)
     (first | cases eo5 | (injection eo5 with ea_ en_ ec_; (first | subst ea_ | (injection ea_ with ea_; subst ea_)); subst ec_; clear en_))
     have GB5 := Aside0.mk gb5
     have GG5 := Aside0.mk HG5
     clear gb5 gl5 HG5
     have HMgo5 := Aside0.mk (show (P0_ go5 ∨ w.heap.size ≤ go5) from (HO_0.out.1 _ rfl))
     obtain ⟨hx5_0, hf5_0⟩ := Kd.R_celln 0 HO_0.out (x5_1 : Int) p5 q5
     replace p5 := eq_true p5
     replace q5 := eq_true q5
     have HP7 := Kd.R_putg HO_0.out (x5_1 : Int) x1_1
     go_wp2_with (first | ((with_reducible refine gate_store (t := 3) (p := 15) rfl ?_); refine store_event (t := 3) (p := 15) (v := ?vo_w8) (w1 := (wr.setCell ⟨go5, (x5_1 : Int).toNat, none⟩ (.int .i64 x1_1))) ?hg ?ho ?hn ?hr ?_; (case ho => rfl); (case hg => rfl); (case hn => rfl); (case hr => first | (go_simp; done) | (go_simp; rfl)); intro w8 hw; have hg : wr.grownBy w8 (some go5) := (by rw [hw]; exact HP7.2); have hp_ : Kd.R (Kd.int .i64) 3 w8 w0.heap.size (fun k_ => (P0_ k_ ∨ w.heap.size ≤ k_)) (.slice (some ⟨go5, 0, none⟩) x0_1.length co6) y232 := (by rw [hw, Ny232.out]; exact HP7.1); clear HP7; have n0_ := Aside0.mk (hp_); have n1_ := Aside0.mk ((by rw [hw]; exact below_set (HB.out) GB5.out : Below w0.heap.size w0 w8)); have n2_ := Aside0.mk (Kept.of_grown (S := (fun k_ => P0_ k_)) hg (by repeat (first | (with_reducible first | exact HK.out | apply Kept.alloc | apply Kept.drewN | apply Kept.drew) | exact HK.out)) (fun k_ e_ => (HO_0.out.1 k_ e_))); clear HO_0; clear HB; clear HK; have HO_0 := n0_; have HB := n1_; have HK := n2_; clear n0_ n1_ n2_; clear hg hw hp_))
     go_roundg k1
     case measure => have := HK1.out; omega
     case rel => exact ⟨(y232), (wrap64 (x1_1 + 1)), (wrap64 (x5_1 + 1)), (by first | rfl | (simp; done) | (simp [*]; done)), (by first | rfl | (simp; done) | (simp [*]; done)), H', ⟨by have := HK1.out; omega⟩, ⟨by (with_reducible repeat (first | apply Kd.R_alloc | apply Kd.R_drewN | apply Kd.R_drew)); exact HO_0.out⟩, ⟨by repeat (first | (with_reducible first | exact HK.out | apply Kept.alloc | apply Kept.drewN | apply Kept.drew) | exact HK.out)⟩, ⟨by repeat (first | (with_reducible first | exact HB.out | apply below_alloc | apply pw_below_drewN | apply below_drew1) | exact HB.out)⟩⟩
    ·rw [if_neg c4] at H
     exact absurd H (by simp)
   ·rw [if_neg c3] at H
    have c3b0 : decide (x5_1 < (x0_1.length : Int)) = false := decide_eq_false c3
    clear c3
    simp only [Option.some.injEq, Prod.mk.injEq] at H
    obtain ⟨rfl, rfl⟩ := H
    obtain ⟨Ao9, co9, eo9⟩ := Kd.R_slice HO_0.out
    subst eo9
    go_wp2
    go_ret
    exact ⟨by first | rfl | (simp [errW_none, errW_some] <;> rfl) | (simp [*, errW_none, errW_some] <;> rfl), by (with_reducible repeat (first | apply Kd.R_alloc | apply Kd.R_drewN | apply Kd.R_drew)); exact HO_0.out, by repeat (first | (with_reducible first | exact HB.out | apply below_alloc | apply pw_below_drewN | apply below_drew1) | exact HB.out), by repeat (first | (with_reducible first | exact HK.out | apply Kept.alloc | apply Kept.drewN | apply Kept.drew) | exact HK.out)⟩

def laws_markIntSS.l0 : Nat → List (List Int) → Int → Int → Option (Int × List (List Int))
  | 0, _, _, _ => none
  | k + 1, x0, x1, x5 => if x5 < (x0.length : Int) then (if 0 ≤ x5 then ((laws_markIntS.f k (x0.getD x5.toNat []) x1).bind fun t => laws_markIntSS.l0 k (x0.set x5.toNat t.2) t.1 (wrap64 (x5 + 1))) else none) else some (x1, x0)
def laws_markIntSS.f (k : Nat) (l0 : List (List Int)) (a1 : Int) : Option (Int × List (List Int)) := laws_markIntSS.l0 k l0 a1 0
theorem laws_markIntSS.l0_mono : ∀ k x0 x1 x5, LeO (laws_markIntSS.l0 k x0 x1 x5) (laws_markIntSS.l0 (k + 1) x0 x1 x5)
  | 0, _, _, _ => LeO.none _
  | k + 1, x0, x1, x5 => by
    have ih := laws_markIntSS.l0_mono k
    rw [laws_markIntSS.l0, laws_markIntSS.l0]
    exact LeO.ite (LeO.ite (LeO.bind (laws_markIntS.mono _ _ _) fun _ => ih _ _ _) (LeO.refl _)) (LeO.refl _)
theorem laws_markIntSS.mono : ∀ a0 a1 k, LeO (laws_markIntSS.f k a0 a1) (laws_markIntSS.f (k + 1) a0 a1) := fun a0 a1 k => laws_markIntSS.l0_mono _ _ _ _
set_option maxHeartbeats 8000000 in
set_option maxRecDepth 100000 in
theorem laws_markIntSS.calls (k : Nat) (P0_ : Nat → Prop) (u9000_ : Value) (l0 : List (List Int)) (a1 : Int) (r1 : Int) (r2 : List (List Int)) (w0 w : World) (hB : Below w0.heap.size w0 w) (ho0 : Kd.S (Kd.slice 3 (Kd.int .i64)) 22 w w0.heap.size P0_ u9000_ l0) (h : laws_markIntSS.f k l0 a1 = some (r1, r2)) :
    Calls Try.prog 41 #[u9000_, .int .i64 a1] w fun e w' => e = .returned (.int .i64 r1) ∧ Kd.S (Kd.slice 3 (Kd.int .i64)) 22 w' w0.heap.size P0_ u9000_ r2 ∧ Below w0.heap.size w0 w' ∧ Kept w w' (fun k_ => P0_ k_) := by
  have HS := Aside0.mk ho0
  have HK := Aside0.mk (Kept.refl w (fun k_ => P0_ k_))
  have HB := Aside0.mk hB
  have H' := Aside0.mk (show laws_markIntSS.l0 k l0 a1 0 = some (r1, r2) from h)
  clear ho0 hB h
  go_enter Try.func41, Try.ntmps41
  go_wp2
  go_loopg [1, 5] k (fun kq v1 v5 w' => ∃ (x0 : List (List Int)) (x1 x5 : Int), v1 = .int .i64 x1 ∧ v5 = .int .i64 x5 ∧ Aside0 (laws_markIntSS.l0 kq x0 x1 x5 = some (r1, r2)) ∧ Aside0 (kq ≤ k) ∧ Aside0 (Kd.S (Kd.slice 3 (Kd.int .i64)) 22 w' w0.heap.size P0_ u9000_ x0) ∧ Aside0 (Kept w w' (fun k_ => P0_ k_)) ∧ Aside0 (Below w0.heap.size w0 w'))
  case atStart => exact ⟨l0, a1, 0, rfl, rfl, H', ⟨Nat.le_refl _⟩, HS, HK, HB⟩
  case round =>
    clear H' HS HK HB
    try clear p2
    obtain ⟨x0, x1, x5, rfl, rfl, HA, HK1, HS, HK, HB⟩ := hrel
    cases gk with
    | zero => exact absurd HA.out (by simp [laws_markIntSS.l0])
    | succ k1 =>
      have H := HA.out
      clear HA
      simp only [laws_markIntSS.l0] at H
      by_cases c3 : x5 < (x0.length : Int)
      · rw [if_pos c3] at H
        have c3b0 : decide (x5 < (x0.length : Int)) = true := decide_eq_true c3
        by_cases c4 : 0 ≤ x5
        · rw [if_pos c4] at H
          obtain ⟨⟨t1, t2⟩, hm, H1⟩ := Option.bind_eq_some_iff.mp H
          clear H
          have H' := Aside0.mk H1
          have HM := Aside0.mk hm
          clear H1 hm
          obtain ⟨go, co, rfl, gb, _, _, _⟩ := Kd.S_form HS.out (by omega)
          obtain ⟨oki, ce, hcl, hM, hcc, hfr, hoki, hH⟩ := Kd.S_elem HS.out [] x5 c4 c3
          obtain ⟨v1, rfl, hR⟩ := hM
          have hx0 := hcc 0 _ rfl
          simp only [show (Kd.slice 3 (Kd.int .i64)).sz = 1 from rfl, Nat.add_zero, Nat.mul_one] at hx0
          have HR := Aside0.mk (show (Kd.int .i64).R 3 _ _ oki v1 (x0.getD x5.toNat []) from hR)
          have HO := Aside0.mk hoki
          have HH := Aside0.mk hH
          have c3' := eq_true c3
          have c4' := eq_true c4
          clear c3 c4 hH hcc hfr hoki hR hcl gb
          generalize x0.getD x5.toNat [] = y at HR HM
          go_wp2_with (go_at_call 15; (with_reducible refine (laws_markIntS.calls k1 (fun k_ => some k_ = (v1 : Value).ownBlock) v1 y x1 t1 t2 w0 _ HB.out (Kd.R_tight rfl HR.out) HM.out).mono ?_); rintro e w2 ⟨rfl, hy, hb, hk⟩; have HB2 := Aside0.mk hb; have HK3 := Aside0.mk (Kept.then_ (S := (fun k_ => P0_ k_)) HK.out hk (fun k_ hs_ => .inl (HO.out k_ (HR.out.1 k_ hs_.symm)).1)); have HS2 := Aside0.mk (Kd.H_back (Kd.H_kept HH.out hk (fun k_ _ hn_ hs_ => hn_ (HR.out.1 k_ hs_.symm))) (x' := t2) (okp := fun k_ => some k_ = (v1 : Value).ownBlock) ⟨v1, rfl, Kd.R_tight rfl hy⟩ (fun k_ hs_ => HR.out.1 k_ hs_.symm)); clear hy hb hk)
          go_roundg k1
          case measure => have := HK1.out; omega
          case rel => exact ⟨x0.set x5.toNat t2, t1, wrap64 (x5 + 1), rfl, rfl, H', ⟨by have := HK1.out; omega⟩, HS2, HK3, HB2⟩
        · rw [if_neg c4] at H
          exact absurd H (by simp)
      · rw [if_neg c3] at H
        have c3b0 : decide (x5 < (x0.length : Int)) = false := decide_eq_false c3
        obtain ⟨rfl, rfl⟩ : x1 = r1 ∧ x0 = r2 := by simpa using Option.some.inj H
        clear H c3
        obtain ⟨Ao, co, rfl⟩ := Kd.S_slice HS.out
        go_wp2
        go_ret
        exact ⟨rfl, HS.out, HB.out, HK.out⟩

def laws_markAho.f (k : Nat) (l0_0 : List Int) (l0_1 : List Int) (l0_2 : List Int) (l0_3 : List (List Int)) (a1 : Int) : Option (Int × List Int × List Int × List Int × List (List Int)) := (laws_markIntS.f k l0_0 a1).bind fun t1 => (laws_markIntS.f k l0_1 t1.1).bind fun t2 => (laws_markIntS.f k l0_2 t2.1).bind fun t3 => (laws_markIntSS.f k l0_3 t3.1).bind fun t4 => some (t4.1, t1.2, t2.2, t3.2, t4.2)
set_option maxHeartbeats 8000000 in
set_option maxRecDepth 100000 in
theorem laws_markAho.calls (k : Nat) (P0_0_ : Nat → Prop) (u9000_ : Value) (l0_0 : List Int) (P0_1_ : Nat → Prop) (u9001_ : Value) (l0_1 : List Int) (P0_2_ : Nat → Prop) (u9002_ : Value) (l0_2 : List Int) (P0_3_ : Nat → Prop) (u9003_ : Value) (l0_3 : List (List Int)) (a1 : Int) (r1 : Int) (r2 : List Int) (r3 : List Int) (r4 : List Int) (r5 : List (List Int)) (w0 w : World) (hB : Below w0.heap.size w0 w) (ho0_0 : Kd.R (Kd.int .i64) 3 w w0.heap.size P0_0_ u9000_ l0_0) (hp0_0_0_1 : ∀ k_, P0_0_ k_ → ¬ P0_1_ k_) (hp0_0_0_2 : ∀ k_, P0_0_ k_ → ¬ P0_2_ k_) (hp0_0_0_3 : ∀ k_, P0_0_ k_ → ¬ P0_3_ k_) (ho0_1 : Kd.R (Kd.int .i64) 3 w w0.heap.size P0_1_ u9001_ l0_1) (hp0_1_0_0 : ∀ k_, P0_1_ k_ → ¬ P0_0_ k_) (hp0_1_0_2 : ∀ k_, P0_1_ k_ → ¬ P0_2_ k_) (hp0_1_0_3 : ∀ k_, P0_1_ k_ → ¬ P0_3_ k_) (ho0_2 : Kd.R (Kd.int .i64) 3 w w0.heap.size P0_2_ u9002_ l0_2) (hp0_2_0_0 : ∀ k_, P0_2_ k_ → ¬ P0_0_ k_) (hp0_2_0_1 : ∀ k_, P0_2_ k_ → ¬ P0_1_ k_) (hp0_2_0_3 : ∀ k_, P0_2_ k_ → ¬ P0_3_ k_) (ho0_3 : Kd.S (Kd.slice 3 (Kd.int .i64)) 22 w w0.heap.size P0_3_ u9003_ l0_3) (hp0_3_0_0 : ∀ k_, P0_3_ k_ → ¬ P0_0_ k_) (hp0_3_0_1 : ∀ k_, P0_3_ k_ → ¬ P0_1_ k_) (hp0_3_0_2 : ∀ k_, P0_3_ k_ → ¬ P0_2_ k_) (h : laws_markAho.f k l0_0 l0_1 l0_2 l0_3 a1 = some (r1, r2, r3, r4, r5)) :
    Calls Try.prog 14 #[.agg #[u9000_, u9001_, u9002_, u9003_], .int .i64 a1] w fun e w' => e = .returned (.int .i64 r1) ∧ Kd.R (Kd.int .i64) 3 w' w0.heap.size P0_0_ u9000_ r2 ∧ Kd.R (Kd.int .i64) 3 w' w0.heap.size P0_1_ u9001_ r3 ∧ Kd.R (Kd.int .i64) 3 w' w0.heap.size P0_2_ u9002_ r4 ∧ Kd.S (Kd.slice 3 (Kd.int .i64)) 22 w' w0.heap.size P0_3_ u9003_ r5 ∧ Below w0.heap.size w0 w' ∧ Kept w w' (fun k_ => P0_0_ k_ ∨ P0_1_ k_ ∨ P0_2_ k_ ∨ P0_3_ k_) := by
  have hu_ := Try.underlying30
  unfold laws_markAho.f at h
  obtain ⟨⟨m1, n0⟩, hh, h⟩ := Option.bind_eq_some_iff.mp h
  have A1 := Aside0.mk hh
  clear hh
  try dsimp only at h
  obtain ⟨⟨m2, n1⟩, hh, h⟩ := Option.bind_eq_some_iff.mp h
  have A2 := Aside0.mk hh
  clear hh
  try dsimp only at h
  obtain ⟨⟨m3, n2⟩, hh, h⟩ := Option.bind_eq_some_iff.mp h
  have A3 := Aside0.mk hh
  clear hh
  try dsimp only at h
  obtain ⟨⟨m4, n3⟩, hh, h⟩ := Option.bind_eq_some_iff.mp h
  have A4 := Aside0.mk hh
  clear hh
  try dsimp only at h
  simp only [Option.some.injEq, Prod.mk.injEq] at h
  obtain ⟨rfl, rfl, rfl, rfl, rfl⟩ := h
  have HO0 := Aside0.mk (R_upto ho0_0)
  have HP0_1 := Aside0.mk hp0_0_0_1
  have HP0_2 := Aside0.mk hp0_0_0_2
  have HP0_3 := Aside0.mk hp0_0_0_3
  have HO1 := Aside0.mk (R_upto ho0_1)
  have HP1_0 := Aside0.mk hp0_1_0_0
  have HP1_2 := Aside0.mk hp0_1_0_2
  have HP1_3 := Aside0.mk hp0_1_0_3
  have HO2 := Aside0.mk (R_upto ho0_2)
  have HP2_0 := Aside0.mk hp0_2_0_0
  have HP2_1 := Aside0.mk hp0_2_0_1
  have HP2_3 := Aside0.mk hp0_2_0_3
  have HO3 := Aside0.mk (S_upto ho0_3)
  have HP3_0 := Aside0.mk hp0_3_0_0
  have HP3_1 := Aside0.mk hp0_3_0_1
  have HP3_2 := Aside0.mk hp0_3_0_2
  have HK := Aside0.mk (Kept.refl w (fun k_ => P0_0_ k_ ∨ P0_1_ k_ ∨ P0_2_ k_ ∨ P0_3_ k_))
  have HB := Aside0.mk hB
  have HW0 := Aside0.mk hB.size
  clear hB ho0_0 ho0_1 ho0_2 ho0_3 hp0_0_0_1 hp0_0_0_2 hp0_0_0_3 hp0_1_0_0 hp0_1_0_2 hp0_1_0_3 hp0_2_0_0 hp0_2_0_1 hp0_2_0_3 hp0_3_0_0 hp0_3_0_1 hp0_3_0_2
  obtain ⟨Ao0, co0, eo0⟩ := Kd.R_slice HO0.out; subst eo0
  obtain ⟨Ao1, co1, eo1⟩ := Kd.R_slice HO1.out; subst eo1
  obtain ⟨Ao2, co2, eo2⟩ := Kd.R_slice HO2.out; subst eo2
  obtain ⟨Ao3, co3, eo3⟩ := Kd.S_slice HO3.out; subst eo3
  go_enter Try.func14, Try.ntmps14
  go_wp2_with (first
    | ((with_reducible refine gate_dst (N := 2) rfl ?_); refine box_event ?hg (N := 2) ?hd (cs := #[.slice Ao0 l0_0.length co0, .slice Ao1 l0_1.length co1, .slice Ao2 l0_2.length co2, .slice Ao3 l0_3.length co3]) (t := 30) ?hr ?_; (case hd => rfl); (case hg => rfl); (case hr => first | (go_simp; done) | (go_simp; rfl)); intro gb hg w1 hbox hb; have HO0_1 := Aside0.mk (Kd.R_below (by (with_reducible repeat (first | apply Kd.R_alloc | apply Kd.R_drewN | apply Kd.R_drew)); exact HO0.out) hb); have HO1_1 := Aside0.mk (Kd.R_below (by (with_reducible repeat (first | apply Kd.R_alloc | apply Kd.R_drewN | apply Kd.R_drew)); exact HO1.out) hb); have HO2_1 := Aside0.mk (Kd.R_below (by (with_reducible repeat (first | apply Kd.R_alloc | apply Kd.R_drewN | apply Kd.R_drew)); exact HO2.out) hb); have HO3_1 := Aside0.mk (Kd.S_below (by (with_reducible repeat (first | apply Kd.S_alloc | apply Kd.S_drewN | apply Kd.S_drew)); exact HO3.out) hb); have HK1 := Aside0.mk (Kept.below (S := (fun k_ => P0_0_ k_ ∨ P0_1_ k_ ∨ P0_2_ k_ ∨ P0_3_ k_)) (by repeat (first | (with_reducible first | exact HK.out | apply Kept.alloc | apply Kept.drewN | apply Kept.drew) | exact HK.out)) hb); have HB1 := Aside0.mk (below_step (by repeat (first | (with_reducible first | exact HB.out | apply below_alloc | apply pw_below_drewN | apply below_drew1) | exact HB.out)) hb); have BK1 := Aside0.mk hbox; have GW := Aside0.mk (by rw [hg]; exact (show Kept w _ (fun k_ => P0_0_ k_ ∨ P0_1_ k_ ∨ P0_2_ k_ ∨ P0_3_ k_) from (by repeat (first | (with_reducible first | exact HK.out | apply Kept.alloc | apply Kept.drewN | apply Kept.drew) | exact HK.out))).1 : w.heap.size ≤ gb); clear hb hbox hg; have hcz1_0 : w1.cell? ⟨gb, 0, none⟩ = some (.slice Ao0 l0_0.length co0) := (blk_cell BK1.out 0).trans rfl; have hcz1_1 : w1.cell? ⟨gb, 1, none⟩ = some (.slice Ao1 l0_1.length co1) := (blk_cell BK1.out 1).trans rfl; have hcz1_2 : w1.cell? ⟨gb, 2, none⟩ = some (.slice Ao2 l0_2.length co2) := (blk_cell BK1.out 2).trans rfl; have hcz1_3 : w1.cell? ⟨gb, 3, none⟩ = some (.slice Ao3 l0_3.length co3) := (blk_cell BK1.out 3).trans rfl; have hfz1_0 := blk_frozen BK1.out 0; have hfz1_1 := blk_frozen BK1.out 1; have hfz1_2 := blk_frozen BK1.out 2; have hfz1_3 := blk_frozen BK1.out 3)
    | (go_at_call 15; (with_reducible refine (laws_markIntS.calls k (fun k_ => P0_0_ k_ ∧ k_ < w.heap.size) (.slice Ao0 l0_0.length co0) l0_0 a1 m1 n0 w0 _ ?s1 ?s2 A1.out).mono ?_); (case s1 => exact (by repeat (first | (with_reducible first | exact HB1.out | apply below_alloc | apply pw_below_drewN | apply below_drew1) | exact HB1.out))); (case s2 => exact HO0_1.out); rintro e w2 ⟨rfl, hy0, hb, hk⟩; have HO0_2 := Aside0.mk (Kd.R_reok rfl hy0 (fun k_ e_ => HO0_1.out.1 k_ e_)); have HO1_2 := Aside0.mk (Kd.R_kept HO1_1.out hk (fun k_ a_ b_ => HP1_0.out k_ a_.1 b_.1)); have HO2_2 := Aside0.mk (Kd.R_kept HO2_1.out hk (fun k_ a_ b_ => HP2_0.out k_ a_.1 b_.1)); have HO3_2 := Aside0.mk (Kd.S_kept HO3_1.out hk (fun k_ a_ b_ => HP3_0.out k_ a_.1 b_.1)); have HK2 := Aside0.mk (Kept.then_ (S := (fun k_ => P0_0_ k_ ∨ P0_1_ k_ ∨ P0_2_ k_ ∨ P0_3_ k_)) (by repeat (first | (with_reducible first | exact HK1.out | apply Kept.alloc | apply Kept.drewN | apply Kept.drew) | exact HK1.out)) hk (fun k_ b_ => .inl ((.inl b_.1)))); have HB2 := Aside0.mk hb; have BK2 := Aside0.mk (blk_kept (by (with_reducible repeat (first | refine blk_drewN ?_ _ | refine blk_drew ?_ | refine blk_alloc ?_ _)); exact BK1.out) hk (fun b_ => by have g_ := GW.out; have l_ := (b_.2 : gb < w.heap.size); omega)); clear hb hk hy0; have hcz2_0 : w2.cell? ⟨gb, 0, none⟩ = some (.slice Ao0 l0_0.length co0) := (blk_cell BK2.out 0).trans rfl; have hcz2_1 : w2.cell? ⟨gb, 1, none⟩ = some (.slice Ao1 l0_1.length co1) := (blk_cell BK2.out 1).trans rfl; have hcz2_2 : w2.cell? ⟨gb, 2, none⟩ = some (.slice Ao2 l0_2.length co2) := (blk_cell BK2.out 2).trans rfl; have hcz2_3 : w2.cell? ⟨gb, 3, none⟩ = some (.slice Ao3 l0_3.length co3) := (blk_cell BK2.out 3).trans rfl; have hfz2_0 := blk_frozen BK2.out 0; have hfz2_1 := blk_frozen BK2.out 1; have hfz2_2 := blk_frozen BK2.out 2; have hfz2_3 := blk_frozen BK2.out 3)
    | (go_at_call 15; (with_reducible refine (laws_markIntS.calls k (fun k_ => P0_1_ k_ ∧ k_ < w.heap.size) (.slice Ao1 l0_1.length co1) l0_1 m1 m2 n1 w0 _ ?s1 ?s2 A2.out).mono ?_); (case s1 => exact (by repeat (first | (with_reducible first | exact HB2.out | apply below_alloc | apply pw_below_drewN | apply below_drew1) | exact HB2.out))); (case s2 => exact HO1_2.out); rintro e w3 ⟨rfl, hy1, hb, hk⟩; have HO0_3 := Aside0.mk (Kd.R_kept HO0_2.out hk (fun k_ a_ b_ => HP0_1.out k_ a_.1 b_.1)); have HO1_3 := Aside0.mk (Kd.R_reok rfl hy1 (fun k_ e_ => HO1_2.out.1 k_ e_)); have HO2_3 := Aside0.mk (Kd.R_kept HO2_2.out hk (fun k_ a_ b_ => HP2_1.out k_ a_.1 b_.1)); have HO3_3 := Aside0.mk (Kd.S_kept HO3_2.out hk (fun k_ a_ b_ => HP3_1.out k_ a_.1 b_.1)); have HK3 := Aside0.mk (Kept.then_ (S := (fun k_ => P0_0_ k_ ∨ P0_1_ k_ ∨ P0_2_ k_ ∨ P0_3_ k_)) (by repeat (first | (with_reducible first | exact HK2.out | apply Kept.alloc | apply Kept.drewN | apply Kept.drew) | exact HK2.out)) hk (fun k_ b_ => .inl ((.inr (.inl b_.1))))); have HB3 := Aside0.mk hb; have BK3 := Aside0.mk (blk_kept (by (with_reducible repeat (first | refine blk_drewN ?_ _ | refine blk_drew ?_ | refine blk_alloc ?_ _)); exact BK2.out) hk (fun b_ => by have g_ := GW.out; have l_ := (b_.2 : gb < w.heap.size); omega)); clear hb hk hy1; have hcz3_0 : w3.cell? ⟨gb, 0, none⟩ = some (.slice Ao0 l0_0.length co0) := (blk_cell BK3.out 0).trans rfl; have hcz3_1 : w3.cell? ⟨gb, 1, none⟩ = some (.slice Ao1 l0_1.length co1) := (blk_cell BK3.out 1).trans rfl; have hcz3_2 : w3.cell? ⟨gb, 2, none⟩ = some (.slice Ao2 l0_2.length co2) := (blk_cell BK3.out 2).trans rfl; have hcz3_3 : w3.cell? ⟨gb, 3, none⟩ = some (.slice Ao3 l0_3.length co3) := (blk_cell BK3.out 3).trans rfl; have hfz3_0 := blk_frozen BK3.out 0; have hfz3_1 := blk_frozen BK3.out 1; have hfz3_2 := blk_frozen BK3.out 2; have hfz3_3 := blk_frozen BK3.out 3)
    | (go_at_call 15; (with_reducible refine (laws_markIntS.calls k (fun k_ => P0_2_ k_ ∧ k_ < w.heap.size) (.slice Ao2 l0_2.length co2) l0_2 m2 m3 n2 w0 _ ?s1 ?s2 A3.out).mono ?_); (case s1 => exact (by repeat (first | (with_reducible first | exact HB3.out | apply below_alloc | apply pw_below_drewN | apply below_drew1) | exact HB3.out))); (case s2 => exact HO2_3.out); rintro e w4 ⟨rfl, hy2, hb, hk⟩; have HO0_4 := Aside0.mk (Kd.R_kept HO0_3.out hk (fun k_ a_ b_ => HP0_2.out k_ a_.1 b_.1)); have HO1_4 := Aside0.mk (Kd.R_kept HO1_3.out hk (fun k_ a_ b_ => HP1_2.out k_ a_.1 b_.1)); have HO2_4 := Aside0.mk (Kd.R_reok rfl hy2 (fun k_ e_ => HO2_3.out.1 k_ e_)); have HO3_4 := Aside0.mk (Kd.S_kept HO3_3.out hk (fun k_ a_ b_ => HP3_2.out k_ a_.1 b_.1)); have HK4 := Aside0.mk (Kept.then_ (S := (fun k_ => P0_0_ k_ ∨ P0_1_ k_ ∨ P0_2_ k_ ∨ P0_3_ k_)) (by repeat (first | (with_reducible first | exact HK3.out | apply Kept.alloc | apply Kept.drewN | apply Kept.drew) | exact HK3.out)) hk (fun k_ b_ => .inl ((.inr (.inr (.inl b_.1)))))); have HB4 := Aside0.mk hb; have BK4 := Aside0.mk (blk_kept (by (with_reducible repeat (first | refine blk_drewN ?_ _ | refine blk_drew ?_ | refine blk_alloc ?_ _)); exact BK3.out) hk (fun b_ => by have g_ := GW.out; have l_ := (b_.2 : gb < w.heap.size); omega)); clear hb hk hy2; have hcz4_0 : w4.cell? ⟨gb, 0, none⟩ = some (.slice Ao0 l0_0.length co0) := (blk_cell BK4.out 0).trans rfl; have hcz4_1 : w4.cell? ⟨gb, 1, none⟩ = some (.slice Ao1 l0_1.length co1) := (blk_cell BK4.out 1).trans rfl; have hcz4_2 : w4.cell? ⟨gb, 2, none⟩ = some (.slice Ao2 l0_2.length co2) := (blk_cell BK4.out 2).trans rfl; have hcz4_3 : w4.cell? ⟨gb, 3, none⟩ = some (.slice Ao3 l0_3.length co3) := (blk_cell BK4.out 3).trans rfl; have hfz4_0 := blk_frozen BK4.out 0; have hfz4_1 := blk_frozen BK4.out 1; have hfz4_2 := blk_frozen BK4.out 2; have hfz4_3 := blk_frozen BK4.out 3)
    | (go_at_call 41; (with_reducible refine (laws_markIntSS.calls k (fun k_ => P0_3_ k_ ∧ k_ < w.heap.size) (.slice Ao3 l0_3.length co3) l0_3 m3 m4 n3 w0 _ ?s1 ?s2 A4.out).mono ?_); (case s1 => exact (by repeat (first | (with_reducible first | exact HB4.out | apply below_alloc | apply pw_below_drewN | apply below_drew1) | exact HB4.out))); (case s2 => exact HO3_4.out); rintro e w5 ⟨rfl, hy3, hb, hk⟩; have HO0_5 := Aside0.mk (Kd.R_kept HO0_4.out hk (fun k_ a_ b_ => HP0_3.out k_ a_.1 b_.1)); have HO1_5 := Aside0.mk (Kd.R_kept HO1_4.out hk (fun k_ a_ b_ => HP1_3.out k_ a_.1 b_.1)); have HO2_5 := Aside0.mk (Kd.R_kept HO2_4.out hk (fun k_ a_ b_ => HP2_3.out k_ a_.1 b_.1)); have HO3_5 := Aside0.mk hy3; have HK5 := Aside0.mk (Kept.then_ (S := (fun k_ => P0_0_ k_ ∨ P0_1_ k_ ∨ P0_2_ k_ ∨ P0_3_ k_)) (by repeat (first | (with_reducible first | exact HK4.out | apply Kept.alloc | apply Kept.drewN | apply Kept.drew) | exact HK4.out)) hk (fun k_ b_ => .inl ((.inr (.inr (.inr (b_.1))))))); have HB5 := Aside0.mk hb; have BK5 := Aside0.mk (blk_kept (by (with_reducible repeat (first | refine blk_drewN ?_ _ | refine blk_drew ?_ | refine blk_alloc ?_ _)); exact BK4.out) hk (fun b_ => by have g_ := GW.out; have l_ := (b_.2 : gb < w.heap.size); omega)); clear hb hk hy3))
  go_ret
  exact ⟨by first | rfl | (simp; done) | (simp [*]; done), Kd.R_mono (ok := fun k_ => P0_0_ k_ ∧ k_ < w.heap.size) (by (with_reducible repeat (first | apply Kd.R_alloc | apply Kd.R_drewN | apply Kd.R_drew)); exact HO0_5.out) (fun _ a_ => a_.1), Kd.R_mono (ok := fun k_ => P0_1_ k_ ∧ k_ < w.heap.size) (by (with_reducible repeat (first | apply Kd.R_alloc | apply Kd.R_drewN | apply Kd.R_drew)); exact HO1_5.out) (fun _ a_ => a_.1), Kd.R_mono (ok := fun k_ => P0_2_ k_ ∧ k_ < w.heap.size) (by (with_reducible repeat (first | apply Kd.R_alloc | apply Kd.R_drewN | apply Kd.R_drew)); exact HO2_5.out) (fun _ a_ => a_.1), Kd.S_mono (ok := fun k_ => P0_3_ k_ ∧ k_ < w.heap.size) (by (with_reducible repeat (first | apply Kd.S_alloc | apply Kd.S_drewN | apply Kd.S_drew)); exact HO3_5.out) (fun _ a_ => a_.1), (by repeat (first | (with_reducible first | exact HB5.out | apply below_alloc | apply pw_below_drewN | apply below_drew1) | exact HB5.out)), (by repeat (first | (with_reducible first | exact HK5.out | apply Kept.alloc | apply Kept.drewN | apply Kept.drew) | exact HK5.out))⟩

def laws_markHitS.l0 : Nat → List (S59) → Int → Int → Option (Int × (List (S59)))
 | 0, _, _, _ => none
 | k + 1, x0, x1, x5 => if x5 < (x0.length : Int) then (if 0 ≤ x5 then ((some (x0.set (x5 : Int).toNat (⟨x1, (rd_T59 x0 x5).f1, (rd_T59 x0 x5).f2⟩ : S59) : List (S59))).bind fun y233 => ((some (y233.set (x5 : Int).toNat (⟨(rd_T59 y233 x5).f0, wrap64 (x1 + 1), (rd_T59 y233 x5).f2⟩ : S59) : List (S59))).bind fun y234 => (laws_markHitS.l0 k (y234.set (x5 : Int).toNat (⟨(rd_T59 y234 x5).f0, (rd_T59 y234 x5).f1, wrap64 ((wrap64 (x1 + 1)) + 1)⟩ : S59)) (wrap64 ((wrap64 ((wrap64 (x1 + 1)) + 1)) + 1)) (wrap64 (x5 + 1))))) else (none)) else (some (x1, x0))
def laws_markHitS.f (k : Nat) (l0 : List (S59)) (a1 : Int) : Option (Int × (List (S59))) := laws_markHitS.l0 k l0 a1 0
theorem laws_markHitS.mono_l : ∀ k, (∀ y0 y1 y2, LeO (laws_markHitS.l0 k y0 y1 y2) (laws_markHitS.l0 (k + 1) y0 y1 y2))
 | 0 => fun _ _ _ r h => by simp [laws_markHitS.l0] at h
 | k + 1 => by
  have ih0 := laws_markHitS.mono_l k
  ·intro y0 y1 y2
   unfold laws_markHitS.l0
   repeat' first
   | (with_reducible exact ih0 _ _ _)
   | (with_reducible exact LeO.refl _)
   | (with_reducible exact LeO.none _)
   | (with_reducible refine LeO.ite ?_ ?_)
   | (with_reducible refine LeO.bind ?_ (fun _ => ?_))
   | exact ih0 _ _ _
   | exact LeO.none _
   | refine LeO.ite ?_ ?_
   | refine LeO.bind ?_ (fun _ => ?_)
theorem laws_markHitS.mono : ∀ a0 a1 k, LeO (laws_markHitS.f k a0 a1) (laws_markHitS.f (k + 1) a0 a1) := by
 intro a0 a1 k
 have ih0 := laws_markHitS.mono_l k
 unfold laws_markHitS.f
 repeat' first
   | (with_reducible exact ih0 _ _ _)
   | (with_reducible exact LeO.refl _)
   | (with_reducible exact LeO.none _)
   | (with_reducible refine LeO.ite ?_ ?_)
   | (with_reducible refine LeO.bind ?_ (fun _ => ?_))
   | exact ih0 _ _ _
   | exact LeO.none _
   | refine LeO.ite ?_ ?_
   | refine LeO.bind ?_ (fun _ => ?_)
set_option maxHeartbeats 8000000 in
set_option maxRecDepth 100000 in
theorem laws_markHitS.calls (k : Nat) (P0_ : Nat → Prop) (u9000_ : Value) (l0 : List (S59)) (a1 : Int) (r1 : Int) (r2 : List (S59)) (w0 w : World) (hB : Below w0.heap.size w0 w) (ho0 : Kd.R k59 59 w w0.heap.size P0_ u9000_ l0) (h : laws_markHitS.f k l0 a1 = some (r1, r2)) :
  Calls Try.prog 16 #[u9000_, .int .i64 a1] w fun e w' => e = .returned (.int .i64 r1) ∧ Kd.R k59 59 w' w0.heap.size (fun k_ => (P0_ k_ ∨ w.heap.size ≤ k_)) u9000_ r2 ∧ Below w0.heap.size w0 w' ∧ Kept w w' (fun k_ => P0_ k_) := by
 have HO0 := Aside0.mk (show Kd.R k59 59 w w0.heap.size (fun k_ => (P0_ k_ ∨ w.heap.size ≤ k_)) u9000_ l0 from Kd.R_mono ho0 (fun k_ hk => (.inl hk)))
 have HK := Aside0.mk (Kept.refl w (fun k_ => P0_ k_))
 have HW0 := Aside0.mk hB.size
 have HB := Aside0.mk hB
 clear hB
 have H : (laws_markHitS.l0 k l0 a1 0) = some (r1, r2) := h
 clear h
 have H' := Aside0.mk H
 clear H
 go_enter Try.func16, Try.ntmps16
 go_wp2
 go_loopg [1, 5] k (fun kq v1 v5 w' => ∃ (x0_1 : List (S59)) (x1_1 : Int) (x5_1 : Int), v1 = .int .i64 x1_1 ∧ v5 = .int .i64 x5_1 ∧ Aside0 (laws_markHitS.l0 kq x0_1 x1_1 x5_1 = some (r1, r2)) ∧ Aside0 (kq ≤ k) ∧ Aside0 (Kd.R k59 59 w' w0.heap.size (fun k_ => (P0_ k_ ∨ w.heap.size ≤ k_)) u9000_ x0_1) ∧ Aside0 (Kept w w' (fun k_ => P0_ k_)) ∧ Aside0 (Below w0.heap.size w0 w'))
 case atStart => exact ⟨(l0), (a1), (0), (by first | rfl | (simp; done) | (simp [*]; done)), (by first | rfl | (simp; done) | (simp [*]; done)), H', ⟨Nat.le_refl _⟩, ⟨by (with_reducible repeat (first | apply Kd.R_alloc | apply Kd.R_drewN | apply Kd.R_drew)); exact HO0.out⟩, ⟨by repeat (first | (with_reducible first | exact HK.out | apply Kept.alloc | apply Kept.drewN | apply Kept.drew) | exact HK.out)⟩, ⟨by repeat (first | (with_reducible first | exact HB.out | apply below_alloc | apply pw_below_drewN | apply below_drew1) | exact HB.out)⟩⟩
 case round =>
  clear H'
  try clear c1
  try clear p2
  obtain ⟨x0_1, x1_1, x5_1, rfl, rfl, HA, HK1, HO_0, HK, HB⟩ := hrel
  cases gk with
  | zero => exact absurd HA.out (by simp [laws_markHitS.l0])
  | succ k1 =>
   have H := HA.out
   clear HA
   simp only [laws_markHitS.l0] at H
   by_cases c3 : x5_1 < (x0_1.length : Int)
   ·rw [if_pos c3] at H
    have c3b0 : decide (x5_1 < (x0_1.length : Int)) = true := decide_eq_true c3
    clear c3
    by_cases c4 : 0 ≤ x5_1
    ·rw [if_pos c4] at H
     have c4b0 : decide (0 ≤ x5_1) = true := decide_eq_true c4
     clear c4
     obtain ⟨y233, hy233⟩ : ∃ y_ : List (S59), y_ = (x0_1.set (x5_1 : Int).toNat (⟨x1_1, (rd_T59 x0_1 x5_1).f1, (rd_T59 x0_1 x5_1).f2⟩ : S59)) := ⟨_, rfl⟩
     replace H : ((some (y233.set (x5_1 : Int).toNat (⟨(rd_T59 y233 x5_1).f0, wrap64 (x1_1 + 1), (rd_T59 y233 x5_1).f2⟩ : S59) : List (S59))).bind fun y234 => (laws_markHitS.l0 k1 (y234.set (x5_1 : Int).toNat (⟨(rd_T59 y234 x5_1).f0, (rd_T59 y234 x5_1).f1, wrap64 ((wrap64 (x1_1 + 1)) + 1)⟩ : S59)) (wrap64 ((wrap64 ((wrap64 (x1_1 + 1)) + 1)) + 1)) (wrap64 (x5_1 + 1)))) = some (r1, r2) := by first | (rw [hy233]; with_reducible exact H) | (have H2_ := (Option.bind_some _ _).symm.trans H; rw [hy233]; with_reducible exact H2_) | (have H2_ := (Option.bind_some _ _).symm.trans H; with_reducible exact H2_) | with_reducible exact H | (rw [hy233]; exact H) | exact H
     have Ny233 := Aside0.mk hy233
     clear hy233
     obtain ⟨y234, hy234⟩ : ∃ y_ : List (S59), y_ = (y233.set (x5_1 : Int).toNat (⟨(rd_T59 y233 x5_1).f0, wrap64 (x1_1 + 1), (rd_T59 y233 x5_1).f2⟩ : S59)) := ⟨_, rfl⟩
     replace H : (laws_markHitS.l0 k1 (y234.set (x5_1 : Int).toNat (⟨(rd_T59 y234 x5_1).f0, (rd_T59 y234 x5_1).f1, wrap64 ((wrap64 (x1_1 + 1)) + 1)⟩ : S59)) (wrap64 ((wrap64 ((wrap64 (x1_1 + 1)) + 1)) + 1)) (wrap64 (x5_1 + 1))) = some (r1, r2) := by first | (rw [hy234]; with_reducible exact H) | (have H2_ := (Option.bind_some _ _).symm.trans H; rw [hy234]; with_reducible exact H2_) | (have H2_ := (Option.bind_some _ _).symm.trans H; with_reducible exact H2_) | with_reducible exact H | (rw [hy234]; exact H) | exact H
     have Ny234 := Aside0.mk hy234
     clear hy234
     obtain ⟨y235, hy235⟩ : ∃ y_ : List (S59), y_ = (y234.set (x5_1 : Int).toNat (⟨(rd_T59 y234 x5_1).f0, (rd_T59 y234 x5_1).f1, wrap64 ((wrap64 (x1_1 + 1)) + 1)⟩ : S59)) := ⟨_, rfl⟩
     replace H : (laws_markHitS.l0 k1 y235 (wrap64 ((wrap64 ((wrap64 (x1_1 + 1)) + 1)) + 1)) (wrap64 (x5_1 + 1))) = some (r1, r2) := by first | (rw [hy235]; with_reducible exact H) | (have H2_ := (Option.bind_some _ _).symm.trans H; rw [hy235]; with_reducible exact H2_) | (have H2_ := (Option.bind_some _ _).symm.trans H; with_reducible exact H2_) | with_reducible exact H | (rw [hy235]; exact H) | exact H
     have Ny235 := Aside0.mk hy235
     clear hy235
     have H' := Aside0.mk H
     clear H
     obtain ⟨Ao8, co8, eo8⟩ := Kd.R_slice HO_0.out
     subst eo8
     have p5 : 0 ≤ (x5_1 : Int) := of_decide_eq_true (by first | (with_reducible assumption) | assumption)
     have q5 : (x5_1 : Int) < ((x0_1.length : Int) : Int) := of_decide_eq_true (by first | (with_reducible assumption) | assumption)
     obtain ⟨go5, co5, eo5, gb5, gl5, cl5, HG5⟩ := Kd.R_form HO_0.out (by omega)
     (first | cases eo5 | (injection eo5 with ea_ en_ ec_; (first | subst ea_ | (injection ea_ with ea_; subst ea_)); subst ec_; clear en_))
     have GB5 := Aside0.mk gb5
     have GG5 := Aside0.mk HG5
     clear gb5 gl5 HG5
     have HMgo5 := Aside0.mk (show (P0_ go5 ∨ w.heap.size ≤ go5) from (HO_0.out.1 _ rfl))
     obtain ⟨ce5, hcl5, hM5, hcc5, hfr5⟩ := Kd.R_elem HO_0.out z59 (x5_1 : Int) p5 q5
     obtain rfl := k59_openM hM5
     have hx5_0 : wr.cell? ⟨go5, (x5_1 : Int).toNat * 3, none⟩ = some (.int .i64 ((rd_T59 x0_1 x5_1).f0)) := hcc5 0 _ rfl
     have hx5_1 : wr.cell? ⟨go5, (x5_1 : Int).toNat * 3 + 1, none⟩ = some (.int .i64 ((rd_T59 x0_1 x5_1).f1)) := hcc5 1 _ rfl
     have hx5_2 : wr.cell? ⟨go5, (x5_1 : Int).toNat * 3 + 2, none⟩ = some (.int .i64 ((rd_T59 x0_1 x5_1).f2)) := hcc5 2 _ rfl
     have hf5_0 : wr.frozen? ⟨go5, (x5_1 : Int).toNat * 3, none⟩ = false := hfr5 0
     have hf5_1 : wr.frozen? ⟨go5, (x5_1 : Int).toNat * 3 + 1, none⟩ = false := hfr5 1
     have hf5_2 : wr.frozen? ⟨go5, (x5_1 : Int).toNat * 3 + 2, none⟩ = false := hfr5 2
     (try clear hcl5); (try clear hcc5); (try clear hfr5); (try clear hM5)
     replace p5 := eq_true p5
     replace q5 := eq_true q5
     have HX9 := Aside0.mk (show Kd.R k59 59 wr w0.heap.size (fun k_ => (P0_ k_ ∨ w.heap.size ≤ k_)) (.slice (some ⟨go5, 0, none⟩) x0_1.length co8) x0_1 from (by (with_reducible repeat (first | apply Kd.R_alloc | apply Kd.R_drewN | apply Kd.R_drew)); exact HO_0.out))
     obtain ⟨ce9, hcl9, hM9, hcc9, hfr9⟩ := Kd.R_elem HX9.out z59 (x5_1 : Int) (of_decide_eq_true (by first | (with_reducible assumption) | assumption)) (by have h_ : (x5_1 : Int) < ((x0_1.length : Int) : Int) := of_decide_eq_true (by first | (with_reducible assumption) | assumption); first | exact h_ | (have e_ := (Kd.R_reads' HO_0.out).1; omega) | simpa using h_)
     obtain rfl := k59_openM hM9
     have HP9 := Kd.R_seg HX9.out (x5_1 : Int) (of_decide_eq_true (by first | (with_reducible assumption) | assumption)) (by have h_ : (x5_1 : Int) < ((x0_1.length : Int) : Int) := of_decide_eq_true (by first | (with_reducible assumption) | assumption); first | exact h_ | (have e_ := (Kd.R_reads' HO_0.out).1; omega) | simpa using h_) (seg := [.int .i64 x1_1]) (j := 0) hcl9 hcc9 (show 1 ≤ 3 from by decide) (x' := (⟨x1_1, (rd_T59 x0_1 x5_1).f1, (rd_T59 x0_1 x5_1).f2⟩ : S59)) (k59_mkM _ _ _ (⟨x1_1, (rd_T59 x0_1 x5_1).f1, (rd_T59 x0_1 x5_1).f2⟩ : S59) ) (fun _ hk => hk)
     have hx9_0 := hcc9 0 _ rfl
     (try simp only [show (k59).sz = 3 from rfl, Nat.mul_one, Nat.add_zero] at hx9_0)
     have hf9_0 := hfr9 0
     (try simp only [show (k59).sz = 3 from rfl, Nat.mul_one, Nat.add_zero] at hf9_0)
     (try clear hcl9); (try clear hcc9); (try clear hfr9); (try clear hM9)
     go_wp2_with (first | ((with_reducible refine gate_store (t := 3) (p := 16) rfl ?_); refine store_event (t := 3) (p := 16) (v := ?vo_w10) (w1 := (wr.setCell ⟨go5, (x5_1 : Int).toNat * 3, none⟩ (.int .i64 x1_1))) ?hg ?ho ?hn ?hr ?_; (case ho => rfl); (case hg => rfl); (case hn => rfl); (case hr => first | (go_simp; done) | (go_simp; rfl)); intro w10 hw; have hg : wr.grownBy w10 (some go5) := (by rw [hw]; exact HP9.2); have hp_ : Kd.R k59 59 w10 w0.heap.size (fun k_ => (P0_ k_ ∨ w.heap.size ≤ k_)) (.slice (some ⟨go5, 0, none⟩) x0_1.length co8) y233 := (by rw [hw, Ny233.out]; exact HP9.1); clear HP9; have n0_ := Aside0.mk (hp_); have n1_ := Aside0.mk ((by rw [hw]; exact below_set (HB.out) GB5.out : Below w0.heap.size w0 w10)); have n2_ := Aside0.mk (Kept.of_grown (S := (fun k_ => P0_ k_)) hg (by repeat (first | (with_reducible first | exact HK.out | apply Kept.alloc | apply Kept.drewN | apply Kept.drew) | exact HK.out)) (fun k_ e_ => (HO_0.out.1 k_ e_))); clear HO_0; clear HB; clear HK; have HO_0 := n0_; have HB := n1_; have HK := n2_; clear n0_ n1_ n2_; clear hg hw hp_; have p6 : 0 ≤ (x5_1 : Int) := of_decide_eq_true (by first | (with_reducible assumption) | assumption); have q6 : (x5_1 : Int) < ((x0_1.length : Int) : Int) := of_decide_eq_true (by first | (with_reducible assumption) | assumption); obtain ⟨ce6, hcl6, hM6, hcc6, hfr6⟩ := Kd.R_elem HO_0.out z59 (x5_1 : Int) p6 q6; obtain rfl := k59_openM hM6; have hx6_0 : w10.cell? ⟨go5, (x5_1 : Int).toNat * 3, none⟩ = some (.int .i64 ((rd_T59 y233 x5_1).f0)) := hcc6 0 _ rfl; have hx6_1 : w10.cell? ⟨go5, (x5_1 : Int).toNat * 3 + 1, none⟩ = some (.int .i64 ((rd_T59 y233 x5_1).f1)) := hcc6 1 _ rfl; have hx6_2 : w10.cell? ⟨go5, (x5_1 : Int).toNat * 3 + 2, none⟩ = some (.int .i64 ((rd_T59 y233 x5_1).f2)) := hcc6 2 _ rfl; have hf6_0 : w10.frozen? ⟨go5, (x5_1 : Int).toNat * 3, none⟩ = false := hfr6 0; have hf6_1 : w10.frozen? ⟨go5, (x5_1 : Int).toNat * 3 + 1, none⟩ = false := hfr6 1; have hf6_2 : w10.frozen? ⟨go5, (x5_1 : Int).toNat * 3 + 2, none⟩ = false := hfr6 2; (try clear hcl6); (try clear hcc6); (try clear hfr6); (try clear hM6); replace p6 := eq_true p6; replace q6 := eq_true q6; have HX11 := Aside0.mk (show Kd.R k59 59 w10 w0.heap.size (fun k_ => (P0_ k_ ∨ w.heap.size ≤ k_)) (.slice (some ⟨go5, 0, none⟩) x0_1.length co8) y233 from (by (with_reducible repeat (first | apply Kd.R_alloc | apply Kd.R_drewN | apply Kd.R_drew)); exact HO_0.out)); obtain ⟨ce11, hcl11, hM11, hcc11, hfr11⟩ := Kd.R_elem HX11.out z59 (x5_1 : Int) (of_decide_eq_true (by first | (with_reducible assumption) | assumption)) (by have h_ : (x5_1 : Int) < ((x0_1.length : Int) : Int) := of_decide_eq_true (by first | (with_reducible assumption) | assumption); first | exact h_ | (have e_ := (Kd.R_reads' HO_0.out).1; omega) | simpa using h_); obtain rfl := k59_openM hM11; have HP11 := Kd.R_seg HX11.out (x5_1 : Int) (of_decide_eq_true (by first | (with_reducible assumption) | assumption)) (by have h_ : (x5_1 : Int) < ((x0_1.length : Int) : Int) := of_decide_eq_true (by first | (with_reducible assumption) | assumption); first | exact h_ | (have e_ := (Kd.R_reads' HO_0.out).1; omega) | simpa using h_) (seg := [.int .i64 (wrap64 (x1_1 + 1))]) (j := 1) hcl11 hcc11 (show 2 ≤ 3 from by decide) (x' := (⟨(rd_T59 y233 x5_1).f0, wrap64 (x1_1 + 1), (rd_T59 y233 x5_1).f2⟩ : S59)) (k59_mkM _ _ _ (⟨(rd_T59 y233 x5_1).f0, wrap64 (x1_1 + 1), (rd_T59 y233 x5_1).f2⟩ : S59) ) (fun _ hk => hk); have hx11_1 := hcc11 1 _ rfl; (try simp only [show (k59).sz = 3 from rfl, Nat.mul_one, Nat.add_zero] at hx11_1); have hf11_1 := hfr11 1; (try simp only [show (k59).sz = 3 from rfl, Nat.mul_one, Nat.add_zero] at hf11_1); (try clear hcl11); (try clear hcc11); (try clear hfr11); (try clear hM11)) | ((with_reducible refine gate_store (t := 3) (p := 23) rfl ?_); refine store_event (t := 3) (p := 23) (v := ?vo_w12) (w1 := (w10.setCell ⟨go5, (x5_1 : Int).toNat * 3 + 1, none⟩ (.int .i64 (wrap64 (x1_1 + 1))))) ?hg ?ho ?hn ?hr ?_; (case ho => rfl); (case hg => rfl); (case hn => rfl); (case hr => first | (go_simp; done) | (go_simp; rfl)); intro w12 hw; have hg : w10.grownBy w12 (some go5) := (by rw [hw]; exact HP11.2); have hp_ : Kd.R k59 59 w12 w0.heap.size (fun k_ => (P0_ k_ ∨ w.heap.size ≤ k_)) (.slice (some ⟨go5, 0, none⟩) x0_1.length co8) y234 := (by rw [hw, Ny234.out]; exact HP11.1); clear HP11; have n0_ := Aside0.mk (hp_); have n1_ := Aside0.mk ((by rw [hw]; exact below_set (HB.out) GB5.out : Below w0.heap.size w0 w12)); have n2_ := Aside0.mk (Kept.of_grown (S := (fun k_ => P0_ k_)) hg (by repeat (first | (with_reducible first | exact HK.out | apply Kept.alloc | apply Kept.drewN | apply Kept.drew) | exact HK.out)) (fun k_ e_ => (HO_0.out.1 k_ e_))); clear HO_0; clear HB; clear HK; have HO_0 := n0_; have HB := n1_; have HK := n2_; clear n0_ n1_ n2_; clear hg hw hp_; have p7 : 0 ≤ (x5_1 : Int) := of_decide_eq_true (by first | (with_reducible assumption) | assumption); have q7 : (x5_1 : Int) < ((x0_1.length : Int) : Int) := of_decide_eq_true (by first | (with_reducible assumption) | assumption); obtain ⟨ce7, hcl7, hM7, hcc7, hfr7⟩ := Kd.R_elem HO_0.out z59 (x5_1 : Int) p7 q7; obtain rfl := k59_openM hM7; have hx7_0 : w12.cell? ⟨go5, (x5_1 : Int).toNat * 3, none⟩ = some (.int .i64 ((rd_T59 y234 x5_1).f0)) := hcc7 0 _ rfl; have hx7_1 : w12.cell? ⟨go5, (x5_1 : Int).toNat * 3 + 1, none⟩ = some (.int .i64 ((rd_T59 y234 x5_1).f1)) := hcc7 1 _ rfl; have hx7_2 : w12.cell? ⟨go5, (x5_1 : Int).toNat * 3 + 2, none⟩ = some (.int .i64 ((rd_T59 y234 x5_1).f2)) := hcc7 2 _ rfl; have hf7_0 : w12.frozen? ⟨go5, (x5_1 : Int).toNat * 3, none⟩ = false := hfr7 0; have hf7_1 : w12.frozen? ⟨go5, (x5_1 : Int).toNat * 3 + 1, none⟩ = false := hfr7 1; have hf7_2 : w12.frozen? ⟨go5, (x5_1 : Int).toNat * 3 + 2, none⟩ = false := hfr7 2; (try clear hcl7); (try clear hcc7); (try clear hfr7); (try clear hM7); replace p7 := eq_true p7; replace q7 := eq_true q7; have HX13 := Aside0.mk (show Kd.R k59 59 w12 w0.heap.size (fun k_ => (P0_ k_ ∨ w.heap.size ≤ k_)) (.slice (some ⟨go5, 0, none⟩) x0_1.length co8) y234 from (by (with_reducible repeat (first | apply Kd.R_alloc | apply Kd.R_drewN | apply Kd.R_drew)); exact HO_0.out)); obtain ⟨ce13, hcl13, hM13, hcc13, hfr13⟩ := Kd.R_elem HX13.out z59 (x5_1 : Int) (of_decide_eq_true (by first | (with_reducible assumption) | assumption)) (by have h_ : (x5_1 : Int) < ((x0_1.length : Int) : Int) := of_decide_eq_true (by first | (with_reducible assumption) | assumption); first | exact h_ | (have e_ := (Kd.R_reads' HO_0.out).1; omega) | simpa using h_); obtain rfl := k59_openM hM13; have HP13 := Kd.R_seg HX13.out (x5_1 : Int) (of_decide_eq_true (by first | (with_reducible assumption) | assumption)) (by have h_ : (x5_1 : Int) < ((x0_1.length : Int) : Int) := of_decide_eq_true (by first | (with_reducible assumption) | assumption); first | exact h_ | (have e_ := (Kd.R_reads' HO_0.out).1; omega) | simpa using h_) (seg := [.int .i64 (wrap64 ((wrap64 (x1_1 + 1)) + 1))]) (j := 2) hcl13 hcc13 (show 3 ≤ 3 from by decide) (x' := (⟨(rd_T59 y234 x5_1).f0, (rd_T59 y234 x5_1).f1, wrap64 ((wrap64 (x1_1 + 1)) + 1)⟩ : S59)) (k59_mkM _ _ _ (⟨(rd_T59 y234 x5_1).f0, (rd_T59 y234 x5_1).f1, wrap64 ((wrap64 (x1_1 + 1)) + 1)⟩ : S59) ) (fun _ hk => hk); have hx13_2 := hcc13 2 _ rfl; (try simp only [show (k59).sz = 3 from rfl, Nat.mul_one, Nat.add_zero] at hx13_2); have hf13_2 := hfr13 2; (try simp only [show (k59).sz = 3 from rfl, Nat.mul_one, Nat.add_zero] at hf13_2); (try clear hcl13); (try clear hcc13); (try clear hfr13); (try clear hM13)) | ((with_reducible refine gate_store (t := 3) (p := 30) rfl ?_); refine store_event (t := 3) (p := 30) (v := ?vo_w14) (w1 := (w12.setCell ⟨go5, (x5_1 : Int).toNat * 3 + 2, none⟩ (.int .i64 (wrap64 ((wrap64 (x1_1 + 1)) + 1))))) ?hg ?ho ?hn ?hr ?_; (case ho => rfl); (case hg => rfl); (case hn => rfl); (case hr => first | (go_simp; done) | (go_simp; rfl)); intro w14 hw; have hg : w12.grownBy w14 (some go5) := (by rw [hw]; exact HP13.2); have hp_ : Kd.R k59 59 w14 w0.heap.size (fun k_ => (P0_ k_ ∨ w.heap.size ≤ k_)) (.slice (some ⟨go5, 0, none⟩) x0_1.length co8) y235 := (by rw [hw, Ny235.out]; exact HP13.1); clear HP13; have n0_ := Aside0.mk (hp_); have n1_ := Aside0.mk ((by rw [hw]; exact below_set (HB.out) GB5.out : Below w0.heap.size w0 w14)); have n2_ := Aside0.mk (Kept.of_grown (S := (fun k_ => P0_ k_)) hg (by repeat (first | (with_reducible first | exact HK.out | apply Kept.alloc | apply Kept.drewN | apply Kept.drew) | exact HK.out)) (fun k_ e_ => (HO_0.out.1 k_ e_))); clear HO_0; clear HB; clear HK; have HO_0 := n0_; have HB := n1_; have HK := n2_; clear n0_ n1_ n2_; clear hg hw hp_))
     go_roundg k1
     case measure => have := HK1.out; omega
     case rel => exact ⟨(y235), (wrap64 ((wrap64 ((wrap64 (x1_1 + 1)) + 1)) + 1)), (wrap64 (x5_1 + 1)), (by first | rfl | (simp; done) | (simp [*]; done)), (by first | rfl | (simp; done) | (simp [*]; done)), H', ⟨by have := HK1.out; omega⟩, ⟨by (with_reducible repeat (first | apply Kd.R_alloc | apply Kd.R_drewN | apply Kd.R_drew)); exact HO_0.out⟩, ⟨by repeat (first | (with_reducible first | exact HK.out | apply Kept.alloc | apply Kept.drewN | apply Kept.drew) | exact HK.out)⟩, ⟨by repeat (first | (with_reducible first | exact HB.out | apply below_alloc | apply pw_below_drewN | apply below_drew1) | exact HB.out)⟩⟩
    ·rw [if_neg c4] at H
     exact absurd H (by simp)
   ·rw [if_neg c3] at H
    have c3b0 : decide (x5_1 < (x0_1.length : Int)) = false := decide_eq_false c3
    clear c3
    simp only [Option.some.injEq, Prod.mk.injEq] at H
    obtain ⟨rfl, rfl⟩ := H
    obtain ⟨Ao15, co15, eo15⟩ := Kd.R_slice HO_0.out
    subst eo15
    go_wp2
    go_ret
    exact ⟨by first | rfl | (simp [errW_none, errW_some] <;> rfl) | (simp [*, errW_none, errW_some] <;> rfl), by (with_reducible repeat (first | apply Kd.R_alloc | apply Kd.R_drewN | apply Kd.R_drew)); exact HO_0.out, by repeat (first | (with_reducible first | exact HB.out | apply below_alloc | apply pw_below_drewN | apply below_drew1) | exact HB.out), by repeat (first | (with_reducible first | exact HK.out | apply Kept.alloc | apply Kept.drewN | apply Kept.drew) | exact HK.out)⟩

def laws_heldHitS.l0 : Nat → List (S59) → Int → Int → Option (Int)
 | 0, _, _, _ => none
 | k + 1, x0, x1, x5 => if x5 < (x0.length : Int) then (if 0 ≤ x5 then (if ((rd_T59 x0 x5).f0) = x1 then (if ((rd_T59 x0 x5).f1) = (wrap64 (x1 + 1)) then (if ((rd_T59 x0 x5).f2) = (wrap64 ((wrap64 (x1 + 1)) + 1)) then (laws_heldHitS.l0 k x0 (wrap64 ((wrap64 ((wrap64 (x1 + 1)) + 1)) + 1)) (wrap64 (x5 + 1))) else (some (-1))) else (some (-1))) else (some (-1))) else (none)) else (some x1)
def laws_heldHitS.f (k : Nat) (l0 : List (S59)) (a1 : Int) : Option (Int) := laws_heldHitS.l0 k l0 a1 0
theorem laws_heldHitS.mono_l : ∀ k, (∀ y0 y1 y2, LeO (laws_heldHitS.l0 k y0 y1 y2) (laws_heldHitS.l0 (k + 1) y0 y1 y2))
 | 0 => fun _ _ _ r h => by simp [laws_heldHitS.l0] at h
 | k + 1 => by
  have ih0 := laws_heldHitS.mono_l k
  ·intro y0 y1 y2
   unfold laws_heldHitS.l0
   repeat' first
   | (with_reducible exact ih0 _ _ _)
   | (with_reducible exact LeO.refl _)
   | (with_reducible exact LeO.none _)
   | (with_reducible refine LeO.ite ?_ ?_)
   | (with_reducible refine LeO.bind ?_ (fun _ => ?_))
   | exact ih0 _ _ _
   | exact LeO.none _
   | refine LeO.ite ?_ ?_
   | refine LeO.bind ?_ (fun _ => ?_)
theorem laws_heldHitS.mono : ∀ a0 a1 k, LeO (laws_heldHitS.f k a0 a1) (laws_heldHitS.f (k + 1) a0 a1) := by
 intro a0 a1 k
 have ih0 := laws_heldHitS.mono_l k
 unfold laws_heldHitS.f
 repeat' first
   | (with_reducible exact ih0 _ _ _)
   | (with_reducible exact LeO.refl _)
   | (with_reducible exact LeO.none _)
   | (with_reducible refine LeO.ite ?_ ?_)
   | (with_reducible refine LeO.bind ?_ (fun _ => ?_))
   | exact ih0 _ _ _
   | exact LeO.none _
   | refine LeO.ite ?_ ?_
   | refine LeO.bind ?_ (fun _ => ?_)
set_option maxHeartbeats 8000000 in
set_option maxRecDepth 100000 in
theorem laws_heldHitS.calls (k : Nat) (A0 : Option Addr) (c0 : Nat) (l0 : List (S59)) (a1 : Int) (r : Int) (w : World) (hr0 : Kd.C k59 w A0 l0.length l0) (hc0 : l0.length ≤ c0) (h : laws_heldHitS.f k l0 a1 = some r) :
  Calls Try.prog 17 #[.slice A0 l0.length c0, .int .i64 a1] w fun e w' => e = .returned (.int .i64 r) ∧ Drawn0 w w' := by
 have HR0 := Aside0.mk hr0
 have HC0 := Aside0.mk hc0
 clear hr0 hc0
 have H : (laws_heldHitS.l0 k l0 a1 0) = some r := h
 clear h
 have H' := Aside0.mk H
 clear H
 go_enter Try.func17, Try.ntmps17
 go_wp2
 go_loopg [1, 5] k (fun kq v1 v5 w' => ∃ (x1_1 : Int) (x5_1 : Int), v1 = .int .i64 x1_1 ∧ v5 = .int .i64 x5_1 ∧ Aside0 (laws_heldHitS.l0 kq l0 x1_1 x5_1 = some r) ∧ Aside0 (kq ≤ k) ∧ Drawn0 w w')
 case atStart => exact ⟨(a1), (0), (by first | rfl | (simp; done) | (simp [*]; done)), (by first | rfl | (simp; done) | (simp [*]; done)), H', ⟨Nat.le_refl _⟩, by repeat (first | exact Drawn0.refl _ | apply Drawn0.step)⟩
 case round =>
  clear H'
  try clear c1
  try clear p2
  obtain ⟨x1_1, x5_1, rfl, rfl, HA, HK1, ⟨m1, rfl⟩⟩ := hrel
  cases gk with
  | zero => exact absurd HA.out (by simp [laws_heldHitS.l0])
  | succ k1 =>
   have H := HA.out
   clear HA
   simp only [laws_heldHitS.l0] at H
   by_cases c3 : x5_1 < (l0.length : Int)
   ·rw [if_pos c3] at H
    have c3b0 : decide (x5_1 < (l0.length : Int)) = true := decide_eq_true c3
    clear c3
    by_cases c4 : 0 ≤ x5_1
    ·rw [if_pos c4] at H
     have c4b0 : decide (0 ≤ x5_1) = true := decide_eq_true c4
     clear c4
     by_cases c5 : ((rd_T59 l0 x5_1).f0) = x1_1
     ·rw [if_pos c5] at H
      have c5b0 : (((rd_T59 l0 x5_1).f0) == x1_1) = true := beq_iff_eq.mpr c5
      have c5b1 : (((rd_T59 l0 x5_1).f0) != x1_1) = false := bne_eq_false_iff_eq.mpr c5
      clear c5
      by_cases c6 : ((rd_T59 l0 x5_1).f1) = (wrap64 (x1_1 + 1))
      ·rw [if_pos c6] at H
       have c6b0 : (((rd_T59 l0 x5_1).f1) == (wrap64 (x1_1 + 1))) = true := beq_iff_eq.mpr c6
       have c6b1 : (((rd_T59 l0 x5_1).f1) != (wrap64 (x1_1 + 1))) = false := bne_eq_false_iff_eq.mpr c6
       clear c6
       by_cases c7 : ((rd_T59 l0 x5_1).f2) = (wrap64 ((wrap64 (x1_1 + 1)) + 1))
       ·rw [if_pos c7] at H
        have c7b0 : (((rd_T59 l0 x5_1).f2) == (wrap64 ((wrap64 (x1_1 + 1)) + 1))) = true := beq_iff_eq.mpr c7
        have c7b1 : (((rd_T59 l0 x5_1).f2) != (wrap64 ((wrap64 (x1_1 + 1)) + 1))) = false := bne_eq_false_iff_eq.mpr c7
        clear c7
        have H' := Aside0.mk H
        clear H
        have p236 : 0 ≤ (x5_1 : Int) := of_decide_eq_true (by first | (with_reducible assumption) | assumption)
        have q236 : x5_1 < (l0.length : Int) := of_decide_eq_true (by first | (with_reducible assumption) | assumption)
        obtain ⟨ad236, e236, hx236_0, hx236_1, hx236_2⟩ := at_T59 HR0.out x5_1 p236 q236
        cases e236
        replace p236 := eq_true p236
        replace q236 := eq_true q236
        have p237 : 0 ≤ (x5_1 : Int) := of_decide_eq_true (by first | (with_reducible assumption) | assumption)
        have q237 : x5_1 < (l0.length : Int) := of_decide_eq_true (by first | (with_reducible assumption) | assumption)
        obtain ⟨ad237, e237, hx237_0, hx237_1, hx237_2⟩ := at_T59 HR0.out x5_1 p237 q237
        obtain rfl : ad236 = ad237 := (by injection e237)
        replace p237 := eq_true p237
        replace q237 := eq_true q237
        have p238 : 0 ≤ (x5_1 : Int) := of_decide_eq_true (by first | (with_reducible assumption) | assumption)
        have q238 : x5_1 < (l0.length : Int) := of_decide_eq_true (by first | (with_reducible assumption) | assumption)
        obtain ⟨ad238, e238, hx238_0, hx238_1, hx238_2⟩ := at_T59 HR0.out x5_1 p238 q238
        obtain rfl : ad236 = ad238 := (by injection e238)
        replace p238 := eq_true p238
        replace q238 := eq_true q238
        go_wp2
        go_roundg k1
        case measure => have := HK1.out; omega
        case rel => exact ⟨(wrap64 ((wrap64 ((wrap64 (x1_1 + 1)) + 1)) + 1)), (wrap64 (x5_1 + 1)), (by first | rfl | (simp; done) | (simp [*]; done)), (by first | rfl | (simp; done) | (simp [*]; done)), H', ⟨by have := HK1.out; omega⟩, by repeat (first | exact Drawn0.refl _ | apply Drawn0.step)⟩
       ·rw [if_neg c7] at H
        have c7b0 : (((rd_T59 l0 x5_1).f2) == (wrap64 ((wrap64 (x1_1 + 1)) + 1))) = false := beq_eq_false_iff_ne.mpr c7
        have c7b1 : (((rd_T59 l0 x5_1).f2) != (wrap64 ((wrap64 (x1_1 + 1)) + 1))) = true := bne_iff_ne.mpr c7
        obtain rfl := Option.some.inj H
        have p236 : 0 ≤ (x5_1 : Int) := of_decide_eq_true (by first | (with_reducible assumption) | assumption)
        have q236 : x5_1 < (l0.length : Int) := of_decide_eq_true (by first | (with_reducible assumption) | assumption)
        obtain ⟨ad236, e236, hx236_0, hx236_1, hx236_2⟩ := at_T59 HR0.out x5_1 p236 q236
        cases e236
        replace p236 := eq_true p236
        replace q236 := eq_true q236
        have p237 : 0 ≤ (x5_1 : Int) := of_decide_eq_true (by first | (with_reducible assumption) | assumption)
        have q237 : x5_1 < (l0.length : Int) := of_decide_eq_true (by first | (with_reducible assumption) | assumption)
        obtain ⟨ad237, e237, hx237_0, hx237_1, hx237_2⟩ := at_T59 HR0.out x5_1 p237 q237
        obtain rfl : ad236 = ad237 := (by injection e237)
        replace p237 := eq_true p237
        replace q237 := eq_true q237
        have p238 : 0 ≤ (x5_1 : Int) := of_decide_eq_true (by first | (with_reducible assumption) | assumption)
        have q238 : x5_1 < (l0.length : Int) := of_decide_eq_true (by first | (with_reducible assumption) | assumption)
        obtain ⟨ad238, e238, hx238_0, hx238_1, hx238_2⟩ := at_T59 HR0.out x5_1 p238 q238
        obtain rfl : ad236 = ad238 := (by injection e238)
        replace p238 := eq_true p238
        replace q238 := eq_true q238
        go_wp2
        go_ret
        exact ⟨by first | rfl | (simp; done) | (simp [*]; done), by repeat (first | exact Drawn0.refl _ | apply Drawn0.step)⟩
      ·rw [if_neg c6] at H
       have c6b0 : (((rd_T59 l0 x5_1).f1) == (wrap64 (x1_1 + 1))) = false := beq_eq_false_iff_ne.mpr c6
       have c6b1 : (((rd_T59 l0 x5_1).f1) != (wrap64 (x1_1 + 1))) = true := bne_iff_ne.mpr c6
       obtain rfl := Option.some.inj H
       have p236 : 0 ≤ (x5_1 : Int) := of_decide_eq_true (by first | (with_reducible assumption) | assumption)
       have q236 : x5_1 < (l0.length : Int) := of_decide_eq_true (by first | (with_reducible assumption) | assumption)
       obtain ⟨ad236, e236, hx236_0, hx236_1, hx236_2⟩ := at_T59 HR0.out x5_1 p236 q236
       cases e236
       replace p236 := eq_true p236
       replace q236 := eq_true q236
       have p237 : 0 ≤ (x5_1 : Int) := of_decide_eq_true (by first | (with_reducible assumption) | assumption)
       have q237 : x5_1 < (l0.length : Int) := of_decide_eq_true (by first | (with_reducible assumption) | assumption)
       obtain ⟨ad237, e237, hx237_0, hx237_1, hx237_2⟩ := at_T59 HR0.out x5_1 p237 q237
       obtain rfl : ad236 = ad237 := (by injection e237)
       replace p237 := eq_true p237
       replace q237 := eq_true q237
       go_wp2
       go_ret
       exact ⟨by first | rfl | (simp; done) | (simp [*]; done), by repeat (first | exact Drawn0.refl _ | apply Drawn0.step)⟩
     ·rw [if_neg c5] at H
      have c5b0 : (((rd_T59 l0 x5_1).f0) == x1_1) = false := beq_eq_false_iff_ne.mpr c5
      have c5b1 : (((rd_T59 l0 x5_1).f0) != x1_1) = true := bne_iff_ne.mpr c5
      obtain rfl := Option.some.inj H
      have p236 : 0 ≤ (x5_1 : Int) := of_decide_eq_true (by first | (with_reducible assumption) | assumption)
      have q236 : x5_1 < (l0.length : Int) := of_decide_eq_true (by first | (with_reducible assumption) | assumption)
      obtain ⟨ad236, e236, hx236_0, hx236_1, hx236_2⟩ := at_T59 HR0.out x5_1 p236 q236
      cases e236
      replace p236 := eq_true p236
      replace q236 := eq_true q236
      go_wp2
      go_ret
      exact ⟨by first | rfl | (simp; done) | (simp [*]; done), by repeat (first | exact Drawn0.refl _ | apply Drawn0.step)⟩
    ·rw [if_neg c4] at H
     exact absurd H (by simp)
   ·rw [if_neg c3] at H
    have c3b0 : decide (x5_1 < (l0.length : Int)) = false := decide_eq_false c3
    clear c3
    obtain rfl := Option.some.inj H
    go_wp2
    go_ret
    exact ⟨by first | rfl | (simp; done) | (simp [*]; done), by repeat (first | exact Drawn0.refl _ | apply Drawn0.step)⟩

def laws_FnExactRunAho.f (k : Nat) (l0_0 : List Int) (l0_1 : List Int) (l0_2 : List Int) (l0_3 : List (List Int)) (l1 : List Int) : Option Bool :=
  if (l1.length : Int) > 1048576 then some true else (laws_szAho.f k l0_0 l0_1 l0_2 l0_3 1048576).bind fun t1 => if t1 < 0 then some true else (laws_toAho.f k l0_0 l0_1 l0_2 l0_3).bind fun t2 => (laws_toIntS.f k l1).bind fun t3 => (spec_RunAho.f k t2.1 t2.2.1 t2.2.2.1 t2.2.2.2 t3).bind fun t4 => (laws_toAho.f k l0_0 l0_1 l0_2 l0_3).bind fun t5 => (laws_toIntS.f k l1).bind fun t6 => (impl_RunAho.f k t5.1 t5.2.1 t5.2.2.1 t5.2.2.2 t6).bind fun t7 => (laws_eqHitS.f k t7.1 t4.1).bind fun t8 => if t8 = true then if t7.2 = t4.2 then (laws_toAho.f k l0_0 l0_1 l0_2 l0_3).bind fun t9 => (laws_eqAho.f k t5.1 t5.2.1 t5.2.2.1 t5.2.2.2 t9.1 t9.2.1 t9.2.2.1 t9.2.2.2).bind fun t10 => if t10 = true then (laws_toIntS.f k l1).bind fun t11 => (laws_eqIntS.f k t6 t11).bind fun t12 => if t12 = true then (laws_markAho.f k t5.1 t5.2.1 t5.2.2.1 t5.2.2.2 1).bind fun t13 => (laws_markIntS.f k t6 t13.1).bind fun t14 => if t14.1 < 0 then none else (laws_eqHitS.f k t7.1 t4.1).bind fun t15 => if t15 = true then if t7.2 = t4.2 then (laws_markHitS.f k t7.1 1).bind fun t16 => (laws_heldHitS.f k t16.2 1).bind fun t17 => if t17 < 0 then none else if t17 = t16.1 then (laws_toAho.f k l0_0 l0_1 l0_2 l0_3).bind fun t18 => (laws_toIntS.f k l1).bind fun t19 => (impl_RunAho.f k t18.1 t18.2.1 t18.2.2.1 t18.2.2.2 t19).bind fun t20 => (laws_eqHitS.f k t20.1 t4.1).bind fun t21 => if t21 = true then if t20.2 = t4.2 then (laws_heldHitS.f k t16.2 1).bind fun t22 => if t22 < 0 then none else if t22 = t16.1 then some true else none else none else none else none else none else none else none else none else none else none
set_option maxHeartbeats 8000000 in
set_option maxRecDepth 100000 in
theorem laws_FnExactRunAho.calls (k : Nat) (A0_0 : Option Addr) (c0_0 : Nat) (l0_0 : List Int) (A0_1 : Option Addr) (c0_1 : Nat) (l0_1 : List Int) (A0_2 : Option Addr) (c0_2 : Nat) (l0_2 : List Int) (A0_3 : Option Addr) (c0_3 : Nat) (l0_3 : List (List Int)) (A1 : Option Addr) (c1 : Nat) (l1 : List Int) (r : Bool) (w : World) (hr0_0 : Kd.C (Kd.int .i64) w A0_0 l0_0.length l0_0) (hc0_0 : l0_0.length ≤ c0_0) (hr0_1 : Kd.C (Kd.int .i64) w A0_1 l0_1.length l0_1) (hc0_1 : l0_1.length ≤ c0_1) (hr0_2 : Kd.C (Kd.int .i64) w A0_2 l0_2.length l0_2) (hc0_2 : l0_2.length ≤ c0_2) (hr0_3 : Kd.C (Kd.slice 3 (Kd.int .i64)) w A0_3 l0_3.length l0_3) (hc0_3 : l0_3.length ≤ c0_3) (hr1 : Kd.C (Kd.int .i64) w A1 l1.length l1) (hc1 : l1.length ≤ c1) (h : laws_FnExactRunAho.f k l0_0 l0_1 l0_2 l0_3 l1 = some r) :
    Calls Try.prog 3 #[.agg #[.slice A0_0 l0_0.length c0_0, .slice A0_1 l0_1.length c0_1, .slice A0_2 l0_2.length c0_2, .slice A0_3 l0_3.length c0_3], .slice A1 l1.length c1] w fun e w' => e = .returned (.bool r) ∧ Below w.heap.size w w' := by
  unfold laws_FnExactRunAho.f at h
  have HR0_0 := Aside0.mk hr0_0
  have HC0_0 := Aside0.mk hc0_0
  have HR0_1 := Aside0.mk hr0_1
  have HC0_1 := Aside0.mk hc0_1
  have HR0_2 := Aside0.mk hr0_2
  have HC0_2 := Aside0.mk hc0_2
  have HR0_3 := Aside0.mk hr0_3
  have HC0_3 := Aside0.mk hc0_3
  have HR1 := Aside0.mk hr1
  have HC1 := Aside0.mk hc1
  clear hr0_0 hc0_0 hr0_1 hc0_1 hr0_2 hc0_2 hr0_3 hc0_3 hr1 hc1
  have HB0 := Aside0.mk (Below.refl w.heap.size w)
  by_cases cb : (l1.length : Int) > 1048576
  · rw [if_pos cb] at h
    obtain rfl := Option.some.inj h
    have cb0 : decide (1048576 < (l1.length : Int)) = true := decide_eq_true cb
    have cb1 : decide (1048576 < l1.length) = true := decide_eq_true (by omega)
    clear cb
    go_enter Try.func3, Try.ntmps3
    go_wp2_with (first | ((with_reducible refine gate_dst (N := 2) rfl ?_); refine box_event ?hg (N := 2) ?hd (cs := #[.slice A0_0 l0_0.length c0_0, .slice A0_1 l0_1.length c0_1, .slice A0_2 l0_2.length c0_2, .slice A0_3 l0_3.length c0_3]) (t := 25) ?hr ?_; (case hd => rfl); (case hg => rfl); (case hr => first | (go_simp; done) | (go_simp; rfl)); intro gbaA hg w1 hbox hb; have HB1 := Aside0.mk (below_step (by repeat (first | (with_reducible first | exact HB0.out | apply below_alloc | apply pw_below_drewN | apply below_drew1) | exact HB0.out)) hb); have LE1 := Aside0.mk (by have h_ := blk_lt hbox; rw [hg] at h_; exact h_ : w.heap.size < w1.heap.size); have GgbaA := Aside0.mk (show gbaA = w.heap.size from hg); have BKaA := Aside0.mk hbox; clear hb hbox hg ; have hczaA1_0 : w1.cell? ⟨gbaA, 0, none⟩ = some (.slice A0_0 l0_0.length c0_0) := (blk_cell BKaA.out 0).trans rfl; have hczaA1_1 : w1.cell? ⟨gbaA, 1, none⟩ = some (.slice A0_1 l0_1.length c0_1) := (blk_cell BKaA.out 1).trans rfl; have hczaA1_2 : w1.cell? ⟨gbaA, 2, none⟩ = some (.slice A0_2 l0_2.length c0_2) := (blk_cell BKaA.out 2).trans rfl; have hczaA1_3 : w1.cell? ⟨gbaA, 3, none⟩ = some (.slice A0_3 l0_3.length c0_3) := (blk_cell BKaA.out 3).trans rfl))
    go_ret
    exact ⟨by first | rfl | (simp; done) | (simp [*]; done), (by repeat (first | (with_reducible first | exact HB1.out | apply below_alloc | apply pw_below_drewN | apply below_drew1) | exact HB1.out))⟩
  rw [if_neg cb] at h
  have cb0_23 : decide (1048576 < (l1.length : Int)) = false := decide_eq_false cb
  have cb1_23 : decide (1048576 < l1.length) = false := decide_eq_false (by omega)
  clear cb
  obtain ⟨r1_r, hh, h⟩ := Option.bind_eq_some_iff.mp h
  have A1 := Aside0.mk hh
  clear hh
  by_cases cb : r1_r < 0
  · rw [if_pos cb] at h
    obtain rfl := Option.some.inj h
    have cb0 : decide (r1_r < 0) = true := decide_eq_true cb
    clear cb
    go_enter Try.func3, Try.ntmps3
    go_wp2_with (first | ((with_reducible refine gate_dst (N := 2) rfl ?_); refine box_event ?hg (N := 2) ?hd (cs := #[.slice A0_0 l0_0.length c0_0, .slice A0_1 l0_1.length c0_1, .slice A0_2 l0_2.length c0_2, .slice A0_3 l0_3.length c0_3]) (t := 25) ?hr ?_; (case hd => rfl); (case hg => rfl); (case hr => first | (go_simp; done) | (go_simp; rfl)); intro gbaA hg w1 hbox hb; have HB1 := Aside0.mk (below_step (by repeat (first | (with_reducible first | exact HB0.out | apply below_alloc | apply pw_below_drewN | apply below_drew1) | exact HB0.out)) hb); have LE1 := Aside0.mk (by have h_ := blk_lt hbox; rw [hg] at h_; exact h_ : w.heap.size < w1.heap.size); have GgbaA := Aside0.mk (show gbaA = w.heap.size from hg); have BKaA := Aside0.mk hbox; clear hb hbox hg ; have hczaA1_0 : w1.cell? ⟨gbaA, 0, none⟩ = some (.slice A0_0 l0_0.length c0_0) := (blk_cell BKaA.out 0).trans rfl; have hczaA1_1 : w1.cell? ⟨gbaA, 1, none⟩ = some (.slice A0_1 l0_1.length c0_1) := (blk_cell BKaA.out 1).trans rfl; have hczaA1_2 : w1.cell? ⟨gbaA, 2, none⟩ = some (.slice A0_2 l0_2.length c0_2) := (blk_cell BKaA.out 2).trans rfl; have hczaA1_3 : w1.cell? ⟨gbaA, 3, none⟩ = some (.slice A0_3 l0_3.length c0_3) := (blk_cell BKaA.out 3).trans rfl) | (go_at_call 6; (with_reducible refine (laws_szAho.calls k _ _ l0_0 _ _ l0_1 _ _ l0_2 _ _ l0_3 1048576 r1_r _ ?s1 ?s2 ?s3 ?s4 ?s5 ?s6 ?s7 ?s8 A1.out).mono ?_); (case s1 => repeat (first | exact (Kd.C_below HR0_0.out HB1.out) | (with_reducible refine Kd.C_alloc ?_ _) | (with_reducible refine Kd.C_drewN ?_ _) | (with_reducible refine Kd.C_drew ?_))); (case s2 => exact HC0_0.out); (case s3 => repeat (first | exact (Kd.C_below HR0_1.out HB1.out) | (with_reducible refine Kd.C_alloc ?_ _) | (with_reducible refine Kd.C_drewN ?_ _) | (with_reducible refine Kd.C_drew ?_))); (case s4 => exact HC0_1.out); (case s5 => repeat (first | exact (Kd.C_below HR0_2.out HB1.out) | (with_reducible refine Kd.C_alloc ?_ _) | (with_reducible refine Kd.C_drewN ?_ _) | (with_reducible refine Kd.C_drew ?_))); (case s6 => exact HC0_2.out); (case s7 => repeat (first | exact (Kd.C_below HR0_3.out HB1.out) | (with_reducible refine Kd.C_alloc ?_ _) | (with_reducible refine Kd.C_drewN ?_ _) | (with_reducible refine Kd.C_drew ?_))); (case s8 => exact HC0_3.out); rintro e w2 ⟨rfl, hb⟩; have HB2 := Aside0.mk (below_step (by repeat (first | (with_reducible first | exact HB1.out | apply below_alloc | apply pw_below_drewN | apply below_drew1) | exact HB1.out)) hb); have LE2 := Aside0.mk (below_size hb); have BKaAq1 := Aside0.mk (blk_below (g := gbaA) (o := .cells #[.slice A0_0 l0_0.length c0_0, .slice A0_1 l0_1.length c0_1, .slice A0_2 l0_2.length c0_2, .slice A0_3 l0_3.length c0_3] 25 (0, 0)) (by (with_reducible repeat (first | refine blk_drewN ?_ _ | refine blk_drew ?_ | refine blk_alloc ?_ _)); exact BKaA.out) hb); clear BKaA; have hczaA2_0 : w2.cell? ⟨gbaA, 0, none⟩ = some (.slice A0_0 l0_0.length c0_0) := (blk_cell BKaAq1.out 0).trans rfl; have hczaA2_1 : w2.cell? ⟨gbaA, 1, none⟩ = some (.slice A0_1 l0_1.length c0_1) := (blk_cell BKaAq1.out 1).trans rfl; have hczaA2_2 : w2.cell? ⟨gbaA, 2, none⟩ = some (.slice A0_2 l0_2.length c0_2) := (blk_cell BKaAq1.out 2).trans rfl; have hczaA2_3 : w2.cell? ⟨gbaA, 3, none⟩ = some (.slice A0_3 l0_3.length c0_3) := (blk_cell BKaAq1.out 3).trans rfl))
    go_ret
    exact ⟨by first | rfl | (simp; done) | (simp [*]; done), (by repeat (first | (with_reducible first | exact HB2.out | apply below_alloc | apply pw_below_drewN | apply below_drew1) | exact HB2.out))⟩
  rw [if_neg cb] at h
  have cn39 : decide (r1_r < 0) = false := decide_eq_false cb
  clear cb
  obtain ⟨⟨r2_r1, r2_r2, r2_r3, r2_r4⟩, hh, h⟩ := Option.bind_eq_some_iff.mp h
  have A2 := Aside0.mk hh
  clear hh
  dsimp only at h
  obtain ⟨r3_r, hh, h⟩ := Option.bind_eq_some_iff.mp h
  have A3 := Aside0.mk hh
  clear hh
  obtain ⟨⟨r4_r1, r4_r2⟩, hh, h⟩ := Option.bind_eq_some_iff.mp h
  have A4 := Aside0.mk hh
  clear hh
  dsimp only at h
  obtain ⟨⟨r5_r1, r5_r2, r5_r3, r5_r4⟩, hh, h⟩ := Option.bind_eq_some_iff.mp h
  have A5 := Aside0.mk hh
  clear hh
  dsimp only at h
  obtain ⟨r6_r, hh, h⟩ := Option.bind_eq_some_iff.mp h
  have A6 := Aside0.mk hh
  clear hh
  obtain ⟨⟨r7_r1, r7_r2⟩, hh, h⟩ := Option.bind_eq_some_iff.mp h
  have A7 := Aside0.mk hh
  clear hh
  dsimp only at h
  obtain ⟨r8_r, hh, h⟩ := Option.bind_eq_some_iff.mp h
  have A8 := Aside0.mk hh
  clear hh
  by_cases cb : r8_r = true
  case neg => rw [if_neg cb] at h; cases h
  rw [if_pos cb] at h
  subst cb
  by_cases cb : r7_r2 = r4_r2
  case neg => rw [if_neg cb] at h; cases h
  rw [if_pos cb] at h
  have ce71 : (r7_r2 != r4_r2) = false := by rw [cb]; exact bne_self_eq_false _
  have cf71 : (r7_r2 == r4_r2) = true := by rw [cb]; exact beq_self_eq_true _
  clear cb
  obtain ⟨⟨r9_r1, r9_r2, r9_r3, r9_r4⟩, hh, h⟩ := Option.bind_eq_some_iff.mp h
  have A9 := Aside0.mk hh
  clear hh
  dsimp only at h
  obtain ⟨r10_r, hh, h⟩ := Option.bind_eq_some_iff.mp h
  have A10 := Aside0.mk hh
  clear hh
  by_cases cb : r10_r = true
  case neg => rw [if_neg cb] at h; cases h
  rw [if_pos cb] at h
  subst cb
  obtain ⟨r11_r, hh, h⟩ := Option.bind_eq_some_iff.mp h
  have A11 := Aside0.mk hh
  clear hh
  obtain ⟨r12_r, hh, h⟩ := Option.bind_eq_some_iff.mp h
  have A12 := Aside0.mk hh
  clear hh
  by_cases cb : r12_r = true
  case neg => rw [if_neg cb] at h; cases h
  rw [if_pos cb] at h
  subst cb
  obtain ⟨⟨r13_r1, r13_r2, r13_r3, r13_r4, r13_r5⟩, hh, h⟩ := Option.bind_eq_some_iff.mp h
  have A13 := Aside0.mk hh
  clear hh
  dsimp only at h
  obtain ⟨⟨r14_r1, r14_r2⟩, hh, h⟩ := Option.bind_eq_some_iff.mp h
  have A14 := Aside0.mk hh
  clear hh
  dsimp only at h
  by_cases cb : r14_r1 < 0
  · rw [if_pos cb] at h; cases h
  rw [if_neg cb] at h
  have cn106 : decide (r14_r1 < 0) = false := decide_eq_false cb
  clear cb
  obtain ⟨r15_r, hh, h⟩ := Option.bind_eq_some_iff.mp h
  have A15 := Aside0.mk hh
  clear hh
  by_cases cb : r15_r = true
  case neg => rw [if_neg cb] at h; cases h
  rw [if_pos cb] at h
  subst cb
  by_cases cb : r7_r2 = r4_r2
  case neg => rw [if_neg cb] at h; cases h
  rw [if_pos cb] at h
  have ce118 : (r7_r2 != r4_r2) = false := by rw [cb]; exact bne_self_eq_false _
  have cf118 : (r7_r2 == r4_r2) = true := by rw [cb]; exact beq_self_eq_true _
  clear cb
  obtain ⟨⟨r16_r1, r16_r2⟩, hh, h⟩ := Option.bind_eq_some_iff.mp h
  have A16 := Aside0.mk hh
  clear hh
  dsimp only at h
  obtain ⟨r17_r, hh, h⟩ := Option.bind_eq_some_iff.mp h
  have A17 := Aside0.mk hh
  clear hh
  by_cases cb : r17_r < 0
  · rw [if_pos cb] at h; cases h
  rw [if_neg cb] at h
  have cn131 : decide (r17_r < 0) = false := decide_eq_false cb
  clear cb
  by_cases cb : r17_r = r16_r1
  case neg => rw [if_neg cb] at h; cases h
  rw [if_pos cb] at h
  have ce136 : (r17_r != r16_r1) = false := by rw [cb]; exact bne_self_eq_false _
  have cf136 : (r17_r == r16_r1) = true := by rw [cb]; exact beq_self_eq_true _
  clear cb
  obtain ⟨⟨r18_r1, r18_r2, r18_r3, r18_r4⟩, hh, h⟩ := Option.bind_eq_some_iff.mp h
  have A18 := Aside0.mk hh
  clear hh
  dsimp only at h
  obtain ⟨r19_r, hh, h⟩ := Option.bind_eq_some_iff.mp h
  have A19 := Aside0.mk hh
  clear hh
  obtain ⟨⟨r20_r1, r20_r2⟩, hh, h⟩ := Option.bind_eq_some_iff.mp h
  have A20 := Aside0.mk hh
  clear hh
  dsimp only at h
  obtain ⟨r21_r, hh, h⟩ := Option.bind_eq_some_iff.mp h
  have A21 := Aside0.mk hh
  clear hh
  by_cases cb : r21_r = true
  case neg => rw [if_neg cb] at h; cases h
  rw [if_pos cb] at h
  subst cb
  by_cases cb : r20_r2 = r4_r2
  case neg => rw [if_neg cb] at h; cases h
  rw [if_pos cb] at h
  have ce160 : (r20_r2 != r4_r2) = false := by rw [cb]; exact bne_self_eq_false _
  have cf160 : (r20_r2 == r4_r2) = true := by rw [cb]; exact beq_self_eq_true _
  clear cb
  obtain ⟨r22_r, hh, h⟩ := Option.bind_eq_some_iff.mp h
  have A22 := Aside0.mk hh
  clear hh
  by_cases cb : r22_r < 0
  · rw [if_pos cb] at h; cases h
  rw [if_neg cb] at h
  have cn169 : decide (r22_r < 0) = false := decide_eq_false cb
  clear cb
  by_cases cb : r22_r = r16_r1
  case neg => rw [if_neg cb] at h; cases h
  rw [if_pos cb] at h
  have ce174 : (r22_r != r16_r1) = false := by rw [cb]; exact bne_self_eq_false _
  have cf174 : (r22_r == r16_r1) = true := by rw [cb]; exact beq_self_eq_true _
  clear cb
  obtain rfl := Option.some.inj h
  clear h
  go_enter Try.func3, Try.ntmps3
  go_wp2_with (first
    | ((with_reducible refine gate_dst (N := 2) rfl ?_); refine box_event ?hg (N := 2) ?hd (cs := #[.slice A0_0 l0_0.length c0_0, .slice A0_1 l0_1.length c0_1, .slice A0_2 l0_2.length c0_2, .slice A0_3 l0_3.length c0_3]) (t := 25) ?hr ?_; (case hd => rfl); (case hg => rfl); (case hr => first | (go_simp; done) | (go_simp; rfl)); intro gbaA hg w1 hbox hb; have HB1 := Aside0.mk (below_step (by repeat (first | (with_reducible first | exact HB0.out | apply below_alloc | apply pw_below_drewN | apply below_drew1) | exact HB0.out)) hb); have LE1 := Aside0.mk (by have h_ := blk_lt hbox; rw [hg] at h_; exact h_ : w.heap.size < w1.heap.size); have GgbaA := Aside0.mk (show gbaA = w.heap.size from hg); have BKaA := Aside0.mk hbox; clear hb hbox hg ; have hczaA1_0 : w1.cell? ⟨gbaA, 0, none⟩ = some (.slice A0_0 l0_0.length c0_0) := (blk_cell BKaA.out 0).trans rfl; have hczaA1_1 : w1.cell? ⟨gbaA, 1, none⟩ = some (.slice A0_1 l0_1.length c0_1) := (blk_cell BKaA.out 1).trans rfl; have hczaA1_2 : w1.cell? ⟨gbaA, 2, none⟩ = some (.slice A0_2 l0_2.length c0_2) := (blk_cell BKaA.out 2).trans rfl; have hczaA1_3 : w1.cell? ⟨gbaA, 3, none⟩ = some (.slice A0_3 l0_3.length c0_3) := (blk_cell BKaA.out 3).trans rfl)
    | (go_at_call 6; (with_reducible refine (laws_szAho.calls k _ _ l0_0 _ _ l0_1 _ _ l0_2 _ _ l0_3 1048576 r1_r _ ?s1 ?s2 ?s3 ?s4 ?s5 ?s6 ?s7 ?s8 A1.out).mono ?_); (case s1 => repeat (first | exact (Kd.C_below HR0_0.out HB1.out) | (with_reducible refine Kd.C_alloc ?_ _) | (with_reducible refine Kd.C_drewN ?_ _) | (with_reducible refine Kd.C_drew ?_))); (case s2 => exact HC0_0.out); (case s3 => repeat (first | exact (Kd.C_below HR0_1.out HB1.out) | (with_reducible refine Kd.C_alloc ?_ _) | (with_reducible refine Kd.C_drewN ?_ _) | (with_reducible refine Kd.C_drew ?_))); (case s4 => exact HC0_1.out); (case s5 => repeat (first | exact (Kd.C_below HR0_2.out HB1.out) | (with_reducible refine Kd.C_alloc ?_ _) | (with_reducible refine Kd.C_drewN ?_ _) | (with_reducible refine Kd.C_drew ?_))); (case s6 => exact HC0_2.out); (case s7 => repeat (first | exact (Kd.C_below HR0_3.out HB1.out) | (with_reducible refine Kd.C_alloc ?_ _) | (with_reducible refine Kd.C_drewN ?_ _) | (with_reducible refine Kd.C_drew ?_))); (case s8 => exact HC0_3.out); rintro e w2 ⟨rfl, hb⟩; have HB2 := Aside0.mk (below_step (by repeat (first | (with_reducible first | exact HB1.out | apply below_alloc | apply pw_below_drewN | apply below_drew1) | exact HB1.out)) hb); have LE2 := Aside0.mk (below_size hb); have BKaAq1 := Aside0.mk (blk_below (g := gbaA) (o := .cells #[.slice A0_0 l0_0.length c0_0, .slice A0_1 l0_1.length c0_1, .slice A0_2 l0_2.length c0_2, .slice A0_3 l0_3.length c0_3] 25 (0, 0)) (by (with_reducible repeat (first | refine blk_drewN ?_ _ | refine blk_drew ?_ | refine blk_alloc ?_ _)); exact BKaA.out) hb); clear BKaA; have hczaA2_0 : w2.cell? ⟨gbaA, 0, none⟩ = some (.slice A0_0 l0_0.length c0_0) := (blk_cell BKaAq1.out 0).trans rfl; have hczaA2_1 : w2.cell? ⟨gbaA, 1, none⟩ = some (.slice A0_1 l0_1.length c0_1) := (blk_cell BKaAq1.out 1).trans rfl; have hczaA2_2 : w2.cell? ⟨gbaA, 2, none⟩ = some (.slice A0_2 l0_2.length c0_2) := (blk_cell BKaAq1.out 2).trans rfl; have hczaA2_3 : w2.cell? ⟨gbaA, 3, none⟩ = some (.slice A0_3 l0_3.length c0_3) := (blk_cell BKaAq1.out 3).trans rfl)
    | (go_at_call 8; (with_reducible refine (laws_toAho.calls k _ _ l0_0 _ _ l0_1 _ _ l0_2 _ _ l0_3 r2_r1 r2_r2 r2_r3 r2_r4 _ ?s1 ?s2 ?s3 ?s4 ?s5 ?s6 ?s7 ?s8 A2.out).mono ?_); (case s1 => repeat (first | exact (Kd.C_below HR0_0.out HB2.out) | (with_reducible refine Kd.C_alloc ?_ _) | (with_reducible refine Kd.C_drewN ?_ _) | (with_reducible refine Kd.C_drew ?_))); (case s2 => exact HC0_0.out); (case s3 => repeat (first | exact (Kd.C_below HR0_1.out HB2.out) | (with_reducible refine Kd.C_alloc ?_ _) | (with_reducible refine Kd.C_drewN ?_ _) | (with_reducible refine Kd.C_drew ?_))); (case s4 => exact HC0_1.out); (case s5 => repeat (first | exact (Kd.C_below HR0_2.out HB2.out) | (with_reducible refine Kd.C_alloc ?_ _) | (with_reducible refine Kd.C_drewN ?_ _) | (with_reducible refine Kd.C_drew ?_))); (case s6 => exact HC0_2.out); (case s7 => repeat (first | exact (Kd.C_below HR0_3.out HB2.out) | (with_reducible refine Kd.C_alloc ?_ _) | (with_reducible refine Kd.C_drewN ?_ _) | (with_reducible refine Kd.C_drew ?_))); (case s8 => exact HC0_3.out); rintro e w3 ⟨u2_0, u2_1, u2_2, u2_3, rfl, ho0, ho1, ho2, ho3, hb⟩; have HB3 := Aside0.mk (below_step (by repeat (first | (with_reducible first | exact HB2.out | apply below_alloc | apply pw_below_drewN | apply below_drew1) | exact HB2.out)) hb); have LE3 := Aside0.mk (below_size hb); obtain ⟨Au2_0, cu2_0, qu2_0⟩ := Kd.R_slice ho0; subst qu2_0; obtain ⟨Au2_1, cu2_1, qu2_1⟩ := Kd.R_slice ho1; subst qu2_1; obtain ⟨Au2_2, cu2_2, qu2_2⟩ := Kd.R_slice ho2; subst qu2_2; obtain ⟨Au2_3, cu2_3, qu2_3⟩ := Kd.S_slice ho3; subst qu2_3; have HOu2_0 := Aside0.mk (Kd.R_lower (R_rng ho0) (below_size (by repeat (first | (with_reducible first | exact HB2.out | apply below_alloc | apply pw_below_drewN | apply below_drew1) | exact HB2.out)))); have HOu2_1 := Aside0.mk (Kd.R_lower (R_rng ho1) (below_size (by repeat (first | (with_reducible first | exact HB2.out | apply below_alloc | apply pw_below_drewN | apply below_drew1) | exact HB2.out)))); have HOu2_2 := Aside0.mk (Kd.R_lower (R_rng ho2) (below_size (by repeat (first | (with_reducible first | exact HB2.out | apply below_alloc | apply pw_below_drewN | apply below_drew1) | exact HB2.out)))); have HOu2_3 := Aside0.mk (Kd.S_lower (S_rng ho3) (below_size (by repeat (first | (with_reducible first | exact HB2.out | apply below_alloc | apply pw_below_drewN | apply below_drew1) | exact HB2.out)))); have BKaAq2 := Aside0.mk (blk_below (g := gbaA) (o := .cells #[.slice A0_0 l0_0.length c0_0, .slice A0_1 l0_1.length c0_1, .slice A0_2 l0_2.length c0_2, .slice A0_3 l0_3.length c0_3] 25 (0, 0)) (by (with_reducible repeat (first | refine blk_drewN ?_ _ | refine blk_drew ?_ | refine blk_alloc ?_ _)); exact BKaAq1.out) hb); clear BKaAq1)
    | (go_at_call 9; (with_reducible refine (laws_toIntS.calls k _ _ l1 r3_r _ ?s1 ?s2 A3.out).mono ?_); (case s1 => repeat (first | exact (Kd.C_below HR1.out HB3.out) | (with_reducible refine Kd.C_alloc ?_ _) | (with_reducible refine Kd.C_drewN ?_ _) | (with_reducible refine Kd.C_drew ?_))); (case s2 => exact HC1.out); rintro e w4 ⟨u3_0, rfl, ho0, hb⟩; have HB4 := Aside0.mk (below_step (by repeat (first | (with_reducible first | exact HB3.out | apply below_alloc | apply pw_below_drewN | apply below_drew1) | exact HB3.out)) hb); have LE4 := Aside0.mk (below_size hb); obtain ⟨Au3_0, cu3_0, qu3_0⟩ := Kd.R_slice ho0; subst qu3_0; have HOu3_0 := Aside0.mk (Kd.R_lower (R_rng ho0) (below_size (by repeat (first | (with_reducible first | exact HB3.out | apply below_alloc | apply pw_below_drewN | apply below_drew1) | exact HB3.out)))); have BKaAq3 := Aside0.mk (blk_below (g := gbaA) (o := .cells #[.slice A0_0 l0_0.length c0_0, .slice A0_1 l0_1.length c0_1, .slice A0_2 l0_2.length c0_2, .slice A0_3 l0_3.length c0_3] 25 (0, 0)) (by (with_reducible repeat (first | refine blk_drewN ?_ _ | refine blk_drew ?_ | refine blk_alloc ?_ _)); exact BKaAq2.out) hb); have HOu2_0q1 := Aside0.mk (Kd.R_below (by (with_reducible repeat (first | apply Kd.R_alloc | apply Kd.R_drewN | apply Kd.R_drew)); exact HOu2_0.out) hb); have HOu2_1q1 := Aside0.mk (Kd.R_below (by (with_reducible repeat (first | apply Kd.R_alloc | apply Kd.R_drewN | apply Kd.R_drew)); exact HOu2_1.out) hb); have HOu2_2q1 := Aside0.mk (Kd.R_below (by (with_reducible repeat (first | apply Kd.R_alloc | apply Kd.R_drewN | apply Kd.R_drew)); exact HOu2_2.out) hb); have HOu2_3q1 := Aside0.mk (Kd.S_below (by (with_reducible repeat (first | apply Kd.S_alloc | apply Kd.S_drewN | apply Kd.S_drew)); exact HOu2_3.out) hb); clear HOu2_0 HOu2_1 HOu2_2 HOu2_3 BKaAq2; have hczaA4_0 : w4.cell? ⟨gbaA, 0, none⟩ = some (.slice A0_0 l0_0.length c0_0) := (blk_cell BKaAq3.out 0).trans rfl; have hczaA4_1 : w4.cell? ⟨gbaA, 1, none⟩ = some (.slice A0_1 l0_1.length c0_1) := (blk_cell BKaAq3.out 1).trans rfl; have hczaA4_2 : w4.cell? ⟨gbaA, 2, none⟩ = some (.slice A0_2 l0_2.length c0_2) := (blk_cell BKaAq3.out 2).trans rfl; have hczaA4_3 : w4.cell? ⟨gbaA, 3, none⟩ = some (.slice A0_3 l0_3.length c0_3) := (blk_cell BKaAq3.out 3).trans rfl)
    | (go_at_call 7; (with_reducible refine (spec_RunAho.calls k _ _ r2_r1 _ _ r2_r2 _ _ r2_r3 _ _ r2_r4 _ _ r3_r r4_r1 r4_r2 _ ?s1 ?s2 ?s3 ?s4 ?s5 ?s6 ?s7 ?s8 ?s9 ?s10 A4.out).mono ?_); (case s1 => repeat (first | exact (Kd.R_reads' HOu2_0q1.out).2.2 | (with_reducible refine Kd.C_alloc ?_ _) | (with_reducible refine Kd.C_drewN ?_ _) | (with_reducible refine Kd.C_drew ?_))); (case s2 => exact (Kd.R_reads' HOu2_0q1.out).2.1); (case s3 => repeat (first | exact (Kd.R_reads' HOu2_1q1.out).2.2 | (with_reducible refine Kd.C_alloc ?_ _) | (with_reducible refine Kd.C_drewN ?_ _) | (with_reducible refine Kd.C_drew ?_))); (case s4 => exact (Kd.R_reads' HOu2_1q1.out).2.1); (case s5 => repeat (first | exact (Kd.R_reads' HOu2_2q1.out).2.2 | (with_reducible refine Kd.C_alloc ?_ _) | (with_reducible refine Kd.C_drewN ?_ _) | (with_reducible refine Kd.C_drew ?_))); (case s6 => exact (Kd.R_reads' HOu2_2q1.out).2.1); (case s7 => repeat (first | exact (Kd.S_reads' HOu2_3q1.out).2.2 | (with_reducible refine Kd.C_alloc ?_ _) | (with_reducible refine Kd.C_drewN ?_ _) | (with_reducible refine Kd.C_drew ?_))); (case s8 => exact (Kd.S_reads' HOu2_3q1.out).2.1); (case s9 => repeat (first | exact (Kd.R_reads' HOu3_0.out).2.2 | (with_reducible refine Kd.C_alloc ?_ _) | (with_reducible refine Kd.C_drewN ?_ _) | (with_reducible refine Kd.C_drew ?_))); (case s10 => exact (Kd.R_reads' HOu3_0.out).2.1); rintro e w5 ⟨u4_0, rfl, ho0, hb⟩; have HB5 := Aside0.mk (below_step (by repeat (first | (with_reducible first | exact HB4.out | apply below_alloc | apply pw_below_drewN | apply below_drew1) | exact HB4.out)) hb); have LE5 := Aside0.mk (below_size hb); obtain ⟨Au4_0, cu4_0, qu4_0⟩ := Kd.R_slice ho0; subst qu4_0; have HOu4_0 := Aside0.mk (Kd.R_lower (R_rng ho0) (below_size (by repeat (first | (with_reducible first | exact HB4.out | apply below_alloc | apply pw_below_drewN | apply below_drew1) | exact HB4.out)))); have BKaAq4 := Aside0.mk (blk_below (g := gbaA) (o := .cells #[.slice A0_0 l0_0.length c0_0, .slice A0_1 l0_1.length c0_1, .slice A0_2 l0_2.length c0_2, .slice A0_3 l0_3.length c0_3] 25 (0, 0)) (by (with_reducible repeat (first | refine blk_drewN ?_ _ | refine blk_drew ?_ | refine blk_alloc ?_ _)); exact BKaAq3.out) hb); have HOu2_0q2 := Aside0.mk (Kd.R_below (by (with_reducible repeat (first | apply Kd.R_alloc | apply Kd.R_drewN | apply Kd.R_drew)); exact HOu2_0q1.out) hb); have HOu2_1q2 := Aside0.mk (Kd.R_below (by (with_reducible repeat (first | apply Kd.R_alloc | apply Kd.R_drewN | apply Kd.R_drew)); exact HOu2_1q1.out) hb); have HOu2_2q2 := Aside0.mk (Kd.R_below (by (with_reducible repeat (first | apply Kd.R_alloc | apply Kd.R_drewN | apply Kd.R_drew)); exact HOu2_2q1.out) hb); have HOu2_3q2 := Aside0.mk (Kd.S_below (by (with_reducible repeat (first | apply Kd.S_alloc | apply Kd.S_drewN | apply Kd.S_drew)); exact HOu2_3q1.out) hb); have HOu3_0q1 := Aside0.mk (Kd.R_below (by (with_reducible repeat (first | apply Kd.R_alloc | apply Kd.R_drewN | apply Kd.R_drew)); exact HOu3_0.out) hb); clear HOu2_0q1 HOu2_1q1 HOu2_2q1 HOu2_3q1 HOu3_0 BKaAq3; have hczaA5_0 : w5.cell? ⟨gbaA, 0, none⟩ = some (.slice A0_0 l0_0.length c0_0) := (blk_cell BKaAq4.out 0).trans rfl; have hczaA5_1 : w5.cell? ⟨gbaA, 1, none⟩ = some (.slice A0_1 l0_1.length c0_1) := (blk_cell BKaAq4.out 1).trans rfl; have hczaA5_2 : w5.cell? ⟨gbaA, 2, none⟩ = some (.slice A0_2 l0_2.length c0_2) := (blk_cell BKaAq4.out 2).trans rfl; have hczaA5_3 : w5.cell? ⟨gbaA, 3, none⟩ = some (.slice A0_3 l0_3.length c0_3) := (blk_cell BKaAq4.out 3).trans rfl)
    | (go_at_call 8; (with_reducible refine (laws_toAho.calls k _ _ l0_0 _ _ l0_1 _ _ l0_2 _ _ l0_3 r5_r1 r5_r2 r5_r3 r5_r4 _ ?s1 ?s2 ?s3 ?s4 ?s5 ?s6 ?s7 ?s8 A5.out).mono ?_); (case s1 => repeat (first | exact (Kd.C_below HR0_0.out HB5.out) | (with_reducible refine Kd.C_alloc ?_ _) | (with_reducible refine Kd.C_drewN ?_ _) | (with_reducible refine Kd.C_drew ?_))); (case s2 => exact HC0_0.out); (case s3 => repeat (first | exact (Kd.C_below HR0_1.out HB5.out) | (with_reducible refine Kd.C_alloc ?_ _) | (with_reducible refine Kd.C_drewN ?_ _) | (with_reducible refine Kd.C_drew ?_))); (case s4 => exact HC0_1.out); (case s5 => repeat (first | exact (Kd.C_below HR0_2.out HB5.out) | (with_reducible refine Kd.C_alloc ?_ _) | (with_reducible refine Kd.C_drewN ?_ _) | (with_reducible refine Kd.C_drew ?_))); (case s6 => exact HC0_2.out); (case s7 => repeat (first | exact (Kd.C_below HR0_3.out HB5.out) | (with_reducible refine Kd.C_alloc ?_ _) | (with_reducible refine Kd.C_drewN ?_ _) | (with_reducible refine Kd.C_drew ?_))); (case s8 => exact HC0_3.out); rintro e w6 ⟨u5_0, u5_1, u5_2, u5_3, rfl, ho0, ho1, ho2, ho3, hb⟩; have HB6 := Aside0.mk (below_step (by repeat (first | (with_reducible first | exact HB5.out | apply below_alloc | apply pw_below_drewN | apply below_drew1) | exact HB5.out)) hb); have LE6 := Aside0.mk (below_size hb); obtain ⟨Au5_0, cu5_0, qu5_0⟩ := Kd.R_slice ho0; subst qu5_0; obtain ⟨Au5_1, cu5_1, qu5_1⟩ := Kd.R_slice ho1; subst qu5_1; obtain ⟨Au5_2, cu5_2, qu5_2⟩ := Kd.R_slice ho2; subst qu5_2; obtain ⟨Au5_3, cu5_3, qu5_3⟩ := Kd.S_slice ho3; subst qu5_3; have HOu5_0 := Aside0.mk (Kd.R_lower (R_rng ho0) (below_size (by repeat (first | (with_reducible first | exact HB5.out | apply below_alloc | apply pw_below_drewN | apply below_drew1) | exact HB5.out)))); have HOu5_1 := Aside0.mk (Kd.R_lower (R_rng ho1) (below_size (by repeat (first | (with_reducible first | exact HB5.out | apply below_alloc | apply pw_below_drewN | apply below_drew1) | exact HB5.out)))); have HOu5_2 := Aside0.mk (Kd.R_lower (R_rng ho2) (below_size (by repeat (first | (with_reducible first | exact HB5.out | apply below_alloc | apply pw_below_drewN | apply below_drew1) | exact HB5.out)))); have HOu5_3 := Aside0.mk (Kd.S_lower (S_rng ho3) (below_size (by repeat (first | (with_reducible first | exact HB5.out | apply below_alloc | apply pw_below_drewN | apply below_drew1) | exact HB5.out)))); have BKaAq5 := Aside0.mk (blk_below (g := gbaA) (o := .cells #[.slice A0_0 l0_0.length c0_0, .slice A0_1 l0_1.length c0_1, .slice A0_2 l0_2.length c0_2, .slice A0_3 l0_3.length c0_3] 25 (0, 0)) (by (with_reducible repeat (first | refine blk_drewN ?_ _ | refine blk_drew ?_ | refine blk_alloc ?_ _)); exact BKaAq4.out) hb); have HOu4_0q1 := Aside0.mk (Kd.R_below (by (with_reducible repeat (first | apply Kd.R_alloc | apply Kd.R_drewN | apply Kd.R_drew)); exact HOu4_0.out) hb); clear HOu4_0 BKaAq4)
    | ((with_reducible refine gate_dst (N := 8) rfl ?_); refine box_event ?hg (N := 8) ?hd (cs := #[.slice none 0 0, .slice none 0 0, .slice none 0 0, .slice none 0 0]) (t := 30) ?hr ?_; (case hd => rfl); (case hg => rfl); (case hr => first | (go_simp; done) | (go_simp; rfl)); intro gbx0 hg w7 hbox hb; have HB7 := Aside0.mk (below_step (by repeat (first | (with_reducible first | exact HB6.out | apply below_alloc | apply pw_below_drewN | apply below_drew1) | exact HB6.out)) hb); have LE7 := Aside0.mk (by have h_ := blk_lt hbox; rw [hg] at h_; exact h_ : w6.heap.size < w7.heap.size); have Ggbx0 := Aside0.mk (show gbx0 = w6.heap.size from hg); have BKx0 := Aside0.mk hbox; have BKaAq6 := Aside0.mk (blk_below (g := gbaA) (o := .cells #[.slice A0_0 l0_0.length c0_0, .slice A0_1 l0_1.length c0_1, .slice A0_2 l0_2.length c0_2, .slice A0_3 l0_3.length c0_3] 25 (0, 0)) (by (with_reducible repeat (first | refine blk_drewN ?_ _ | refine blk_drew ?_ | refine blk_alloc ?_ _)); exact BKaAq5.out) hb); have HOu4_0q2 := Aside0.mk (Kd.R_below (by (with_reducible repeat (first | apply Kd.R_alloc | apply Kd.R_drewN | apply Kd.R_drew)); exact HOu4_0q1.out) hb); have HOu5_0q1 := Aside0.mk (Kd.R_below (by (with_reducible repeat (first | apply Kd.R_alloc | apply Kd.R_drewN | apply Kd.R_drew)); exact HOu5_0.out) hb); have HOu5_1q1 := Aside0.mk (Kd.R_below (by (with_reducible repeat (first | apply Kd.R_alloc | apply Kd.R_drewN | apply Kd.R_drew)); exact HOu5_1.out) hb); have HOu5_2q1 := Aside0.mk (Kd.R_below (by (with_reducible repeat (first | apply Kd.R_alloc | apply Kd.R_drewN | apply Kd.R_drew)); exact HOu5_2.out) hb); have HOu5_3q1 := Aside0.mk (Kd.S_below (by (with_reducible repeat (first | apply Kd.S_alloc | apply Kd.S_drewN | apply Kd.S_drew)); exact HOu5_3.out) hb); clear hb hbox hg HOu4_0q1 HOu5_0 HOu5_1 HOu5_2 HOu5_3 BKaAq5; have hcs7_0 : w7.cell? ⟨gbx0, 0, none⟩ = some (.slice none 0 0) := (blk_cell BKx0.out 0).trans rfl; have hfs7_0 := blk_frozen BKx0.out 0; have hcs7_1 : w7.cell? ⟨gbx0, 1, none⟩ = some (.slice none 0 0) := (blk_cell BKx0.out 1).trans rfl; have hfs7_1 := blk_frozen BKx0.out 1; have hcs7_2 : w7.cell? ⟨gbx0, 2, none⟩ = some (.slice none 0 0) := (blk_cell BKx0.out 2).trans rfl; have hfs7_2 := blk_frozen BKx0.out 2; have hcs7_3 : w7.cell? ⟨gbx0, 3, none⟩ = some (.slice none 0 0) := (blk_cell BKx0.out 3).trans rfl; have hfs7_3 := blk_frozen BKx0.out 3)
    | ((with_reducible refine gate_store (t := 30) (p := 8) rfl ?_); refine store_event (t := 30) (p := 8) (v := ?vo_x0) (w1 := ((((w7.setCell ⟨gbx0, 0, none⟩ (.slice Au5_0 r5_r1.length cu5_0)).setCell ⟨gbx0, 1, none⟩ (.slice Au5_1 r5_r2.length cu5_1)).setCell ⟨gbx0, 2, none⟩ (.slice Au5_2 r5_r3.length cu5_2)).setCell ⟨gbx0, 3, none⟩ (.slice Au5_3 r5_r4.length cu5_3))) ?hg ?ho ?hn ?hr ?_; (case ho => rfl); (case hg => rfl); (case hn => rfl); (case hr => first | (go_simp; done) | (go_simp; rfl)); intro w8 hw; have hk : Kept w7 w8 (fun k_ => k_ = gbx0) := (by rw [hw]; exact (Kept.setCell (Kept.setCell (Kept.setCell (Kept.setCell (Kept.refl w7 (fun k_ => k_ = gbx0)) (.inl rfl) _) (.inl rfl) _) (.inl rfl) _) (.inl rfl) _)); have HB8 := Aside0.mk (by rw [hw]; exact (below_set (below_set (below_set (below_set (HB7.out) (by have g_ := Ggbx0.out; have := LE1.out; have := LE2.out; have := LE3.out; have := LE4.out; have := LE5.out; have := LE6.out; omega : w.heap.size ≤ gbx0)) (by have g_ := Ggbx0.out; have := LE1.out; have := LE2.out; have := LE3.out; have := LE4.out; have := LE5.out; have := LE6.out; omega : w.heap.size ≤ gbx0)) (by have g_ := Ggbx0.out; have := LE1.out; have := LE2.out; have := LE3.out; have := LE4.out; have := LE5.out; have := LE6.out; omega : w.heap.size ≤ gbx0)) (by have g_ := Ggbx0.out; have := LE1.out; have := LE2.out; have := LE3.out; have := LE4.out; have := LE5.out; have := LE6.out; omega : w.heap.size ≤ gbx0)) : Below w.heap.size w w8); have LE8 := Aside0.mk hk.1; have BKx0q1 := Aside0.mk (by rw [hw]; exact (blk_put (cs' := #[.slice Au5_0 r5_r1.length cu5_0, .slice Au5_1 r5_r2.length cu5_1, .slice Au5_2 r5_r3.length cu5_2, .slice Au5_3 r5_r4.length cu5_3]) (blk_put (cs' := #[.slice Au5_0 r5_r1.length cu5_0, .slice Au5_1 r5_r2.length cu5_1, .slice Au5_2 r5_r3.length cu5_2, .slice none 0 0]) (blk_put (cs' := #[.slice Au5_0 r5_r1.length cu5_0, .slice Au5_1 r5_r2.length cu5_1, .slice none 0 0, .slice none 0 0]) (blk_put (cs' := #[.slice Au5_0 r5_r1.length cu5_0, .slice none 0 0, .slice none 0 0, .slice none 0 0]) BKx0.out 0 _ rfl) 1 _ rfl) 2 _ rfl) 3 _ rfl) : w8.heap[gbx0]? = some (.cells #[.slice Au5_0 r5_r1.length cu5_0, .slice Au5_1 r5_r2.length cu5_1, .slice Au5_2 r5_r3.length cu5_2, .slice Au5_3 r5_r4.length cu5_3] 30 (0, 0))); have BKaAq7 := Aside0.mk (blk_kept BKaAq6.out hk (fun a_ => by have e_ : gbaA = gbx0 := a_; have := GgbaA.out; have := Ggbx0.out; have := LE1.out; have := LE2.out; have := LE3.out; have := LE4.out; have := LE5.out; have := LE6.out; omega)); have HOu4_0q3 := Aside0.mk (Kd.R_kept HOu4_0q2.out hk (fun k_ a_ b_ => by have := a_.2.2; have e_ : k_ = gbx0 := b_; have := Ggbx0.out; have := LE6.out; omega)); have HOu5_0q2 := Aside0.mk (Kd.R_kept HOu5_0q1.out hk (fun k_ a_ b_ => by have := a_.2.2; have e_ : k_ = gbx0 := b_; have := Ggbx0.out; skip; omega)); have HOu5_1q2 := Aside0.mk (Kd.R_kept HOu5_1q1.out hk (fun k_ a_ b_ => by have := a_.2.2; have e_ : k_ = gbx0 := b_; have := Ggbx0.out; skip; omega)); have HOu5_2q2 := Aside0.mk (Kd.R_kept HOu5_2q1.out hk (fun k_ a_ b_ => by have := a_.2.2; have e_ : k_ = gbx0 := b_; have := Ggbx0.out; skip; omega)); have HOu5_3q2 := Aside0.mk (Kd.S_kept HOu5_3q1.out hk (fun k_ a_ b_ => by have := a_.2.2; have e_ : k_ = gbx0 := b_; have := Ggbx0.out; skip; omega)); clear hk hw HOu4_0q2 HOu5_0q1 HOu5_1q1 HOu5_2q1 HOu5_3q1 BKaAq6 BKx0)
    | (go_at_call 9; (with_reducible refine (laws_toIntS.calls k _ _ l1 r6_r _ ?s1 ?s2 A6.out).mono ?_); (case s1 => repeat (first | exact (Kd.C_below HR1.out HB8.out) | (with_reducible refine Kd.C_alloc ?_ _) | (with_reducible refine Kd.C_drewN ?_ _) | (with_reducible refine Kd.C_drew ?_))); (case s2 => exact HC1.out); rintro e w9 ⟨u6_0, rfl, ho0, hb⟩; have HB9 := Aside0.mk (below_step (by repeat (first | (with_reducible first | exact HB8.out | apply below_alloc | apply pw_below_drewN | apply below_drew1) | exact HB8.out)) hb); have LE9 := Aside0.mk (below_size hb); obtain ⟨Au6_0, cu6_0, qu6_0⟩ := Kd.R_slice ho0; subst qu6_0; have HOu6_0 := Aside0.mk (Kd.R_lower (R_rng ho0) (below_size (by repeat (first | (with_reducible first | exact HB8.out | apply below_alloc | apply pw_below_drewN | apply below_drew1) | exact HB8.out)))); have BKaAq8 := Aside0.mk (blk_below (g := gbaA) (o := .cells #[.slice A0_0 l0_0.length c0_0, .slice A0_1 l0_1.length c0_1, .slice A0_2 l0_2.length c0_2, .slice A0_3 l0_3.length c0_3] 25 (0, 0)) (by (with_reducible repeat (first | refine blk_drewN ?_ _ | refine blk_drew ?_ | refine blk_alloc ?_ _)); exact BKaAq7.out) hb); have BKx0q2 := Aside0.mk (blk_below (g := gbx0) (o := .cells #[.slice Au5_0 r5_r1.length cu5_0, .slice Au5_1 r5_r2.length cu5_1, .slice Au5_2 r5_r3.length cu5_2, .slice Au5_3 r5_r4.length cu5_3] 30 (0, 0)) (by (with_reducible repeat (first | refine blk_drewN ?_ _ | refine blk_drew ?_ | refine blk_alloc ?_ _)); exact BKx0q1.out) hb); have HOu4_0q4 := Aside0.mk (Kd.R_below (by (with_reducible repeat (first | apply Kd.R_alloc | apply Kd.R_drewN | apply Kd.R_drew)); exact HOu4_0q3.out) hb); have HOu5_0q3 := Aside0.mk (Kd.R_below (by (with_reducible repeat (first | apply Kd.R_alloc | apply Kd.R_drewN | apply Kd.R_drew)); exact HOu5_0q2.out) hb); have HOu5_1q3 := Aside0.mk (Kd.R_below (by (with_reducible repeat (first | apply Kd.R_alloc | apply Kd.R_drewN | apply Kd.R_drew)); exact HOu5_1q2.out) hb); have HOu5_2q3 := Aside0.mk (Kd.R_below (by (with_reducible repeat (first | apply Kd.R_alloc | apply Kd.R_drewN | apply Kd.R_drew)); exact HOu5_2q2.out) hb); have HOu5_3q3 := Aside0.mk (Kd.S_below (by (with_reducible repeat (first | apply Kd.S_alloc | apply Kd.S_drewN | apply Kd.S_drew)); exact HOu5_3q2.out) hb); clear HOu4_0q3 HOu5_0q2 HOu5_1q2 HOu5_2q2 HOu5_3q2 BKaAq7 BKx0q1; have hczx09_0 : w9.cell? ⟨gbx0, 0, none⟩ = some (.slice Au5_0 r5_r1.length cu5_0) := (blk_cell BKx0q2.out 0).trans rfl; have hczx09_1 : w9.cell? ⟨gbx0, 1, none⟩ = some (.slice Au5_1 r5_r2.length cu5_1) := (blk_cell BKx0q2.out 1).trans rfl; have hczx09_2 : w9.cell? ⟨gbx0, 2, none⟩ = some (.slice Au5_2 r5_r3.length cu5_2) := (blk_cell BKx0q2.out 2).trans rfl; have hczx09_3 : w9.cell? ⟨gbx0, 3, none⟩ = some (.slice Au5_3 r5_r4.length cu5_3) := (blk_cell BKx0q2.out 3).trans rfl)
    | (go_at_call 10; (with_reducible refine (impl_RunAho.calls k _ _ r5_r1 _ _ r5_r2 _ _ r5_r3 _ _ r5_r4 _ _ r6_r r7_r1 r7_r2 _ ?s1 ?s2 ?s3 ?s4 ?s5 ?s6 ?s7 ?s8 ?s9 ?s10 A7.out).mono ?_); (case s1 => repeat (first | exact (Kd.R_reads' HOu5_0q3.out).2.2 | (with_reducible refine Kd.C_alloc ?_ _) | (with_reducible refine Kd.C_drewN ?_ _) | (with_reducible refine Kd.C_drew ?_))); (case s2 => exact (Kd.R_reads' HOu5_0q3.out).2.1); (case s3 => repeat (first | exact (Kd.R_reads' HOu5_1q3.out).2.2 | (with_reducible refine Kd.C_alloc ?_ _) | (with_reducible refine Kd.C_drewN ?_ _) | (with_reducible refine Kd.C_drew ?_))); (case s4 => exact (Kd.R_reads' HOu5_1q3.out).2.1); (case s5 => repeat (first | exact (Kd.R_reads' HOu5_2q3.out).2.2 | (with_reducible refine Kd.C_alloc ?_ _) | (with_reducible refine Kd.C_drewN ?_ _) | (with_reducible refine Kd.C_drew ?_))); (case s6 => exact (Kd.R_reads' HOu5_2q3.out).2.1); (case s7 => repeat (first | exact (Kd.S_reads' HOu5_3q3.out).2.2 | (with_reducible refine Kd.C_alloc ?_ _) | (with_reducible refine Kd.C_drewN ?_ _) | (with_reducible refine Kd.C_drew ?_))); (case s8 => exact (Kd.S_reads' HOu5_3q3.out).2.1); (case s9 => repeat (first | exact (Kd.R_reads' HOu6_0.out).2.2 | (with_reducible refine Kd.C_alloc ?_ _) | (with_reducible refine Kd.C_drewN ?_ _) | (with_reducible refine Kd.C_drew ?_))); (case s10 => exact (Kd.R_reads' HOu6_0.out).2.1); rintro e w10 ⟨u7_0, rfl, ho0, hb⟩; have HB10 := Aside0.mk (below_step (by repeat (first | (with_reducible first | exact HB9.out | apply below_alloc | apply pw_below_drewN | apply below_drew1) | exact HB9.out)) hb); have LE10 := Aside0.mk (below_size hb); obtain ⟨Au7_0, cu7_0, qu7_0⟩ := Kd.R_slice ho0; subst qu7_0; have HOu7_0 := Aside0.mk (Kd.R_lower (R_rng ho0) (below_size (by repeat (first | (with_reducible first | exact HB9.out | apply below_alloc | apply pw_below_drewN | apply below_drew1) | exact HB9.out)))); have BKaAq9 := Aside0.mk (blk_below (g := gbaA) (o := .cells #[.slice A0_0 l0_0.length c0_0, .slice A0_1 l0_1.length c0_1, .slice A0_2 l0_2.length c0_2, .slice A0_3 l0_3.length c0_3] 25 (0, 0)) (by (with_reducible repeat (first | refine blk_drewN ?_ _ | refine blk_drew ?_ | refine blk_alloc ?_ _)); exact BKaAq8.out) hb); have BKx0q3 := Aside0.mk (blk_below (g := gbx0) (o := .cells #[.slice Au5_0 r5_r1.length cu5_0, .slice Au5_1 r5_r2.length cu5_1, .slice Au5_2 r5_r3.length cu5_2, .slice Au5_3 r5_r4.length cu5_3] 30 (0, 0)) (by (with_reducible repeat (first | refine blk_drewN ?_ _ | refine blk_drew ?_ | refine blk_alloc ?_ _)); exact BKx0q2.out) hb); have HOu4_0q5 := Aside0.mk (Kd.R_below (by (with_reducible repeat (first | apply Kd.R_alloc | apply Kd.R_drewN | apply Kd.R_drew)); exact HOu4_0q4.out) hb); have HOu5_0q4 := Aside0.mk (Kd.R_below (by (with_reducible repeat (first | apply Kd.R_alloc | apply Kd.R_drewN | apply Kd.R_drew)); exact HOu5_0q3.out) hb); have HOu5_1q4 := Aside0.mk (Kd.R_below (by (with_reducible repeat (first | apply Kd.R_alloc | apply Kd.R_drewN | apply Kd.R_drew)); exact HOu5_1q3.out) hb); have HOu5_2q4 := Aside0.mk (Kd.R_below (by (with_reducible repeat (first | apply Kd.R_alloc | apply Kd.R_drewN | apply Kd.R_drew)); exact HOu5_2q3.out) hb); have HOu5_3q4 := Aside0.mk (Kd.S_below (by (with_reducible repeat (first | apply Kd.S_alloc | apply Kd.S_drewN | apply Kd.S_drew)); exact HOu5_3q3.out) hb); have HOu6_0q1 := Aside0.mk (Kd.R_below (by (with_reducible repeat (first | apply Kd.R_alloc | apply Kd.R_drewN | apply Kd.R_drew)); exact HOu6_0.out) hb); clear HOu4_0q4 HOu5_0q3 HOu5_1q3 HOu5_2q3 HOu5_3q3 HOu6_0 BKaAq8 BKx0q2)
    | (go_at_call 11; (with_reducible refine (laws_eqHitS.calls k _ _ r7_r1 _ _ r4_r1 true _ ?s1 ?s2 ?s3 ?s4 A8.out).mono ?_); (case s1 => repeat (first | exact (Kd.R_reads' HOu7_0.out).2.2 | (with_reducible refine Kd.C_alloc ?_ _) | (with_reducible refine Kd.C_drewN ?_ _) | (with_reducible refine Kd.C_drew ?_))); (case s2 => exact (Kd.R_reads' HOu7_0.out).2.1); (case s3 => repeat (first | exact (Kd.R_reads' HOu4_0q5.out).2.2 | (with_reducible refine Kd.C_alloc ?_ _) | (with_reducible refine Kd.C_drewN ?_ _) | (with_reducible refine Kd.C_drew ?_))); (case s4 => exact (Kd.R_reads' HOu4_0q5.out).2.1); rintro e w11 ⟨rfl, hb⟩; have HB11 := Aside0.mk (below_step (by repeat (first | (with_reducible first | exact HB10.out | apply below_alloc | apply pw_below_drewN | apply below_drew1) | exact HB10.out)) hb); have LE11 := Aside0.mk (below_size hb); have BKaAq10 := Aside0.mk (blk_below (g := gbaA) (o := .cells #[.slice A0_0 l0_0.length c0_0, .slice A0_1 l0_1.length c0_1, .slice A0_2 l0_2.length c0_2, .slice A0_3 l0_3.length c0_3] 25 (0, 0)) (by (with_reducible repeat (first | refine blk_drewN ?_ _ | refine blk_drew ?_ | refine blk_alloc ?_ _)); exact BKaAq9.out) hb); have BKx0q4 := Aside0.mk (blk_below (g := gbx0) (o := .cells #[.slice Au5_0 r5_r1.length cu5_0, .slice Au5_1 r5_r2.length cu5_1, .slice Au5_2 r5_r3.length cu5_2, .slice Au5_3 r5_r4.length cu5_3] 30 (0, 0)) (by (with_reducible repeat (first | refine blk_drewN ?_ _ | refine blk_drew ?_ | refine blk_alloc ?_ _)); exact BKx0q3.out) hb); have HOu4_0q6 := Aside0.mk (Kd.R_below (by (with_reducible repeat (first | apply Kd.R_alloc | apply Kd.R_drewN | apply Kd.R_drew)); exact HOu4_0q5.out) hb); have HOu5_0q5 := Aside0.mk (Kd.R_below (by (with_reducible repeat (first | apply Kd.R_alloc | apply Kd.R_drewN | apply Kd.R_drew)); exact HOu5_0q4.out) hb); have HOu5_1q5 := Aside0.mk (Kd.R_below (by (with_reducible repeat (first | apply Kd.R_alloc | apply Kd.R_drewN | apply Kd.R_drew)); exact HOu5_1q4.out) hb); have HOu5_2q5 := Aside0.mk (Kd.R_below (by (with_reducible repeat (first | apply Kd.R_alloc | apply Kd.R_drewN | apply Kd.R_drew)); exact HOu5_2q4.out) hb); have HOu5_3q5 := Aside0.mk (Kd.S_below (by (with_reducible repeat (first | apply Kd.S_alloc | apply Kd.S_drewN | apply Kd.S_drew)); exact HOu5_3q4.out) hb); have HOu6_0q2 := Aside0.mk (Kd.R_below (by (with_reducible repeat (first | apply Kd.R_alloc | apply Kd.R_drewN | apply Kd.R_drew)); exact HOu6_0q1.out) hb); have HOu7_0q1 := Aside0.mk (Kd.R_below (by (with_reducible repeat (first | apply Kd.R_alloc | apply Kd.R_drewN | apply Kd.R_drew)); exact HOu7_0.out) hb); clear HOu4_0q5 HOu5_0q4 HOu5_1q4 HOu5_2q4 HOu5_3q4 HOu6_0q1 HOu7_0 BKaAq9 BKx0q3))
  have HOu4_0q7 := Aside0.mk (Kd.R_drew HOu4_0q6.out)
  have HOu5_0q6 := Aside0.mk (Kd.R_drew HOu5_0q5.out)
  have HOu5_1q6 := Aside0.mk (Kd.R_drew HOu5_1q5.out)
  have HOu5_2q6 := Aside0.mk (Kd.R_drew HOu5_2q5.out)
  have HOu5_3q6 := Aside0.mk (Kd.S_drew HOu5_3q5.out)
  have HOu6_0q3 := Aside0.mk (Kd.R_drew HOu6_0q2.out)
  have HOu7_0q2 := Aside0.mk (Kd.R_drew HOu7_0q1.out)
  have BKaAq11 := Aside0.mk (blk_drew BKaAq10.out)
  have BKx0q5 := Aside0.mk (blk_drew BKx0q4.out)
  have HB12 := Aside0.mk (below_drew1 HB11.out)
  have LE12 := Aside0.mk (by exact Nat.le_refl _ : w11.heap.size ≤ w11.drew.heap.size)
  clear HOu4_0q6 HOu5_0q5 HOu5_1q5 HOu5_2q5 HOu5_3q5 HOu6_0q2 HOu7_0q1 BKaAq10 BKx0q4
  refine start_ (n := 5) (S := fun w' => w'.cell? ⟨gbx0, 0, none⟩ = some (.slice Au5_0 r5_r1.length cu5_0) ∧ w'.cell? ⟨gbx0, 1, none⟩ = some (.slice Au5_1 r5_r2.length cu5_1) ∧ w'.cell? ⟨gbx0, 2, none⟩ = some (.slice Au5_2 r5_r3.length cu5_2) ∧ w'.cell? ⟨gbx0, 3, none⟩ = some (.slice Au5_3 r5_r4.length cu5_3) ∧ w'.cell? ⟨gbaA, 0, none⟩ = some (.slice A0_0 l0_0.length c0_0) ∧ w'.cell? ⟨gbaA, 1, none⟩ = some (.slice A0_1 l0_1.length c0_1) ∧ w'.cell? ⟨gbaA, 2, none⟩ = some (.slice A0_2 l0_2.length c0_2) ∧ w'.cell? ⟨gbaA, 3, none⟩ = some (.slice A0_3 l0_3.length c0_3)) (ds := []) #[false, false, false, false, false] (by kernel_rfl) rfl rfl ⟨(blk_cell BKx0q5.out 0).trans rfl, (blk_cell BKx0q5.out 1).trans rfl, (blk_cell BKx0q5.out 2).trans rfl, (blk_cell BKx0q5.out 3).trans rfl, (blk_cell BKaAq11.out 0).trans rfl, (blk_cell BKaAq11.out 1).trans rfl, (blk_cell BKaAq11.out 2).trans rfl, (blk_cell BKaAq11.out 3).trans rfl⟩ (fun hHeld => ?_)
  generalize w11.drew = w12 at HOu4_0q7 HOu5_0q6 HOu5_1q6 HOu5_2q6 HOu5_3q6 HOu6_0q3 HOu7_0q2 BKaAq11 BKx0q5 HB12 LE12 hHeld ⊢
  refine take_ (i := 0) (N := some 52) (v := ?_) (a' := ?_) #[true, false, false, false, false] rfl rfl (by kernel_rfl) (fun _ _ _ h => h) (Or.inl ⟨by rfl, ?_⟩) hHeld ?_ ?_
  rotate_left
  · rintro w' ⟨s0, s1, s2, s3, s4, s5, s6, s7⟩
    go_simp
    with_reducible rfl
  rotate_left
  · simp only [Act.put, List.setIfInBounds_toArray, List.set_cons_zero, List.set_cons_succ, i64_w, i32_w]
    rfl
  refine take_ (i := 1) (N := some 53) (v := ?_) (a' := ?_) #[true, true, false, false, false] rfl rfl (by kernel_rfl) (fun _ _ _ h => h) (Or.inl ⟨by rfl, ?_⟩) hHeld ?_ ?_
  rotate_left
  · rintro w' ⟨s0, s1, s2, s3, s4, s5, s6, s7⟩
    go_simp
    with_reducible rfl
  rotate_left
  · simp only [Act.put, List.setIfInBounds_toArray, List.set_cons_zero, List.set_cons_succ, i64_w, i32_w]
    rfl
  refine one_ (i := 2) (N := some 54) #[true, true, true, false, false] rfl rfl (by kernel_rfl) (by decide) (fun K hK => ?_)
  refine goes_ Try.func8 (by kernel_rfl) rfl #[.agg #[.slice A0_0 l0_0.length c0_0, .slice A0_1 l0_1.length c0_1, .slice A0_2 l0_2.length c0_2, .slice A0_3 l0_3.length c0_3]] (by rfl) rfl rfl (by simp only [List.map_toArray, List.map_cons, List.map_nil]; rfl) ?_
  (with_reducible refine (laws_toAho.calls k _ _ l0_0 _ _ l0_1 _ _ l0_2 _ _ l0_3 r9_r1 r9_r2 r9_r3 r9_r4 _ ?s1 ?s2 ?s3 ?s4 ?s5 ?s6 ?s7 ?s8 A9.out).mono ?_)
  (case s1 => repeat (first | exact (Kd.C_below HR0_0.out HB12.out) | (with_reducible refine Kd.C_alloc ?_ _) | (with_reducible refine Kd.C_drewN ?_ _) | (with_reducible refine Kd.C_drew ?_)))
  (case s2 => exact HC0_0.out)
  (case s3 => repeat (first | exact (Kd.C_below HR0_1.out HB12.out) | (with_reducible refine Kd.C_alloc ?_ _) | (with_reducible refine Kd.C_drewN ?_ _) | (with_reducible refine Kd.C_drew ?_)))
  (case s4 => exact HC0_1.out)
  (case s5 => repeat (first | exact (Kd.C_below HR0_2.out HB12.out) | (with_reducible refine Kd.C_alloc ?_ _) | (with_reducible refine Kd.C_drewN ?_ _) | (with_reducible refine Kd.C_drew ?_)))
  (case s6 => exact HC0_2.out)
  (case s7 => repeat (first | exact (Kd.C_below HR0_3.out HB12.out) | (with_reducible refine Kd.C_alloc ?_ _) | (with_reducible refine Kd.C_drewN ?_ _) | (with_reducible refine Kd.C_drew ?_)))
  (case s8 => exact HC0_3.out)
  rintro e w13 ⟨u9_0, u9_1, u9_2, u9_3, rfl, ho0, ho1, ho2, ho3, hb⟩
  refine ⟨_, rfl, ?_⟩
  have HB13 := Aside0.mk (below_step (by repeat (first | (with_reducible first | exact HB12.out | apply below_alloc | apply pw_below_drewN | apply below_drew1) | exact HB12.out)) hb)
  have LE13 := Aside0.mk (below_size hb)
  obtain ⟨Au9_0, cu9_0, qu9_0⟩ := Kd.R_slice ho0
  subst qu9_0
  obtain ⟨Au9_1, cu9_1, qu9_1⟩ := Kd.R_slice ho1
  subst qu9_1
  obtain ⟨Au9_2, cu9_2, qu9_2⟩ := Kd.R_slice ho2
  subst qu9_2
  obtain ⟨Au9_3, cu9_3, qu9_3⟩ := Kd.S_slice ho3
  subst qu9_3
  have HOu9_0 := Aside0.mk (Kd.R_lower (R_rng ho0) (below_size (by repeat (first | (with_reducible first | exact HB12.out | apply below_alloc | apply pw_below_drewN | apply below_drew1) | exact HB12.out))))
  have HOu9_1 := Aside0.mk (Kd.R_lower (R_rng ho1) (below_size (by repeat (first | (with_reducible first | exact HB12.out | apply below_alloc | apply pw_below_drewN | apply below_drew1) | exact HB12.out))))
  have HOu9_2 := Aside0.mk (Kd.R_lower (R_rng ho2) (below_size (by repeat (first | (with_reducible first | exact HB12.out | apply below_alloc | apply pw_below_drewN | apply below_drew1) | exact HB12.out))))
  have HOu9_3 := Aside0.mk (Kd.S_lower (S_rng ho3) (below_size (by repeat (first | (with_reducible first | exact HB12.out | apply below_alloc | apply pw_below_drewN | apply below_drew1) | exact HB12.out))))
  have BKaAq12 := Aside0.mk (blk_below (g := gbaA) (o := .cells #[.slice A0_0 l0_0.length c0_0, .slice A0_1 l0_1.length c0_1, .slice A0_2 l0_2.length c0_2, .slice A0_3 l0_3.length c0_3] 25 (0, 0)) (by (with_reducible repeat (first | refine blk_drewN ?_ _ | refine blk_drew ?_ | refine blk_alloc ?_ _)); exact BKaAq11.out) hb)
  have BKx0q6 := Aside0.mk (blk_below (g := gbx0) (o := .cells #[.slice Au5_0 r5_r1.length cu5_0, .slice Au5_1 r5_r2.length cu5_1, .slice Au5_2 r5_r3.length cu5_2, .slice Au5_3 r5_r4.length cu5_3] 30 (0, 0)) (by (with_reducible repeat (first | refine blk_drewN ?_ _ | refine blk_drew ?_ | refine blk_alloc ?_ _)); exact BKx0q5.out) hb)
  have HOu4_0q8 := Aside0.mk (Kd.R_below (by (with_reducible repeat (first | apply Kd.R_alloc | apply Kd.R_drewN | apply Kd.R_drew)); exact HOu4_0q7.out) hb)
  have HOu5_0q7 := Aside0.mk (Kd.R_below (by (with_reducible repeat (first | apply Kd.R_alloc | apply Kd.R_drewN | apply Kd.R_drew)); exact HOu5_0q6.out) hb)
  have HOu5_1q7 := Aside0.mk (Kd.R_below (by (with_reducible repeat (first | apply Kd.R_alloc | apply Kd.R_drewN | apply Kd.R_drew)); exact HOu5_1q6.out) hb)
  have HOu5_2q7 := Aside0.mk (Kd.R_below (by (with_reducible repeat (first | apply Kd.R_alloc | apply Kd.R_drewN | apply Kd.R_drew)); exact HOu5_2q6.out) hb)
  have HOu5_3q7 := Aside0.mk (Kd.S_below (by (with_reducible repeat (first | apply Kd.S_alloc | apply Kd.S_drewN | apply Kd.S_drew)); exact HOu5_3q6.out) hb)
  have HOu6_0q4 := Aside0.mk (Kd.R_below (by (with_reducible repeat (first | apply Kd.R_alloc | apply Kd.R_drewN | apply Kd.R_drew)); exact HOu6_0q3.out) hb)
  have HOu7_0q3 := Aside0.mk (Kd.R_below (by (with_reducible repeat (first | apply Kd.R_alloc | apply Kd.R_drewN | apply Kd.R_drew)); exact HOu7_0q2.out) hb)
  clear hb HOu4_0q7 HOu5_0q6 HOu5_1q6 HOu5_2q6 HOu5_3q6 HOu6_0q3 HOu7_0q2 BKaAq11 BKx0q5
  refine hK.out _ _ ⟨(blk_cell BKx0q6.out 0).trans rfl, (blk_cell BKx0q6.out 1).trans rfl, (blk_cell BKx0q6.out 2).trans rfl, (blk_cell BKx0q6.out 3).trans rfl, (blk_cell BKaAq12.out 0).trans rfl, (blk_cell BKaAq12.out 1).trans rfl, (blk_cell BKaAq12.out 2).trans rfl, (blk_cell BKaAq12.out 3).trans rfl⟩ (fun hHeld => ?_)
  clear hK K
  refine norm_ (a' := ?_) ?_ ?_
  rotate_left
  · show Act.put _ (some 54) _ = _
    simp only [Act.put, List.setIfInBounds_toArray, List.set_cons_zero, List.set_cons_succ, i64_w, i32_w]
    rfl
  refine one_ (i := 3) (N := some 55) #[true, true, true, true, false] rfl rfl (by kernel_rfl) (by decide) (fun K hK => ?_)
  refine goes_ Try.func12 (by kernel_rfl) rfl #[.agg #[.slice Au5_0 r5_r1.length cu5_0, .slice Au5_1 r5_r2.length cu5_1, .slice Au5_2 r5_r3.length cu5_2, .slice Au5_3 r5_r4.length cu5_3], .agg #[.slice Au9_0 r9_r1.length cu9_0, .slice Au9_1 r9_r2.length cu9_1, .slice Au9_2 r9_r3.length cu9_2, .slice Au9_3 r9_r4.length cu9_3]] (by rfl) rfl rfl (by simp only [List.map_toArray, List.map_cons, List.map_nil]; rfl) ?_
  (with_reducible refine (laws_eqAho.calls k _ _ r5_r1 _ _ r5_r2 _ _ r5_r3 _ _ r5_r4 _ _ r9_r1 _ _ r9_r2 _ _ r9_r3 _ _ r9_r4 true _ ?s1 ?s2 ?s3 ?s4 ?s5 ?s6 ?s7 ?s8 ?s9 ?s10 ?s11 ?s12 ?s13 ?s14 ?s15 ?s16 A10.out).mono ?_)
  (case s1 => repeat (first | exact (Kd.R_reads' HOu5_0q7.out).2.2 | (with_reducible refine Kd.C_alloc ?_ _) | (with_reducible refine Kd.C_drewN ?_ _) | (with_reducible refine Kd.C_drew ?_)))
  (case s2 => exact (Kd.R_reads' HOu5_0q7.out).2.1)
  (case s3 => repeat (first | exact (Kd.R_reads' HOu5_1q7.out).2.2 | (with_reducible refine Kd.C_alloc ?_ _) | (with_reducible refine Kd.C_drewN ?_ _) | (with_reducible refine Kd.C_drew ?_)))
  (case s4 => exact (Kd.R_reads' HOu5_1q7.out).2.1)
  (case s5 => repeat (first | exact (Kd.R_reads' HOu5_2q7.out).2.2 | (with_reducible refine Kd.C_alloc ?_ _) | (with_reducible refine Kd.C_drewN ?_ _) | (with_reducible refine Kd.C_drew ?_)))
  (case s6 => exact (Kd.R_reads' HOu5_2q7.out).2.1)
  (case s7 => repeat (first | exact (Kd.S_reads' HOu5_3q7.out).2.2 | (with_reducible refine Kd.C_alloc ?_ _) | (with_reducible refine Kd.C_drewN ?_ _) | (with_reducible refine Kd.C_drew ?_)))
  (case s8 => exact (Kd.S_reads' HOu5_3q7.out).2.1)
  (case s9 => repeat (first | exact (Kd.R_reads' HOu9_0.out).2.2 | (with_reducible refine Kd.C_alloc ?_ _) | (with_reducible refine Kd.C_drewN ?_ _) | (with_reducible refine Kd.C_drew ?_)))
  (case s10 => exact (Kd.R_reads' HOu9_0.out).2.1)
  (case s11 => repeat (first | exact (Kd.R_reads' HOu9_1.out).2.2 | (with_reducible refine Kd.C_alloc ?_ _) | (with_reducible refine Kd.C_drewN ?_ _) | (with_reducible refine Kd.C_drew ?_)))
  (case s12 => exact (Kd.R_reads' HOu9_1.out).2.1)
  (case s13 => repeat (first | exact (Kd.R_reads' HOu9_2.out).2.2 | (with_reducible refine Kd.C_alloc ?_ _) | (with_reducible refine Kd.C_drewN ?_ _) | (with_reducible refine Kd.C_drew ?_)))
  (case s14 => exact (Kd.R_reads' HOu9_2.out).2.1)
  (case s15 => repeat (first | exact (Kd.S_reads' HOu9_3.out).2.2 | (with_reducible refine Kd.C_alloc ?_ _) | (with_reducible refine Kd.C_drewN ?_ _) | (with_reducible refine Kd.C_drew ?_)))
  (case s16 => exact (Kd.S_reads' HOu9_3.out).2.1)
  rintro e w14 ⟨rfl, hb⟩
  refine ⟨_, rfl, ?_⟩
  have HB14 := Aside0.mk (below_step (by repeat (first | (with_reducible first | exact HB13.out | apply below_alloc | apply pw_below_drewN | apply below_drew1) | exact HB13.out)) hb)
  have LE14 := Aside0.mk (below_size hb)
  have BKaAq13 := Aside0.mk (blk_below (g := gbaA) (o := .cells #[.slice A0_0 l0_0.length c0_0, .slice A0_1 l0_1.length c0_1, .slice A0_2 l0_2.length c0_2, .slice A0_3 l0_3.length c0_3] 25 (0, 0)) (by (with_reducible repeat (first | refine blk_drewN ?_ _ | refine blk_drew ?_ | refine blk_alloc ?_ _)); exact BKaAq12.out) hb)
  have BKx0q7 := Aside0.mk (blk_below (g := gbx0) (o := .cells #[.slice Au5_0 r5_r1.length cu5_0, .slice Au5_1 r5_r2.length cu5_1, .slice Au5_2 r5_r3.length cu5_2, .slice Au5_3 r5_r4.length cu5_3] 30 (0, 0)) (by (with_reducible repeat (first | refine blk_drewN ?_ _ | refine blk_drew ?_ | refine blk_alloc ?_ _)); exact BKx0q6.out) hb)
  have HOu4_0q9 := Aside0.mk (Kd.R_below (by (with_reducible repeat (first | apply Kd.R_alloc | apply Kd.R_drewN | apply Kd.R_drew)); exact HOu4_0q8.out) hb)
  have HOu5_0q8 := Aside0.mk (Kd.R_below (by (with_reducible repeat (first | apply Kd.R_alloc | apply Kd.R_drewN | apply Kd.R_drew)); exact HOu5_0q7.out) hb)
  have HOu5_1q8 := Aside0.mk (Kd.R_below (by (with_reducible repeat (first | apply Kd.R_alloc | apply Kd.R_drewN | apply Kd.R_drew)); exact HOu5_1q7.out) hb)
  have HOu5_2q8 := Aside0.mk (Kd.R_below (by (with_reducible repeat (first | apply Kd.R_alloc | apply Kd.R_drewN | apply Kd.R_drew)); exact HOu5_2q7.out) hb)
  have HOu5_3q8 := Aside0.mk (Kd.S_below (by (with_reducible repeat (first | apply Kd.S_alloc | apply Kd.S_drewN | apply Kd.S_drew)); exact HOu5_3q7.out) hb)
  have HOu6_0q5 := Aside0.mk (Kd.R_below (by (with_reducible repeat (first | apply Kd.R_alloc | apply Kd.R_drewN | apply Kd.R_drew)); exact HOu6_0q4.out) hb)
  have HOu7_0q4 := Aside0.mk (Kd.R_below (by (with_reducible repeat (first | apply Kd.R_alloc | apply Kd.R_drewN | apply Kd.R_drew)); exact HOu7_0q3.out) hb)
  have HOu9_0q1 := Aside0.mk (Kd.R_below (by (with_reducible repeat (first | apply Kd.R_alloc | apply Kd.R_drewN | apply Kd.R_drew)); exact HOu9_0.out) hb)
  have HOu9_1q1 := Aside0.mk (Kd.R_below (by (with_reducible repeat (first | apply Kd.R_alloc | apply Kd.R_drewN | apply Kd.R_drew)); exact HOu9_1.out) hb)
  have HOu9_2q1 := Aside0.mk (Kd.R_below (by (with_reducible repeat (first | apply Kd.R_alloc | apply Kd.R_drewN | apply Kd.R_drew)); exact HOu9_2.out) hb)
  have HOu9_3q1 := Aside0.mk (Kd.S_below (by (with_reducible repeat (first | apply Kd.S_alloc | apply Kd.S_drewN | apply Kd.S_drew)); exact HOu9_3.out) hb)
  clear hb HOu4_0q8 HOu5_0q7 HOu5_1q7 HOu5_2q7 HOu5_3q7 HOu6_0q4 HOu7_0q3 HOu9_0 HOu9_1 HOu9_2 HOu9_3 BKaAq12 BKx0q6
  refine hK.out _ _ ⟨(blk_cell BKx0q7.out 0).trans rfl, (blk_cell BKx0q7.out 1).trans rfl, (blk_cell BKx0q7.out 2).trans rfl, (blk_cell BKx0q7.out 3).trans rfl, (blk_cell BKaAq13.out 0).trans rfl, (blk_cell BKaAq13.out 1).trans rfl, (blk_cell BKaAq13.out 2).trans rfl, (blk_cell BKaAq13.out 3).trans rfl⟩ (fun hHeld => ?_)
  clear hK K
  refine norm_ (a' := ?_) ?_ ?_
  rotate_left
  · show Act.put _ (some 55) _ = _
    simp only [Act.put, List.setIfInBounds_toArray, List.set_cons_zero, List.set_cons_succ, i64_w, i32_w]
    rfl
  refine pure_ (i := 4) (N := some 56) (v := ?_) (a' := ?_) #[true, true, true, true, true] rfl rfl (by kernel_rfl) (fun _ _ _ h => h) (Or.inl ⟨by rfl, ?_⟩) ?_ ?_
  rotate_left
  · intro w'
    go_simp
    with_reducible rfl
  rotate_left
  · simp only [Act.put, List.setIfInBounds_toArray, List.set_cons_zero, List.set_cons_succ, i64_w, i32_w]
    rfl
  refine done_ (by kernel_rfl) ?_
  go_wp2_with (first
    | (go_at_call 9; (with_reducible refine (laws_toIntS.calls k _ _ l1 r11_r _ ?s1 ?s2 A11.out).mono ?_); (case s1 => repeat (first | exact (Kd.C_below HR1.out HB14.out) | (with_reducible refine Kd.C_alloc ?_ _) | (with_reducible refine Kd.C_drewN ?_ _) | (with_reducible refine Kd.C_drew ?_))); (case s2 => exact HC1.out); rintro e w15 ⟨u11_0, rfl, ho0, hb⟩; have HB15 := Aside0.mk (below_step (by repeat (first | (with_reducible first | exact HB14.out | apply below_alloc | apply pw_below_drewN | apply below_drew1) | exact HB14.out)) hb); have LE15 := Aside0.mk (below_size hb); obtain ⟨Au11_0, cu11_0, qu11_0⟩ := Kd.R_slice ho0; subst qu11_0; have HOu11_0 := Aside0.mk (Kd.R_lower (R_rng ho0) (below_size (by repeat (first | (with_reducible first | exact HB14.out | apply below_alloc | apply pw_below_drewN | apply below_drew1) | exact HB14.out)))); have BKaAq14 := Aside0.mk (blk_below (g := gbaA) (o := .cells #[.slice A0_0 l0_0.length c0_0, .slice A0_1 l0_1.length c0_1, .slice A0_2 l0_2.length c0_2, .slice A0_3 l0_3.length c0_3] 25 (0, 0)) (by (with_reducible repeat (first | refine blk_drewN ?_ _ | refine blk_drew ?_ | refine blk_alloc ?_ _)); exact BKaAq13.out) hb); have BKx0q8 := Aside0.mk (blk_below (g := gbx0) (o := .cells #[.slice Au5_0 r5_r1.length cu5_0, .slice Au5_1 r5_r2.length cu5_1, .slice Au5_2 r5_r3.length cu5_2, .slice Au5_3 r5_r4.length cu5_3] 30 (0, 0)) (by (with_reducible repeat (first | refine blk_drewN ?_ _ | refine blk_drew ?_ | refine blk_alloc ?_ _)); exact BKx0q7.out) hb); have HOu4_0q10 := Aside0.mk (Kd.R_below (by (with_reducible repeat (first | apply Kd.R_alloc | apply Kd.R_drewN | apply Kd.R_drew)); exact HOu4_0q9.out) hb); have HOu5_0q9 := Aside0.mk (Kd.R_below (by (with_reducible repeat (first | apply Kd.R_alloc | apply Kd.R_drewN | apply Kd.R_drew)); exact HOu5_0q8.out) hb); have HOu5_1q9 := Aside0.mk (Kd.R_below (by (with_reducible repeat (first | apply Kd.R_alloc | apply Kd.R_drewN | apply Kd.R_drew)); exact HOu5_1q8.out) hb); have HOu5_2q9 := Aside0.mk (Kd.R_below (by (with_reducible repeat (first | apply Kd.R_alloc | apply Kd.R_drewN | apply Kd.R_drew)); exact HOu5_2q8.out) hb); have HOu5_3q9 := Aside0.mk (Kd.S_below (by (with_reducible repeat (first | apply Kd.S_alloc | apply Kd.S_drewN | apply Kd.S_drew)); exact HOu5_3q8.out) hb); have HOu6_0q6 := Aside0.mk (Kd.R_below (by (with_reducible repeat (first | apply Kd.R_alloc | apply Kd.R_drewN | apply Kd.R_drew)); exact HOu6_0q5.out) hb); have HOu7_0q5 := Aside0.mk (Kd.R_below (by (with_reducible repeat (first | apply Kd.R_alloc | apply Kd.R_drewN | apply Kd.R_drew)); exact HOu7_0q4.out) hb); clear HOu4_0q9 HOu5_0q8 HOu5_1q8 HOu5_2q8 HOu5_3q8 HOu6_0q5 HOu7_0q4 BKaAq13 BKx0q7)
    | (go_at_call 13; (with_reducible refine (laws_eqIntS.calls k _ _ r6_r _ _ r11_r true _ ?s1 ?s2 ?s3 ?s4 A12.out).mono ?_); (case s1 => repeat (first | exact (Kd.R_reads' HOu6_0q6.out).2.2 | (with_reducible refine Kd.C_alloc ?_ _) | (with_reducible refine Kd.C_drewN ?_ _) | (with_reducible refine Kd.C_drew ?_))); (case s2 => exact (Kd.R_reads' HOu6_0q6.out).2.1); (case s3 => repeat (first | exact (Kd.R_reads' HOu11_0.out).2.2 | (with_reducible refine Kd.C_alloc ?_ _) | (with_reducible refine Kd.C_drewN ?_ _) | (with_reducible refine Kd.C_drew ?_))); (case s4 => exact (Kd.R_reads' HOu11_0.out).2.1); rintro e w16 ⟨rfl, hd⟩; have hb := hd.below; have HB16 := Aside0.mk (below_step (by repeat (first | (with_reducible first | exact HB15.out | apply below_alloc | apply pw_below_drewN | apply below_drew1) | exact HB15.out)) hb); have LE16 := Aside0.mk (below_size hb); have BKaAq15 := Aside0.mk (blk_below (g := gbaA) (o := .cells #[.slice A0_0 l0_0.length c0_0, .slice A0_1 l0_1.length c0_1, .slice A0_2 l0_2.length c0_2, .slice A0_3 l0_3.length c0_3] 25 (0, 0)) (by (with_reducible repeat (first | refine blk_drewN ?_ _ | refine blk_drew ?_ | refine blk_alloc ?_ _)); exact BKaAq14.out) hb); have BKx0q9 := Aside0.mk (blk_below (g := gbx0) (o := .cells #[.slice Au5_0 r5_r1.length cu5_0, .slice Au5_1 r5_r2.length cu5_1, .slice Au5_2 r5_r3.length cu5_2, .slice Au5_3 r5_r4.length cu5_3] 30 (0, 0)) (by (with_reducible repeat (first | refine blk_drewN ?_ _ | refine blk_drew ?_ | refine blk_alloc ?_ _)); exact BKx0q8.out) hb); have HOu4_0q11 := Aside0.mk (Kd.R_below (by (with_reducible repeat (first | apply Kd.R_alloc | apply Kd.R_drewN | apply Kd.R_drew)); exact HOu4_0q10.out) hb); have HOu5_0q10 := Aside0.mk (Kd.R_below (by (with_reducible repeat (first | apply Kd.R_alloc | apply Kd.R_drewN | apply Kd.R_drew)); exact HOu5_0q9.out) hb); have HOu5_1q10 := Aside0.mk (Kd.R_below (by (with_reducible repeat (first | apply Kd.R_alloc | apply Kd.R_drewN | apply Kd.R_drew)); exact HOu5_1q9.out) hb); have HOu5_2q10 := Aside0.mk (Kd.R_below (by (with_reducible repeat (first | apply Kd.R_alloc | apply Kd.R_drewN | apply Kd.R_drew)); exact HOu5_2q9.out) hb); have HOu5_3q10 := Aside0.mk (Kd.S_below (by (with_reducible repeat (first | apply Kd.S_alloc | apply Kd.S_drewN | apply Kd.S_drew)); exact HOu5_3q9.out) hb); have HOu6_0q7 := Aside0.mk (Kd.R_below (by (with_reducible repeat (first | apply Kd.R_alloc | apply Kd.R_drewN | apply Kd.R_drew)); exact HOu6_0q6.out) hb); have HOu7_0q6 := Aside0.mk (Kd.R_below (by (with_reducible repeat (first | apply Kd.R_alloc | apply Kd.R_drewN | apply Kd.R_drew)); exact HOu7_0q5.out) hb); have HOu11_0q1 := Aside0.mk (Kd.R_below (by (with_reducible repeat (first | apply Kd.R_alloc | apply Kd.R_drewN | apply Kd.R_drew)); exact HOu11_0.out) hb); clear HOu4_0q10 HOu5_0q9 HOu5_1q9 HOu5_2q9 HOu5_3q9 HOu6_0q6 HOu7_0q5 HOu11_0 BKaAq14 BKx0q8; have hczx016_0 : w16.cell? ⟨gbx0, 0, none⟩ = some (.slice Au5_0 r5_r1.length cu5_0) := (blk_cell BKx0q9.out 0).trans rfl; have hczx016_1 : w16.cell? ⟨gbx0, 1, none⟩ = some (.slice Au5_1 r5_r2.length cu5_1) := (blk_cell BKx0q9.out 1).trans rfl; have hczx016_2 : w16.cell? ⟨gbx0, 2, none⟩ = some (.slice Au5_2 r5_r3.length cu5_2) := (blk_cell BKx0q9.out 2).trans rfl; have hczx016_3 : w16.cell? ⟨gbx0, 3, none⟩ = some (.slice Au5_3 r5_r4.length cu5_3) := (blk_cell BKx0q9.out 3).trans rfl)
    | (go_at_call 14; (with_reducible refine (laws_markAho.calls k (fun k_ => some k_ = (.slice Au5_0 r5_r1.length cu5_0 : Value).ownBlock) (.slice Au5_0 r5_r1.length cu5_0) r5_r1 (fun k_ => some k_ = (.slice Au5_1 r5_r2.length cu5_1 : Value).ownBlock) (.slice Au5_1 r5_r2.length cu5_1) r5_r2 (fun k_ => some k_ = (.slice Au5_2 r5_r3.length cu5_2 : Value).ownBlock) (.slice Au5_2 r5_r3.length cu5_2) r5_r3 (fun k_ => (w5.heap.size ≤ k_ ∧ k_ < w6.heap.size) ∧ ¬ some k_ = (.slice Au5_0 r5_r1.length cu5_0 : Value).ownBlock ∧ ¬ some k_ = (.slice Au5_1 r5_r2.length cu5_1 : Value).ownBlock ∧ ¬ some k_ = (.slice Au5_2 r5_r3.length cu5_2 : Value).ownBlock) (.slice Au5_3 r5_r4.length cu5_3) r5_r4 1 r13_r1 r13_r2 r13_r3 r13_r4 r13_r5 w _ ?s1 ?s2 ?s3 ?s4 ?s5 ?s6 ?s7 ?s8 ?s9 ?s10 ?s11 ?s12 ?s13 ?s14 ?s15 ?s16 ?s17 A13.out).mono ?_); (case s1 => exact (by repeat (first | (with_reducible first | exact HB16.out | apply below_alloc | apply pw_below_drewN | apply below_drew1) | exact HB16.out))); (case s2 => exact Kd.R_tight rfl HOu5_0q10.out); (case s3 => exact (fun k_ a_ => (HOu5_0q10.out.1 k_ a_.symm).1.1)); (case s4 => exact (fun k_ a_ => (HOu5_0q10.out.1 k_ a_.symm).1.2)); (case s5 => exact (fun k_ a_ b_ => b_.2.1 a_)); (case s6 => exact Kd.R_tight rfl HOu5_1q10.out); (case s7 => exact (fun k_ a_ => (HOu5_1q10.out.1 k_ a_.symm).1.1)); (case s8 => exact (fun k_ a_ => (HOu5_1q10.out.1 k_ a_.symm).1.2)); (case s9 => exact (fun k_ a_ b_ => b_.2.2.1 a_)); (case s10 => exact Kd.R_tight rfl HOu5_2q10.out); (case s11 => exact (fun k_ a_ => (HOu5_2q10.out.1 k_ a_.symm).1.1)); (case s12 => exact (fun k_ a_ => (HOu5_2q10.out.1 k_ a_.symm).1.2)); (case s13 => exact (fun k_ a_ b_ => b_.2.2.2 a_)); (case s14 => exact Kd.S_mono HOu5_3q10.out (fun k_ a_ => ⟨a_.2, a_.1.1, a_.1.2.1, a_.1.2.2⟩)); (case s15 => exact (fun k_ a_ b_ => a_.2.1 b_)); (case s16 => exact (fun k_ a_ b_ => a_.2.2.1 b_)); (case s17 => exact (fun k_ a_ b_ => a_.2.2.2 b_)); rintro e w17 ⟨rfl, ho0, ho1, ho2, ho3, hb, hk⟩; have HB17 := Aside0.mk hb; have LE17 := Aside0.mk hk.1; have hkr : Kept _ w17 (fun k_ => w5.heap.size ≤ k_ ∧ k_ < w6.heap.size) := Kept.mono hk (fun k_ h_ => (h_).elim (fun a_ => ((HOu5_0q10.out.1 k_ a_.symm).2)) (fun b0_ => (b0_).elim (fun a_ => ((HOu5_1q10.out.1 k_ a_.symm).2)) (fun b1_ => (b1_).elim (fun a_ => ((HOu5_2q10.out.1 k_ a_.symm).2)) (fun b2_ => b2_.1)))); have HOu4_0q12 := Aside0.mk (Kd.R_kept HOu4_0q11.out hkr (fun k_ a_ b_ => by have := a_.2.1; have := a_.2.2; have := b_.1; have := b_.2; have := LE5.out; have := LE6.out; omega)); have HOu6_0q8 := Aside0.mk (Kd.R_kept HOu6_0q7.out hkr (fun k_ a_ b_ => by have := a_.2.1; have := a_.2.2; have := b_.1; have := b_.2; have := LE6.out; have := LE7.out; have := LE8.out; have := LE9.out; omega)); have HOu7_0q7 := Aside0.mk (Kd.R_kept HOu7_0q6.out hkr (fun k_ a_ b_ => by have := a_.2.1; have := a_.2.2; have := b_.1; have := b_.2; have := LE6.out; have := LE7.out; have := LE8.out; have := LE9.out; have := LE10.out; omega)); have BKaAq16 := Aside0.mk (blk_kept BKaAq15.out hkr (fun a_ => by have := a_.1; have := a_.2; have := GgbaA.out; have := LE1.out; have := LE2.out; have := LE3.out; have := LE4.out; have := LE5.out; have := LE6.out; omega)); have BKx0q10 := Aside0.mk (blk_kept BKx0q9.out hkr (fun a_ => by have := a_.1; have := a_.2; have := Ggbx0.out; have := LE6.out; have := LE7.out; omega)); clear HOu4_0q11 HOu6_0q7 HOu7_0q6 BKaAq15 BKx0q9)
    | (go_at_call 15; (with_reducible refine (laws_markIntS.calls k (fun k_ => some k_ = (.slice Au6_0 r6_r.length cu6_0 : Value).ownBlock) (.slice Au6_0 r6_r.length cu6_0) r6_r r13_r1 r14_r1 r14_r2 w _ ?s1 ?s2 A14.out).mono ?_); (case s1 => exact (by repeat (first | (with_reducible first | exact HB17.out | apply below_alloc | apply pw_below_drewN | apply below_drew1) | exact HB17.out))); (case s2 => exact Kd.R_tight rfl HOu6_0q8.out); rintro e w18 ⟨rfl, ho0, hb, hk⟩; have HB18 := Aside0.mk hb; have LE18 := Aside0.mk hk.1; have hkr : Kept _ w18 (fun k_ => w8.heap.size ≤ k_ ∧ k_ < w9.heap.size) := Kept.mono hk (fun k_ h_ => ((HOu6_0q8.out.1 k_ h_.symm).2)); have HOu4_0q13 := Aside0.mk (Kd.R_kept HOu4_0q12.out hkr (fun k_ a_ b_ => by have := a_.2.1; have := a_.2.2; have := b_.1; have := b_.2; have := LE5.out; have := LE6.out; have := LE7.out; have := LE8.out; have := LE9.out; omega)); have HOu7_0q8 := Aside0.mk (Kd.R_kept HOu7_0q7.out hkr (fun k_ a_ b_ => by have := a_.2.1; have := a_.2.2; have := b_.1; have := b_.2; have := LE9.out; have := LE10.out; omega)); have BKaAq17 := Aside0.mk (blk_kept BKaAq16.out hkr (fun a_ => by have := a_.1; have := a_.2; have := GgbaA.out; have := LE1.out; have := LE2.out; have := LE3.out; have := LE4.out; have := LE5.out; have := LE6.out; have := LE7.out; have := LE8.out; have := LE9.out; omega)); clear HOu4_0q12 HOu7_0q7 BKaAq16)
    | (go_at_call 11; (with_reducible refine (laws_eqHitS.calls k _ _ r7_r1 _ _ r4_r1 true _ ?s1 ?s2 ?s3 ?s4 A15.out).mono ?_); (case s1 => repeat (first | exact (Kd.R_reads' HOu7_0q8.out).2.2 | (with_reducible refine Kd.C_alloc ?_ _) | (with_reducible refine Kd.C_drewN ?_ _) | (with_reducible refine Kd.C_drew ?_))); (case s2 => exact (Kd.R_reads' HOu7_0q8.out).2.1); (case s3 => repeat (first | exact (Kd.R_reads' HOu4_0q13.out).2.2 | (with_reducible refine Kd.C_alloc ?_ _) | (with_reducible refine Kd.C_drewN ?_ _) | (with_reducible refine Kd.C_drew ?_))); (case s4 => exact (Kd.R_reads' HOu4_0q13.out).2.1); rintro e w19 ⟨rfl, hb⟩; have HB19 := Aside0.mk (below_step (by repeat (first | (with_reducible first | exact HB18.out | apply below_alloc | apply pw_below_drewN | apply below_drew1) | exact HB18.out)) hb); have LE19 := Aside0.mk (below_size hb); have BKaAq18 := Aside0.mk (blk_below (g := gbaA) (o := .cells #[.slice A0_0 l0_0.length c0_0, .slice A0_1 l0_1.length c0_1, .slice A0_2 l0_2.length c0_2, .slice A0_3 l0_3.length c0_3] 25 (0, 0)) (by (with_reducible repeat (first | refine blk_drewN ?_ _ | refine blk_drew ?_ | refine blk_alloc ?_ _)); exact BKaAq17.out) hb); have HOu4_0q14 := Aside0.mk (Kd.R_below (by (with_reducible repeat (first | apply Kd.R_alloc | apply Kd.R_drewN | apply Kd.R_drew)); exact HOu4_0q13.out) hb); have HOu7_0q9 := Aside0.mk (Kd.R_below (by (with_reducible repeat (first | apply Kd.R_alloc | apply Kd.R_drewN | apply Kd.R_drew)); exact HOu7_0q8.out) hb); clear HOu4_0q13 HOu7_0q8 BKaAq17)
    | (go_at_call 16; (with_reducible refine (laws_markHitS.calls k (fun k_ => some k_ = (.slice Au7_0 r7_r1.length cu7_0 : Value).ownBlock) (.slice Au7_0 r7_r1.length cu7_0) r7_r1 1 r16_r1 r16_r2 w _ ?s1 ?s2 A16.out).mono ?_); (case s1 => exact (by repeat (first | (with_reducible first | exact HB19.out | apply below_alloc | apply pw_below_drewN | apply below_drew1) | exact HB19.out))); (case s2 => exact Kd.R_tight rfl HOu7_0q9.out); rintro e w20 ⟨rfl, ho0, hb, hk⟩; have HB20 := Aside0.mk hb; have LE20 := Aside0.mk hk.1; have hkr : Kept _ w20 (fun k_ => w9.heap.size ≤ k_ ∧ k_ < w10.heap.size) := Kept.mono hk (fun k_ h_ => ((HOu7_0q9.out.1 k_ h_.symm).2)); have HOu4_0q15 := Aside0.mk (Kd.R_kept HOu4_0q14.out hkr (fun k_ a_ b_ => by have := a_.2.1; have := a_.2.2; have := b_.1; have := b_.2; have := LE5.out; have := LE6.out; have := LE7.out; have := LE8.out; have := LE9.out; have := LE10.out; omega)); have BKaAq19 := Aside0.mk (blk_kept BKaAq18.out hkr (fun a_ => by have := a_.1; have := a_.2; have := GgbaA.out; have := LE1.out; have := LE2.out; have := LE3.out; have := LE4.out; have := LE5.out; have := LE6.out; have := LE7.out; have := LE8.out; have := LE9.out; have := LE10.out; omega)); have ho0r := Kd.R_mono (ok' := fun k_ => True ∧ w9.heap.size ≤ k_ ∧ k_ < w10.heap.size) (Kd.R_tight rfl ho0) (fun k_ a_ => ⟨trivial, (HOu7_0q9.out.1 k_ a_.symm).2⟩); have hl16_0 := (Kd.R_reads' ho0r).1; rw [hl16_0] at ho0r; (try rw [hl16_0]); have HOu7_0q9m := Aside0.mk ho0r; clear HOu4_0q14 BKaAq18)
    | (go_at_call 17; (with_reducible refine (laws_heldHitS.calls k _ _ r16_r2 1 r17_r _ ?s1 ?s2 A17.out).mono ?_); (case s1 => repeat (first | exact (Kd.R_reads' HOu7_0q9m.out).2.2 | (with_reducible refine Kd.C_alloc ?_ _) | (with_reducible refine Kd.C_drewN ?_ _) | (with_reducible refine Kd.C_drew ?_))); (case s2 => exact (Kd.R_reads' HOu7_0q9m.out).2.1); rintro e w21 ⟨rfl, hd⟩; have hb := hd.below; have HB21 := Aside0.mk (below_step (by repeat (first | (with_reducible first | exact HB20.out | apply below_alloc | apply pw_below_drewN | apply below_drew1) | exact HB20.out)) hb); have LE21 := Aside0.mk (below_size hb); have BKaAq20 := Aside0.mk (blk_below (g := gbaA) (o := .cells #[.slice A0_0 l0_0.length c0_0, .slice A0_1 l0_1.length c0_1, .slice A0_2 l0_2.length c0_2, .slice A0_3 l0_3.length c0_3] 25 (0, 0)) (by (with_reducible repeat (first | refine blk_drewN ?_ _ | refine blk_drew ?_ | refine blk_alloc ?_ _)); exact BKaAq19.out) hb); have HOu4_0q16 := Aside0.mk (Kd.R_below (by (with_reducible repeat (first | apply Kd.R_alloc | apply Kd.R_drewN | apply Kd.R_drew)); exact HOu4_0q15.out) hb); have HOu7_0q9mq1 := Aside0.mk (Kd.R_below (by (with_reducible repeat (first | apply Kd.R_alloc | apply Kd.R_drewN | apply Kd.R_drew)); exact HOu7_0q9m.out) hb); clear HOu4_0q15 HOu7_0q9m BKaAq19; have hczaA21_0 : w21.cell? ⟨gbaA, 0, none⟩ = some (.slice A0_0 l0_0.length c0_0) := (blk_cell BKaAq20.out 0).trans rfl; have hczaA21_1 : w21.cell? ⟨gbaA, 1, none⟩ = some (.slice A0_1 l0_1.length c0_1) := (blk_cell BKaAq20.out 1).trans rfl; have hczaA21_2 : w21.cell? ⟨gbaA, 2, none⟩ = some (.slice A0_2 l0_2.length c0_2) := (blk_cell BKaAq20.out 2).trans rfl; have hczaA21_3 : w21.cell? ⟨gbaA, 3, none⟩ = some (.slice A0_3 l0_3.length c0_3) := (blk_cell BKaAq20.out 3).trans rfl)
    | (go_at_call 8; (with_reducible refine (laws_toAho.calls k _ _ l0_0 _ _ l0_1 _ _ l0_2 _ _ l0_3 r18_r1 r18_r2 r18_r3 r18_r4 _ ?s1 ?s2 ?s3 ?s4 ?s5 ?s6 ?s7 ?s8 A18.out).mono ?_); (case s1 => repeat (first | exact (Kd.C_below HR0_0.out HB21.out) | (with_reducible refine Kd.C_alloc ?_ _) | (with_reducible refine Kd.C_drewN ?_ _) | (with_reducible refine Kd.C_drew ?_))); (case s2 => exact HC0_0.out); (case s3 => repeat (first | exact (Kd.C_below HR0_1.out HB21.out) | (with_reducible refine Kd.C_alloc ?_ _) | (with_reducible refine Kd.C_drewN ?_ _) | (with_reducible refine Kd.C_drew ?_))); (case s4 => exact HC0_1.out); (case s5 => repeat (first | exact (Kd.C_below HR0_2.out HB21.out) | (with_reducible refine Kd.C_alloc ?_ _) | (with_reducible refine Kd.C_drewN ?_ _) | (with_reducible refine Kd.C_drew ?_))); (case s6 => exact HC0_2.out); (case s7 => repeat (first | exact (Kd.C_below HR0_3.out HB21.out) | (with_reducible refine Kd.C_alloc ?_ _) | (with_reducible refine Kd.C_drewN ?_ _) | (with_reducible refine Kd.C_drew ?_))); (case s8 => exact HC0_3.out); rintro e w22 ⟨u18_0, u18_1, u18_2, u18_3, rfl, ho0, ho1, ho2, ho3, hb⟩; have HB22 := Aside0.mk (below_step (by repeat (first | (with_reducible first | exact HB21.out | apply below_alloc | apply pw_below_drewN | apply below_drew1) | exact HB21.out)) hb); have LE22 := Aside0.mk (below_size hb); obtain ⟨Au18_0, cu18_0, qu18_0⟩ := Kd.R_slice ho0; subst qu18_0; obtain ⟨Au18_1, cu18_1, qu18_1⟩ := Kd.R_slice ho1; subst qu18_1; obtain ⟨Au18_2, cu18_2, qu18_2⟩ := Kd.R_slice ho2; subst qu18_2; obtain ⟨Au18_3, cu18_3, qu18_3⟩ := Kd.S_slice ho3; subst qu18_3; have HOu18_0 := Aside0.mk (Kd.R_lower (R_rng ho0) (below_size (by repeat (first | (with_reducible first | exact HB21.out | apply below_alloc | apply pw_below_drewN | apply below_drew1) | exact HB21.out)))); have HOu18_1 := Aside0.mk (Kd.R_lower (R_rng ho1) (below_size (by repeat (first | (with_reducible first | exact HB21.out | apply below_alloc | apply pw_below_drewN | apply below_drew1) | exact HB21.out)))); have HOu18_2 := Aside0.mk (Kd.R_lower (R_rng ho2) (below_size (by repeat (first | (with_reducible first | exact HB21.out | apply below_alloc | apply pw_below_drewN | apply below_drew1) | exact HB21.out)))); have HOu18_3 := Aside0.mk (Kd.S_lower (S_rng ho3) (below_size (by repeat (first | (with_reducible first | exact HB21.out | apply below_alloc | apply pw_below_drewN | apply below_drew1) | exact HB21.out)))); have BKaAq21 := Aside0.mk (blk_below (g := gbaA) (o := .cells #[.slice A0_0 l0_0.length c0_0, .slice A0_1 l0_1.length c0_1, .slice A0_2 l0_2.length c0_2, .slice A0_3 l0_3.length c0_3] 25 (0, 0)) (by (with_reducible repeat (first | refine blk_drewN ?_ _ | refine blk_drew ?_ | refine blk_alloc ?_ _)); exact BKaAq20.out) hb); have HOu4_0q17 := Aside0.mk (Kd.R_below (by (with_reducible repeat (first | apply Kd.R_alloc | apply Kd.R_drewN | apply Kd.R_drew)); exact HOu4_0q16.out) hb); have HOu7_0q9mq2 := Aside0.mk (Kd.R_below (by (with_reducible repeat (first | apply Kd.R_alloc | apply Kd.R_drewN | apply Kd.R_drew)); exact HOu7_0q9mq1.out) hb); clear HOu4_0q16 HOu7_0q9mq1 BKaAq20)
    | (go_at_call 9; (with_reducible refine (laws_toIntS.calls k _ _ l1 r19_r _ ?s1 ?s2 A19.out).mono ?_); (case s1 => repeat (first | exact (Kd.C_below HR1.out HB22.out) | (with_reducible refine Kd.C_alloc ?_ _) | (with_reducible refine Kd.C_drewN ?_ _) | (with_reducible refine Kd.C_drew ?_))); (case s2 => exact HC1.out); rintro e w23 ⟨u19_0, rfl, ho0, hb⟩; have HB23 := Aside0.mk (below_step (by repeat (first | (with_reducible first | exact HB22.out | apply below_alloc | apply pw_below_drewN | apply below_drew1) | exact HB22.out)) hb); have LE23 := Aside0.mk (below_size hb); obtain ⟨Au19_0, cu19_0, qu19_0⟩ := Kd.R_slice ho0; subst qu19_0; have HOu19_0 := Aside0.mk (Kd.R_lower (R_rng ho0) (below_size (by repeat (first | (with_reducible first | exact HB22.out | apply below_alloc | apply pw_below_drewN | apply below_drew1) | exact HB22.out)))); have BKaAq22 := Aside0.mk (blk_below (g := gbaA) (o := .cells #[.slice A0_0 l0_0.length c0_0, .slice A0_1 l0_1.length c0_1, .slice A0_2 l0_2.length c0_2, .slice A0_3 l0_3.length c0_3] 25 (0, 0)) (by (with_reducible repeat (first | refine blk_drewN ?_ _ | refine blk_drew ?_ | refine blk_alloc ?_ _)); exact BKaAq21.out) hb); have HOu4_0q18 := Aside0.mk (Kd.R_below (by (with_reducible repeat (first | apply Kd.R_alloc | apply Kd.R_drewN | apply Kd.R_drew)); exact HOu4_0q17.out) hb); have HOu7_0q9mq3 := Aside0.mk (Kd.R_below (by (with_reducible repeat (first | apply Kd.R_alloc | apply Kd.R_drewN | apply Kd.R_drew)); exact HOu7_0q9mq2.out) hb); have HOu18_0q1 := Aside0.mk (Kd.R_below (by (with_reducible repeat (first | apply Kd.R_alloc | apply Kd.R_drewN | apply Kd.R_drew)); exact HOu18_0.out) hb); have HOu18_1q1 := Aside0.mk (Kd.R_below (by (with_reducible repeat (first | apply Kd.R_alloc | apply Kd.R_drewN | apply Kd.R_drew)); exact HOu18_1.out) hb); have HOu18_2q1 := Aside0.mk (Kd.R_below (by (with_reducible repeat (first | apply Kd.R_alloc | apply Kd.R_drewN | apply Kd.R_drew)); exact HOu18_2.out) hb); have HOu18_3q1 := Aside0.mk (Kd.S_below (by (with_reducible repeat (first | apply Kd.S_alloc | apply Kd.S_drewN | apply Kd.S_drew)); exact HOu18_3.out) hb); clear HOu4_0q17 HOu7_0q9mq2 HOu18_0 HOu18_1 HOu18_2 HOu18_3 BKaAq21; have hczaA23_0 : w23.cell? ⟨gbaA, 0, none⟩ = some (.slice A0_0 l0_0.length c0_0) := (blk_cell BKaAq22.out 0).trans rfl; have hczaA23_1 : w23.cell? ⟨gbaA, 1, none⟩ = some (.slice A0_1 l0_1.length c0_1) := (blk_cell BKaAq22.out 1).trans rfl; have hczaA23_2 : w23.cell? ⟨gbaA, 2, none⟩ = some (.slice A0_2 l0_2.length c0_2) := (blk_cell BKaAq22.out 2).trans rfl; have hczaA23_3 : w23.cell? ⟨gbaA, 3, none⟩ = some (.slice A0_3 l0_3.length c0_3) := (blk_cell BKaAq22.out 3).trans rfl)
    | (go_at_call 10; (with_reducible refine (impl_RunAho.calls k _ _ r18_r1 _ _ r18_r2 _ _ r18_r3 _ _ r18_r4 _ _ r19_r r20_r1 r20_r2 _ ?s1 ?s2 ?s3 ?s4 ?s5 ?s6 ?s7 ?s8 ?s9 ?s10 A20.out).mono ?_); (case s1 => repeat (first | exact (Kd.R_reads' HOu18_0q1.out).2.2 | (with_reducible refine Kd.C_alloc ?_ _) | (with_reducible refine Kd.C_drewN ?_ _) | (with_reducible refine Kd.C_drew ?_))); (case s2 => exact (Kd.R_reads' HOu18_0q1.out).2.1); (case s3 => repeat (first | exact (Kd.R_reads' HOu18_1q1.out).2.2 | (with_reducible refine Kd.C_alloc ?_ _) | (with_reducible refine Kd.C_drewN ?_ _) | (with_reducible refine Kd.C_drew ?_))); (case s4 => exact (Kd.R_reads' HOu18_1q1.out).2.1); (case s5 => repeat (first | exact (Kd.R_reads' HOu18_2q1.out).2.2 | (with_reducible refine Kd.C_alloc ?_ _) | (with_reducible refine Kd.C_drewN ?_ _) | (with_reducible refine Kd.C_drew ?_))); (case s6 => exact (Kd.R_reads' HOu18_2q1.out).2.1); (case s7 => repeat (first | exact (Kd.S_reads' HOu18_3q1.out).2.2 | (with_reducible refine Kd.C_alloc ?_ _) | (with_reducible refine Kd.C_drewN ?_ _) | (with_reducible refine Kd.C_drew ?_))); (case s8 => exact (Kd.S_reads' HOu18_3q1.out).2.1); (case s9 => repeat (first | exact (Kd.R_reads' HOu19_0.out).2.2 | (with_reducible refine Kd.C_alloc ?_ _) | (with_reducible refine Kd.C_drewN ?_ _) | (with_reducible refine Kd.C_drew ?_))); (case s10 => exact (Kd.R_reads' HOu19_0.out).2.1); rintro e w24 ⟨u20_0, rfl, ho0, hb⟩; have HB24 := Aside0.mk (below_step (by repeat (first | (with_reducible first | exact HB23.out | apply below_alloc | apply pw_below_drewN | apply below_drew1) | exact HB23.out)) hb); have LE24 := Aside0.mk (below_size hb); obtain ⟨Au20_0, cu20_0, qu20_0⟩ := Kd.R_slice ho0; subst qu20_0; have HOu20_0 := Aside0.mk (Kd.R_lower (R_rng ho0) (below_size (by repeat (first | (with_reducible first | exact HB23.out | apply below_alloc | apply pw_below_drewN | apply below_drew1) | exact HB23.out)))); have BKaAq23 := Aside0.mk (blk_below (g := gbaA) (o := .cells #[.slice A0_0 l0_0.length c0_0, .slice A0_1 l0_1.length c0_1, .slice A0_2 l0_2.length c0_2, .slice A0_3 l0_3.length c0_3] 25 (0, 0)) (by (with_reducible repeat (first | refine blk_drewN ?_ _ | refine blk_drew ?_ | refine blk_alloc ?_ _)); exact BKaAq22.out) hb); have HOu4_0q19 := Aside0.mk (Kd.R_below (by (with_reducible repeat (first | apply Kd.R_alloc | apply Kd.R_drewN | apply Kd.R_drew)); exact HOu4_0q18.out) hb); have HOu7_0q9mq4 := Aside0.mk (Kd.R_below (by (with_reducible repeat (first | apply Kd.R_alloc | apply Kd.R_drewN | apply Kd.R_drew)); exact HOu7_0q9mq3.out) hb); have HOu18_0q2 := Aside0.mk (Kd.R_below (by (with_reducible repeat (first | apply Kd.R_alloc | apply Kd.R_drewN | apply Kd.R_drew)); exact HOu18_0q1.out) hb); have HOu18_1q2 := Aside0.mk (Kd.R_below (by (with_reducible repeat (first | apply Kd.R_alloc | apply Kd.R_drewN | apply Kd.R_drew)); exact HOu18_1q1.out) hb); have HOu18_2q2 := Aside0.mk (Kd.R_below (by (with_reducible repeat (first | apply Kd.R_alloc | apply Kd.R_drewN | apply Kd.R_drew)); exact HOu18_2q1.out) hb); have HOu18_3q2 := Aside0.mk (Kd.S_below (by (with_reducible repeat (first | apply Kd.S_alloc | apply Kd.S_drewN | apply Kd.S_drew)); exact HOu18_3q1.out) hb); have HOu19_0q1 := Aside0.mk (Kd.R_below (by (with_reducible repeat (first | apply Kd.R_alloc | apply Kd.R_drewN | apply Kd.R_drew)); exact HOu19_0.out) hb); clear HOu4_0q18 HOu7_0q9mq3 HOu18_0q1 HOu18_1q1 HOu18_2q1 HOu18_3q1 HOu19_0 BKaAq22)
    | (go_at_call 11; (with_reducible refine (laws_eqHitS.calls k _ _ r20_r1 _ _ r4_r1 true _ ?s1 ?s2 ?s3 ?s4 A21.out).mono ?_); (case s1 => repeat (first | exact (Kd.R_reads' HOu20_0.out).2.2 | (with_reducible refine Kd.C_alloc ?_ _) | (with_reducible refine Kd.C_drewN ?_ _) | (with_reducible refine Kd.C_drew ?_))); (case s2 => exact (Kd.R_reads' HOu20_0.out).2.1); (case s3 => repeat (first | exact (Kd.R_reads' HOu4_0q19.out).2.2 | (with_reducible refine Kd.C_alloc ?_ _) | (with_reducible refine Kd.C_drewN ?_ _) | (with_reducible refine Kd.C_drew ?_))); (case s4 => exact (Kd.R_reads' HOu4_0q19.out).2.1); rintro e w25 ⟨rfl, hb⟩; have HB25 := Aside0.mk (below_step (by repeat (first | (with_reducible first | exact HB24.out | apply below_alloc | apply pw_below_drewN | apply below_drew1) | exact HB24.out)) hb); have LE25 := Aside0.mk (below_size hb); have HOu4_0q20 := Aside0.mk (Kd.R_below (by (with_reducible repeat (first | apply Kd.R_alloc | apply Kd.R_drewN | apply Kd.R_drew)); exact HOu4_0q19.out) hb); have HOu7_0q9mq5 := Aside0.mk (Kd.R_below (by (with_reducible repeat (first | apply Kd.R_alloc | apply Kd.R_drewN | apply Kd.R_drew)); exact HOu7_0q9mq4.out) hb); have HOu20_0q1 := Aside0.mk (Kd.R_below (by (with_reducible repeat (first | apply Kd.R_alloc | apply Kd.R_drewN | apply Kd.R_drew)); exact HOu20_0.out) hb); clear HOu4_0q19 HOu7_0q9mq4 HOu20_0)
    | (go_at_call 17; (with_reducible refine (laws_heldHitS.calls k _ _ r16_r2 1 r22_r _ ?s1 ?s2 A22.out).mono ?_); (case s1 => repeat (first | exact (Kd.R_reads' HOu7_0q9mq5.out).2.2 | (with_reducible refine Kd.C_alloc ?_ _) | (with_reducible refine Kd.C_drewN ?_ _) | (with_reducible refine Kd.C_drew ?_))); (case s2 => exact (Kd.R_reads' HOu7_0q9mq5.out).2.1); rintro e w26 ⟨rfl, hd⟩; have hb := hd.below; have HB26 := Aside0.mk (below_step (by repeat (first | (with_reducible first | exact HB25.out | apply below_alloc | apply pw_below_drewN | apply below_drew1) | exact HB25.out)) hb); have LE26 := Aside0.mk (below_size hb); have HOu7_0q9mq6 := Aside0.mk (Kd.R_below (by (with_reducible repeat (first | apply Kd.R_alloc | apply Kd.R_drewN | apply Kd.R_drew)); exact HOu7_0q9mq5.out) hb); clear HOu7_0q9mq5))
  go_ret
  exact ⟨by first | rfl | (simp; done) | (simp [*]; done), (by repeat (first | (with_reducible first | exact HB26.out | apply below_alloc | apply pw_below_drewN | apply below_drew1) | exact HB26.out))⟩


end Go.Proofs.Ytoipfgpggcnkmaa.P
