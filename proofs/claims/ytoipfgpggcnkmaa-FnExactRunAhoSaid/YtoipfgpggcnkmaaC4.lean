import Derived.Test.YtoipfgpggcnkmaaCP0
import Derived.Test.YtoipfgpggcnkmaaC2
namespace Go.Proofs.Ytoipfgpggcnkmaa.P
open Go.RowKit Go.Proofs.YtoipfgpggcnkmaaW.PrintWords Go.Proofs.YtoipfgpggcnkmaaW.PrintLast Go.Proofs.YtoipfgpggcnkmaaW.PrintMore
attribute [local go_sem] max2_int min2_int max_two min_two max_three min_three max_four min_four   -- for this text's walks alone
set_option linter.unusedVariables false
set_option linter.unusedSimpArgs false


set_option maxHeartbeats 8000000 in
theorem slices_IndexFunc_int_int.fn (g : Nat) (lb : Array Value) (eg : ∀ args w, (callFunc g args).run Try.prog w = .ok (.enter g args) w) (p : Int → Bool) (A : Option Addr) (c : Nat) (l : List Int) (w : World) (hr : Kd.C (Kd.int .i64) w A l.length l)
    (hp : ∀ n x, x ∈ l → Calls Try.prog g (#[.int .i64 x] ++ lb) (w.drewN n) fun e w' => e = .returned (.bool (p x)) ∧ Drawn0 (w.drewN n) w') :
    Calls Try.prog 75 #[.slice A l.length c, .func (.func g) #[] lb] w fun e w' => e = .returned (.int .i64 (idxOf p l)) ∧ Drawn0 w w' := by
  have hbig : l.length ≤ 9223372036854775807 := hr.2.1
  have HR := Aside0.mk hr
  have HP := Aside0.mk hp
  clear hr hp
  go_enter Try.func75, Try.ntmps75
  go_wp2
  go_loopg [5, 8] l.length (fun gg _ s8 wr => ∃ kk q : Nat, kk ≤ l.length ∧ l.length - kk ≤ gg ∧ s8 = .int .i64 kk ∧ wr = w.drewN q ∧ Aside0 (∀ j (hj : j < l.length), j < kk → p l[j] = false))
  case atStart => exact ⟨0, 0, Nat.zero_le _, by omega, rfl, rfl, ⟨fun j _ hj => absurd hj (Nat.not_lt_zero _)⟩⟩
  case round =>
    obtain ⟨kk, q, hkk, hg, rfl, rfl, HA⟩ := hrel
    by_cases hlt : kk < l.length
    · have hltz : (kk : Int) < (l.length : Int) := by omega
      obtain ⟨ad, e, hx⟩ := Kd.at_int HR.out (kk : Int) (by omega) hltz
      cases e
      have hcall := HP.out
      have hm : rd l (kk : Int) ∈ l := by rw [rd_get l kk hlt]; exact List.getElem_mem hlt
      have hpe : p (rd l (kk : Int)) = p l[kk] := by rw [rd_get l kk hlt]
      have HPE := Aside0.mk hpe
      clear hpe
      have HM := Aside0.mk hm
      clear hm
      generalize rd l (kk : Int) = y at hx HPE HM
      simp only [Int.toNat_natCast] at hx
      have HC := Aside0.mk (fun n => hcall n y HM.out)
      clear hcall
      cases hq : p y with
      | true =>
        have HQ := Aside0.mk (HPE.out.symm.trans hq)
        have HC2 := Aside0.mk (fun n => hq ▸ HC.out n)
        clear hq
        go_wp2_with (go_at_fn g; refine (HC2.out _).mono ?_; rintro e w' ⟨rfl, ⟨q', rfl⟩⟩)
        go_ret
        refine ⟨?_, ⟨_, rfl⟩⟩
        rw [idxOf_hit p l kk hlt (fun j hj => HA.out j (by omega) hj) HQ.out]
        rfl
      | false =>
        have HQ := Aside0.mk (HPE.out.symm.trans hq)
        have HC2 := Aside0.mk (fun n => hq ▸ HC.out n)
        clear hq
        go_wp2_with (go_at_fn g; refine (HC2.out _).mono ?_; rintro e w' ⟨rfl, ⟨q', rfl⟩⟩)
        go_roundg (l.length - (kk + 1))
        case measure => omega
        case rel =>
          refine ⟨kk + 1, _, by omega, by omega, by go_num, rfl, ⟨fun j hj hjk => ?_⟩⟩
          by_cases e : j = kk
          · subst e
            exact HQ.out
          · exact HA.out j hj (by omega)
    · have hltz : ¬ (kk : Int) < (l.length : Int) := by omega
      have HMI := Aside0.mk (idxOf_miss p l (fun x hx => by
        obtain ⟨j, hj, rfl⟩ := List.getElem_of_mem hx
        exact HA.out j hj (by omega)))
      go_wp2
      go_ret
      refine ⟨?_, ⟨q, rfl⟩⟩
      rw [HMI.out]
      rfl

set_option maxHeartbeats 8000000 in
theorem slices_ContainsFunc_int_int.fn (g : Nat) (lb : Array Value) (eg : ∀ args w, (callFunc g args).run Try.prog w = .ok (.enter g args) w) (p : Int → Bool) (A : Option Addr) (c : Nat) (l : List Int) (w : World) (hr : Kd.C (Kd.int .i64) w A l.length l)
    (hp : ∀ n x, x ∈ l → Calls Try.prog g (#[.int .i64 x] ++ lb) (w.drewN n) fun e w' => e = .returned (.bool (p x)) ∧ Drawn0 (w.drewN n) w') :
    Calls Try.prog 68 #[.slice A l.length c, .func (.func g) #[] lb] w fun e w' => e = .returned (.bool (l.any p)) ∧ Drawn0 w w' := by
  have H := slices_IndexFunc_int_int.fn g lb eg p A c l w hr hp
  have HB := Aside0.mk (idxOf_any p l)
  clear hr hp
  generalize idxOf p l = i at H HB
  generalize l.any p = b at HB
  have HH := Aside0.mk H
  clear H
  by_cases h0 : 0 ≤ i
  · obtain rfl : b = true := by rw [← HB.out]; exact h0
    clear HB
    go_enter Try.func68, Try.ntmps68
    go_wp2_with (go_at_call 75; refine HH.out.mono ?_; rintro e w' ⟨rfl, ⟨q', rfl⟩⟩)
    go_ret
    exact ⟨by simp [h0], ⟨_, rfl⟩⟩
  · obtain rfl : b = false := by
      cases hb : b
      · rfl
      · exact absurd (HB.out.mpr hb) h0
    clear HB
    go_enter Try.func68, Try.ntmps68
    go_wp2_with (go_at_call 75; refine HH.out.mono ?_; rintro e w' ⟨rfl, ⟨q', rfl⟩⟩)
    go_ret
    exact ⟨by simp [h0], ⟨_, rfl⟩⟩

def impl_areRunes_1.f (a0 : Int) : Option (Bool) := (impl_GoodRune.f a0).bind fun t211 => (some (!t211))
set_option maxHeartbeats 8000000 in
set_option maxRecDepth 100000 in
theorem impl_areRunes_1.calls (a0 : Int) (r : Bool) (w : World) (h : impl_areRunes_1.f a0 = some r) :
    Calls Try.prog 69 #[.int .i64 a0] w fun e w' => e = .returned (.bool r) ∧ Drawn0 w w' := by
  have H : ((impl_GoodRune.f a0).bind fun t211 => (some (!t211))) = some r := h
  clear h
  replace H := Option.bind_eq_some_iff.mp H
  obtain ⟨t211, A20, H⟩ := H
  replace H : (some (!t211)) = some r := H
  have A2 := Aside0.mk A20
  clear A20
  obtain rfl := Option.some.inj H
  go_enter Try.func69, Try.ntmps69
  go_wp2_with (first | ((with_reducible refine gate_callee (f := 66) rfl ?_); refine goesL_ (some 4) rfl rfl Try.func66 (by kernel_rfl) rfl #[.int .i64 a0] rfl (by (try simp only [List.map_toArray, List.map_cons, List.map_nil]); first | done | rfl | (simp only [List.length_drop, List.length_take]; rfl)) ?_; (with_reducible refine (impl_GoodRune.calls a0 t211 _ A2.out).mono ?_); rintro e w' ⟨rfl, ⟨nd, rfl⟩⟩; refine ⟨_, rfl, ?_⟩))
  go_ret
  exact ⟨by first | rfl | (simp; done) | (simp [*]; done), by repeat (first | exact Drawn0.refl _ | apply Drawn0.step)⟩

def slices_ContainsFunc_int_int_69.f (k : Nat) (l0 : List Int) : Option Bool := anyO (fun x => impl_areRunes_1.f x) l0
theorem slices_ContainsFunc_int_int_69.mono : ∀ a0 k, LeO (slices_ContainsFunc_int_int_69.f k a0) (slices_ContainsFunc_int_int_69.f (k + 1) a0) := fun a0 k => anyO_mono (fun x => LeO.refl _) a0
set_option maxHeartbeats 8000000 in
theorem slices_ContainsFunc_int_int_69.calls (k : Nat) (A0 : Option Addr) (c0 : Nat) (l0 : List Int) (r : Bool) (w : World) (hr0 : Kd.C (Kd.int .i64) w A0 l0.length l0) (hc0 : l0.length ≤ c0) (h : slices_ContainsFunc_int_int_69.f k l0 = some r) :
    Calls Try.prog 68 #[.slice A0 l0.length c0, .func (.func 69) #[] #[]] w fun e w' => e = .returned (.bool r) ∧ Drawn0 w w' := by
  have eg : ∀ args w, (callFunc 69 args).run Try.prog w = .ok (.enter 69 args) w := enters_of Try.func69 (by kernel_rfl) rfl
  obtain ⟨hs, rfl⟩ := anyO_some h
  exact slices_ContainsFunc_int_int.fn 69 #[] eg (fun x => (impl_areRunes_1.f x).getD false) A0 c0 l0 w hr0 (fun n x hx => impl_areRunes_1.calls x _ _ (by
    obtain ⟨b, hb⟩ := Option.isSome_iff_exists.1 (hs x hx)
    rw [hb]
    rfl))

def impl_areRunes.f (k : Nat) (l0 : List Int) (a1 : Int) : Option (Bool) := if (l0.length : Int) ≤ a1 then ((slices_ContainsFunc_int_int_69.f k l0).bind fun t212 => (some (!t212))) else (some false)
theorem impl_areRunes.mono : ∀ a0 a1 k, LeO (impl_areRunes.f k a0 a1) (impl_areRunes.f (k + 1) a0 a1) := by
  intro a0 a1 k
  unfold impl_areRunes.f
  repeat' first
      | (with_reducible exact slices_ContainsFunc_int_int_69.mono _ _)
      | (with_reducible exact LeO.refl _)
      | (with_reducible exact LeO.none _)
      | (with_reducible refine LeO.ite ?_ ?_)
      | (with_reducible refine LeO.bind ?_ (fun _ => ?_))
      | exact slices_ContainsFunc_int_int_69.mono _ _
      | exact LeO.none _
      | refine LeO.ite ?_ ?_
      | refine LeO.bind ?_ (fun _ => ?_)
set_option maxHeartbeats 8000000 in
set_option maxRecDepth 100000 in
theorem impl_areRunes.calls (k : Nat) (A0 : Option Addr) (c0 : Nat) (l0 : List Int) (a1 : Int) (r : Bool) (w : World) (hr0 : Kd.C (Kd.int .i64) w A0 l0.length l0) (hc0 : l0.length ≤ c0) (h : impl_areRunes.f k l0 a1 = some r) :
    Calls Try.prog 36 #[.slice A0 l0.length c0, .int .i64 a1] w fun e w' => e = .returned (.bool r) ∧ Drawn0 w w' := by
  have HR0 := Aside0.mk hr0
  have HC0 := Aside0.mk hc0
  clear hr0 hc0
  have H : (if (l0.length : Int) ≤ a1 then ((slices_ContainsFunc_int_int_69.f k l0).bind fun t212 => (some (!t212))) else (some false)) = some r := h
  clear h
  by_cases c3 : (l0.length : Int) ≤ a1
  · rw [if_pos c3] at H
    have c3b0 : decide ((l0.length : Int) ≤ a1) = true := decide_eq_true c3
    clear c3
    replace H := Option.bind_eq_some_iff.mp H
    obtain ⟨t212, A40, H⟩ := H
    replace H : (some (!t212)) = some r := H
    have A4 := Aside0.mk A40
    clear A40
    obtain rfl := Option.some.inj H
    go_enter Try.func36, Try.ntmps36
    go_wp2_with (first | (go_at_call 68; (with_reducible refine (slices_ContainsFunc_int_int_69.calls k _ _ l0  t212 _ ?side1 ?side2 A4.out).mono ?_); (case side1 => repeat (first | exact HR0.out | (with_reducible refine Kd.C_alloc ?_ _) | (with_reducible refine Kd.C_drewN ?_ _) | (with_reducible refine Kd.C_drew ?_))); (case side2 => exact HC0.out); rintro e w' ⟨rfl, ⟨nd, rfl⟩⟩))
    go_ret
    exact ⟨by first | rfl | (simp; done) | (simp [*]; done), by repeat (first | exact Drawn0.refl _ | apply Drawn0.step)⟩
  · rw [if_neg c3] at H
    have c3b0 : decide ((l0.length : Int) ≤ a1) = false := decide_eq_false c3
    clear c3
    obtain rfl := Option.some.inj H
    go_enter Try.func36, Try.ntmps36
    go_wp2
    go_ret
    exact ⟨by first | rfl | (simp; done) | (simp [*]; done), by repeat (first | exact Drawn0.refl _ | apply Drawn0.step)⟩

theorem arr_store_run {P : Program} {w : World} {g : Nat} {e : TypeId} {cur : Array Value} (t : TypeId) (u : Value) (seg : List Value) (hh : w.heap[g]? = some (.cells cur e (0, 0))) (hu : u.cells.toList = seg) (ht : (P.info? t).map (·.size) = some seg.length) (hl : cur.size = seg.length) (h1 : ∀ q ∈ seg, q.oneCell' = true) :
    ∃ w1, (Instr.storeAt t (.pointer (some ⟨g, 0, none⟩)) u).run P w = .ok () w1 ∧ w1.heap[g]? = some (.cells seg.toArray e (0, 0)) ∧ w.grownBy w1 (some g) := by
  refine ⟨w.setCells g 0 seg, run_store_run t u seg hh hu ht (by omega) h1, ?_, ?_⟩
  · obtain ⟨cur', h2, h3, h4⟩ := setCells_row seg 0 w cur hh (by omega)
    rw [h2]
    rw [List.take_zero, List.nil_append, Nat.zero_add, List.drop_eq_nil_of_le (by rw [Array.length_toList]; omega), List.append_nil] at h4
    rw [← h4]
  · obtain ⟨s1, s2, s3, s4⟩ := setCells_same g seg 0 w
    exact ⟨s1, s2, s3, by rw [s4]; exact Nat.le_refl _, fun k _ hk => setCells_far seg 0 k (fun he => hk (by rw [he]))⟩
theorem arr_store {P : Program} {ops : Array Oper} {rest : List Oper} {o : Oper} {a : Act} {Q : Exit → Act → World → Prop} {W : World} (hN : o.dst = none) (hgd : o.guard = none) (t : TypeId) (p x : Operand) (ho : o.op = .store t p x) {g : Nat} {e : TypeId} {cur : Array Value} (u : Value) (seg : List Value)
    (haddr : a.eval p = .pointer (some ⟨g, 0, none⟩)) (hx : a.eval x = u) (hh : W.heap[g]? = some (.cells cur e (0, 0))) (hu : u.cells.toList = seg) (ht : (P.info? t).map (·.size) = some seg.length) (hl : cur.size = seg.length) (h1 : ∀ q ∈ seg, q.oneCell' = true)
    (h : ∀ w1, w1.heap[g]? = some (.cells seg.toArray e (0, 0)) → W.grownBy w1 (some g) → wpList P ops Q rest a w1) : wpList P ops Q (o :: rest) a W := by
  obtain ⟨w1, hrun, h2, h3⟩ := arr_store_run (P := P) t u seg hh hu ht hl h1
  refine wpList_plain hgd fun K hK => ?_
  unfold Oper.wp execOp
  simp only [ho, haddr, hx, Sem.run_bind, Sem.run_pure, Result.andThen_ok, hrun]
  show K (a.put o.dst undef) _
  rw [hN]
  exact hK a _ (h _ h2 h3)
theorem arr_store_step {P : Program} {ops : Array Oper} {o : Oper} {a : Act} {Q : Exit → Act → World → Prop} {K : Act → World → Prop} {W : World} (hw : Region.wanted o (yielded ops a.tmps) = true) (hN : o.dst = none) (t : TypeId) (p x : Operand) (ho : o.op = .store t p x) {g : Nat} {e : TypeId} {cur : Array Value} (u : Value) (seg : List Value)
    (haddr : a.eval p = .pointer (some ⟨g, 0, none⟩)) (hx : a.eval x = u) (hh : W.heap[g]? = some (.cells cur e (0, 0))) (hu : u.cells.toList = seg) (ht : (P.info? t).map (·.size) = some seg.length) (hl : cur.size = seg.length) (h1 : ∀ q ∈ seg, q.oneCell' = true)
    (h : ∀ w1, w1.heap[g]? = some (.cells seg.toArray e (0, 0)) → W.grownBy w1 (some g) → K a w1) : if Region.wanted o (yielded ops a.tmps) = true then Oper.wp P o a W K Q else K (a.put none undef) W := by
  obtain ⟨w1, hrun, h2, h3⟩ := arr_store_run (P := P) t u seg hh hu ht hl h1
  refine skip_ (w1 := w1) hw hN ?_ (h _ h2 h3)
  unfold execOp
  simp only [ho, haddr, hx, Sem.run_bind, Sem.run_pure, Result.andThen_ok, hrun]
mutual
def impl_Aho_lengths.l0 : Nat → List Int → List Bool → List Int → Int → List Int → List (List Int) → Option (List Int)
 | 0, _, _, _, _, _, _ => none
 | k + 1, o, kn, lg, i, P, E => if i < (E.length : Int) then (if 0 ≤ i then (if i > 0 then (if i < (P.length : Int) then (if 0 ≤ rd P i then (if rd P i < (lg.length : Int) then (if i < (lg.length : Int) then impl_Aho_lengths.l1 k o kn (lg.set i.toNat (wrap64 (rd lg (rd P i) + 1))) i (rd_L1 E i) 0 P E else none) else none) else none) else none) else impl_Aho_lengths.l1 k o kn lg i (rd_L1 E i) 0 P E) else none) else some o
def impl_Aho_lengths.l1 : Nat → List Int → List Bool → List Int → Int → List Int → Int → List Int → List (List Int) → Option (List Int)
 | 0, _, _, _, _, _, _, _, _ => none
 | k + 1, o, kn, lg, i, row, j, P, E => if j < (row.length : Int) then (if 0 ≤ j then (if 0 ≤ rd row j then (if rd row j < 8 then (if i < (lg.length : Int) then (if rdOf false kn (rd row j) = false then impl_Aho_lengths.l1 k (o.set (rd row j).toNat (rd lg i)) (kn.set (rd row j).toNat true) lg i row (wrap64 (j + 1)) P E else (if rd lg i < rd o (rd row j) then impl_Aho_lengths.l1 k (o.set (rd row j).toNat (rd lg i)) (kn.set (rd row j).toNat true) lg i row (wrap64 (j + 1)) P E else impl_Aho_lengths.l1 k o kn lg i row (wrap64 (j + 1)) P E)) else none) else none) else none) else none) else impl_Aho_lengths.l0 k o kn lg (wrap64 (i + 1)) P E
end
def impl_Aho_lengths.f (k : Nat) (P : List Int) (B : List Int) (F : List Int) (E : List (List Int)) : Option (List Int) := if (P.length : Int) ≤ 1048576 then impl_Aho_lengths.l0 k (List.replicate 8 0) (List.replicate 8 false) (List.replicate P.length 0) 0 P E else none
theorem impl_Aho_lengths.mono_l : ∀ k, (∀ y0 y1 y2 y3 y4 y5, LeO (impl_Aho_lengths.l0 k y0 y1 y2 y3 y4 y5) (impl_Aho_lengths.l0 (k + 1) y0 y1 y2 y3 y4 y5)) ∧ (∀ y0 y1 y2 y3 y4 y5 y6 y7, LeO (impl_Aho_lengths.l1 k y0 y1 y2 y3 y4 y5 y6 y7) (impl_Aho_lengths.l1 (k + 1) y0 y1 y2 y3 y4 y5 y6 y7))
 | 0 => ⟨fun _ _ _ _ _ _ r h => by simp [impl_Aho_lengths.l0] at h, fun _ _ _ _ _ _ _ _ r h => by simp [impl_Aho_lengths.l1] at h⟩
 | k + 1 => by
  obtain ⟨ih0, ih1⟩ := impl_Aho_lengths.mono_l k
  refine ⟨?_, ?_⟩
  · intro y0 y1 y2 y3 y4 y5
    unfold impl_Aho_lengths.l0
    repeat' first
    | (with_reducible exact ih1 _ _ _ _ _ _ _ _)
    | (with_reducible exact LeO.refl _)
    | (with_reducible exact LeO.none _)
    | (with_reducible refine LeO.ite ?_ ?_)
  · intro y0 y1 y2 y3 y4 y5 y6 y7
    unfold impl_Aho_lengths.l1
    repeat' first
    | (with_reducible exact ih1 _ _ _ _ _ _ _ _)
    | (with_reducible exact ih0 _ _ _ _ _ _)
    | (with_reducible exact LeO.refl _)
    | (with_reducible exact LeO.none _)
    | (with_reducible refine LeO.ite ?_ ?_)
theorem impl_Aho_lengths.mono : ∀ a0 a1 a2 a3 k, LeO (impl_Aho_lengths.f k a0 a1 a2 a3) (impl_Aho_lengths.f (k + 1) a0 a1 a2 a3) := fun _ _ _ _ k => LeO.ite ((impl_Aho_lengths.mono_l k).1 _ _ _ _ _ _) (LeO.none _)
structure impl_Aho_lengths.Inv (w : World) (g1 g2 g3 g5 : Nat) (cs : Array Value) (v4 : Value) (w' : World) (o : List Int) (kn : List Bool) (lg : List Int) : Prop where
  b1 : w'.heap[g1]? = some (.cells cs 30 (0, 0))
  b2 : w'.heap[g2]? = some (.cells #[Value.int .i64 0, Value.int .i64 0, Value.int .i64 0, Value.int .i64 0, Value.int .i64 0, Value.int .i64 0, Value.int .i64 0, Value.int .i64 0] 62 (0, 0))
  b3 : w'.heap[g3]? = some (.cells (List.toArray (o.map (Value.int .i64))) 62 (0, 0))
  b5 : w'.heap[g5]? = some (.cells (List.toArray (kn.map Value.bool)) 81 (0, 0))
  r4 : Kd.R (Kd.int .i64) 3 w' w.heap.size (fun _ => True) v4 lg
  lo : o.length = 8
  lk : kn.length = 8
  lt : g2 < g3
  gw : w.heap.size ≤ g2
  g5w : w.heap.size ≤ g5
  hb : Below w.heap.size w w'
theorem impl_Aho_lengths.Inv.put3 {w : World} {g1 g2 g3 g5 : Nat} {cs : Array Value} {v4 : Value} {w' : World} {o : List Int} {kn : List Bool} {lg : List Int} (h : impl_Aho_lengths.Inv w g1 g2 g3 g5 cs v4 w' o kn lg) (i x : Int) : impl_Aho_lengths.Inv w g1 g2 g3 g5 cs v4 (w'.setCell ⟨g3, i.toNat, none⟩ (.int .i64 x)) (o.set i.toNat x) kn lg where
  b1 := blk_far h.b1 (blk_ne h.b1 h.b3 (by decide)) _
  b2 := blk_far h.b2 (Nat.ne_of_lt h.lt) _
  b3 := blk_put h.b3 _ _ (by simp [List.map_set])
  b5 := blk_far h.b5 (blk_ne h.b5 h.b3 (by decide)) _
  r4 := Kd.R_set h.r4 h.b3 (by decide) _ _
  lo := by rw [List.length_set]; exact h.lo
  lk := h.lk
  lt := h.lt
  gw := h.gw
  g5w := h.g5w
  hb := below_set h.hb (by have := h.gw; have := h.lt; omega)
theorem impl_Aho_lengths.Inv.put5 {w : World} {g1 g2 g3 g5 : Nat} {cs : Array Value} {v4 : Value} {w' : World} {o : List Int} {kn : List Bool} {lg : List Int} (h : impl_Aho_lengths.Inv w g1 g2 g3 g5 cs v4 w' o kn lg) (i : Int) (x : Bool) : impl_Aho_lengths.Inv w g1 g2 g3 g5 cs v4 (w'.setCell ⟨g5, i.toNat, none⟩ (.bool x)) o (kn.set i.toNat x) lg where
  b1 := blk_far h.b1 (blk_ne h.b1 h.b5 (by decide)) _
  b2 := blk_far h.b2 (blk_ne h.b2 h.b5 (by decide)) _
  b3 := blk_far h.b3 (blk_ne h.b3 h.b5 (by decide)) _
  b5 := blk_put h.b5 _ _ (by simp [List.map_set])
  r4 := Kd.R_set h.r4 h.b5 (by decide) _ _
  lo := h.lo
  lk := by rw [List.length_set]; exact h.lk
  lt := h.lt
  gw := h.gw
  g5w := h.g5w
  hb := below_set h.hb h.g5w
theorem impl_Aho_lengths.Inv.put4 {w : World} {g1 g2 g3 g5 g4 n c : Nat} {cs : Array Value} {w' : World} {o : List Int} {kn : List Bool} {lg : List Int} (h : impl_Aho_lengths.Inv w g1 g2 g3 g5 cs (.slice (some ⟨g4, 0, none⟩) n c) w' o kn lg) (i x : Int) : impl_Aho_lengths.Inv w g1 g2 g3 g5 cs (.slice (some ⟨g4, 0, none⟩) n c) (w'.setCell ⟨g4, i.toNat, none⟩ (.int .i64 x)) o kn (lg.set i.toNat x) where
  b1 := blk_grown h.b1 (Kd.R_putg h.r4 i x).2 (Kd.R_ne h.r4 h.b1 (by decide))
  b2 := blk_grown h.b2 (Kd.R_putg h.r4 i x).2 (Kd.R_ne h.r4 h.b2 (by decide))
  b3 := blk_grown h.b3 (Kd.R_putg h.r4 i x).2 (Kd.R_ne h.r4 h.b3 (by decide))
  b5 := blk_grown h.b5 (Kd.R_putg h.r4 i x).2 (Kd.R_ne h.r4 h.b5 (by decide))
  r4 := (Kd.R_putg h.r4 i x).1
  lo := h.lo
  lk := h.lk
  lt := h.lt
  gw := h.gw
  g5w := h.g5w
  hb := below_set h.hb (by rcases Kd.R_base2 h.r4 with e | ⟨k, e, hk⟩ <;> simp [Value.ownBlock] at e; omega)
theorem impl_Aho_lengths.Inv.drew {w : World} {g1 g2 g3 g5 : Nat} {cs : Array Value} {v4 : Value} {w' : World} {o : List Int} {kn : List Bool} {lg : List Int} (h : impl_Aho_lengths.Inv w g1 g2 g3 g5 cs v4 w' o kn lg) : impl_Aho_lengths.Inv w g1 g2 g3 g5 cs v4 w'.drew o kn lg :=
  ⟨blk_drew h.b1, blk_drew h.b2, blk_drew h.b3, blk_drew h.b5, Kd.R_drew h.r4, h.lo, h.lk, h.lt, h.gw, h.g5w, below_drew h.hb⟩
theorem impl_Aho_lengths.Inv.cell3 {w : World} {g1 g2 g3 g5 : Nat} {cs : Array Value} {v4 : Value} {w' : World} {o : List Int} {kn : List Bool} {lg : List Int} (h : impl_Aho_lengths.Inv w g1 g2 g3 g5 cs v4 w' o kn lg) (i : Int) (h0 : 0 ≤ i) (h8 : i < 8) : w'.cell? ⟨g3, i.toNat, none⟩ = some (.int .i64 (rd o i)) ∧ w'.frozen? ⟨g3, i.toNat, none⟩ = false := by
  refine ⟨(blk_cell h.b3 _).trans ?_, blk_frozen h.b3 _⟩
  have hl : i.toNat < o.length := by have := h.lo; omega
  simp [rd, hl]
theorem impl_Aho_lengths.Inv.cell5 {w : World} {g1 g2 g3 g5 : Nat} {cs : Array Value} {v4 : Value} {w' : World} {o : List Int} {kn : List Bool} {lg : List Int} (h : impl_Aho_lengths.Inv w g1 g2 g3 g5 cs v4 w' o kn lg) (i : Int) (h0 : 0 ≤ i) (h8 : i < 8) : w'.cell? ⟨g5, i.toNat, none⟩ = some (.bool (rdOf false kn i)) ∧ w'.frozen? ⟨g5, i.toNat, none⟩ = false := by
  refine ⟨(blk_cell h.b5 _).trans ?_, blk_frozen h.b5 _⟩
  have hl : i.toNat < kn.length := by have := h.lk; omega
  simp [rdOf, hl]
theorem impl_Aho_lengths.Inv.cell4 {w : World} {g1 g2 g3 g5 g4 n c : Nat} {cs : Array Value} {w' : World} {o : List Int} {kn : List Bool} {lg : List Int} (h : impl_Aho_lengths.Inv w g1 g2 g3 g5 cs (.slice (some ⟨g4, 0, none⟩) n c) w' o kn lg) (i : Int) (h0 : 0 ≤ i) (h8 : i < (n : Int)) : w'.cell? ⟨g4, i.toNat, none⟩ = some (.int .i64 (rd lg i)) ∧ w'.frozen? ⟨g4, i.toNat, none⟩ = false := Kd.R_celln 0 h.r4 i h0 h8
theorem impl_Aho_lengths.len8 {o : List Int} (h : o.length = 8) : ∃ a0 a1 a2 a3 a4 a5 a6 a7, o = [a0, a1, a2, a3, a4, a5, a6, a7] := by
  match o, h with
  | [a0, a1, a2, a3, a4, a5, a6, a7], _ => exact ⟨_, _, _, _, _, _, _, _, rfl⟩
set_option maxHeartbeats 8000000 in
set_option maxRecDepth 100000 in
theorem impl_Aho_lengths.calls (k : Nat) (A0_0 : Option Addr) (c0_0 : Nat) (P : List Int) (A0_1 : Option Addr) (c0_1 : Nat) (B : List Int) (A0_2 : Option Addr) (c0_2 : Nat) (F : List Int) (A0_3 : Option Addr) (c0_3 : Nat) (E : List (List Int)) (r : List Int) (w : World) (hr0 : Kd.C (Kd.int .i64) w A0_0 P.length P) (hc0 : P.length ≤ c0_0) (hr3 : Kd.C (Kd.slice 3 (Kd.int .i64)) w A0_3 E.length E) (hc3 : E.length ≤ c0_3) (h : impl_Aho_lengths.f k P B F E = some r) :
    Calls Try.prog 37 #[.agg #[.slice A0_0 P.length c0_0, .slice A0_1 B.length c0_1, .slice A0_2 F.length c0_2, .slice A0_3 E.length c0_3]] w fun e w' => e = .returned (.agg (List.toArray (r.map (Value.int .i64)))) ∧ r.length = 8 ∧ Below w.heap.size w w' := by
  have hu30 := Try.underlying30
  have HR0 := Aside0.mk hr0
  have HC0 := Aside0.mk hc0
  have HR3 := Aside0.mk hr3
  have HC3 := Aside0.mk hc3
  clear hr0 hc0 hr3 hc3
  unfold impl_Aho_lengths.f at h
  by_cases hP : (P.length : Int) ≤ 1048576
  case neg => rw [if_neg hP] at h; cases h
  rw [if_pos hP] at h
  have HB := Aside0.mk (Below.refl w.heap.size w)
  have H' := Aside0.mk h
  clear h
  go_enter Try.func37, Try.ntmps37
  go_upto_region 1 with (first | ((with_reducible refine gate_dst (N := 1) rfl ?_); refine box_event ?hg (N := 1) ?hd (cs := #[.slice A0_0 P.length c0_0, .slice A0_1 B.length c0_1, .slice A0_2 F.length c0_2, .slice A0_3 E.length c0_3]) (t := 30) ?hr ?_; (case hd => rfl); (case hg => rfl); (case hr => first | (go_simp; done) | (go_simp; rfl)); intro g1 hg w4 hbox hb; have n0_ := Aside0.mk (below_step HB.out hb); have n1_ := Aside0.mk hbox; have n2_ := Aside0.mk ((by rw [hg]; exact Nat.le_refl _) : w.heap.size ≤ g1); clear HB; have HB := n0_; have BK1 := n1_; have GE1 := n2_; clear n0_ n1_ n2_ hb hbox hg))
  have BK2 := Aside0.mk (heap_alloc_new w4 (Obj.cells #[Value.int .i64 0, Value.int .i64 0, Value.int .i64 0, Value.int .i64 0, Value.int .i64 0, Value.int .i64 0, Value.int .i64 0, Value.int .i64 0] 62))
  have BK1' := Aside0.mk (blk_alloc BK1.out (Obj.cells #[Value.int .i64 0, Value.int .i64 0, Value.int .i64 0, Value.int .i64 0, Value.int .i64 0, Value.int .i64 0, Value.int .i64 0, Value.int .i64 0] 62))
  have HB' := Aside0.mk (below_alloc HB.out (Obj.cells #[Value.int .i64 0, Value.int .i64 0, Value.int .i64 0, Value.int .i64 0, Value.int .i64 0, Value.int .i64 0, Value.int .i64 0, Value.int .i64 0] 62))
  have GE2 := Aside0.mk (below_size HB.out)
  have LT2 := Aside0.mk (blk_lt BK2.out)
  clear BK1 HB
  have BK1 := BK1'
  have HB := HB'
  clear BK1' HB'
  generalize w4.alloc (Obj.cells #[Value.int .i64 0, Value.int .i64 0, Value.int .i64 0, Value.int .i64 0, Value.int .i64 0, Value.int .i64 0, Value.int .i64 0, Value.int .i64 0] 62) = w5 at BK1 BK2 HB LT2 ⊢
  generalize w4.heap.size = g2 at BK2 GE2 LT2 ⊢
  have BK1d := Aside0.mk (blk_drew BK1.out)
  have BK2d := Aside0.mk (blk_drew BK2.out)
  have HBd := Aside0.mk (below_drew HB.out)
  clear BK1 BK2 HB LT2
  refine start_ (n := 8) (S := fun w' => w'.cell? ⟨g1, 0, none⟩ = some (.slice A0_0 P.length c0_0)) (ds := []) #[false, false, false, false, false, false, false, false] (by kernel_rfl) rfl rfl ((blk_cell BK1d.out 0).trans rfl) (fun hHeld => ?_)
  generalize w5.drew = wd at BK1d BK2d HBd hHeld ⊢
  refine pure_ (i := 0) (N := some 10) (v := ?_) (a' := ?_) #[true, false, false, false, false, false, false, false] rfl rfl (by kernel_rfl) (fun _ _ _ h => h) (Or.inl ⟨by rfl, ?_⟩) ?_ ?_
  rotate_left
  · intro w'
    go_simp
    with_reducible rfl
  rotate_left
  · simp only [Act.put, List.setIfInBounds_toArray, List.set_cons_zero, List.set_cons_succ, i64_w, i32_w]
    rfl
  refine pure_ (i := 1) (N := some 11) (v := ?_) (a' := ?_) #[true, true, false, false, false, false, false, false] rfl rfl (by kernel_rfl) (fun _ _ _ h => h) (Or.inl ⟨by rfl, ?_⟩) ?_ ?_
  rotate_left
  · intro w'
    go_simp
    with_reducible rfl
  rotate_left
  · simp only [Act.put, List.setIfInBounds_toArray, List.set_cons_zero, List.set_cons_succ, i64_w, i32_w]
    rfl
  refine take_ (i := 2) (N := some 12) (v := ?_) (a' := ?_) #[true, true, true, false, false, false, false, false] rfl rfl (by kernel_rfl) (fun _ _ _ h => h) (Or.inl ⟨by rfl, ?_⟩) hHeld ?_ ?_
  rotate_left
  · intro w' s0
    go_simp
    with_reducible rfl
  rotate_left
  · simp only [Act.put, List.setIfInBounds_toArray, List.set_cons_zero, List.set_cons_succ, i64_w, i32_w]
    rfl
  refine pure_ (i := 3) (N := some 13) (v := ?_) (a' := ?_) #[true, true, true, true, false, false, false, false] rfl rfl (by kernel_rfl) (fun _ _ _ h => h) (Or.inl ⟨by rfl, ?_⟩) ?_ ?_
  rotate_left
  · intro w'
    go_simp
    with_reducible rfl
  rotate_left
  · simp only [Act.put, List.setIfInBounds_toArray, List.set_cons_zero, List.set_cons_succ, i64_w, i32_w]
    rfl
  refine join_ (σ := Nat × Value) 1 #[true, true, true, true, true, true, true, false] (fun s_ => [(3, .pointer (some ⟨s_.1, 0, none⟩)), (14, s_.2)]) (fun s_ w' => w'.heap[s_.1]? = some (.cells #[Value.int .i64 0, Value.int .i64 0, Value.int .i64 0, Value.int .i64 0, Value.int .i64 0, Value.int .i64 0, Value.int .i64 0, Value.int .i64 0] 62 (0, 0)) ∧ g2 < s_.1 ∧ Kd.R (Kd.int .i64) 3 w' w.heap.size (fun _ => True) s_.2 (List.replicate P.length 0) ∧ w'.heap[g1]? = some (.cells #[.slice A0_0 P.length c0_0, .slice A0_1 B.length c0_1, .slice A0_2 F.length c0_2, .slice A0_3 E.length c0_3] 30 (0, 0)) ∧ w'.heap[g2]? = some (.cells #[Value.int .i64 0, Value.int .i64 0, Value.int .i64 0, Value.int .i64 0, Value.int .i64 0, Value.int .i64 0, Value.int .i64 0, Value.int .i64 0] 62 (0, 0)) ∧ Below w.heap.size w w') ?_ ?_
  rotate_left
  · intro hCont
    refine two_ (i := 4) (j := 5) (Ni := some 14) (Nj := some 3) #[true, true, true, true, true, false, false, false] #[true, true, true, true, false, true, false, false] rfl rfl rfl rfl (by kernel_rfl) (by decide) (by decide) (fun K hK => ?_) (fun K hK => ?_)
    · skip
      refine Kd.R_make_step (Kd.int .i64) w.heap.size 3 (by rfl) (N := 14) rfl 22 _ _ rfl (P.length : Int) rfl rfl Try.underlying22 (.int .i64 0) 8 info3 rfl (by decide) (by omega) 0 (ok := fun _ => True) (okp := fun _ => True) rfl (fun _ hk => hk) trivial (by omega) (by omega) HBd.out (below_size HBd.out) ?_
      intro v14 wdm ho hb hg hnw
      have HOdm := Aside0.mk ho
      have HBdm := Aside0.mk hb
      have BK1dm := Aside0.mk (blk_grown BK1d.out hg (by simp))
      have BK2dm := Aside0.mk (blk_grown BK2d.out hg (by simp))
      clear ho hb hg hnw
      refine hK.out _ _ ((((blk_cell BK1dm.out 0).trans rfl))) (fun hHeld => ?_)
      clear hK K
      refine norm_ (a' := ?_) ?_ ?_
      rotate_left
      · show Act.put _ (some 14) _ = _
        simp only [Act.put, List.setIfInBounds_toArray, List.set_cons_zero, List.set_cons_succ, i64_w, i32_w]
        rfl
      refine one_ (i := 5) (N := some 3) #[true, true, true, true, true, true, false, false] rfl rfl (by kernel_rfl) (by decide) (fun K hK => ?_)
      refine value_ (w1 := ?_) (v := ?_) (by rfl) rfl ?_ ?_
      rotate_left 2
      · go_simp
        constructor
        · rfl
        · rfl
      have BK3dma := Aside0.mk (heap_alloc_new wdm (Obj.cells #[Value.int .i64 0, Value.int .i64 0, Value.int .i64 0, Value.int .i64 0, Value.int .i64 0, Value.int .i64 0, Value.int .i64 0, Value.int .i64 0] 62))
      have BK1dma := Aside0.mk (blk_alloc BK1dm.out (Obj.cells #[Value.int .i64 0, Value.int .i64 0, Value.int .i64 0, Value.int .i64 0, Value.int .i64 0, Value.int .i64 0, Value.int .i64 0, Value.int .i64 0] 62))
      have BK2dma := Aside0.mk (blk_alloc BK2dm.out (Obj.cells #[Value.int .i64 0, Value.int .i64 0, Value.int .i64 0, Value.int .i64 0, Value.int .i64 0, Value.int .i64 0, Value.int .i64 0, Value.int .i64 0] 62))
      have HOdma := Aside0.mk (Kd.R_alloc HOdm.out (Obj.cells #[Value.int .i64 0, Value.int .i64 0, Value.int .i64 0, Value.int .i64 0, Value.int .i64 0, Value.int .i64 0, Value.int .i64 0, Value.int .i64 0] 62))
      have HBdma := Aside0.mk (below_alloc HBdm.out (Obj.cells #[Value.int .i64 0, Value.int .i64 0, Value.int .i64 0, Value.int .i64 0, Value.int .i64 0, Value.int .i64 0, Value.int .i64 0, Value.int .i64 0] 62))
      have LT3dma := Aside0.mk (blk_lt BK2dm.out)
      generalize wdm.alloc (Obj.cells #[Value.int .i64 0, Value.int .i64 0, Value.int .i64 0, Value.int .i64 0, Value.int .i64 0, Value.int .i64 0, Value.int .i64 0, Value.int .i64 0] 62) = wdma at *
      generalize wdm.heap.size = g3 at *
      refine hK.out _ _ ((((blk_cell BK1dma.out 0).trans rfl))) (fun hHeld => ?_)
      clear hK K
      refine norm_ (a' := ?_) ?_ ?_
      rotate_left
      · show Act.put _ (some 3) _ = _
        simp only [Act.put, List.setIfInBounds_toArray, List.set_cons_zero, List.set_cons_succ, i64_w, i32_w]
        rfl
      refine one_ (i := 6) (N := none) #[true, true, true, true, true, true, true, false] rfl rfl (by kernel_rfl) (by decide) (fun K hK => ?_)
      refine arr_store_step (by rfl) rfl 62 _ _ rfl (.agg #[Value.int .i64 0, Value.int .i64 0, Value.int .i64 0, Value.int .i64 0, Value.int .i64 0, Value.int .i64 0, Value.int .i64 0, Value.int .i64 0]) [Value.int .i64 0, Value.int .i64 0, Value.int .i64 0, Value.int .i64 0, Value.int .i64 0, Value.int .i64 0, Value.int .i64 0, Value.int .i64 0] rfl rfl BK3dma.out rfl (by kernel_rfl) rfl (by decide) ?_
      intro wdmas hk3 hg
      have BK3dmas := Aside0.mk hk3
      have BK1dmas := Aside0.mk (blk_grown BK1dma.out hg (fun e_ => blk_ne BK1dma.out BK3dma.out (by decide) (Option.some.inj e_)))
      have BK2dmas := Aside0.mk (blk_grown BK2dma.out hg (fun e_ => by have := Option.some.inj e_; have := LT3dma.out; omega))
      have HOdmas := Aside0.mk (Kd.R_grown (Kd.R_types HOdma.out BK3dma.out (by decide)) hg (fun k_ hk => fun e_ => hk.2 (Option.some.inj e_)))
      have HBdmas := Aside0.mk (HBdma.out.grown hg (below_size HBdma.out) (fun k_ e_ => by have := Option.some.inj e_; have := LT3dma.out; have := GE2.out; omega))
      clear hk3 hg
      refine hK.out _ _ ((((blk_cell BK1dmas.out 0).trans rfl))) (fun hHeld => ?_)
      clear hK K
      exact norm_ (by simp only [putAll, Act.put, List.setIfInBounds_toArray, List.set_cons_zero, List.set_cons_succ]) (hCont (g3, v14) _ ⟨BK3dmas.out, LT3dma.out, Kd.R_mono HOdmas.out (fun _ _ => trivial), BK1dmas.out, BK2dmas.out, HBdmas.out⟩)
    · skip
      refine value_ (w1 := ?_) (v := ?_) (by rfl) rfl ?_ ?_
      rotate_left 2
      · go_simp
        constructor
        · rfl
        · rfl
      have BK3da := Aside0.mk (heap_alloc_new wd (Obj.cells #[Value.int .i64 0, Value.int .i64 0, Value.int .i64 0, Value.int .i64 0, Value.int .i64 0, Value.int .i64 0, Value.int .i64 0, Value.int .i64 0] 62))
      have BK1da := Aside0.mk (blk_alloc BK1d.out (Obj.cells #[Value.int .i64 0, Value.int .i64 0, Value.int .i64 0, Value.int .i64 0, Value.int .i64 0, Value.int .i64 0, Value.int .i64 0, Value.int .i64 0] 62))
      have BK2da := Aside0.mk (blk_alloc BK2d.out (Obj.cells #[Value.int .i64 0, Value.int .i64 0, Value.int .i64 0, Value.int .i64 0, Value.int .i64 0, Value.int .i64 0, Value.int .i64 0, Value.int .i64 0] 62))
      have HBda := Aside0.mk (below_alloc HBd.out (Obj.cells #[Value.int .i64 0, Value.int .i64 0, Value.int .i64 0, Value.int .i64 0, Value.int .i64 0, Value.int .i64 0, Value.int .i64 0, Value.int .i64 0] 62))
      have LT3da := Aside0.mk (blk_lt BK2d.out)
      generalize wd.alloc (Obj.cells #[Value.int .i64 0, Value.int .i64 0, Value.int .i64 0, Value.int .i64 0, Value.int .i64 0, Value.int .i64 0, Value.int .i64 0, Value.int .i64 0] 62) = wda at *
      generalize wd.heap.size = g3 at *
      refine hK.out _ _ ((((blk_cell BK1da.out 0).trans rfl))) (fun hHeld => ?_)
      clear hK K
      refine norm_ (a' := ?_) ?_ ?_
      rotate_left
      · show Act.put _ (some 3) _ = _
        simp only [Act.put, List.setIfInBounds_toArray, List.set_cons_zero, List.set_cons_succ, i64_w, i32_w]
        rfl
      refine two_ (i := 4) (j := 6) (Ni := some 14) (Nj := none) #[true, true, true, true, true, true, false, false] #[true, true, true, true, false, true, true, false] rfl rfl rfl rfl (by kernel_rfl) (by decide) (by decide) (fun K hK => ?_) (fun K hK => ?_)
      · skip
        refine Kd.R_make_step (Kd.int .i64) w.heap.size 3 (by rfl) (N := 14) rfl 22 _ _ rfl (P.length : Int) rfl rfl Try.underlying22 (.int .i64 0) 8 info3 rfl (by decide) (by omega) 0 (ok := fun _ => True) (okp := fun _ => True) rfl (fun _ hk => hk) trivial (by omega) (by omega) HBda.out (below_size HBda.out) ?_
        intro v14 wdam ho hb hg hnw
        have HOdam := Aside0.mk ho
        have HBdam := Aside0.mk hb
        have BK1dam := Aside0.mk (blk_grown BK1da.out hg (by simp))
        have BK2dam := Aside0.mk (blk_grown BK2da.out hg (by simp))
        have BK3dam := Aside0.mk (blk_grown BK3da.out hg (by simp))
        clear ho hb hg hnw
        refine hK.out _ _ ((((blk_cell BK1dam.out 0).trans rfl))) (fun hHeld => ?_)
        clear hK K
        refine norm_ (a' := ?_) ?_ ?_
        rotate_left
        · show Act.put _ (some 14) _ = _
          simp only [Act.put, List.setIfInBounds_toArray, List.set_cons_zero, List.set_cons_succ, i64_w, i32_w]
          rfl
        refine one_ (i := 6) (N := none) #[true, true, true, true, true, true, true, false] rfl rfl (by kernel_rfl) (by decide) (fun K hK => ?_)
        refine arr_store_step (by rfl) rfl 62 _ _ rfl (.agg #[Value.int .i64 0, Value.int .i64 0, Value.int .i64 0, Value.int .i64 0, Value.int .i64 0, Value.int .i64 0, Value.int .i64 0, Value.int .i64 0]) [Value.int .i64 0, Value.int .i64 0, Value.int .i64 0, Value.int .i64 0, Value.int .i64 0, Value.int .i64 0, Value.int .i64 0, Value.int .i64 0] rfl rfl BK3dam.out rfl (by kernel_rfl) rfl (by decide) ?_
        intro wdams hk3 hg
        have BK3dams := Aside0.mk hk3
        have BK1dams := Aside0.mk (blk_grown BK1dam.out hg (fun e_ => blk_ne BK1dam.out BK3dam.out (by decide) (Option.some.inj e_)))
        have BK2dams := Aside0.mk (blk_grown BK2dam.out hg (fun e_ => by have := Option.some.inj e_; have := LT3da.out; omega))
        have HOdams := Aside0.mk (Kd.R_grown (Kd.R_types HOdam.out BK3dam.out (by decide)) hg (fun k_ hk => fun e_ => hk.2 (Option.some.inj e_)))
        have HBdams := Aside0.mk (HBdam.out.grown hg (below_size HBdam.out) (fun k_ e_ => by have := Option.some.inj e_; have := LT3da.out; have := GE2.out; omega))
        clear hk3 hg
        refine hK.out _ _ ((((blk_cell BK1dams.out 0).trans rfl))) (fun hHeld => ?_)
        clear hK K
        exact norm_ (by simp only [putAll, Act.put, List.setIfInBounds_toArray, List.set_cons_zero, List.set_cons_succ]) (hCont (g3, v14) _ ⟨BK3dams.out, LT3da.out, Kd.R_mono HOdams.out (fun _ _ => trivial), BK1dams.out, BK2dams.out, HBdams.out⟩)
      · skip
        refine arr_store_step (by rfl) rfl 62 _ _ rfl (.agg #[Value.int .i64 0, Value.int .i64 0, Value.int .i64 0, Value.int .i64 0, Value.int .i64 0, Value.int .i64 0, Value.int .i64 0, Value.int .i64 0]) [Value.int .i64 0, Value.int .i64 0, Value.int .i64 0, Value.int .i64 0, Value.int .i64 0, Value.int .i64 0, Value.int .i64 0, Value.int .i64 0] rfl rfl BK3da.out rfl (by kernel_rfl) rfl (by decide) ?_
        intro wdas hk3 hg
        have BK3das := Aside0.mk hk3
        have BK1das := Aside0.mk (blk_grown BK1da.out hg (fun e_ => blk_ne BK1da.out BK3da.out (by decide) (Option.some.inj e_)))
        have BK2das := Aside0.mk (blk_grown BK2da.out hg (fun e_ => by have := Option.some.inj e_; have := LT3da.out; omega))
        have HBdas := Aside0.mk (HBda.out.grown hg (below_size HBda.out) (fun k_ e_ => by have := Option.some.inj e_; have := LT3da.out; have := GE2.out; omega))
        clear hk3 hg
        refine hK.out _ _ ((((blk_cell BK1das.out 0).trans rfl))) (fun hHeld => ?_)
        clear hK K
        refine one_ (i := 4) (N := some 14) #[true, true, true, true, true, true, true, false] rfl rfl (by kernel_rfl) (by decide) (fun K hK => ?_)
        refine Kd.R_make_step (Kd.int .i64) w.heap.size 3 (by rfl) (N := 14) rfl 22 _ _ rfl (P.length : Int) rfl rfl Try.underlying22 (.int .i64 0) 8 info3 rfl (by decide) (by omega) 0 (ok := fun _ => True) (okp := fun _ => True) rfl (fun _ hk => hk) trivial (by omega) (by omega) HBdas.out (below_size HBdas.out) ?_
        intro v14 wdasm ho hb hg hnw
        have HOdasm := Aside0.mk ho
        have HBdasm := Aside0.mk hb
        have BK1dasm := Aside0.mk (blk_grown BK1das.out hg (by simp))
        have BK2dasm := Aside0.mk (blk_grown BK2das.out hg (by simp))
        have BK3dasm := Aside0.mk (blk_grown BK3das.out hg (by simp))
        clear ho hb hg hnw
        refine hK.out _ _ ((((blk_cell BK1dasm.out 0).trans rfl))) (fun hHeld => ?_)
        clear hK K
        refine norm_ (a' := ?_) ?_ ?_
        rotate_left
        · show Act.put _ (some 14) _ = _
          simp only [Act.put, List.setIfInBounds_toArray, List.set_cons_zero, List.set_cons_succ, i64_w, i32_w]
          rfl
        exact norm_ (by simp only [putAll, Act.put, List.setIfInBounds_toArray, List.set_cons_zero, List.set_cons_succ]) (hCont (g3, v14) _ ⟨BK3dasm.out, LT3da.out, HOdasm.out, BK1dasm.out, BK2dasm.out, HBdasm.out⟩)
  rintro ⟨g3, v14⟩ w6 ⟨hk3, hlt, ho, hk1, hk2, hb⟩
  have hHeld : w6.cell? ⟨g1, 0, none⟩ = some (.slice A0_0 P.length c0_0) := (blk_cell hk1 0).trans rfl
  refine norm_ (a' := ?_) ?_ ?_
  rotate_left
  · simp only [putAll, Act.put, List.setIfInBounds_toArray, List.set_cons_zero, List.set_cons_succ]
    rfl
  refine pure_ (i := 7) (N := some 4) (v := ?_) (a' := ?_) #[true, true, true, true, true, true, true, true] rfl rfl (by kernel_rfl) (fun _ _ _ h => h) (Or.inl ⟨by rfl, ?_⟩) ?_ ?_
  rotate_left
  · intro w'
    go_simp
    with_reducible rfl
  rotate_left
  · simp only [Act.put, List.setIfInBounds_toArray, List.set_cons_zero, List.set_cons_succ, i64_w, i32_w]
    rfl
  refine done_ (by kernel_rfl) ?_
  go_wp2_with (first | ((with_reducible refine gate_store (t := 81) (p := 5) rfl ?_); refine arr_store rfl rfl 81 _ _ rfl (.agg #[Value.bool false, Value.bool false, Value.bool false, Value.bool false, Value.bool false, Value.bool false, Value.bool false, Value.bool false]) [Value.bool false, Value.bool false, Value.bool false, Value.bool false, Value.bool false, Value.bool false, Value.bool false, Value.bool false] rfl rfl (heap_alloc_new w6 (Obj.cells #[Value.bool false, Value.bool false, Value.bool false, Value.bool false, Value.bool false, Value.bool false, Value.bool false, Value.bool false] 81)) rfl (by kernel_rfl) rfl (by decide) ?_; intro w7 hk5 hg; have HI := Aside0.mk (show impl_Aho_lengths.Inv w g1 g2 g3 w6.heap.size #[.slice A0_0 P.length c0_0, .slice A0_1 B.length c0_1, .slice A0_2 F.length c0_2, .slice A0_3 E.length c0_3] v14 w7 (List.replicate 8 0) (List.replicate 8 false) (List.replicate P.length 0) from ⟨blk_grown (blk_alloc hk1 _) hg (fun e_ => Nat.ne_of_lt (blk_lt hk1) (Option.some.inj e_)), blk_grown (blk_alloc hk2 _) hg (fun e_ => Nat.ne_of_lt (blk_lt hk2) (Option.some.inj e_)), blk_grown (blk_alloc hk3 _) hg (fun e_ => Nat.ne_of_lt (blk_lt hk3) (Option.some.inj e_)), hk5, Kd.R_mono (Kd.R_grown (Kd.R_types (Kd.R_alloc ho _) (heap_alloc_new w6 _) (by decide)) hg (fun k_ hk => fun e_ => hk.2 (Option.some.inj e_))) (fun _ _ => trivial), rfl, rfl, hlt, GE2.out, below_size hb, (below_alloc hb _).grown hg (Nat.le_trans (below_size hb) (Nat.le_of_lt (blk_lt (heap_alloc_new w6 _)))) (fun k_ e_ => by rw [← Option.some.inj e_]; exact below_size hb)⟩); clear hk5 hg hk1 hk2 hk3 hb ho; have hc3 : w7.cell? ⟨g1, 3, none⟩ = some (.slice A0_3 E.length c0_3) := bc3 HI.out.b1))
  generalize w6.heap.size = g5 at HI ⊢
  go_loopg [19] k (fun kq v19 w' => ∃ (o : List Int) (kn : List Bool) (lg : List Int) (i : Int), v19 = .int .i64 i ∧ Aside0 (impl_Aho_lengths.l0 kq o kn lg i P E = some r) ∧ Aside0 (kq ≤ k) ∧ Aside0 (impl_Aho_lengths.Inv w g1 g2 g3 g5 #[.slice A0_0 P.length c0_0, .slice A0_1 B.length c0_1, .slice A0_2 F.length c0_2, .slice A0_3 E.length c0_3] v14 w' o kn lg))
  case atStart => exact ⟨_, _, _, 0, rfl, H', ⟨Nat.le_refl _⟩, HI⟩
  case round =>
    clear H' HI hHeld hc3
    obtain ⟨o, kn, lg, i, rfl, HA, HK1, HI⟩ := hrel
    cases gk with
    | zero => exact absurd HA.out (by simp [impl_Aho_lengths.l0])
    | succ k1 =>
    have H := HA.out
    clear HA
    simp only [impl_Aho_lengths.l0] at H
    by_cases c1 : i < (E.length : Int)
    case neg =>
      rw [if_neg c1] at H
      have c1b : decide (i < (E.length : Int)) = false := decide_eq_false c1
      clear c1
      obtain rfl := Option.some.inj H
      clear H
      obtain ⟨a0, a1, a2, a3, a4, a5, a6, a7, rfl⟩ := impl_Aho_lengths.len8 HI.out.lo
      have hk3 := HI.out.b3
      simp only [List.map_cons, List.map_nil] at hk3
      have hx0 := bc0 hk3
      have hf0 := blk_frozen hk3 0
      have hx1 := bc1 hk3
      have hf1 := blk_frozen hk3 1
      have hx2 := bc2 hk3
      have hf2 := blk_frozen hk3 2
      have hx3 := bc3 hk3
      have hf3 := blk_frozen hk3 3
      have hx4 := bc4 hk3
      have hf4 := blk_frozen hk3 4
      have hx5 := bc5 hk3
      have hf5 := blk_frozen hk3 5
      have hx6 := bc6 hk3
      have hf6 := blk_frozen hk3 6
      have hx7 := bc7 hk3
      have hf7 := blk_frozen hk3 7
      have hk2 := HI.out.b2
      have hb := HI.out.hb
      have hgw := HI.out.gw
      go_wp2_with (first | ((with_reducible refine gate_store (t := 62) (p := 2) rfl ?_); refine arr_store rfl rfl 62 _ _ rfl (.agg #[.int .i64 a0, .int .i64 a1, .int .i64 a2, .int .i64 a3, .int .i64 a4, .int .i64 a5, .int .i64 a6, .int .i64 a7]) [.int .i64 a0, .int .i64 a1, .int .i64 a2, .int .i64 a3, .int .i64 a4, .int .i64 a5, .int .i64 a6, .int .i64 a7] rfl rfl hk2 rfl (by kernel_rfl) rfl (by simp [Value.oneCell']) ?_; intro w9 hk9 hg; have HB9 := Aside0.mk (hb.grown hg (below_size hb) (fun k_ e_ => by rw [← Option.some.inj e_]; exact hgw)); clear hb hg hk2 hk3; have hy0 := bc0 hk9; have hg0 := blk_frozen hk9 0; have hy1 := bc1 hk9; have hg1 := blk_frozen hk9 1; have hy2 := bc2 hk9; have hg2 := blk_frozen hk9 2; have hy3 := bc3 hk9; have hg3 := blk_frozen hk9 3; have hy4 := bc4 hk9; have hg4 := blk_frozen hk9 4; have hy5 := bc5 hk9; have hg5 := blk_frozen hk9 5; have hy6 := bc6 hk9; have hg6 := blk_frozen hk9 6; have hy7 := bc7 hk9; have hg7 := blk_frozen hk9 7))
      (try simp only [Exit.inBlock, Exit.then])
      refine bodyPost_ret (results_cell_row rfl _ _ g2 62 #[.int .i64 a0, .int .i64 a1, .int .i64 a2, .int .i64 a3, .int .i64 a4, .int .i64 a5, .int .i64 a6, .int .i64 a7] (0, 0) _ rfl hk9 Try.underlying62 rfl (by kernel_rfl)) rfl ?_
      exact ⟨rfl, rfl, HB9.out⟩
    case pos =>
      rw [if_pos c1] at H
      by_cases c2 : 0 ≤ i
      case neg => rw [if_neg c2] at H; cases H
      rw [if_pos c2] at H
      obtain ⟨ad, A1, cc1, e1, hx1, hl1, hi1⟩ := at_L1 HR3.out i c2 c1
      cases e1
      replace hx1 := (HI.out.hb.cell (World.block_lt_of_cell? w _ hx1)).trans hx1
      have HRW := Aside0.mk hi1
      clear hi1 hl1
      have c1b : decide (i < (E.length : Int)) = true := decide_eq_true c1
      have p1 := eq_true c1
      have p2 := eq_true c2
      by_cases c3 : i > 0
      case pos =>
        rw [if_pos c3] at H
        by_cases c4 : i < (P.length : Int)
        case neg => rw [if_neg c4] at H; cases H
        rw [if_pos c4] at H
        by_cases c5 : 0 ≤ rd P i
        case neg => rw [if_neg c5] at H; cases H
        rw [if_pos c5] at H
        by_cases c6 : rd P i < (lg.length : Int)
        case neg => rw [if_neg c6] at H; cases H
        rw [if_pos c6] at H
        by_cases c7 : i < (lg.length : Int)
        case neg => rw [if_neg c7] at H; cases H
        rw [if_pos c7] at H
        have c3b : decide (0 < i) = true := decide_eq_true c3
        clear c3
        obtain ⟨adP, eP, hxP⟩ := Kd.at_int HR0.out i c2 c4
        cases eP
        replace hxP := (HI.out.hb.cell (World.block_lt_of_cell? w _ hxP)).trans hxP
        obtain ⟨g4, cc4, e4, hbg4, hlt4, _, hcc4⟩ := Kd.R_form HI.out.r4 (by omega)
        clear hbg4 hlt4 hcc4
        subst e4
        obtain ⟨hy4, hf4⟩ := HI.out.cell4 i c2 c7
        obtain ⟨hx4, _⟩ := HI.out.cell4 (rd P i) c5 c6
        have hc0 : wr.cell? ⟨g1, 0, none⟩ = some (.slice (some adP) P.length c0_0) := bc0 HI.out.b1
        replace c4 := eq_true c4
        replace c5 := eq_true c5
        replace c6 := eq_true c6
        replace c7 := eq_true c7
        go_wp2_with (first | ((with_reducible refine gate_store (t := 3) (p := 37) rfl ?_); refine store_event (t := 3) (p := 37) (v := ?vo_c) (w1 := (wr.setCell ⟨g4, i.toNat, none⟩ (.int .i64 (wrap64 (rd lg (rd P i) + 1))))) ?hg ?ho ?hn ?hr ?_; (case ho => rfl); (case hg => rfl); (case hn => rfl); (case hr => first | (go_simp; done) | (go_simp; rfl)); intro w11 hw; obtain ⟨lg2, hlg2⟩ : ∃ y, y = lg.set i.toNat (wrap64 (rd lg (rd P i) + 1)) := ⟨_, rfl⟩; have HI2 := Aside0.mk (show impl_Aho_lengths.Inv w g1 g2 g3 g5 #[.slice (some adP) P.length c0_0, .slice A0_1 B.length c0_1, .slice A0_2 F.length c0_2, .slice (some ad) E.length c0_3] _ w11 o kn lg2 by rw [hw, hlg2]; exact HI.out.put4 _ _); rw [← hlg2] at H; clear HI hw hlg2 hy4 hf4 hx4 hc0 hx1; have HI := HI2; clear HI2))
        clear hxP c3b c4 c5 c6 c7
        go_loopg [40] k1 (fun kq v40 w' => ∃ (o2 : List Int) (kn2 : List Bool) (j : Int), v40 = .int .i64 j ∧ Aside0 (impl_Aho_lengths.l1 kq o2 kn2 lg2 i (rd_L1 E i) j P E = some r) ∧ Aside0 (kq ≤ k1) ∧ Aside0 (impl_Aho_lengths.Inv w g1 g2 g3 g5 #[.slice (some adP) P.length c0_0, .slice A0_1 B.length c0_1, .slice A0_2 F.length c0_2, .slice (some ad) E.length c0_3] (.slice (some ⟨g4, 0, none⟩) lg.length cc4) w' o2 kn2 lg2))
        case atStart => exact ⟨_, _, 0, rfl, ⟨H⟩, ⟨Nat.le_refl _⟩, HI⟩
        case round =>
          clear H HI
          skip
          obtain ⟨o2, kn2, j, rfl, HA, HK2, HI⟩ := hrel
          cases gk with
          | zero => exact absurd HA.out (by simp [impl_Aho_lengths.l1])
          | succ k2 =>
          have H := HA.out
          clear HA
          simp only [impl_Aho_lengths.l1] at H
          by_cases d1 : j < ((rd_L1 E i).length : Int)
          case neg =>
            rw [if_neg d1] at H
            have d1b : decide (j < ((rd_L1 E i).length : Int)) = false := decide_eq_false d1
            clear d1
            go_wp2
            go_roundg k2
            case measure => have := HK1.out; have := HK2.out; omega
            case rel => exact ⟨o2, kn2, lg2, wrap64 (i + 1), rfl, ⟨H⟩, ⟨by have := HK1.out; have := HK2.out; omega⟩, HI⟩
          case pos =>
          rw [if_pos d1] at H
          by_cases d2 : 0 ≤ j
          case neg => rw [if_neg d2] at H; cases H
          rw [if_pos d2] at H
          by_cases d3 : 0 ≤ rd (rd_L1 E i) j
          case neg => rw [if_neg d3] at H; cases H
          rw [if_pos d3] at H
          by_cases d4 : rd (rd_L1 E i) j < 8
          case neg => rw [if_neg d4] at H; cases H
          rw [if_pos d4] at H
          by_cases d5 : i < (lg2.length : Int)
          case neg => rw [if_neg d5] at H; cases H
          rw [if_pos d5] at H
          have hn4 : Aside0 (lg.length = lg2.length) := ⟨(Kd.R_reads' HI.out.r4).1⟩
          obtain ⟨hx4, hf4⟩ := HI.out.cell4 i c2 (by have := hn4.out; omega)
          obtain ⟨hx3, hf3⟩ := HI.out.cell3 (rd (rd_L1 E i) j) d3 d4
          obtain ⟨hx5, hf5⟩ := HI.out.cell5 (rd (rd_L1 E i) j) d3 d4
          obtain ⟨ad2, e2, hx2⟩ := Kd.at_int HRW.out j d2 d1
          cases e2
          replace hx2 := (HI.out.hb.cell (World.block_lt_of_cell? w _ hx2)).trans hx2
          have d1b : decide (j < ((rd_L1 E i).length : Int)) = true := decide_eq_true d1
          replace d1 := eq_true d1
          replace d2 := eq_true d2
          replace d3 := eq_true d3
          replace d4 := eq_true d4
          replace d5 : i < (lg.length : Int) := by have := hn4.out; omega
          replace d5 := eq_true d5
          by_cases d6 : rdOf false kn2 (rd (rd_L1 E i) j) = false
          · rw [if_pos d6] at H
            rw [d6] at hx5
            go_wp2
            replace HI := Aside0.mk HI.out.drew
            replace hf3 : wr.drew.frozen? ⟨g3, (rd (rd_L1 E i) j).toNat, none⟩ = false := hf3
            replace hf5 : wr.drew.frozen? ⟨g5, (rd (rd_L1 E i) j).toNat, none⟩ = false := hf5
            replace hx3 : wr.drew.cell? ⟨g3, (rd (rd_L1 E i) j).toNat, none⟩ = _ := hx3
            replace hx4 : wr.drew.cell? ⟨g4, i.toNat, none⟩ = _ := hx4
            replace hx5 : wr.drew.cell? ⟨g5, (rd (rd_L1 E i) j).toNat, none⟩ = _ := hx5
            clear hx2
            refine start_ (n := 14) (S := fun w' => w'.cell? ⟨g5, (rd (rd_L1 E i) j).toNat, none⟩ = some (.bool false)) (ds := []) #[false, false, false, false, false, false, false, false, false, false, false, false, false, false] (by kernel_rfl) rfl rfl (hx5) (fun hHeld => ?_)
            generalize wr.drew = wd at *
            refine pure_ (i := 0) (N := some 44) (v := ?_) (a' := ?_) #[true, false, false, false, false, false, false, false, false, false, false, false, false, false] rfl rfl (by kernel_rfl) (fun _ _ _ h => h) (Or.inl ⟨by rfl, ?_⟩) ?_ ?_
            rotate_left
            · intro w'
              go_simp
              with_reducible rfl
            rotate_left
            · simp only [Act.put, List.setIfInBounds_toArray, List.set_cons_zero, List.set_cons_succ, i64_w, i32_w]
              rfl
            refine pure_ (i := 1) (N := some 45) (v := ?_) (a' := ?_) #[true, true, false, false, false, false, false, false, false, false, false, false, false, false] rfl rfl (by kernel_rfl) (fun _ _ _ h => h) (Or.inl ⟨by rfl, ?_⟩) ?_ ?_
            rotate_left
            · intro w'
              go_simp
              with_reducible rfl
            rotate_left
            · simp only [Act.put, List.setIfInBounds_toArray, List.set_cons_zero, List.set_cons_succ, i64_w, i32_w]
              rfl
            refine take_ (i := 2) (N := some 46) (v := ?_) (a' := ?_) #[true, true, true, false, false, false, false, false, false, false, false, false, false, false] rfl rfl (by kernel_rfl) (fun _ _ _ h => h) (Or.inl ⟨by rfl, ?_⟩) hHeld ?_ ?_
            rotate_left
            · intro w' s0
              go_simp
              with_reducible rfl
            rotate_left
            · simp only [Act.put, List.setIfInBounds_toArray, List.set_cons_zero, List.set_cons_succ, i64_w, i32_w]
              rfl
            refine pure_ (i := 3) (N := some 47) (v := ?_) (a' := ?_) #[true, true, true, true, false, false, false, false, false, false, false, false, false, false] rfl rfl (by kernel_rfl) (fun _ _ _ h => h) (Or.inl ⟨by rfl, ?_⟩) ?_ ?_
            rotate_left
            · intro w'
              go_simp
              with_reducible rfl
            rotate_left
            · simp only [Act.put, List.setIfInBounds_toArray, List.set_cons_zero, List.set_cons_succ, i64_w, i32_w]
              rfl
            refine pure_ (i := 4) (N := some 48) (v := ?_) (a' := ?_) #[true, true, true, true, true, false, false, false, false, false, false, false, false, false] rfl rfl (by kernel_rfl) (fun _ _ _ h => h) (Or.inl ⟨by rfl, ?_⟩) ?_ ?_
            rotate_left
            · intro w'
              go_simp
              with_reducible rfl
            rotate_left
            · simp only [Act.put, List.setIfInBounds_toArray, List.set_cons_zero, List.set_cons_succ, i64_w, i32_w]
              rfl
            refine pure_ (i := 5) (N := some 49) (v := undef) (a' := ?_) #[true, true, true, true, true, true, false, false, false, false, false, false, false, false] rfl rfl (by kernel_rfl) (fun _ _ _ h => h) (Or.inr ⟨by rfl, rfl⟩) ?_ ?_
            rotate_left
            · simp only [Act.put, List.setIfInBounds_toArray, List.set_cons_zero, List.set_cons_succ, i64_w, i32_w]
              rfl
            refine pure_ (i := 6) (N := some 50) (v := undef) (a' := ?_) #[true, true, true, true, true, true, true, false, false, false, false, false, false, false] rfl rfl (by kernel_rfl) (fun _ _ _ h => h) (Or.inr ⟨by rfl, rfl⟩) ?_ ?_
            rotate_left
            · simp only [Act.put, List.setIfInBounds_toArray, List.set_cons_zero, List.set_cons_succ, i64_w, i32_w]
              rfl
            refine pure_ (i := 7) (N := some 51) (v := undef) (a' := ?_) #[true, true, true, true, true, true, true, true, false, false, false, false, false, false] rfl rfl (by kernel_rfl) (fun _ _ _ h => h) (Or.inr ⟨by rfl, rfl⟩) ?_ ?_
            rotate_left
            · simp only [Act.put, List.setIfInBounds_toArray, List.set_cons_zero, List.set_cons_succ, i64_w, i32_w]
              rfl
            refine pure_ (i := 8) (N := some 52) (v := undef) (a' := ?_) #[true, true, true, true, true, true, true, true, true, false, false, false, false, false] rfl rfl (by kernel_rfl) (fun _ _ _ h => h) (Or.inr ⟨by rfl, rfl⟩) ?_ ?_
            rotate_left
            · simp only [Act.put, List.setIfInBounds_toArray, List.set_cons_zero, List.set_cons_succ, i64_w, i32_w]
              rfl
            refine pure_ (i := 9) (N := some 53) (v := undef) (a' := ?_) #[true, true, true, true, true, true, true, true, true, true, false, false, false, false] rfl rfl (by kernel_rfl) (fun _ _ _ h => h) (Or.inr ⟨by rfl, rfl⟩) ?_ ?_
            rotate_left
            · simp only [Act.put, List.setIfInBounds_toArray, List.set_cons_zero, List.set_cons_succ, i64_w, i32_w]
              rfl
            refine pure_ (i := 10) (N := some 54) (v := undef) (a' := ?_) #[true, true, true, true, true, true, true, true, true, true, true, false, false, false] rfl rfl (by kernel_rfl) (fun _ _ _ h => h) (Or.inr ⟨by rfl, rfl⟩) ?_ ?_
            rotate_left
            · simp only [Act.put, List.setIfInBounds_toArray, List.set_cons_zero, List.set_cons_succ, i64_w, i32_w]
              rfl
            refine pure_ (i := 11) (N := some 55) (v := undef) (a' := ?_) #[true, true, true, true, true, true, true, true, true, true, true, true, false, false] rfl rfl (by kernel_rfl) (fun _ _ _ h => h) (Or.inr ⟨by rfl, rfl⟩) ?_ ?_
            rotate_left
            · simp only [Act.put, List.setIfInBounds_toArray, List.set_cons_zero, List.set_cons_succ, i64_w, i32_w]
              rfl
            refine pure_ (i := 12) (N := some 56) (v := undef) (a' := ?_) #[true, true, true, true, true, true, true, true, true, true, true, true, true, false] rfl rfl (by kernel_rfl) (fun _ _ _ h => h) (Or.inr ⟨by rfl, rfl⟩) ?_ ?_
            rotate_left
            · simp only [Act.put, List.setIfInBounds_toArray, List.set_cons_zero, List.set_cons_succ, i64_w, i32_w]
              rfl
            refine pure_ (i := 13) (N := some 57) (v := ?_) (a' := ?_) #[true, true, true, true, true, true, true, true, true, true, true, true, true, true] rfl rfl (by kernel_rfl) (fun _ _ _ h => h) (Or.inl ⟨by rfl, ?_⟩) ?_ ?_
            rotate_left
            · intro w'
              go_simp
              with_reducible rfl
            rotate_left
            · simp only [Act.put, List.setIfInBounds_toArray, List.set_cons_zero, List.set_cons_succ, i64_w, i32_w]
              rfl
            refine done_ (by kernel_rfl) ?_
            go_wp2_with (first | ((with_reducible refine gate_store (t := 3) (p := 64) rfl ?_); refine store_event (t := 3) (p := 64) (v := ?vo_a) (w1 := (wd.setCell ⟨g3, (rd (rd_L1 E i) j).toNat, none⟩ (.int .i64 (rd lg2 i)))) ?hg ?ho ?hn ?hr ?_; (case ho => rfl); (case hg => rfl); (case hn => rfl); (case hr => first | (go_simp; done) | (go_simp; rfl)); intro w20 hw; have HI2 := Aside0.mk (show impl_Aho_lengths.Inv w g1 g2 g3 g5 #[.slice (some adP) P.length c0_0, .slice A0_1 B.length c0_1, .slice A0_2 F.length c0_2, .slice (some ad) E.length c0_3] _ w20 (o2.set (rd (rd_L1 E i) j).toNat (rd lg2 i)) kn2 lg2 by rw [hw]; exact HI.out.put3 _ _); clear HI hx5 hf5 hx3 hf3 hw; have HI := HI2; clear HI2; obtain ⟨hx5, hf5⟩ := HI.out.cell5 (rd (rd_L1 E i) j) (of_eq_true d3) (of_eq_true d4)) | ((with_reducible refine gate_store (t := 4) (p := 65) rfl ?_); refine store_event (t := 4) (p := 65) (v := ?vo_b) (w1 := (w20.setCell ⟨g5, (rd (rd_L1 E i) j).toNat, none⟩ (.bool true))) ?hg ?ho ?hn ?hr ?_; (case ho => rfl); (case hg => rfl); (case hn => rfl); (case hr => first | (go_simp; done) | (go_simp; rfl)); intro w21 hw; have HI2 := Aside0.mk (show impl_Aho_lengths.Inv w g1 g2 g3 g5 #[.slice (some adP) P.length c0_0, .slice A0_1 B.length c0_1, .slice A0_2 F.length c0_2, .slice (some ad) E.length c0_3] _ w21 (o2.set (rd (rd_L1 E i) j).toNat (rd lg2 i)) (kn2.set (rd (rd_L1 E i) j).toNat true) lg2 by rw [hw]; exact HI.out.put5 _ _); clear HI hx5 hf5 hw; have HI := HI2; clear HI2))
            go_roundg k2
            case measure => have := HK1.out; have := HK2.out; omega
            case rel => exact ⟨_, _, wrap64 (j + 1), rfl, ⟨H⟩, ⟨by have := HK1.out; have := HK2.out; omega⟩, HI⟩
          · rw [if_neg d6] at H
            replace d6 : rdOf false kn2 (rd (rd_L1 E i) j) = true := by simpa using d6
            rw [d6] at hx5
            clear d6
            by_cases d7 : rd lg2 i < rd o2 (rd (rd_L1 E i) j)
            · rw [if_pos d7] at H
              have d7b : decide (rd lg2 i < rd o2 (rd (rd_L1 E i) j)) = true := decide_eq_true d7
              clear d7
              go_wp2
              replace HI := Aside0.mk HI.out.drew
              replace hf3 : wr.drew.frozen? ⟨g3, (rd (rd_L1 E i) j).toNat, none⟩ = false := hf3
              replace hf5 : wr.drew.frozen? ⟨g5, (rd (rd_L1 E i) j).toNat, none⟩ = false := hf5
              replace hx3 : wr.drew.cell? ⟨g3, (rd (rd_L1 E i) j).toNat, none⟩ = _ := hx3
              replace hx4 : wr.drew.cell? ⟨g4, i.toNat, none⟩ = _ := hx4
              replace hx5 : wr.drew.cell? ⟨g5, (rd (rd_L1 E i) j).toNat, none⟩ = _ := hx5
              clear hx2
              refine start_ (n := 14) (S := fun w' => w'.cell? ⟨g5, (rd (rd_L1 E i) j).toNat, none⟩ = some (.bool true) ∧ w'.cell? ⟨g4, i.toNat, none⟩ = some (.int .i64 (rd lg2 i)) ∧ w'.cell? ⟨g3, (rd (rd_L1 E i) j).toNat, none⟩ = some (.int .i64 (rd o2 (rd (rd_L1 E i) j)))) (ds := []) #[false, false, false, false, false, false, false, false, false, false, false, false, false, false] (by kernel_rfl) rfl rfl ⟨hx5, hx4, hx3⟩ (fun hHeld => ?_)
              generalize wr.drew = wd at *
              refine pure_ (i := 0) (N := some 44) (v := ?_) (a' := ?_) #[true, false, false, false, false, false, false, false, false, false, false, false, false, false] rfl rfl (by kernel_rfl) (fun _ _ _ h => h) (Or.inl ⟨by rfl, ?_⟩) ?_ ?_
              rotate_left
              · intro w'
                go_simp
                with_reducible rfl
              rotate_left
              · simp only [Act.put, List.setIfInBounds_toArray, List.set_cons_zero, List.set_cons_succ, i64_w, i32_w]
                rfl
              refine pure_ (i := 1) (N := some 45) (v := ?_) (a' := ?_) #[true, true, false, false, false, false, false, false, false, false, false, false, false, false] rfl rfl (by kernel_rfl) (fun _ _ _ h => h) (Or.inl ⟨by rfl, ?_⟩) ?_ ?_
              rotate_left
              · intro w'
                go_simp
                with_reducible rfl
              rotate_left
              · simp only [Act.put, List.setIfInBounds_toArray, List.set_cons_zero, List.set_cons_succ, i64_w, i32_w]
                rfl
              refine take_ (i := 2) (N := some 46) (v := ?_) (a' := ?_) #[true, true, true, false, false, false, false, false, false, false, false, false, false, false] rfl rfl (by kernel_rfl) (fun _ _ _ h => h) (Or.inl ⟨by rfl, ?_⟩) hHeld ?_ ?_
              rotate_left
              · rintro w' ⟨s0, s1, s2⟩
                go_simp
                with_reducible rfl
              rotate_left
              · simp only [Act.put, List.setIfInBounds_toArray, List.set_cons_zero, List.set_cons_succ, i64_w, i32_w]
                rfl
              refine pure_ (i := 3) (N := some 47) (v := ?_) (a' := ?_) #[true, true, true, true, false, false, false, false, false, false, false, false, false, false] rfl rfl (by kernel_rfl) (fun _ _ _ h => h) (Or.inl ⟨by rfl, ?_⟩) ?_ ?_
              rotate_left
              · intro w'
                go_simp
                with_reducible rfl
              rotate_left
              · simp only [Act.put, List.setIfInBounds_toArray, List.set_cons_zero, List.set_cons_succ, i64_w, i32_w]
                rfl
              refine pure_ (i := 4) (N := some 48) (v := ?_) (a' := ?_) #[true, true, true, true, true, false, false, false, false, false, false, false, false, false] rfl rfl (by kernel_rfl) (fun _ _ _ h => h) (Or.inl ⟨by rfl, ?_⟩) ?_ ?_
              rotate_left
              · intro w'
                go_simp
                with_reducible rfl
              rotate_left
              · simp only [Act.put, List.setIfInBounds_toArray, List.set_cons_zero, List.set_cons_succ, i64_w, i32_w]
                rfl
              refine pure_ (i := 5) (N := some 49) (v := ?_) (a' := ?_) #[true, true, true, true, true, true, false, false, false, false, false, false, false, false] rfl rfl (by kernel_rfl) (fun _ _ _ h => h) (Or.inl ⟨by rfl, ?_⟩) ?_ ?_
              rotate_left
              · intro w'
                go_simp
                with_reducible rfl
              rotate_left
              · simp only [Act.put, List.setIfInBounds_toArray, List.set_cons_zero, List.set_cons_succ, i64_w, i32_w]
                rfl
              refine pure_ (i := 6) (N := some 50) (v := ?_) (a' := ?_) #[true, true, true, true, true, true, true, false, false, false, false, false, false, false] rfl rfl (by kernel_rfl) (fun _ _ _ h => h) (Or.inl ⟨by rfl, ?_⟩) ?_ ?_
              rotate_left
              · intro w'
                go_simp
                with_reducible rfl
              rotate_left
              · simp only [Act.put, List.setIfInBounds_toArray, List.set_cons_zero, List.set_cons_succ, i64_w, i32_w]
                rfl
              refine pure_ (i := 7) (N := some 51) (v := ?_) (a' := ?_) #[true, true, true, true, true, true, true, true, false, false, false, false, false, false] rfl rfl (by kernel_rfl) (fun _ _ _ h => h) (Or.inl ⟨by rfl, ?_⟩) ?_ ?_
              rotate_left
              · intro w'
                go_simp
                with_reducible rfl
              rotate_left
              · simp only [Act.put, List.setIfInBounds_toArray, List.set_cons_zero, List.set_cons_succ, i64_w, i32_w]
                rfl
              refine pure_ (i := 9) (N := some 53) (v := ?_) (a' := ?_) #[true, true, true, true, true, true, true, true, false, true, false, false, false, false] rfl rfl (by kernel_rfl) (fun _ _ _ h => h) (Or.inl ⟨by rfl, ?_⟩) ?_ ?_
              rotate_left
              · intro w'
                go_simp
                with_reducible rfl
              rotate_left
              · simp only [Act.put, List.setIfInBounds_toArray, List.set_cons_zero, List.set_cons_succ, i64_w, i32_w]
                rfl
              refine pure_ (i := 10) (N := some 54) (v := ?_) (a' := ?_) #[true, true, true, true, true, true, true, true, false, true, true, false, false, false] rfl rfl (by kernel_rfl) (fun _ _ _ h => h) (Or.inl ⟨by rfl, ?_⟩) ?_ ?_
              rotate_left
              · intro w'
                go_simp
                with_reducible rfl
              rotate_left
              · simp only [Act.put, List.setIfInBounds_toArray, List.set_cons_zero, List.set_cons_succ, i64_w, i32_w]
                rfl
              refine take_ (i := 8) (N := some 52) (v := ?_) (a' := ?_) #[true, true, true, true, true, true, true, true, true, true, true, false, false, false] rfl rfl (by kernel_rfl) (fun _ _ _ h => h) (Or.inl ⟨by rfl, ?_⟩) hHeld ?_ ?_
              rotate_left
              · rintro w' ⟨s0, s1, s2⟩
                go_simp
                with_reducible rfl
              rotate_left
              · simp only [Act.put, List.setIfInBounds_toArray, List.set_cons_zero, List.set_cons_succ, i64_w, i32_w]
                rfl
              refine take_ (i := 11) (N := some 55) (v := ?_) (a' := ?_) #[true, true, true, true, true, true, true, true, true, true, true, true, false, false] rfl rfl (by kernel_rfl) (fun _ _ _ h => h) (Or.inl ⟨by rfl, ?_⟩) hHeld ?_ ?_
              rotate_left
              · rintro w' ⟨s0, s1, s2⟩
                go_simp
                with_reducible rfl
              rotate_left
              · simp only [Act.put, List.setIfInBounds_toArray, List.set_cons_zero, List.set_cons_succ, i64_w, i32_w]
                rfl
              refine pure_ (i := 12) (N := some 56) (v := ?_) (a' := ?_) #[true, true, true, true, true, true, true, true, true, true, true, true, true, false] rfl rfl (by kernel_rfl) (fun _ _ _ h => h) (Or.inl ⟨by rfl, ?_⟩) ?_ ?_
              rotate_left
              · intro w'
                go_simp
                with_reducible rfl
              rotate_left
              · simp only [Act.put, List.setIfInBounds_toArray, List.set_cons_zero, List.set_cons_succ, i64_w, i32_w]
                rfl
              refine pure_ (i := 13) (N := some 57) (v := ?_) (a' := ?_) #[true, true, true, true, true, true, true, true, true, true, true, true, true, true] rfl rfl (by kernel_rfl) (fun _ _ _ h => h) (Or.inl ⟨by rfl, ?_⟩) ?_ ?_
              rotate_left
              · intro w'
                go_simp
                with_reducible rfl
              rotate_left
              · simp only [Act.put, List.setIfInBounds_toArray, List.set_cons_zero, List.set_cons_succ, i64_w, i32_w]
                rfl
              refine done_ (by kernel_rfl) ?_
              go_wp2_with (first | ((with_reducible refine gate_store (t := 3) (p := 64) rfl ?_); refine store_event (t := 3) (p := 64) (v := ?vo_a) (w1 := (wd.setCell ⟨g3, (rd (rd_L1 E i) j).toNat, none⟩ (.int .i64 (rd lg2 i)))) ?hg ?ho ?hn ?hr ?_; (case ho => rfl); (case hg => rfl); (case hn => rfl); (case hr => first | (go_simp; done) | (go_simp; rfl)); intro w20 hw; have HI2 := Aside0.mk (show impl_Aho_lengths.Inv w g1 g2 g3 g5 #[.slice (some adP) P.length c0_0, .slice A0_1 B.length c0_1, .slice A0_2 F.length c0_2, .slice (some ad) E.length c0_3] _ w20 (o2.set (rd (rd_L1 E i) j).toNat (rd lg2 i)) kn2 lg2 by rw [hw]; exact HI.out.put3 _ _); clear HI hx5 hf5 hx3 hf3 hw; have HI := HI2; clear HI2; obtain ⟨hx5, hf5⟩ := HI.out.cell5 (rd (rd_L1 E i) j) (of_eq_true d3) (of_eq_true d4)) | ((with_reducible refine gate_store (t := 4) (p := 65) rfl ?_); refine store_event (t := 4) (p := 65) (v := ?vo_b) (w1 := (w20.setCell ⟨g5, (rd (rd_L1 E i) j).toNat, none⟩ (.bool true))) ?hg ?ho ?hn ?hr ?_; (case ho => rfl); (case hg => rfl); (case hn => rfl); (case hr => first | (go_simp; done) | (go_simp; rfl)); intro w21 hw; have HI2 := Aside0.mk (show impl_Aho_lengths.Inv w g1 g2 g3 g5 #[.slice (some adP) P.length c0_0, .slice A0_1 B.length c0_1, .slice A0_2 F.length c0_2, .slice (some ad) E.length c0_3] _ w21 (o2.set (rd (rd_L1 E i) j).toNat (rd lg2 i)) (kn2.set (rd (rd_L1 E i) j).toNat true) lg2 by rw [hw]; exact HI.out.put5 _ _); clear HI hx5 hf5 hw; have HI := HI2; clear HI2))
              go_roundg k2
              case measure => have := HK1.out; have := HK2.out; omega
              case rel => exact ⟨_, _, wrap64 (j + 1), rfl, ⟨H⟩, ⟨by have := HK1.out; have := HK2.out; omega⟩, HI⟩
            · rw [if_neg d7] at H
              have d7b : decide (rd lg2 i < rd o2 (rd (rd_L1 E i) j)) = false := decide_eq_false d7
              clear d7
              go_wp2
              replace HI := Aside0.mk HI.out.drew
              replace hf3 : wr.drew.frozen? ⟨g3, (rd (rd_L1 E i) j).toNat, none⟩ = false := hf3
              replace hf5 : wr.drew.frozen? ⟨g5, (rd (rd_L1 E i) j).toNat, none⟩ = false := hf5
              replace hx3 : wr.drew.cell? ⟨g3, (rd (rd_L1 E i) j).toNat, none⟩ = _ := hx3
              replace hx4 : wr.drew.cell? ⟨g4, i.toNat, none⟩ = _ := hx4
              replace hx5 : wr.drew.cell? ⟨g5, (rd (rd_L1 E i) j).toNat, none⟩ = _ := hx5
              clear hx2
              refine start_ (n := 14) (S := fun w' => w'.cell? ⟨g5, (rd (rd_L1 E i) j).toNat, none⟩ = some (.bool true) ∧ w'.cell? ⟨g4, i.toNat, none⟩ = some (.int .i64 (rd lg2 i)) ∧ w'.cell? ⟨g3, (rd (rd_L1 E i) j).toNat, none⟩ = some (.int .i64 (rd o2 (rd (rd_L1 E i) j)))) (ds := []) #[false, false, false, false, false, false, false, false, false, false, false, false, false, false] (by kernel_rfl) rfl rfl ⟨hx5, hx4, hx3⟩ (fun hHeld => ?_)
              generalize wr.drew = wd at *
              refine pure_ (i := 0) (N := some 44) (v := ?_) (a' := ?_) #[true, false, false, false, false, false, false, false, false, false, false, false, false, false] rfl rfl (by kernel_rfl) (fun _ _ _ h => h) (Or.inl ⟨by rfl, ?_⟩) ?_ ?_
              rotate_left
              · intro w'
                go_simp
                with_reducible rfl
              rotate_left
              · simp only [Act.put, List.setIfInBounds_toArray, List.set_cons_zero, List.set_cons_succ, i64_w, i32_w]
                rfl
              refine pure_ (i := 1) (N := some 45) (v := ?_) (a' := ?_) #[true, true, false, false, false, false, false, false, false, false, false, false, false, false] rfl rfl (by kernel_rfl) (fun _ _ _ h => h) (Or.inl ⟨by rfl, ?_⟩) ?_ ?_
              rotate_left
              · intro w'
                go_simp
                with_reducible rfl
              rotate_left
              · simp only [Act.put, List.setIfInBounds_toArray, List.set_cons_zero, List.set_cons_succ, i64_w, i32_w]
                rfl
              refine take_ (i := 2) (N := some 46) (v := ?_) (a' := ?_) #[true, true, true, false, false, false, false, false, false, false, false, false, false, false] rfl rfl (by kernel_rfl) (fun _ _ _ h => h) (Or.inl ⟨by rfl, ?_⟩) hHeld ?_ ?_
              rotate_left
              · rintro w' ⟨s0, s1, s2⟩
                go_simp
                with_reducible rfl
              rotate_left
              · simp only [Act.put, List.setIfInBounds_toArray, List.set_cons_zero, List.set_cons_succ, i64_w, i32_w]
                rfl
              refine pure_ (i := 3) (N := some 47) (v := ?_) (a' := ?_) #[true, true, true, true, false, false, false, false, false, false, false, false, false, false] rfl rfl (by kernel_rfl) (fun _ _ _ h => h) (Or.inl ⟨by rfl, ?_⟩) ?_ ?_
              rotate_left
              · intro w'
                go_simp
                with_reducible rfl
              rotate_left
              · simp only [Act.put, List.setIfInBounds_toArray, List.set_cons_zero, List.set_cons_succ, i64_w, i32_w]
                rfl
              refine pure_ (i := 4) (N := some 48) (v := ?_) (a' := ?_) #[true, true, true, true, true, false, false, false, false, false, false, false, false, false] rfl rfl (by kernel_rfl) (fun _ _ _ h => h) (Or.inl ⟨by rfl, ?_⟩) ?_ ?_
              rotate_left
              · intro w'
                go_simp
                with_reducible rfl
              rotate_left
              · simp only [Act.put, List.setIfInBounds_toArray, List.set_cons_zero, List.set_cons_succ, i64_w, i32_w]
                rfl
              refine pure_ (i := 5) (N := some 49) (v := ?_) (a' := ?_) #[true, true, true, true, true, true, false, false, false, false, false, false, false, false] rfl rfl (by kernel_rfl) (fun _ _ _ h => h) (Or.inl ⟨by rfl, ?_⟩) ?_ ?_
              rotate_left
              · intro w'
                go_simp
                with_reducible rfl
              rotate_left
              · simp only [Act.put, List.setIfInBounds_toArray, List.set_cons_zero, List.set_cons_succ, i64_w, i32_w]
                rfl
              refine pure_ (i := 6) (N := some 50) (v := ?_) (a' := ?_) #[true, true, true, true, true, true, true, false, false, false, false, false, false, false] rfl rfl (by kernel_rfl) (fun _ _ _ h => h) (Or.inl ⟨by rfl, ?_⟩) ?_ ?_
              rotate_left
              · intro w'
                go_simp
                with_reducible rfl
              rotate_left
              · simp only [Act.put, List.setIfInBounds_toArray, List.set_cons_zero, List.set_cons_succ, i64_w, i32_w]
                rfl
              refine pure_ (i := 7) (N := some 51) (v := ?_) (a' := ?_) #[true, true, true, true, true, true, true, true, false, false, false, false, false, false] rfl rfl (by kernel_rfl) (fun _ _ _ h => h) (Or.inl ⟨by rfl, ?_⟩) ?_ ?_
              rotate_left
              · intro w'
                go_simp
                with_reducible rfl
              rotate_left
              · simp only [Act.put, List.setIfInBounds_toArray, List.set_cons_zero, List.set_cons_succ, i64_w, i32_w]
                rfl
              refine pure_ (i := 9) (N := some 53) (v := ?_) (a' := ?_) #[true, true, true, true, true, true, true, true, false, true, false, false, false, false] rfl rfl (by kernel_rfl) (fun _ _ _ h => h) (Or.inl ⟨by rfl, ?_⟩) ?_ ?_
              rotate_left
              · intro w'
                go_simp
                with_reducible rfl
              rotate_left
              · simp only [Act.put, List.setIfInBounds_toArray, List.set_cons_zero, List.set_cons_succ, i64_w, i32_w]
                rfl
              refine pure_ (i := 10) (N := some 54) (v := ?_) (a' := ?_) #[true, true, true, true, true, true, true, true, false, true, true, false, false, false] rfl rfl (by kernel_rfl) (fun _ _ _ h => h) (Or.inl ⟨by rfl, ?_⟩) ?_ ?_
              rotate_left
              · intro w'
                go_simp
                with_reducible rfl
              rotate_left
              · simp only [Act.put, List.setIfInBounds_toArray, List.set_cons_zero, List.set_cons_succ, i64_w, i32_w]
                rfl
              refine take_ (i := 8) (N := some 52) (v := ?_) (a' := ?_) #[true, true, true, true, true, true, true, true, true, true, true, false, false, false] rfl rfl (by kernel_rfl) (fun _ _ _ h => h) (Or.inl ⟨by rfl, ?_⟩) hHeld ?_ ?_
              rotate_left
              · rintro w' ⟨s0, s1, s2⟩
                go_simp
                with_reducible rfl
              rotate_left
              · simp only [Act.put, List.setIfInBounds_toArray, List.set_cons_zero, List.set_cons_succ, i64_w, i32_w]
                rfl
              refine take_ (i := 11) (N := some 55) (v := ?_) (a' := ?_) #[true, true, true, true, true, true, true, true, true, true, true, true, false, false] rfl rfl (by kernel_rfl) (fun _ _ _ h => h) (Or.inl ⟨by rfl, ?_⟩) hHeld ?_ ?_
              rotate_left
              · rintro w' ⟨s0, s1, s2⟩
                go_simp
                with_reducible rfl
              rotate_left
              · simp only [Act.put, List.setIfInBounds_toArray, List.set_cons_zero, List.set_cons_succ, i64_w, i32_w]
                rfl
              refine pure_ (i := 12) (N := some 56) (v := ?_) (a' := ?_) #[true, true, true, true, true, true, true, true, true, true, true, true, true, false] rfl rfl (by kernel_rfl) (fun _ _ _ h => h) (Or.inl ⟨by rfl, ?_⟩) ?_ ?_
              rotate_left
              · intro w'
                go_simp
                with_reducible rfl
              rotate_left
              · simp only [Act.put, List.setIfInBounds_toArray, List.set_cons_zero, List.set_cons_succ, i64_w, i32_w]
                rfl
              refine pure_ (i := 13) (N := some 57) (v := ?_) (a' := ?_) #[true, true, true, true, true, true, true, true, true, true, true, true, true, true] rfl rfl (by kernel_rfl) (fun _ _ _ h => h) (Or.inl ⟨by rfl, ?_⟩) ?_ ?_
              rotate_left
              · intro w'
                go_simp
                with_reducible rfl
              rotate_left
              · simp only [Act.put, List.setIfInBounds_toArray, List.set_cons_zero, List.set_cons_succ, i64_w, i32_w]
                rfl
              refine done_ (by kernel_rfl) ?_
              go_wp2
              go_roundg k2
              case measure => have := HK1.out; have := HK2.out; omega
              case rel => exact ⟨o2, kn2, wrap64 (j + 1), rfl, ⟨H⟩, ⟨by have := HK1.out; have := HK2.out; omega⟩, HI⟩
      case neg =>
        rw [if_neg c3] at H
        have c3b : decide (0 < i) = false := decide_eq_false c3
        clear c3
        go_wp2
        go_loopg [40] k1 (fun kq v40 w' => ∃ (o2 : List Int) (kn2 : List Bool) (j : Int), v40 = .int .i64 j ∧ Aside0 (impl_Aho_lengths.l1 kq o2 kn2 lg i (rd_L1 E i) j P E = some r) ∧ Aside0 (kq ≤ k1) ∧ Aside0 (impl_Aho_lengths.Inv w g1 g2 g3 g5 #[.slice A0_0 P.length c0_0, .slice A0_1 B.length c0_1, .slice A0_2 F.length c0_2, .slice (some ad) E.length c0_3] v14 w' o2 kn2 lg))
        case atStart => exact ⟨_, _, 0, rfl, ⟨H⟩, ⟨Nat.le_refl _⟩, HI⟩
        case round =>
          clear H HI
          skip
          obtain ⟨o2, kn2, j, rfl, HA, HK2, HI⟩ := hrel
          cases gk with
          | zero => exact absurd HA.out (by simp [impl_Aho_lengths.l1])
          | succ k2 =>
          have H := HA.out
          clear HA
          simp only [impl_Aho_lengths.l1] at H
          by_cases d1 : j < ((rd_L1 E i).length : Int)
          case neg =>
            rw [if_neg d1] at H
            have d1b : decide (j < ((rd_L1 E i).length : Int)) = false := decide_eq_false d1
            clear d1
            go_wp2
            go_roundg k2
            case measure => have := HK1.out; have := HK2.out; omega
            case rel => exact ⟨o2, kn2, lg, wrap64 (i + 1), rfl, ⟨H⟩, ⟨by have := HK1.out; have := HK2.out; omega⟩, HI⟩
          case pos =>
          rw [if_pos d1] at H
          by_cases d2 : 0 ≤ j
          case neg => rw [if_neg d2] at H; cases H
          rw [if_pos d2] at H
          by_cases d3 : 0 ≤ rd (rd_L1 E i) j
          case neg => rw [if_neg d3] at H; cases H
          rw [if_pos d3] at H
          by_cases d4 : rd (rd_L1 E i) j < 8
          case neg => rw [if_neg d4] at H; cases H
          rw [if_pos d4] at H
          by_cases d5 : i < (lg.length : Int)
          case neg => rw [if_neg d5] at H; cases H
          rw [if_pos d5] at H
          obtain ⟨g4, cc4, e4, hbg4, hlt4, _, hcc4⟩ := Kd.R_form HI.out.r4 (by omega)
          subst e4
          obtain ⟨hx4, hf4⟩ := HI.out.cell4 i c2 d5
          obtain ⟨hx3, hf3⟩ := HI.out.cell3 (rd (rd_L1 E i) j) d3 d4
          obtain ⟨hx5, hf5⟩ := HI.out.cell5 (rd (rd_L1 E i) j) d3 d4
          obtain ⟨ad2, e2, hx2⟩ := Kd.at_int HRW.out j d2 d1
          cases e2
          replace hx2 := (HI.out.hb.cell (World.block_lt_of_cell? w _ hx2)).trans hx2
          have d1b : decide (j < ((rd_L1 E i).length : Int)) = true := decide_eq_true d1
          clear hbg4 hlt4 hcc4
          replace d1 := eq_true d1
          replace d2 := eq_true d2
          replace d3 := eq_true d3
          replace d4 := eq_true d4
          replace d5 := eq_true d5
          by_cases d6 : rdOf false kn2 (rd (rd_L1 E i) j) = false
          · rw [if_pos d6] at H
            rw [d6] at hx5
            go_wp2
            replace HI := Aside0.mk HI.out.drew
            replace hf3 : wr.drew.frozen? ⟨g3, (rd (rd_L1 E i) j).toNat, none⟩ = false := hf3
            replace hf5 : wr.drew.frozen? ⟨g5, (rd (rd_L1 E i) j).toNat, none⟩ = false := hf5
            replace hx3 : wr.drew.cell? ⟨g3, (rd (rd_L1 E i) j).toNat, none⟩ = _ := hx3
            replace hx4 : wr.drew.cell? ⟨g4, i.toNat, none⟩ = _ := hx4
            replace hx5 : wr.drew.cell? ⟨g5, (rd (rd_L1 E i) j).toNat, none⟩ = _ := hx5
            clear hx2
            refine start_ (n := 14) (S := fun w' => w'.cell? ⟨g5, (rd (rd_L1 E i) j).toNat, none⟩ = some (.bool false)) (ds := []) #[false, false, false, false, false, false, false, false, false, false, false, false, false, false] (by kernel_rfl) rfl rfl (hx5) (fun hHeld => ?_)
            generalize wr.drew = wd at *
            refine pure_ (i := 0) (N := some 44) (v := ?_) (a' := ?_) #[true, false, false, false, false, false, false, false, false, false, false, false, false, false] rfl rfl (by kernel_rfl) (fun _ _ _ h => h) (Or.inl ⟨by rfl, ?_⟩) ?_ ?_
            rotate_left
            · intro w'
              go_simp
              with_reducible rfl
            rotate_left
            · simp only [Act.put, List.setIfInBounds_toArray, List.set_cons_zero, List.set_cons_succ, i64_w, i32_w]
              rfl
            refine pure_ (i := 1) (N := some 45) (v := ?_) (a' := ?_) #[true, true, false, false, false, false, false, false, false, false, false, false, false, false] rfl rfl (by kernel_rfl) (fun _ _ _ h => h) (Or.inl ⟨by rfl, ?_⟩) ?_ ?_
            rotate_left
            · intro w'
              go_simp
              with_reducible rfl
            rotate_left
            · simp only [Act.put, List.setIfInBounds_toArray, List.set_cons_zero, List.set_cons_succ, i64_w, i32_w]
              rfl
            refine take_ (i := 2) (N := some 46) (v := ?_) (a' := ?_) #[true, true, true, false, false, false, false, false, false, false, false, false, false, false] rfl rfl (by kernel_rfl) (fun _ _ _ h => h) (Or.inl ⟨by rfl, ?_⟩) hHeld ?_ ?_
            rotate_left
            · intro w' s0
              go_simp
              with_reducible rfl
            rotate_left
            · simp only [Act.put, List.setIfInBounds_toArray, List.set_cons_zero, List.set_cons_succ, i64_w, i32_w]
              rfl
            refine pure_ (i := 3) (N := some 47) (v := ?_) (a' := ?_) #[true, true, true, true, false, false, false, false, false, false, false, false, false, false] rfl rfl (by kernel_rfl) (fun _ _ _ h => h) (Or.inl ⟨by rfl, ?_⟩) ?_ ?_
            rotate_left
            · intro w'
              go_simp
              with_reducible rfl
            rotate_left
            · simp only [Act.put, List.setIfInBounds_toArray, List.set_cons_zero, List.set_cons_succ, i64_w, i32_w]
              rfl
            refine pure_ (i := 4) (N := some 48) (v := ?_) (a' := ?_) #[true, true, true, true, true, false, false, false, false, false, false, false, false, false] rfl rfl (by kernel_rfl) (fun _ _ _ h => h) (Or.inl ⟨by rfl, ?_⟩) ?_ ?_
            rotate_left
            · intro w'
              go_simp
              with_reducible rfl
            rotate_left
            · simp only [Act.put, List.setIfInBounds_toArray, List.set_cons_zero, List.set_cons_succ, i64_w, i32_w]
              rfl
            refine pure_ (i := 5) (N := some 49) (v := undef) (a' := ?_) #[true, true, true, true, true, true, false, false, false, false, false, false, false, false] rfl rfl (by kernel_rfl) (fun _ _ _ h => h) (Or.inr ⟨by rfl, rfl⟩) ?_ ?_
            rotate_left
            · simp only [Act.put, List.setIfInBounds_toArray, List.set_cons_zero, List.set_cons_succ, i64_w, i32_w]
              rfl
            refine pure_ (i := 6) (N := some 50) (v := undef) (a' := ?_) #[true, true, true, true, true, true, true, false, false, false, false, false, false, false] rfl rfl (by kernel_rfl) (fun _ _ _ h => h) (Or.inr ⟨by rfl, rfl⟩) ?_ ?_
            rotate_left
            · simp only [Act.put, List.setIfInBounds_toArray, List.set_cons_zero, List.set_cons_succ, i64_w, i32_w]
              rfl
            refine pure_ (i := 7) (N := some 51) (v := undef) (a' := ?_) #[true, true, true, true, true, true, true, true, false, false, false, false, false, false] rfl rfl (by kernel_rfl) (fun _ _ _ h => h) (Or.inr ⟨by rfl, rfl⟩) ?_ ?_
            rotate_left
            · simp only [Act.put, List.setIfInBounds_toArray, List.set_cons_zero, List.set_cons_succ, i64_w, i32_w]
              rfl
            refine pure_ (i := 8) (N := some 52) (v := undef) (a' := ?_) #[true, true, true, true, true, true, true, true, true, false, false, false, false, false] rfl rfl (by kernel_rfl) (fun _ _ _ h => h) (Or.inr ⟨by rfl, rfl⟩) ?_ ?_
            rotate_left
            · simp only [Act.put, List.setIfInBounds_toArray, List.set_cons_zero, List.set_cons_succ, i64_w, i32_w]
              rfl
            refine pure_ (i := 9) (N := some 53) (v := undef) (a' := ?_) #[true, true, true, true, true, true, true, true, true, true, false, false, false, false] rfl rfl (by kernel_rfl) (fun _ _ _ h => h) (Or.inr ⟨by rfl, rfl⟩) ?_ ?_
            rotate_left
            · simp only [Act.put, List.setIfInBounds_toArray, List.set_cons_zero, List.set_cons_succ, i64_w, i32_w]
              rfl
            refine pure_ (i := 10) (N := some 54) (v := undef) (a' := ?_) #[true, true, true, true, true, true, true, true, true, true, true, false, false, false] rfl rfl (by kernel_rfl) (fun _ _ _ h => h) (Or.inr ⟨by rfl, rfl⟩) ?_ ?_
            rotate_left
            · simp only [Act.put, List.setIfInBounds_toArray, List.set_cons_zero, List.set_cons_succ, i64_w, i32_w]
              rfl
            refine pure_ (i := 11) (N := some 55) (v := undef) (a' := ?_) #[true, true, true, true, true, true, true, true, true, true, true, true, false, false] rfl rfl (by kernel_rfl) (fun _ _ _ h => h) (Or.inr ⟨by rfl, rfl⟩) ?_ ?_
            rotate_left
            · simp only [Act.put, List.setIfInBounds_toArray, List.set_cons_zero, List.set_cons_succ, i64_w, i32_w]
              rfl
            refine pure_ (i := 12) (N := some 56) (v := undef) (a' := ?_) #[true, true, true, true, true, true, true, true, true, true, true, true, true, false] rfl rfl (by kernel_rfl) (fun _ _ _ h => h) (Or.inr ⟨by rfl, rfl⟩) ?_ ?_
            rotate_left
            · simp only [Act.put, List.setIfInBounds_toArray, List.set_cons_zero, List.set_cons_succ, i64_w, i32_w]
              rfl
            refine pure_ (i := 13) (N := some 57) (v := ?_) (a' := ?_) #[true, true, true, true, true, true, true, true, true, true, true, true, true, true] rfl rfl (by kernel_rfl) (fun _ _ _ h => h) (Or.inl ⟨by rfl, ?_⟩) ?_ ?_
            rotate_left
            · intro w'
              go_simp
              with_reducible rfl
            rotate_left
            · simp only [Act.put, List.setIfInBounds_toArray, List.set_cons_zero, List.set_cons_succ, i64_w, i32_w]
              rfl
            refine done_ (by kernel_rfl) ?_
            go_wp2_with (first | ((with_reducible refine gate_store (t := 3) (p := 64) rfl ?_); refine store_event (t := 3) (p := 64) (v := ?vo_a) (w1 := (wd.setCell ⟨g3, (rd (rd_L1 E i) j).toNat, none⟩ (.int .i64 (rd lg i)))) ?hg ?ho ?hn ?hr ?_; (case ho => rfl); (case hg => rfl); (case hn => rfl); (case hr => first | (go_simp; done) | (go_simp; rfl)); intro w20 hw; have HI2 := Aside0.mk (show impl_Aho_lengths.Inv w g1 g2 g3 g5 #[.slice A0_0 P.length c0_0, .slice A0_1 B.length c0_1, .slice A0_2 F.length c0_2, .slice (some ad) E.length c0_3] _ w20 (o2.set (rd (rd_L1 E i) j).toNat (rd lg i)) kn2 lg by rw [hw]; exact HI.out.put3 _ _); clear HI hx5 hf5 hx3 hf3 hw; have HI := HI2; clear HI2; obtain ⟨hx5, hf5⟩ := HI.out.cell5 (rd (rd_L1 E i) j) (of_eq_true d3) (of_eq_true d4)) | ((with_reducible refine gate_store (t := 4) (p := 65) rfl ?_); refine store_event (t := 4) (p := 65) (v := ?vo_b) (w1 := (w20.setCell ⟨g5, (rd (rd_L1 E i) j).toNat, none⟩ (.bool true))) ?hg ?ho ?hn ?hr ?_; (case ho => rfl); (case hg => rfl); (case hn => rfl); (case hr => first | (go_simp; done) | (go_simp; rfl)); intro w21 hw; have HI2 := Aside0.mk (show impl_Aho_lengths.Inv w g1 g2 g3 g5 #[.slice A0_0 P.length c0_0, .slice A0_1 B.length c0_1, .slice A0_2 F.length c0_2, .slice (some ad) E.length c0_3] _ w21 (o2.set (rd (rd_L1 E i) j).toNat (rd lg i)) (kn2.set (rd (rd_L1 E i) j).toNat true) lg by rw [hw]; exact HI.out.put5 _ _); clear HI hx5 hf5 hw; have HI := HI2; clear HI2))
            go_roundg k2
            case measure => have := HK1.out; have := HK2.out; omega
            case rel => exact ⟨_, _, wrap64 (j + 1), rfl, ⟨H⟩, ⟨by have := HK1.out; have := HK2.out; omega⟩, HI⟩
          · rw [if_neg d6] at H
            replace d6 : rdOf false kn2 (rd (rd_L1 E i) j) = true := by simpa using d6
            rw [d6] at hx5
            clear d6
            by_cases d7 : rd lg i < rd o2 (rd (rd_L1 E i) j)
            · rw [if_pos d7] at H
              have d7b : decide (rd lg i < rd o2 (rd (rd_L1 E i) j)) = true := decide_eq_true d7
              clear d7
              go_wp2
              replace HI := Aside0.mk HI.out.drew
              replace hf3 : wr.drew.frozen? ⟨g3, (rd (rd_L1 E i) j).toNat, none⟩ = false := hf3
              replace hf5 : wr.drew.frozen? ⟨g5, (rd (rd_L1 E i) j).toNat, none⟩ = false := hf5
              replace hx3 : wr.drew.cell? ⟨g3, (rd (rd_L1 E i) j).toNat, none⟩ = _ := hx3
              replace hx4 : wr.drew.cell? ⟨g4, i.toNat, none⟩ = _ := hx4
              replace hx5 : wr.drew.cell? ⟨g5, (rd (rd_L1 E i) j).toNat, none⟩ = _ := hx5
              clear hx2
              refine start_ (n := 14) (S := fun w' => w'.cell? ⟨g5, (rd (rd_L1 E i) j).toNat, none⟩ = some (.bool true) ∧ w'.cell? ⟨g4, i.toNat, none⟩ = some (.int .i64 (rd lg i)) ∧ w'.cell? ⟨g3, (rd (rd_L1 E i) j).toNat, none⟩ = some (.int .i64 (rd o2 (rd (rd_L1 E i) j)))) (ds := []) #[false, false, false, false, false, false, false, false, false, false, false, false, false, false] (by kernel_rfl) rfl rfl ⟨hx5, hx4, hx3⟩ (fun hHeld => ?_)
              generalize wr.drew = wd at *
              refine pure_ (i := 0) (N := some 44) (v := ?_) (a' := ?_) #[true, false, false, false, false, false, false, false, false, false, false, false, false, false] rfl rfl (by kernel_rfl) (fun _ _ _ h => h) (Or.inl ⟨by rfl, ?_⟩) ?_ ?_
              rotate_left
              · intro w'
                go_simp
                with_reducible rfl
              rotate_left
              · simp only [Act.put, List.setIfInBounds_toArray, List.set_cons_zero, List.set_cons_succ, i64_w, i32_w]
                rfl
              refine pure_ (i := 1) (N := some 45) (v := ?_) (a' := ?_) #[true, true, false, false, false, false, false, false, false, false, false, false, false, false] rfl rfl (by kernel_rfl) (fun _ _ _ h => h) (Or.inl ⟨by rfl, ?_⟩) ?_ ?_
              rotate_left
              · intro w'
                go_simp
                with_reducible rfl
              rotate_left
              · simp only [Act.put, List.setIfInBounds_toArray, List.set_cons_zero, List.set_cons_succ, i64_w, i32_w]
                rfl
              refine take_ (i := 2) (N := some 46) (v := ?_) (a' := ?_) #[true, true, true, false, false, false, false, false, false, false, false, false, false, false] rfl rfl (by kernel_rfl) (fun _ _ _ h => h) (Or.inl ⟨by rfl, ?_⟩) hHeld ?_ ?_
              rotate_left
              · rintro w' ⟨s0, s1, s2⟩
                go_simp
                with_reducible rfl
              rotate_left
              · simp only [Act.put, List.setIfInBounds_toArray, List.set_cons_zero, List.set_cons_succ, i64_w, i32_w]
                rfl
              refine pure_ (i := 3) (N := some 47) (v := ?_) (a' := ?_) #[true, true, true, true, false, false, false, false, false, false, false, false, false, false] rfl rfl (by kernel_rfl) (fun _ _ _ h => h) (Or.inl ⟨by rfl, ?_⟩) ?_ ?_
              rotate_left
              · intro w'
                go_simp
                with_reducible rfl
              rotate_left
              · simp only [Act.put, List.setIfInBounds_toArray, List.set_cons_zero, List.set_cons_succ, i64_w, i32_w]
                rfl
              refine pure_ (i := 4) (N := some 48) (v := ?_) (a' := ?_) #[true, true, true, true, true, false, false, false, false, false, false, false, false, false] rfl rfl (by kernel_rfl) (fun _ _ _ h => h) (Or.inl ⟨by rfl, ?_⟩) ?_ ?_
              rotate_left
              · intro w'
                go_simp
                with_reducible rfl
              rotate_left
              · simp only [Act.put, List.setIfInBounds_toArray, List.set_cons_zero, List.set_cons_succ, i64_w, i32_w]
                rfl
              refine pure_ (i := 5) (N := some 49) (v := ?_) (a' := ?_) #[true, true, true, true, true, true, false, false, false, false, false, false, false, false] rfl rfl (by kernel_rfl) (fun _ _ _ h => h) (Or.inl ⟨by rfl, ?_⟩) ?_ ?_
              rotate_left
              · intro w'
                go_simp
                with_reducible rfl
              rotate_left
              · simp only [Act.put, List.setIfInBounds_toArray, List.set_cons_zero, List.set_cons_succ, i64_w, i32_w]
                rfl
              refine pure_ (i := 6) (N := some 50) (v := ?_) (a' := ?_) #[true, true, true, true, true, true, true, false, false, false, false, false, false, false] rfl rfl (by kernel_rfl) (fun _ _ _ h => h) (Or.inl ⟨by rfl, ?_⟩) ?_ ?_
              rotate_left
              · intro w'
                go_simp
                with_reducible rfl
              rotate_left
              · simp only [Act.put, List.setIfInBounds_toArray, List.set_cons_zero, List.set_cons_succ, i64_w, i32_w]
                rfl
              refine pure_ (i := 7) (N := some 51) (v := ?_) (a' := ?_) #[true, true, true, true, true, true, true, true, false, false, false, false, false, false] rfl rfl (by kernel_rfl) (fun _ _ _ h => h) (Or.inl ⟨by rfl, ?_⟩) ?_ ?_
              rotate_left
              · intro w'
                go_simp
                with_reducible rfl
              rotate_left
              · simp only [Act.put, List.setIfInBounds_toArray, List.set_cons_zero, List.set_cons_succ, i64_w, i32_w]
                rfl
              refine pure_ (i := 9) (N := some 53) (v := ?_) (a' := ?_) #[true, true, true, true, true, true, true, true, false, true, false, false, false, false] rfl rfl (by kernel_rfl) (fun _ _ _ h => h) (Or.inl ⟨by rfl, ?_⟩) ?_ ?_
              rotate_left
              · intro w'
                go_simp
                with_reducible rfl
              rotate_left
              · simp only [Act.put, List.setIfInBounds_toArray, List.set_cons_zero, List.set_cons_succ, i64_w, i32_w]
                rfl
              refine pure_ (i := 10) (N := some 54) (v := ?_) (a' := ?_) #[true, true, true, true, true, true, true, true, false, true, true, false, false, false] rfl rfl (by kernel_rfl) (fun _ _ _ h => h) (Or.inl ⟨by rfl, ?_⟩) ?_ ?_
              rotate_left
              · intro w'
                go_simp
                with_reducible rfl
              rotate_left
              · simp only [Act.put, List.setIfInBounds_toArray, List.set_cons_zero, List.set_cons_succ, i64_w, i32_w]
                rfl
              refine take_ (i := 8) (N := some 52) (v := ?_) (a' := ?_) #[true, true, true, true, true, true, true, true, true, true, true, false, false, false] rfl rfl (by kernel_rfl) (fun _ _ _ h => h) (Or.inl ⟨by rfl, ?_⟩) hHeld ?_ ?_
              rotate_left
              · rintro w' ⟨s0, s1, s2⟩
                go_simp
                with_reducible rfl
              rotate_left
              · simp only [Act.put, List.setIfInBounds_toArray, List.set_cons_zero, List.set_cons_succ, i64_w, i32_w]
                rfl
              refine take_ (i := 11) (N := some 55) (v := ?_) (a' := ?_) #[true, true, true, true, true, true, true, true, true, true, true, true, false, false] rfl rfl (by kernel_rfl) (fun _ _ _ h => h) (Or.inl ⟨by rfl, ?_⟩) hHeld ?_ ?_
              rotate_left
              · rintro w' ⟨s0, s1, s2⟩
                go_simp
                with_reducible rfl
              rotate_left
              · simp only [Act.put, List.setIfInBounds_toArray, List.set_cons_zero, List.set_cons_succ, i64_w, i32_w]
                rfl
              refine pure_ (i := 12) (N := some 56) (v := ?_) (a' := ?_) #[true, true, true, true, true, true, true, true, true, true, true, true, true, false] rfl rfl (by kernel_rfl) (fun _ _ _ h => h) (Or.inl ⟨by rfl, ?_⟩) ?_ ?_
              rotate_left
              · intro w'
                go_simp
                with_reducible rfl
              rotate_left
              · simp only [Act.put, List.setIfInBounds_toArray, List.set_cons_zero, List.set_cons_succ, i64_w, i32_w]
                rfl
              refine pure_ (i := 13) (N := some 57) (v := ?_) (a' := ?_) #[true, true, true, true, true, true, true, true, true, true, true, true, true, true] rfl rfl (by kernel_rfl) (fun _ _ _ h => h) (Or.inl ⟨by rfl, ?_⟩) ?_ ?_
              rotate_left
              · intro w'
                go_simp
                with_reducible rfl
              rotate_left
              · simp only [Act.put, List.setIfInBounds_toArray, List.set_cons_zero, List.set_cons_succ, i64_w, i32_w]
                rfl
              refine done_ (by kernel_rfl) ?_
              go_wp2_with (first | ((with_reducible refine gate_store (t := 3) (p := 64) rfl ?_); refine store_event (t := 3) (p := 64) (v := ?vo_a) (w1 := (wd.setCell ⟨g3, (rd (rd_L1 E i) j).toNat, none⟩ (.int .i64 (rd lg i)))) ?hg ?ho ?hn ?hr ?_; (case ho => rfl); (case hg => rfl); (case hn => rfl); (case hr => first | (go_simp; done) | (go_simp; rfl)); intro w20 hw; have HI2 := Aside0.mk (show impl_Aho_lengths.Inv w g1 g2 g3 g5 #[.slice A0_0 P.length c0_0, .slice A0_1 B.length c0_1, .slice A0_2 F.length c0_2, .slice (some ad) E.length c0_3] _ w20 (o2.set (rd (rd_L1 E i) j).toNat (rd lg i)) kn2 lg by rw [hw]; exact HI.out.put3 _ _); clear HI hx5 hf5 hx3 hf3 hw; have HI := HI2; clear HI2; obtain ⟨hx5, hf5⟩ := HI.out.cell5 (rd (rd_L1 E i) j) (of_eq_true d3) (of_eq_true d4)) | ((with_reducible refine gate_store (t := 4) (p := 65) rfl ?_); refine store_event (t := 4) (p := 65) (v := ?vo_b) (w1 := (w20.setCell ⟨g5, (rd (rd_L1 E i) j).toNat, none⟩ (.bool true))) ?hg ?ho ?hn ?hr ?_; (case ho => rfl); (case hg => rfl); (case hn => rfl); (case hr => first | (go_simp; done) | (go_simp; rfl)); intro w21 hw; have HI2 := Aside0.mk (show impl_Aho_lengths.Inv w g1 g2 g3 g5 #[.slice A0_0 P.length c0_0, .slice A0_1 B.length c0_1, .slice A0_2 F.length c0_2, .slice (some ad) E.length c0_3] _ w21 (o2.set (rd (rd_L1 E i) j).toNat (rd lg i)) (kn2.set (rd (rd_L1 E i) j).toNat true) lg by rw [hw]; exact HI.out.put5 _ _); clear HI hx5 hf5 hw; have HI := HI2; clear HI2))
              go_roundg k2
              case measure => have := HK1.out; have := HK2.out; omega
              case rel => exact ⟨_, _, wrap64 (j + 1), rfl, ⟨H⟩, ⟨by have := HK1.out; have := HK2.out; omega⟩, HI⟩
            · rw [if_neg d7] at H
              have d7b : decide (rd lg i < rd o2 (rd (rd_L1 E i) j)) = false := decide_eq_false d7
              clear d7
              go_wp2
              replace HI := Aside0.mk HI.out.drew
              replace hf3 : wr.drew.frozen? ⟨g3, (rd (rd_L1 E i) j).toNat, none⟩ = false := hf3
              replace hf5 : wr.drew.frozen? ⟨g5, (rd (rd_L1 E i) j).toNat, none⟩ = false := hf5
              replace hx3 : wr.drew.cell? ⟨g3, (rd (rd_L1 E i) j).toNat, none⟩ = _ := hx3
              replace hx4 : wr.drew.cell? ⟨g4, i.toNat, none⟩ = _ := hx4
              replace hx5 : wr.drew.cell? ⟨g5, (rd (rd_L1 E i) j).toNat, none⟩ = _ := hx5
              clear hx2
              refine start_ (n := 14) (S := fun w' => w'.cell? ⟨g5, (rd (rd_L1 E i) j).toNat, none⟩ = some (.bool true) ∧ w'.cell? ⟨g4, i.toNat, none⟩ = some (.int .i64 (rd lg i)) ∧ w'.cell? ⟨g3, (rd (rd_L1 E i) j).toNat, none⟩ = some (.int .i64 (rd o2 (rd (rd_L1 E i) j)))) (ds := []) #[false, false, false, false, false, false, false, false, false, false, false, false, false, false] (by kernel_rfl) rfl rfl ⟨hx5, hx4, hx3⟩ (fun hHeld => ?_)
              generalize wr.drew = wd at *
              refine pure_ (i := 0) (N := some 44) (v := ?_) (a' := ?_) #[true, false, false, false, false, false, false, false, false, false, false, false, false, false] rfl rfl (by kernel_rfl) (fun _ _ _ h => h) (Or.inl ⟨by rfl, ?_⟩) ?_ ?_
              rotate_left
              · intro w'
                go_simp
                with_reducible rfl
              rotate_left
              · simp only [Act.put, List.setIfInBounds_toArray, List.set_cons_zero, List.set_cons_succ, i64_w, i32_w]
                rfl
              refine pure_ (i := 1) (N := some 45) (v := ?_) (a' := ?_) #[true, true, false, false, false, false, false, false, false, false, false, false, false, false] rfl rfl (by kernel_rfl) (fun _ _ _ h => h) (Or.inl ⟨by rfl, ?_⟩) ?_ ?_
              rotate_left
              · intro w'
                go_simp
                with_reducible rfl
              rotate_left
              · simp only [Act.put, List.setIfInBounds_toArray, List.set_cons_zero, List.set_cons_succ, i64_w, i32_w]
                rfl
              refine take_ (i := 2) (N := some 46) (v := ?_) (a' := ?_) #[true, true, true, false, false, false, false, false, false, false, false, false, false, false] rfl rfl (by kernel_rfl) (fun _ _ _ h => h) (Or.inl ⟨by rfl, ?_⟩) hHeld ?_ ?_
              rotate_left
              · rintro w' ⟨s0, s1, s2⟩
                go_simp
                with_reducible rfl
              rotate_left
              · simp only [Act.put, List.setIfInBounds_toArray, List.set_cons_zero, List.set_cons_succ, i64_w, i32_w]
                rfl
              refine pure_ (i := 3) (N := some 47) (v := ?_) (a' := ?_) #[true, true, true, true, false, false, false, false, false, false, false, false, false, false] rfl rfl (by kernel_rfl) (fun _ _ _ h => h) (Or.inl ⟨by rfl, ?_⟩) ?_ ?_
              rotate_left
              · intro w'
                go_simp
                with_reducible rfl
              rotate_left
              · simp only [Act.put, List.setIfInBounds_toArray, List.set_cons_zero, List.set_cons_succ, i64_w, i32_w]
                rfl
              refine pure_ (i := 4) (N := some 48) (v := ?_) (a' := ?_) #[true, true, true, true, true, false, false, false, false, false, false, false, false, false] rfl rfl (by kernel_rfl) (fun _ _ _ h => h) (Or.inl ⟨by rfl, ?_⟩) ?_ ?_
              rotate_left
              · intro w'
                go_simp
                with_reducible rfl
              rotate_left
              · simp only [Act.put, List.setIfInBounds_toArray, List.set_cons_zero, List.set_cons_succ, i64_w, i32_w]
                rfl
              refine pure_ (i := 5) (N := some 49) (v := ?_) (a' := ?_) #[true, true, true, true, true, true, false, false, false, false, false, false, false, false] rfl rfl (by kernel_rfl) (fun _ _ _ h => h) (Or.inl ⟨by rfl, ?_⟩) ?_ ?_
              rotate_left
              · intro w'
                go_simp
                with_reducible rfl
              rotate_left
              · simp only [Act.put, List.setIfInBounds_toArray, List.set_cons_zero, List.set_cons_succ, i64_w, i32_w]
                rfl
              refine pure_ (i := 6) (N := some 50) (v := ?_) (a' := ?_) #[true, true, true, true, true, true, true, false, false, false, false, false, false, false] rfl rfl (by kernel_rfl) (fun _ _ _ h => h) (Or.inl ⟨by rfl, ?_⟩) ?_ ?_
              rotate_left
              · intro w'
                go_simp
                with_reducible rfl
              rotate_left
              · simp only [Act.put, List.setIfInBounds_toArray, List.set_cons_zero, List.set_cons_succ, i64_w, i32_w]
                rfl
              refine pure_ (i := 7) (N := some 51) (v := ?_) (a' := ?_) #[true, true, true, true, true, true, true, true, false, false, false, false, false, false] rfl rfl (by kernel_rfl) (fun _ _ _ h => h) (Or.inl ⟨by rfl, ?_⟩) ?_ ?_
              rotate_left
              · intro w'
                go_simp
                with_reducible rfl
              rotate_left
              · simp only [Act.put, List.setIfInBounds_toArray, List.set_cons_zero, List.set_cons_succ, i64_w, i32_w]
                rfl
              refine pure_ (i := 9) (N := some 53) (v := ?_) (a' := ?_) #[true, true, true, true, true, true, true, true, false, true, false, false, false, false] rfl rfl (by kernel_rfl) (fun _ _ _ h => h) (Or.inl ⟨by rfl, ?_⟩) ?_ ?_
              rotate_left
              · intro w'
                go_simp
                with_reducible rfl
              rotate_left
              · simp only [Act.put, List.setIfInBounds_toArray, List.set_cons_zero, List.set_cons_succ, i64_w, i32_w]
                rfl
              refine pure_ (i := 10) (N := some 54) (v := ?_) (a' := ?_) #[true, true, true, true, true, true, true, true, false, true, true, false, false, false] rfl rfl (by kernel_rfl) (fun _ _ _ h => h) (Or.inl ⟨by rfl, ?_⟩) ?_ ?_
              rotate_left
              · intro w'
                go_simp
                with_reducible rfl
              rotate_left
              · simp only [Act.put, List.setIfInBounds_toArray, List.set_cons_zero, List.set_cons_succ, i64_w, i32_w]
                rfl
              refine take_ (i := 8) (N := some 52) (v := ?_) (a' := ?_) #[true, true, true, true, true, true, true, true, true, true, true, false, false, false] rfl rfl (by kernel_rfl) (fun _ _ _ h => h) (Or.inl ⟨by rfl, ?_⟩) hHeld ?_ ?_
              rotate_left
              · rintro w' ⟨s0, s1, s2⟩
                go_simp
                with_reducible rfl
              rotate_left
              · simp only [Act.put, List.setIfInBounds_toArray, List.set_cons_zero, List.set_cons_succ, i64_w, i32_w]
                rfl
              refine take_ (i := 11) (N := some 55) (v := ?_) (a' := ?_) #[true, true, true, true, true, true, true, true, true, true, true, true, false, false] rfl rfl (by kernel_rfl) (fun _ _ _ h => h) (Or.inl ⟨by rfl, ?_⟩) hHeld ?_ ?_
              rotate_left
              · rintro w' ⟨s0, s1, s2⟩
                go_simp
                with_reducible rfl
              rotate_left
              · simp only [Act.put, List.setIfInBounds_toArray, List.set_cons_zero, List.set_cons_succ, i64_w, i32_w]
                rfl
              refine pure_ (i := 12) (N := some 56) (v := ?_) (a' := ?_) #[true, true, true, true, true, true, true, true, true, true, true, true, true, false] rfl rfl (by kernel_rfl) (fun _ _ _ h => h) (Or.inl ⟨by rfl, ?_⟩) ?_ ?_
              rotate_left
              · intro w'
                go_simp
                with_reducible rfl
              rotate_left
              · simp only [Act.put, List.setIfInBounds_toArray, List.set_cons_zero, List.set_cons_succ, i64_w, i32_w]
                rfl
              refine pure_ (i := 13) (N := some 57) (v := ?_) (a' := ?_) #[true, true, true, true, true, true, true, true, true, true, true, true, true, true] rfl rfl (by kernel_rfl) (fun _ _ _ h => h) (Or.inl ⟨by rfl, ?_⟩) ?_ ?_
              rotate_left
              · intro w'
                go_simp
                with_reducible rfl
              rotate_left
              · simp only [Act.put, List.setIfInBounds_toArray, List.set_cons_zero, List.set_cons_succ, i64_w, i32_w]
                rfl
              refine done_ (by kernel_rfl) ?_
              go_wp2
              go_roundg k2
              case measure => have := HK1.out; have := HK2.out; omega
              case rel => exact ⟨o2, kn2, wrap64 (j + 1), rfl, ⟨H⟩, ⟨by have := HK1.out; have := HK2.out; omega⟩, HI⟩

def impl_Aho_step.l0 : Nat → Int → Int → List Int → List Int → List Int → List (List Int) → Option (Int)
 | 0, _, _, _, _, _, _ => none
 | k + 1, x1, x2, x214000, x214001, x214002, x214003 => (impl_Aho_kid.f k x214000 x214001 x214002 x214003 x1 x2).bind fun t214 => (if t214 ≥ 0 then (some t214) else (if x1 = 0 then (some 0) else (if 0 ≤ x1 then (if x1 < (x214002.length : Int) then (impl_Aho_step.l0 k (rd x214002 x1) x2 x214000 x214001 x214002 x214003) else (none)) else (none))))
def impl_Aho_step.f (k : Nat) (l0_0 : List Int) (l0_1 : List Int) (l0_2 : List Int) (l0_3 : List (List Int)) (a1 : Int) (a2 : Int) : Option (Int) := impl_Aho_step.l0 k a1 a2 l0_0 l0_1 l0_2 l0_3
theorem impl_Aho_step.mono_l : ∀ k, (∀ y0 y1 y2 y3 y4 y5, LeO (impl_Aho_step.l0 k y0 y1 y2 y3 y4 y5) (impl_Aho_step.l0 (k + 1) y0 y1 y2 y3 y4 y5))
 | 0 => fun _ _ _ _ _ _ r h => by simp [impl_Aho_step.l0] at h
 | k + 1 => by
  have ih0 := impl_Aho_step.mono_l k
  ·intro y0 y1 y2 y3 y4 y5
   unfold impl_Aho_step.l0
   repeat' first
   | (with_reducible exact ih0 _ _ _ _ _ _)
   | (with_reducible exact impl_Aho_kid.mono _ _ _ _ _ _ _)
   | (with_reducible exact LeO.refl _)
   | (with_reducible exact LeO.none _)
   | (with_reducible refine LeO.ite ?_ ?_)
   | (with_reducible refine LeO.bind ?_ (fun _ => ?_))
   | exact ih0 _ _ _ _ _ _
   | exact impl_Aho_kid.mono _ _ _ _ _ _ _
   | exact LeO.none _
   | refine LeO.ite ?_ ?_
   | refine LeO.bind ?_ (fun _ => ?_)
theorem impl_Aho_step.mono : ∀ a0 a1 a2 a3 a4 a5 k, LeO (impl_Aho_step.f k a0 a1 a2 a3 a4 a5) (impl_Aho_step.f (k + 1) a0 a1 a2 a3 a4 a5) := by
 intro a0 a1 a2 a3 a4 a5 k
 have ih0 := impl_Aho_step.mono_l k
 unfold impl_Aho_step.f
 repeat' first
   | (with_reducible exact ih0 _ _ _ _ _ _)
   | (with_reducible exact impl_Aho_kid.mono _ _ _ _ _ _ _)
   | (with_reducible exact LeO.refl _)
   | (with_reducible exact LeO.none _)
   | (with_reducible refine LeO.ite ?_ ?_)
   | (with_reducible refine LeO.bind ?_ (fun _ => ?_))
   | exact ih0 _ _ _ _ _ _
   | exact impl_Aho_kid.mono _ _ _ _ _ _ _
   | exact LeO.none _
   | refine LeO.ite ?_ ?_
   | refine LeO.bind ?_ (fun _ => ?_)
set_option maxHeartbeats 8000000 in
set_option maxRecDepth 100000 in
theorem impl_Aho_step.calls (k : Nat) (A0_0 : Option Addr) (c0_0 : Nat) (l0_0 : List Int) (A0_1 : Option Addr) (c0_1 : Nat) (l0_1 : List Int) (A0_2 : Option Addr) (c0_2 : Nat) (l0_2 : List Int) (A0_3 : Option Addr) (c0_3 : Nat) (l0_3 : List (List Int)) (a1 : Int) (a2 : Int) (r : Int) (w : World) (hr0_0 : Kd.C (Kd.int .i64) w A0_0 l0_0.length l0_0) (hc0_0 : l0_0.length ≤ c0_0) (hr0_1 : Kd.C (Kd.int .i64) w A0_1 l0_1.length l0_1) (hc0_1 : l0_1.length ≤ c0_1) (hr0_2 : Kd.C (Kd.int .i64) w A0_2 l0_2.length l0_2) (hc0_2 : l0_2.length ≤ c0_2) (hr0_3 : Kd.C (Kd.slice 3 (Kd.int .i64)) w A0_3 l0_3.length l0_3) (hc0_3 : l0_3.length ≤ c0_3) (h : impl_Aho_step.f k l0_0 l0_1 l0_2 l0_3 a1 a2 = some r) :
  Calls Try.prog 38 #[.agg #[.slice A0_0 l0_0.length c0_0, .slice A0_1 l0_1.length c0_1, .slice A0_2 l0_2.length c0_2, .slice A0_3 l0_3.length c0_3], .int .i64 a1, .int .i64 a2] w fun e w' => e = .returned (.int .i64 r) ∧ Below w.heap.size w w' := by
 have hu30 := Try.underlying30
 have HR0_0 := Aside0.mk hr0_0
 have HC0_0 := Aside0.mk hc0_0
 clear hr0_0 hc0_0
 have HR0_1 := Aside0.mk hr0_1
 have HC0_1 := Aside0.mk hc0_1
 clear hr0_1 hc0_1
 have HR0_2 := Aside0.mk hr0_2
 have HC0_2 := Aside0.mk hc0_2
 clear hr0_2 hc0_2
 have HR0_3 := Aside0.mk hr0_3
 have HC0_3 := Aside0.mk hc0_3
 clear hr0_3 hc0_3
 have HB := Aside0.mk (Below.refl w.heap.size w)
 have H : (impl_Aho_step.l0 k a1 a2 l0_0 l0_1 l0_2 l0_3) = some r := h
 clear h
 have H' := Aside0.mk H
 clear H
 go_enter Try.func38, Try.ntmps38
 go_wp2_with (first | ((with_reducible refine gate_dst (N := 3) rfl ?_); refine box_event ?hg (N := 3) ?hd (cs := #[.slice A0_0 l0_0.length c0_0, .slice A0_1 l0_1.length c0_1, .slice A0_2 l0_2.length c0_2, .slice A0_3 l0_3.length c0_3]) (t := 30) ?hr ?_; (case hd => rfl); (case hg => rfl); (case hr => first | (go_simp; done) | (go_simp; rfl)); intro gb213 hg w4 hbox hb; have n0_ := Aside0.mk (below_step (by repeat (first | (with_reducible first | exact HB.out | apply below_alloc | apply pw_below_drewN | apply below_drew1) | exact HB.out)) hb); have n1_ := Aside0.mk (hbox); have n2_ := Aside0.mk ((by rw [hg]; exact (below_size (by repeat (first | (with_reducible first | exact HB.out | apply below_alloc | apply pw_below_drewN | apply below_drew1) | exact HB.out))) : w.heap.size ≤ gb213)); have n3_ := Aside0.mk ((by rw [hg]; exact (below_size (by repeat (first | (with_reducible first | exact HB.out | apply below_alloc | apply pw_below_drewN | apply below_drew1) | exact HB.out))) : w.heap.size ≤ gb213)); clear HB; have HB := n0_; have BK213 := n1_; have GW213 := n2_; have GE213 := n3_; clear n0_ n1_ n2_ n3_; clear hb hbox hg))
 go_loopg [1] k (fun kq v1 w' => ∃ (x1_1 : Int), v1 = .int .i64 x1_1 ∧ Aside0 (impl_Aho_step.l0 kq x1_1 a2 l0_0 l0_1 l0_2 l0_3 = some r) ∧ Aside0 (kq ≤ k) ∧ Aside0 (w'.heap[gb213]? = some (.cells #[(.slice A0_0 l0_0.length c0_0), (.slice A0_1 l0_1.length c0_1), (.slice A0_2 l0_2.length c0_2), (.slice A0_3 l0_3.length c0_3)] 30 (0, 0))) ∧ Aside0 (Below w.heap.size w w'))
 case atStart => exact ⟨(a1), (by first | rfl | (simp; done) | (simp [*]; done)), H', ⟨Nat.le_refl _⟩, ⟨by (with_reducible repeat (first | refine blk_drewN ?_ _ | refine blk_drew ?_ | refine blk_alloc ?_ _)); exact BK213.out⟩, ⟨by repeat (first | (with_reducible first | exact HB.out | apply below_alloc | apply pw_below_drewN | apply below_drew1 | refine below_set ?_ GE213.out) | exact HB.out)⟩⟩
 case round =>
  clear H'
  try clear p2
  try clear c3
  obtain ⟨x1_1, rfl, HA, HK1, BK213, HB⟩ := hrel
  cases gk with
  | zero => exact absurd HA.out (by simp [impl_Aho_step.l0])
  | succ k1 =>
   have H := HA.out
   clear HA
   simp only [impl_Aho_step.l0] at H
   replace H := Option.bind_eq_some_iff.mp H
   obtain ⟨t214, A50, H⟩ := H
   replace H : (if t214 ≥ 0 then (some t214) else (if x1_1 = 0 then (some 0) else (if 0 ≤ x1_1 then (if x1_1 < (l0_2.length : Int) then (impl_Aho_step.l0 k1 (rd l0_2 x1_1) a2 l0_0 l0_1 l0_2 l0_3) else (none)) else (none)))) = some r := H
   have A5 := Aside0.mk A50
   clear A50
   by_cases c6 : t214 ≥ 0
   ·rw [if_pos c6] at H
    have c6b0 : decide (0 ≤ t214) = true := decide_eq_true c6
    clear c6
    obtain rfl := Option.some.inj H
    have hcz7_0 : wr.cell? ⟨gb213, 0, none⟩ = some (.slice A0_0 l0_0.length c0_0) := (blk_cell BK213.out 0).trans rfl
    have hcz7_1 : wr.cell? ⟨gb213, 1, none⟩ = some (.slice A0_1 l0_1.length c0_1) := (blk_cell BK213.out 1).trans rfl
    have hcz7_2 : wr.cell? ⟨gb213, 2, none⟩ = some (.slice A0_2 l0_2.length c0_2) := (blk_cell BK213.out 2).trans rfl
    have hcz7_3 : wr.cell? ⟨gb213, 3, none⟩ = some (.slice A0_3 l0_3.length c0_3) := (blk_cell BK213.out 3).trans rfl
    have hfz7_0 := blk_frozen BK213.out 0
    have hfz7_1 := blk_frozen BK213.out 1
    have hfz7_2 := blk_frozen BK213.out 2
    have hfz7_3 := blk_frozen BK213.out 3
    go_wp2_with (first | ((with_reducible refine gate_callee (f := 67) rfl ?_); refine goesL_ (some 11) rfl rfl Try.func67 (by kernel_rfl) rfl #[.agg #[.slice A0_0 l0_0.length c0_0, .slice A0_1 l0_1.length c0_1, .slice A0_2 l0_2.length c0_2, .slice A0_3 l0_3.length c0_3], .int .i64 x1_1, .int .i64 a2] rfl (by (try simp only [List.map_toArray, List.map_cons, List.map_nil]); first | done | rfl | (simp only [List.length_drop, List.length_take]; rfl)) ?_; (with_reducible refine (impl_Aho_kid.calls k1 _ _ l0_0 _ _ l0_1 _ _ l0_2 _ _ l0_3 x1_1 a2 t214 _ ?side1 ?side2 ?side3 ?side4 ?side5 ?side6 ?side7 ?side8 A5.out).mono ?_); (case side1 => repeat (first | exact (Kd.C_below HR0_0.out HB.out) | (with_reducible refine Kd.C_alloc ?_ _) | (with_reducible refine Kd.C_drewN ?_ _) | (with_reducible refine Kd.C_drew ?_))); (case side2 => exact HC0_0.out); (case side3 => repeat (first | exact (Kd.C_below HR0_1.out HB.out) | (with_reducible refine Kd.C_alloc ?_ _) | (with_reducible refine Kd.C_drewN ?_ _) | (with_reducible refine Kd.C_drew ?_))); (case side4 => exact HC0_1.out); (case side5 => repeat (first | exact (Kd.C_below HR0_2.out HB.out) | (with_reducible refine Kd.C_alloc ?_ _) | (with_reducible refine Kd.C_drewN ?_ _) | (with_reducible refine Kd.C_drew ?_))); (case side6 => exact HC0_2.out); (case side7 => repeat (first | exact (Kd.C_below HR0_3.out HB.out) | (with_reducible refine Kd.C_alloc ?_ _) | (with_reducible refine Kd.C_drewN ?_ _) | (with_reducible refine Kd.C_drew ?_))); (case side8 => exact HC0_3.out); rintro e w8 ⟨rfl, hb⟩; refine ⟨_, rfl, ?_⟩; have n0_ := Aside0.mk (blk_below (g := gb213) (o := .cells #[.slice A0_0 l0_0.length c0_0, .slice A0_1 l0_1.length c0_1, .slice A0_2 l0_2.length c0_2, .slice A0_3 l0_3.length c0_3] 30 (0, 0)) (by (with_reducible repeat (first | refine blk_drewN ?_ _ | refine blk_drew ?_ | refine blk_alloc ?_ _)); exact BK213.out) hb); have n1_ := Aside0.mk (below_step (by repeat (first | (with_reducible first | exact HB.out | apply below_alloc | apply pw_below_drewN | apply below_drew1 | refine below_set ?_ GE213.out) | exact HB.out)) hb); clear BK213; clear HB; have BK213 := n0_; have HB := n1_; clear n0_ n1_; (try clear hb); (try clear hb2); (try clear hk); (try clear hi)))
    go_ret
    exact ⟨by first | rfl | (simp [errW_none, errW_some] <;> rfl) | (simp [*, errW_none, errW_some] <;> rfl), by repeat (first | (with_reducible first | exact HB.out | apply below_alloc | apply pw_below_drewN | apply below_drew1 | refine below_set ?_ GE213.out) | exact HB.out)⟩
   ·rw [if_neg c6] at H
    have c6b0 : decide (0 ≤ t214) = false := decide_eq_false c6
    clear c6
    by_cases c9 : x1_1 = 0
    ·rw [if_pos c9] at H
     have c9b0 : (x1_1 == 0) = true := beq_iff_eq.mpr c9
     have c9b1 : (x1_1 != 0) = false := bne_eq_false_iff_eq.mpr c9
     clear c9
     obtain rfl := Option.some.inj H
     have hcz10_0 : wr.cell? ⟨gb213, 0, none⟩ = some (.slice A0_0 l0_0.length c0_0) := (blk_cell BK213.out 0).trans rfl
     have hcz10_1 : wr.cell? ⟨gb213, 1, none⟩ = some (.slice A0_1 l0_1.length c0_1) := (blk_cell BK213.out 1).trans rfl
     have hcz10_2 : wr.cell? ⟨gb213, 2, none⟩ = some (.slice A0_2 l0_2.length c0_2) := (blk_cell BK213.out 2).trans rfl
     have hcz10_3 : wr.cell? ⟨gb213, 3, none⟩ = some (.slice A0_3 l0_3.length c0_3) := (blk_cell BK213.out 3).trans rfl
     have hfz10_0 := blk_frozen BK213.out 0
     have hfz10_1 := blk_frozen BK213.out 1
     have hfz10_2 := blk_frozen BK213.out 2
     have hfz10_3 := blk_frozen BK213.out 3
     go_wp2_with (first | ((with_reducible refine gate_callee (f := 67) rfl ?_); refine goesL_ (some 11) rfl rfl Try.func67 (by kernel_rfl) rfl #[.agg #[.slice A0_0 l0_0.length c0_0, .slice A0_1 l0_1.length c0_1, .slice A0_2 l0_2.length c0_2, .slice A0_3 l0_3.length c0_3], .int .i64 x1_1, .int .i64 a2] rfl (by (try simp only [List.map_toArray, List.map_cons, List.map_nil]); first | done | rfl | (simp only [List.length_drop, List.length_take]; rfl)) ?_; (with_reducible refine (impl_Aho_kid.calls k1 _ _ l0_0 _ _ l0_1 _ _ l0_2 _ _ l0_3 x1_1 a2 t214 _ ?side1 ?side2 ?side3 ?side4 ?side5 ?side6 ?side7 ?side8 A5.out).mono ?_); (case side1 => repeat (first | exact (Kd.C_below HR0_0.out HB.out) | (with_reducible refine Kd.C_alloc ?_ _) | (with_reducible refine Kd.C_drewN ?_ _) | (with_reducible refine Kd.C_drew ?_))); (case side2 => exact HC0_0.out); (case side3 => repeat (first | exact (Kd.C_below HR0_1.out HB.out) | (with_reducible refine Kd.C_alloc ?_ _) | (with_reducible refine Kd.C_drewN ?_ _) | (with_reducible refine Kd.C_drew ?_))); (case side4 => exact HC0_1.out); (case side5 => repeat (first | exact (Kd.C_below HR0_2.out HB.out) | (with_reducible refine Kd.C_alloc ?_ _) | (with_reducible refine Kd.C_drewN ?_ _) | (with_reducible refine Kd.C_drew ?_))); (case side6 => exact HC0_2.out); (case side7 => repeat (first | exact (Kd.C_below HR0_3.out HB.out) | (with_reducible refine Kd.C_alloc ?_ _) | (with_reducible refine Kd.C_drewN ?_ _) | (with_reducible refine Kd.C_drew ?_))); (case side8 => exact HC0_3.out); rintro e w11 ⟨rfl, hb⟩; refine ⟨_, rfl, ?_⟩; have n0_ := Aside0.mk (blk_below (g := gb213) (o := .cells #[.slice A0_0 l0_0.length c0_0, .slice A0_1 l0_1.length c0_1, .slice A0_2 l0_2.length c0_2, .slice A0_3 l0_3.length c0_3] 30 (0, 0)) (by (with_reducible repeat (first | refine blk_drewN ?_ _ | refine blk_drew ?_ | refine blk_alloc ?_ _)); exact BK213.out) hb); have n1_ := Aside0.mk (below_step (by repeat (first | (with_reducible first | exact HB.out | apply below_alloc | apply pw_below_drewN | apply below_drew1 | refine below_set ?_ GE213.out) | exact HB.out)) hb); clear BK213; clear HB; have BK213 := n0_; have HB := n1_; clear n0_ n1_; (try clear hb); (try clear hb2); (try clear hk); (try clear hi)))
     go_ret
     exact ⟨by first | rfl | (simp [errW_none, errW_some] <;> rfl) | (simp [*, errW_none, errW_some] <;> rfl), by repeat (first | (with_reducible first | exact HB.out | apply below_alloc | apply pw_below_drewN | apply below_drew1 | refine below_set ?_ GE213.out) | exact HB.out)⟩
    ·rw [if_neg c9] at H
     have c9b0 : (x1_1 == 0) = false := beq_eq_false_iff_ne.mpr c9
     have c9b1 : (x1_1 != 0) = true := bne_iff_ne.mpr c9
     by_cases c12 : 0 ≤ x1_1
     ·rw [if_pos c12] at H
      have c12b0 : decide (0 ≤ x1_1) = true := decide_eq_true c12
      clear c12
      by_cases c13 : x1_1 < (l0_2.length : Int)
      ·rw [if_pos c13] at H
       have c13b0 : decide (x1_1 < (l0_2.length : Int)) = true := decide_eq_true c13
       clear c13
       have H' := Aside0.mk H
       clear H
       have hcz14_0 : wr.cell? ⟨gb213, 0, none⟩ = some (.slice A0_0 l0_0.length c0_0) := (blk_cell BK213.out 0).trans rfl
       have hcz14_1 : wr.cell? ⟨gb213, 1, none⟩ = some (.slice A0_1 l0_1.length c0_1) := (blk_cell BK213.out 1).trans rfl
       have hcz14_2 : wr.cell? ⟨gb213, 2, none⟩ = some (.slice A0_2 l0_2.length c0_2) := (blk_cell BK213.out 2).trans rfl
       have hcz14_3 : wr.cell? ⟨gb213, 3, none⟩ = some (.slice A0_3 l0_3.length c0_3) := (blk_cell BK213.out 3).trans rfl
       have hfz14_0 := blk_frozen BK213.out 0
       have hfz14_1 := blk_frozen BK213.out 1
       have hfz14_2 := blk_frozen BK213.out 2
       have hfz14_3 := blk_frozen BK213.out 3
       go_wp2_with (first | ((with_reducible refine gate_callee (f := 67) rfl ?_); refine goesL_ (some 11) rfl rfl Try.func67 (by kernel_rfl) rfl #[.agg #[.slice A0_0 l0_0.length c0_0, .slice A0_1 l0_1.length c0_1, .slice A0_2 l0_2.length c0_2, .slice A0_3 l0_3.length c0_3], .int .i64 x1_1, .int .i64 a2] rfl (by (try simp only [List.map_toArray, List.map_cons, List.map_nil]); first | done | rfl | (simp only [List.length_drop, List.length_take]; rfl)) ?_; (with_reducible refine (impl_Aho_kid.calls k1 _ _ l0_0 _ _ l0_1 _ _ l0_2 _ _ l0_3 x1_1 a2 t214 _ ?side1 ?side2 ?side3 ?side4 ?side5 ?side6 ?side7 ?side8 A5.out).mono ?_); (case side1 => repeat (first | exact (Kd.C_below HR0_0.out HB.out) | (with_reducible refine Kd.C_alloc ?_ _) | (with_reducible refine Kd.C_drewN ?_ _) | (with_reducible refine Kd.C_drew ?_))); (case side2 => exact HC0_0.out); (case side3 => repeat (first | exact (Kd.C_below HR0_1.out HB.out) | (with_reducible refine Kd.C_alloc ?_ _) | (with_reducible refine Kd.C_drewN ?_ _) | (with_reducible refine Kd.C_drew ?_))); (case side4 => exact HC0_1.out); (case side5 => repeat (first | exact (Kd.C_below HR0_2.out HB.out) | (with_reducible refine Kd.C_alloc ?_ _) | (with_reducible refine Kd.C_drewN ?_ _) | (with_reducible refine Kd.C_drew ?_))); (case side6 => exact HC0_2.out); (case side7 => repeat (first | exact (Kd.C_below HR0_3.out HB.out) | (with_reducible refine Kd.C_alloc ?_ _) | (with_reducible refine Kd.C_drewN ?_ _) | (with_reducible refine Kd.C_drew ?_))); (case side8 => exact HC0_3.out); rintro e w15 ⟨rfl, hb⟩; refine ⟨_, rfl, ?_⟩; have n0_ := Aside0.mk (blk_below (g := gb213) (o := .cells #[.slice A0_0 l0_0.length c0_0, .slice A0_1 l0_1.length c0_1, .slice A0_2 l0_2.length c0_2, .slice A0_3 l0_3.length c0_3] 30 (0, 0)) (by (with_reducible repeat (first | refine blk_drewN ?_ _ | refine blk_drew ?_ | refine blk_alloc ?_ _)); exact BK213.out) hb); have n1_ := Aside0.mk (below_step (by repeat (first | (with_reducible first | exact HB.out | apply below_alloc | apply pw_below_drewN | apply below_drew1 | refine below_set ?_ GE213.out) | exact HB.out)) hb); clear BK213; clear HB; have BK213 := n0_; have HB := n1_; clear n0_ n1_; (try clear hb); (try clear hb2); (try clear hk); (try clear hi); have hcz16_0 : w15.cell? ⟨gb213, 0, none⟩ = some (.slice A0_0 l0_0.length c0_0) := (blk_cell BK213.out 0).trans rfl; have hcz16_1 : w15.cell? ⟨gb213, 1, none⟩ = some (.slice A0_1 l0_1.length c0_1) := (blk_cell BK213.out 1).trans rfl; have hcz16_2 : w15.cell? ⟨gb213, 2, none⟩ = some (.slice A0_2 l0_2.length c0_2) := (blk_cell BK213.out 2).trans rfl; have hcz16_3 : w15.cell? ⟨gb213, 3, none⟩ = some (.slice A0_3 l0_3.length c0_3) := (blk_cell BK213.out 3).trans rfl; have hfz16_0 := blk_frozen BK213.out 0; have hfz16_1 := blk_frozen BK213.out 1; have hfz16_2 := blk_frozen BK213.out 2; have hfz16_3 := blk_frozen BK213.out 3; have p215 : 0 ≤ (x1_1 : Int) := of_decide_eq_true (by first | (with_reducible assumption) | assumption); have q215 : x1_1 < (l0_2.length : Int) := of_decide_eq_true (by first | (with_reducible assumption) | assumption); obtain ⟨ad215, e215, hx215_0⟩ := Kd.at_int HR0_2.out x1_1 p215 q215; cases e215; replace hx215_0 := (HB.out.cell (World.block_lt_of_cell? w _ hx215_0)).trans hx215_0; replace p215 := eq_true p215; replace q215 := eq_true q215))
       go_roundg k1
       case measure => have := HK1.out; omega
       case rel => exact ⟨(rd l0_2 x1_1), (by first | rfl | (simp; done) | (simp [*]; done)), H', ⟨by have := HK1.out; omega⟩, ⟨by (with_reducible repeat (first | refine blk_drewN ?_ _ | refine blk_drew ?_ | refine blk_alloc ?_ _)); exact BK213.out⟩, ⟨by repeat (first | (with_reducible first | exact HB.out | apply below_alloc | apply pw_below_drewN | apply below_drew1 | refine below_set ?_ GE213.out) | exact HB.out)⟩⟩
      ·rw [if_neg c13] at H
       exact absurd H (by simp)
     ·rw [if_neg c12] at H
      exact absurd H (by simp)


end Go.Proofs.Ytoipfgpggcnkmaa.P
