import Derived.Test.YtkpeihdlmjdejaaCP0
import Derived.Test.YtkpeihdlmjdejaaC2
import Derived.Test.YtkpeihdlmjdejaaC3
namespace Go.Proofs.Ytkpeihdlmjdejaa.P
open Go.RowKit Go.Proofs.YtkpeihdlmjdejaaW.PrintWords Go.Proofs.YtkpeihdlmjdejaaW.PrintLast Go.Proofs.YtkpeihdlmjdejaaW.PrintMore
attribute [local go_sem] max2_int min2_int max_two min_two max_three min_three max_four min_four   -- for this text's walks alone
set_option linter.unusedVariables false
set_option linter.unusedSimpArgs false


/-! ### impl_inSet_1: function 173 (given) -/
def impl_inSet_1.f (c a b : Int) : Option Bool := impl_inRange.f c a b
set_option maxHeartbeats 4000000 in
theorem impl_inSet_1.calls (g : Nat) (c a b : Int) (r : Bool) (w : World) (hb : w.heap[g]? = some (.cells #[.int .i64 c] 3 (0, 0))) (h : impl_inSet_1.f c a b = some r) :
    Calls Try.prog 173 (#[.agg #[.int .i64 a, .int .i64 b]] ++ #[.pointer (some ⟨g, 0, none⟩)]) w fun e w' => e = .returned (.bool r) ∧ Below w.heap.size w w' := by
  have hu := Try.underlying187
  have HT := Aside0.mk (show impl_inRange.f c a b = some r from h)
  have hcz : w.cell? ⟨g, 0, none⟩ = some (.int .i64 c) := (blk_cell hb 0).trans rfl
  clear hb h
  have HB := Aside0.mk (Below.refl w.heap.size w)
  go_enter Try.func173, Try.ntmps173
  go_wp2_with (first | ((with_reducible refine gate_dst (N := 2) rfl ?_); refine box_event ?hg (N := 2) ?hd (cs := #[.int .i64 a, .int .i64 b]) (t := 187) ?hr ?_; (case hd => rfl); (case hg => rfl); (case hr => first | (go_simp; done) | (go_simp; rfl)); intro gb hg w1 hbox hb1; have n0_ := Aside0.mk hb1; have hcz1 := (hb1.cell (World.block_lt_of_cell? w _ hcz)).trans hcz; have hcz2 : w1.cell? ⟨gb, 0, none⟩ = some (.int .i64 a) := (blk_cell hbox 0).trans rfl; have hcz3 : w1.cell? ⟨gb, 1, none⟩ = some (.int .i64 b) := (blk_cell hbox 1).trans rfl; clear HB hcz hb1 hbox hg; have HB := n0_; clear n0_) | (go_at_call 68; refine (impl_inRange.calls c a b r _ HT.out).mono ?_; rintro e w' ⟨rfl, ⟨nd, rfl⟩⟩))
  go_ret
  exact ⟨by first | rfl | simp [*], by repeat (first | (with_reducible first | exact HB.out | apply below_alloc | apply pw_below_drewN | apply below_drew1) | exact HB.out)⟩

/-! ### slices_ContainsFunc_impl_span_173: function 171 at the function value 173 (given) -/
def slices_ContainsFunc_impl_span_173.f (l0 : List S187) (c : Int) : Option Bool := anyO (fun x => impl_inSet_1.f c x.f0 x.f1) l0
set_option maxHeartbeats 8000000 in
theorem slices_ContainsFunc_impl_span_173.calls {g1 : Nat} (A0 : Option Addr) (c0 : Nat) (l0 : List S187) (c : Int) (r : Bool) (w : World) (hr0 : Kd.C k187 w A0 l0.length l0) (hc0 : l0.length ≤ c0)
    (hb1 : w.heap[g1]? = some (.cells #[.int .i64 c] 3 (0, 0))) (h : slices_ContainsFunc_impl_span_173.f l0 c = some r) :
    Calls Try.prog 171 #[.slice A0 l0.length c0, .func (.func 173) #[] #[.pointer (some ⟨g1, 0, none⟩)]] w fun e w' => e = .returned (.bool r) ∧ Below w.heap.size w w' := by
  have eg : ∀ args w, (callFunc 173 args).run Try.prog w = .ok (.enter 173 args) w := enters_of Try.func173 (by kernel_rfl) rfl
  obtain ⟨hs, rfl⟩ := anyO_some h
  exact slices_ContainsFunc_impl_span.fn 173 #[.pointer (some ⟨g1, 0, none⟩)] eg (fun x => (impl_inSet_1.f c x.f0 x.f1).getD false) A0 c0 l0 w hr0 (fun w1 x hx hB => impl_inSet_1.calls g1 c x.f0 x.f1 _ w1 (blk_below hb1 hB) (by
    obtain ⟨b, hb⟩ := Option.isSome_iff_exists.1 (hs x hx)
    rw [hb]
    rfl))

/-! ### impl_inSet: function 146 -/
abbrev tt25 : Bool := true
abbrev ff25 : Bool := false
def impl_inSet.f (k : Nat) (l0 : List Int) (a1 : Int) : Option (Bool) := (impl_spansOf.f k l0).bind fun t247 => ((slices_ContainsFunc_impl_span_173.f t247 a1).bind fun t250 => (some t250))
theorem impl_inSet.mono : ∀ a0 a1 k, LeO (impl_inSet.f k a0 a1) (impl_inSet.f (k + 1) a0 a1) := by
 intro a0 a1 k
 unfold impl_inSet.f
 repeat' first
   | (with_reducible exact impl_spansOf.mono _ _)
   | (with_reducible exact LeO.refl _)
   | (with_reducible exact LeO.none _)
   | (with_reducible refine LeO.ite ?_ ?_)
   | (with_reducible refine LeO.bind ?_ (fun _ => ?_))
   | exact impl_spansOf.mono _ _
   | exact LeO.none _
   | refine LeO.ite ?_ ?_
   | refine LeO.bind ?_ (fun _ => ?_)
set_option maxHeartbeats 8000000 in
set_option maxRecDepth 100000 in
theorem impl_inSet.calls (k : Nat) (A0 : Option Addr) (c0 : Nat) (l0 : List Int) (a1 : Int) (r : Bool) (w : World) (hr0 : Kd.C (Kd.int .i64) w A0 l0.length l0) (hc0 : l0.length ≤ c0) (h : impl_inSet.f k l0 a1 = some r) :
  Calls Try.prog 146 #[.slice A0 l0.length c0, .int .i64 a1] w fun e w' => e = .returned (.bool r) ∧ Below w.heap.size w w' := by
 have HR0 := Aside0.mk hr0
 have HC0 := Aside0.mk hc0
 clear hr0 hc0
 have HB := Aside0.mk (Below.refl w.heap.size w)
 have H : ((impl_spansOf.f k l0).bind fun t247 => ((slices_ContainsFunc_impl_span_173.f t247 a1).bind fun t250 => (some t250))) = some r := h
 clear h
 replace H := Option.bind_eq_some_iff.mp H
 obtain ⟨t247, A30, H⟩ := H
 replace H : ((slices_ContainsFunc_impl_span_173.f t247 a1).bind fun t250 => (some t250)) = some r := H
 have A3 := Aside0.mk A30
 clear A30
 replace H := Option.bind_eq_some_iff.mp H
 obtain ⟨t250, A40, H⟩ := H
 replace H : (some t250) = some r := H
 have A4 := Aside0.mk A40
 clear A40
 obtain rfl := Option.some.inj H
 go_enter Try.func146, Try.ntmps146
 go_wp2_with (first | ((with_reducible refine gate_dst (N := 3) rfl ?_); refine box_event ?hg (N := 3) ?hd (cs := #[.int .i64 a1]) (t := 3) ?hr ?_; (case hd => rfl); (case hg => rfl); (case hr => first | (go_simp; done) | (go_simp; rfl)); intro gb246 hg w5 hbox hb; have n0_ := Aside0.mk (below_step (by repeat (first | (with_reducible first | exact HB.out | apply below_alloc | apply pw_below_drewN | apply below_drew1) | exact HB.out)) hb); have n1_ := Aside0.mk (hbox); have n2_ := Aside0.mk ((by rw [hg]; exact (below_size (by repeat (first | (with_reducible first | exact HB.out | apply below_alloc | apply pw_below_drewN | apply below_drew1) | exact HB.out))) : w.heap.size ≤ gb246)); have n3_ := Aside0.mk ((by rw [hg]; exact (below_size (by repeat (first | (with_reducible first | exact HB.out | apply below_alloc | apply pw_below_drewN | apply below_drew1) | exact HB.out))) : w.heap.size ≤ gb246)); clear HB; have HB := n0_; have BK246 := n1_; have GW246 := n2_; have GE246 := n3_; clear n0_ n1_ n2_ n3_; clear hb hbox hg) | ((with_reducible refine gate_callee (f := 172) rfl ?_); refine goesL_ (some 6) rfl rfl Try.func172 (by kernel_rfl) rfl #[.slice A0 l0.length c0] rfl (by (try simp only [List.map_toArray, List.map_cons, List.map_nil]); first | done | rfl | (simp only [List.length_drop, List.length_take]; rfl)) ?_; (with_reducible refine (impl_spansOf.calls k _ _ l0 t247 _ ?side1 ?side2 A3.out).mono ?_); (case side1 => repeat (first | exact (Kd.C_below HR0.out HB.out) | (with_reducible refine Kd.C_alloc ?_ _) | (with_reducible refine Kd.C_drewN ?_ _) | (with_reducible refine Kd.C_drew ?_))); (case side2 => exact HC0.out); rintro e w6 ⟨v248, rfl, ho0, hb⟩; refine ⟨_, rfl, ?_⟩; have n0_ := Aside0.mk (Kd.R_lower ho0 (below_size (by repeat (first | (with_reducible first | exact HB.out | apply below_alloc | apply pw_below_drewN | apply below_drew1 | refine below_set ?_ GE246.out) | exact HB.out)))); have n1_ := Aside0.mk (blk_below (g := gb246) (o := .cells #[.int .i64 a1] 3 (0, 0)) (by (with_reducible repeat (first | refine blk_drewN ?_ _ | refine blk_drew ?_ | refine blk_alloc ?_ _)); exact BK246.out) hb); have n2_ := Aside0.mk (below_step (by repeat (first | (with_reducible first | exact HB.out | apply below_alloc | apply pw_below_drewN | apply below_drew1 | refine below_set ?_ GE246.out) | exact HB.out)) hb); clear BK246; clear HB; have HO249 := n0_; have BK246 := n1_; have HB := n2_; clear n0_ n1_ n2_; (try clear hb); (try clear hb2); (try clear hk); (try clear hi); (try clear ho0); obtain ⟨Ao7, co7, eo7⟩ := Kd.R_slice HO249.out; subst eo7) | ((with_reducible refine gate_callee (f := 171) rfl ?_); refine goesL_ (some 8) rfl rfl Try.func171 (by kernel_rfl) rfl #[.slice Ao7 t247.length co7, .func (.func 173) #[] #[.pointer (some ⟨gb246, 0, none⟩)]] rfl (by (try simp only [List.map_toArray, List.map_cons, List.map_nil]); first | done | rfl | (simp only [List.length_drop, List.length_take]; rfl)) ?_; (with_reducible refine (slices_ContainsFunc_impl_span_173.calls _ _ t247  a1 t250 _ ?side1 ?side2 ?side3 A4.out).mono ?_); (case side1 => repeat (first | exact (Kd.R_reads' HO249.out).2.2 | (with_reducible refine Kd.C_alloc ?_ _) | (with_reducible refine Kd.C_drewN ?_ _) | (with_reducible refine Kd.C_drew ?_))); (case side2 => exact (Kd.R_reads' HO249.out).2.1); (case side3 => exact (by (with_reducible repeat (first | refine blk_drewN ?_ _ | refine blk_drew ?_ | refine blk_alloc ?_ _)); exact BK246.out)); rintro e w8 ⟨rfl, hb⟩; refine ⟨_, rfl, ?_⟩; have n0_ := Aside0.mk (Kd.R_below (by (with_reducible repeat (first | apply Kd.R_alloc | apply Kd.R_drewN | apply Kd.R_drew)); exact HO249.out) hb); have n1_ := Aside0.mk (blk_below (g := gb246) (o := .cells #[.int .i64 a1] 3 (0, 0)) (by (with_reducible repeat (first | refine blk_drewN ?_ _ | refine blk_drew ?_ | refine blk_alloc ?_ _)); exact BK246.out) hb); have n2_ := Aside0.mk (below_step (by repeat (first | (with_reducible first | exact HB.out | apply below_alloc | apply pw_below_drewN | apply below_drew1 | refine below_set ?_ GE246.out) | exact HB.out)) hb); clear HO249; clear BK246; clear HB; have HO249 := n0_; have BK246 := n1_; have HB := n2_; clear n0_ n1_ n2_; (try clear hb); (try clear hb2); (try clear hk); (try clear hi)))
 go_ret
 exact ⟨by first | rfl | (simp [errW_none, errW_some] <;> rfl) | (simp [*, errW_none, errW_some] <;> rfl), by repeat (first | (with_reducible first | exact HB.out | apply below_alloc | apply pw_below_drewN | apply below_drew1 | refine below_set ?_ GE246.out) | exact HB.out)⟩

/-! ### impl_matcher_look: function 111 (given) -/
/-- Is there a place from x on, up to b, such that one node matches up to it and another one from it on? -/
def impl_matcher_look.l0 (tbl : List (List (List Bool))) (n1 n2 a b : Int) : Nat → Int → Option Bool
  | 0, _ => none
  | k + 1, x => if x ≤ b then ((impl_matcher_has.f tbl n1 a x).bind fun u => if u = true then ((impl_matcher_has.f tbl n2 x b).bind fun v => if v = true then some true else impl_matcher_look.l0 tbl n1 n2 a b k (x + 1)) else impl_matcher_look.l0 tbl n1 n2 a b k (x + 1)) else some false
def impl_matcher_look.op (k : Nat) (op : Int) (s kids l : List Int) (tbl : List (List (List Bool))) (node a b : Int) : Option Bool :=
  if op = 1 then some (a == b)
  else if op = 2 then (if b = a + 1 then (if a < l.length then impl_inSet.f k s (rd l a) else none) else some false)
  else if (kids.length : Int) < 1 then none
  else if op = 7 then (impl_matcher_has.f tbl (rd kids 0) a b).bind fun u => some (!u)
  else if op = 6 then (if a = b then some true else impl_matcher_look.l0 tbl (rd kids 0) node a b k (a + 1))
  else if (kids.length : Int) < 2 then none
  else if op = 4 then (impl_matcher_has.f tbl (rd kids 0) a b).bind fun u => if u = true then some true else impl_matcher_has.f tbl (rd kids 1) a b
  else if op = 5 then (impl_matcher_has.f tbl (rd kids 0) a b).bind fun u => if u = true then impl_matcher_has.f tbl (rd kids 1) a b else some false
  else impl_matcher_look.l0 tbl (rd kids 0) (rd kids 1) a b k a
def impl_matcher_look.f (k : Nat) (p : List S89) (parts : List (List Int)) (l : List Int) (tbl : List (List (List Bool))) (node a b : Int) : Option Bool :=
  if (0 ≤ node ∧ node < p.length ∧ node < parts.length) ∧ (0 ≤ a ∧ a ≤ 1000000) ∧ (0 ≤ b ∧ b ≤ 1000000) then
    impl_matcher_look.op k (rd_T89 p node).f0 (rd_T89 p node).f1 (parts.getD node.toNat []) l tbl node a b
  else none
theorem impl_matcher_look.l0_mono (tbl : List (List (List Bool))) (n1 n2 a b : Int) : ∀ k x, LeO (impl_matcher_look.l0 tbl n1 n2 a b k x) (impl_matcher_look.l0 tbl n1 n2 a b (k + 1) x)
  | 0, _ => LeO.none _
  | k + 1, x => by
    unfold impl_matcher_look.l0
    exact LeO.ite (LeO.bind (LeO.refl _) fun _ => LeO.ite (LeO.bind (LeO.refl _) fun _ => LeO.ite (LeO.refl _) (impl_matcher_look.l0_mono tbl n1 n2 a b k _)) (impl_matcher_look.l0_mono tbl n1 n2 a b k _)) (LeO.refl _)
theorem impl_matcher_look.mono : ∀ p parts l tbl node a b k, LeO (impl_matcher_look.f k p parts l tbl node a b) (impl_matcher_look.f (k + 1) p parts l tbl node a b) := by
  intro p parts l tbl node a b k
  unfold impl_matcher_look.f impl_matcher_look.op
  repeat' first
    | (with_reducible exact LeO.refl _)
    | (with_reducible exact LeO.none _)
    | (with_reducible exact impl_inSet.mono _ _ _)
    | (with_reducible exact impl_matcher_look.l0_mono _ _ _ _ _ _ _)
    | (with_reducible refine LeO.ite ?_ ?_)
    | (with_reducible refine LeO.bind ?_ (fun _ => ?_))
/-- What a look reads: where it stands. -/
structure impl_matcher_look.Read (w : World) (g : Nat) (p : List S89) (parts : List (List Int)) (l : List Int) (tbl : List (List (List Bool))) (node : Int) (op : Int) (s kids : List Int) (a0 a1 : Addr) (c0 c1 : Nat) (As Ak Al : Option Addr) (cs ck cl : Nat) : Prop where
  z0 : w.cell? ⟨g, 0, none⟩ = some (.slice (some a0) p.length c0)
  z1 : w.cell? ⟨g, 1, none⟩ = some (.slice (some a1) parts.length c1)
  z2 : w.cell? ⟨g, 2, none⟩ = some (.slice Al l.length cl)
  zo : w.cell? (a0.add (node.toNat * 2)) = some (.int .i64 op)
  zs : w.cell? ⟨(a0.add (node.toNat * 2)).block, (a0.add (node.toNat * 2)).off + 1, none⟩ = some (.slice As s.length cs)
  zk : w.cell? (a1.add node.toNat) = some (.slice Ak kids.length ck)
  ls : s.length ≤ cs
  hs : (Kd.int .i64).C w As s.length s
  hk : (Kd.int .i64).C w Ak kids.length kids
  hl : (Kd.int .i64).C w Al l.length l
theorem impl_matcher_look.read {w : World} {g : Nat} {p : List S89} {parts : List (List Int)} {l : List Int} {tbl : List (List (List Bool))} {node : Int} (hM : Mt w g p parts l tbl) (h0 : 0 ≤ node) (h1 : node < p.length) (h2 : node < parts.length) :
    ∃ a0 a1 c0 c1 As Ak Al cs ck cl, impl_matcher_look.Read w g p parts l tbl node (rd_T89 p node).f0 (rd_T89 p node).f1 (parts.getD node.toNat []) a0 a1 c0 c1 As Ak Al cs ck cl := by
  obtain ⟨A0, c0, A1, c1, A2, c2, A3, c3, hb, hp, hq, hl, hT, _⟩ := hM.h
  obtain ⟨ad, As, cs, e, x0, x1, ls, hs⟩ := at_T89 hp node h0 h1
  cases e
  obtain ⟨ad2, Ak, ck, e, x2, _, hk⟩ := at_sl hq node h0 h2
  cases e
  exact ⟨ad, ad2, c0, c1, As, Ak, A2, cs, ck, c2, (blk_cell hb 0).trans rfl, (blk_cell hb 1).trans rfl, (blk_cell hb 2).trans rfl, x0, x1, x2, ls, hs, hk, hl⟩
set_option maxHeartbeats 8000000 in
set_option maxRecDepth 100000 in
theorem impl_matcher_look.calls1 (g : Nat) (p : List S89) (parts : List (List Int)) (l : List Int) (tbl : List (List (List Bool))) (node a b : Int) (s kids : List Int) (a0 a1 : Addr) (c0 c1 : Nat) (As Ak Al : Option Addr) (cs ck cl : Nat) (w : World)
    (hR : impl_matcher_look.Read w g p parts l tbl node 1 s kids a0 a1 c0 c1 As Ak Al cs ck cl) (h0 : 0 ≤ node) (h1 : node < p.length) (h2 : node < parts.length) :
    Calls Try.prog 111 #[.pointer (some ⟨g, 0, none⟩), .int .i64 node, .int .i64 a, .int .i64 b] w fun e w' => e = .returned (.bool (a == b)) ∧ Below w.heap.size w w' := by
  obtain ⟨z0, z1, z2, ho, hsx, hkx, _, _, _, _⟩ := hR
  replace h0 := eq_true h0
  replace h1 := eq_true h1
  replace h2 := eq_true h2
  go_enter Try.func111, Try.ntmps111
  go_wp2
  go_ret
  exact ⟨rfl, Below.refl _ _⟩
set_option maxHeartbeats 8000000 in
set_option maxRecDepth 100000 in
theorem impl_matcher_look.calls2n (g : Nat) (p : List S89) (parts : List (List Int)) (l : List Int) (tbl : List (List (List Bool))) (node a b : Int) (s kids : List Int) (a0 a1 : Addr) (c0 c1 : Nat) (As Ak Al : Option Addr) (cs ck cl : Nat) (w : World)
    (hR : impl_matcher_look.Read w g p parts l tbl node 2 s kids a0 a1 c0 c1 As Ak Al cs ck cl) (h0 : 0 ≤ node) (h1 : node < p.length) (h2 : node < parts.length) (ha : 0 ≤ a) (ha2 : a ≤ 1000000) (hb : b ≠ a + 1) :
    Calls Try.prog 111 #[.pointer (some ⟨g, 0, none⟩), .int .i64 node, .int .i64 a, .int .i64 b] w fun e w' => e = .returned (.bool false) ∧ Below w.heap.size w w' := by
  obtain ⟨z0, z1, z2, ho, hsx, hkx, _, _, _, _⟩ := hR
  replace h0 := eq_true h0
  replace h1 := eq_true h1
  replace h2 := eq_true h2
  have hw : IntKind.i64.wrap (a + 1) = a + 1 := IntWalk.i64_in _ (by omega)
  have hbe : (b == a + 1) = false := by simpa using hb
  clear ha ha2 hb
  have HB := Aside0.mk (below_drew (Below.refl w.heap.size w))
  go_enter Try.func111, Try.ntmps111
  go_wp2_with fail
  refine start_ (n := 23) (S := fun w' => True) (ds := []) #[false, false, false, false, false, false, false, false, false, false, false, false, false, false, false, false, false, false, false, false, false, false, false] (by kernel_rfl) rfl rfl trivial (fun hHeld => ?_)
  generalize w.drew = w9 at HB hHeld ⊢
  refine pure_ (i := 0) (N := some 34) (v := ?_) (a' := ?_) #[true, false, false, false, false, false, false, false, false, false, false, false, false, false, false, false, false, false, false, false, false, false, false] rfl rfl (by kernel_rfl) (fun _ _ _ h => h) (Or.inl ⟨by rfl, ?_⟩) ?_ ?_
  rotate_left
  · intro w'
    go_simp
    with_reducible rfl
  rotate_left
  · simp only [Act.put, List.setIfInBounds_toArray, List.set_cons_zero, List.set_cons_succ, i64_w, i32_w]
    rfl
  refine pure_ (i := 1) (N := some 35) (v := ?_) (a' := ?_) #[true, true, false, false, false, false, false, false, false, false, false, false, false, false, false, false, false, false, false, false, false, false, false] rfl rfl (by kernel_rfl) (fun _ _ _ h => h) (Or.inl ⟨by rfl, ?_⟩) ?_ ?_
  rotate_left
  · intro w'
    go_simp
    with_reducible rfl
  rotate_left
  · simp only [Act.put, List.setIfInBounds_toArray, List.set_cons_zero, List.set_cons_succ, i64_w, i32_w]
    rfl
  refine pure_ (i := 2) (N := some 36) (v := ?_) (a' := ?_) #[true, true, true, false, false, false, false, false, false, false, false, false, false, false, false, false, false, false, false, false, false, false, false] rfl rfl (by kernel_rfl) (fun _ _ _ h => h) (Or.inl ⟨by rfl, ?_⟩) ?_ ?_
  rotate_left
  · intro w'
    go_simp
    with_reducible rfl
  rotate_left
  · simp only [Act.put, List.setIfInBounds_toArray, List.set_cons_zero, List.set_cons_succ, i64_w, i32_w]
    rfl
  refine pure_ (i := 3) (N := some 37) (v := ?_) (a' := ?_) #[true, true, true, true, false, false, false, false, false, false, false, false, false, false, false, false, false, false, false, false, false, false, false] rfl rfl (by kernel_rfl) (fun _ _ _ h => h) (Or.inl ⟨by rfl, ?_⟩) ?_ ?_
  rotate_left
  · intro w'
    go_simp
    with_reducible rfl
  rotate_left
  · simp only [Act.put, List.setIfInBounds_toArray, List.set_cons_zero, List.set_cons_succ, i64_w, i32_w]
    rfl
  refine pure_ (i := 4) (N := some 38) (v := ?_) (a' := ?_) #[true, true, true, true, true, false, false, false, false, false, false, false, false, false, false, false, false, false, false, false, false, false, false] rfl rfl (by kernel_rfl) (fun _ _ _ h => h) (Or.inl ⟨by rfl, ?_⟩) ?_ ?_
  rotate_left
  · intro w'
    go_simp
    with_reducible rfl
  rotate_left
  · simp only [Act.put, List.setIfInBounds_toArray, List.set_cons_zero, List.set_cons_succ, i64_w, i32_w]
    rfl
  refine pure_ (i := 5) (N := some 39) (v := undef) (a' := ?_) #[true, true, true, true, true, true, false, false, false, false, false, false, false, false, false, false, false, false, false, false, false, false, false] rfl rfl (by kernel_rfl) (fun _ _ _ h => h) (Or.inr ⟨by rfl, rfl⟩) ?_ ?_
  rotate_left
  · simp only [Act.put, List.setIfInBounds_toArray, List.set_cons_zero, List.set_cons_succ, i64_w, i32_w]
    rfl
  refine pure_ (i := 6) (N := some 40) (v := undef) (a' := ?_) #[true, true, true, true, true, true, true, false, false, false, false, false, false, false, false, false, false, false, false, false, false, false, false] rfl rfl (by kernel_rfl) (fun _ _ _ h => h) (Or.inr ⟨by rfl, rfl⟩) ?_ ?_
  rotate_left
  · simp only [Act.put, List.setIfInBounds_toArray, List.set_cons_zero, List.set_cons_succ, i64_w, i32_w]
    rfl
  refine pure_ (i := 7) (N := some 41) (v := undef) (a' := ?_) #[true, true, true, true, true, true, true, true, false, false, false, false, false, false, false, false, false, false, false, false, false, false, false] rfl rfl (by kernel_rfl) (fun _ _ _ h => h) (Or.inr ⟨by rfl, rfl⟩) ?_ ?_
  rotate_left
  · simp only [Act.put, List.setIfInBounds_toArray, List.set_cons_zero, List.set_cons_succ, i64_w, i32_w]
    rfl
  refine pure_ (i := 8) (N := some 42) (v := undef) (a' := ?_) #[true, true, true, true, true, true, true, true, true, false, false, false, false, false, false, false, false, false, false, false, false, false, false] rfl rfl (by kernel_rfl) (fun _ _ _ h => h) (Or.inr ⟨by rfl, rfl⟩) ?_ ?_
  rotate_left
  · simp only [Act.put, List.setIfInBounds_toArray, List.set_cons_zero, List.set_cons_succ, i64_w, i32_w]
    rfl
  refine pure_ (i := 9) (N := some 43) (v := undef) (a' := ?_) #[true, true, true, true, true, true, true, true, true, true, false, false, false, false, false, false, false, false, false, false, false, false, false] rfl rfl (by kernel_rfl) (fun _ _ _ h => h) (Or.inr ⟨by rfl, rfl⟩) ?_ ?_
  rotate_left
  · simp only [Act.put, List.setIfInBounds_toArray, List.set_cons_zero, List.set_cons_succ, i64_w, i32_w]
    rfl
  refine pure_ (i := 10) (N := some 44) (v := undef) (a' := ?_) #[true, true, true, true, true, true, true, true, true, true, true, false, false, false, false, false, false, false, false, false, false, false, false] rfl rfl (by kernel_rfl) (fun _ _ _ h => h) (Or.inr ⟨by rfl, rfl⟩) ?_ ?_
  rotate_left
  · simp only [Act.put, List.setIfInBounds_toArray, List.set_cons_zero, List.set_cons_succ, i64_w, i32_w]
    rfl
  refine pure_ (i := 11) (N := some 45) (v := undef) (a' := ?_) #[true, true, true, true, true, true, true, true, true, true, true, true, false, false, false, false, false, false, false, false, false, false, false] rfl rfl (by kernel_rfl) (fun _ _ _ h => h) (Or.inr ⟨by rfl, rfl⟩) ?_ ?_
  rotate_left
  · simp only [Act.put, List.setIfInBounds_toArray, List.set_cons_zero, List.set_cons_succ, i64_w, i32_w]
    rfl
  refine pure_ (i := 12) (N := some 46) (v := undef) (a' := ?_) #[true, true, true, true, true, true, true, true, true, true, true, true, true, false, false, false, false, false, false, false, false, false, false] rfl rfl (by kernel_rfl) (fun _ _ _ h => h) (Or.inr ⟨by rfl, rfl⟩) ?_ ?_
  rotate_left
  · simp only [Act.put, List.setIfInBounds_toArray, List.set_cons_zero, List.set_cons_succ, i64_w, i32_w]
    rfl
  refine pure_ (i := 13) (N := some 47) (v := undef) (a' := ?_) #[true, true, true, true, true, true, true, true, true, true, true, true, true, true, false, false, false, false, false, false, false, false, false] rfl rfl (by kernel_rfl) (fun _ _ _ h => h) (Or.inr ⟨by rfl, rfl⟩) ?_ ?_
  rotate_left
  · simp only [Act.put, List.setIfInBounds_toArray, List.set_cons_zero, List.set_cons_succ, i64_w, i32_w]
    rfl
  refine pure_ (i := 14) (N := some 48) (v := undef) (a' := ?_) #[true, true, true, true, true, true, true, true, true, true, true, true, true, true, true, false, false, false, false, false, false, false, false] rfl rfl (by kernel_rfl) (fun _ _ _ h => h) (Or.inr ⟨by rfl, rfl⟩) ?_ ?_
  rotate_left
  · simp only [Act.put, List.setIfInBounds_toArray, List.set_cons_zero, List.set_cons_succ, i64_w, i32_w]
    rfl
  refine pure_ (i := 15) (N := some 49) (v := undef) (a' := ?_) #[true, true, true, true, true, true, true, true, true, true, true, true, true, true, true, true, false, false, false, false, false, false, false] rfl rfl (by kernel_rfl) (fun _ _ _ h => h) (Or.inr ⟨by rfl, rfl⟩) ?_ ?_
  rotate_left
  · simp only [Act.put, List.setIfInBounds_toArray, List.set_cons_zero, List.set_cons_succ, i64_w, i32_w]
    rfl
  refine pure_ (i := 16) (N := some 50) (v := undef) (a' := ?_) #[true, true, true, true, true, true, true, true, true, true, true, true, true, true, true, true, true, false, false, false, false, false, false] rfl rfl (by kernel_rfl) (fun _ _ _ h => h) (Or.inr ⟨by rfl, rfl⟩) ?_ ?_
  rotate_left
  · simp only [Act.put, List.setIfInBounds_toArray, List.set_cons_zero, List.set_cons_succ, i64_w, i32_w]
    rfl
  refine pure_ (i := 17) (N := some 51) (v := undef) (a' := ?_) #[true, true, true, true, true, true, true, true, true, true, true, true, true, true, true, true, true, true, false, false, false, false, false] rfl rfl (by kernel_rfl) (fun _ _ _ h => h) (Or.inr ⟨by rfl, rfl⟩) ?_ ?_
  rotate_left
  · simp only [Act.put, List.setIfInBounds_toArray, List.set_cons_zero, List.set_cons_succ, i64_w, i32_w]
    rfl
  refine pure_ (i := 18) (N := some 52) (v := undef) (a' := ?_) #[true, true, true, true, true, true, true, true, true, true, true, true, true, true, true, true, true, true, true, false, false, false, false] rfl rfl (by kernel_rfl) (fun _ _ _ h => h) (Or.inr ⟨by rfl, rfl⟩) ?_ ?_
  rotate_left
  · simp only [Act.put, List.setIfInBounds_toArray, List.set_cons_zero, List.set_cons_succ, i64_w, i32_w]
    rfl
  refine pure_ (i := 19) (N := some 53) (v := undef) (a' := ?_) #[true, true, true, true, true, true, true, true, true, true, true, true, true, true, true, true, true, true, true, true, false, false, false] rfl rfl (by kernel_rfl) (fun _ _ _ h => h) (Or.inr ⟨by rfl, rfl⟩) ?_ ?_
  rotate_left
  · simp only [Act.put, List.setIfInBounds_toArray, List.set_cons_zero, List.set_cons_succ, i64_w, i32_w]
    rfl
  refine pure_ (i := 20) (N := some 54) (v := undef) (a' := ?_) #[true, true, true, true, true, true, true, true, true, true, true, true, true, true, true, true, true, true, true, true, true, false, false] rfl rfl (by kernel_rfl) (fun _ _ _ h => h) (Or.inr ⟨by rfl, rfl⟩) ?_ ?_
  rotate_left
  · simp only [Act.put, List.setIfInBounds_toArray, List.set_cons_zero, List.set_cons_succ, i64_w, i32_w]
    rfl
  refine pure_ (i := 21) (N := some 55) (v := ?_) (a' := ?_) #[true, true, true, true, true, true, true, true, true, true, true, true, true, true, true, true, true, true, true, true, true, true, false] rfl rfl (by kernel_rfl) (fun _ _ _ h => h) (Or.inl ⟨by rfl, ?_⟩) ?_ ?_
  rotate_left
  · intro w'
    go_simp
    with_reducible rfl
  rotate_left
  · simp only [Act.put, List.setIfInBounds_toArray, List.set_cons_zero, List.set_cons_succ, i64_w, i32_w]
    rfl
  refine pure_ (i := 22) (N := some 8) (v := ?_) (a' := ?_) #[true, true, true, true, true, true, true, true, true, true, true, true, true, true, true, true, true, true, true, true, true, true, true] rfl rfl (by kernel_rfl) (fun _ _ _ h => h) (Or.inl ⟨by rfl, ?_⟩) ?_ ?_
  rotate_left
  · intro w'
    go_simp
    with_reducible rfl
  rotate_left
  · simp only [Act.put, List.setIfInBounds_toArray, List.set_cons_zero, List.set_cons_succ, i64_w, i32_w]
    rfl
  refine done_ (by kernel_rfl) ?_
  go_wp2
  go_ret
  exact ⟨rfl, HB.out⟩
set_option maxHeartbeats 8000000 in
set_option maxRecDepth 100000 in
theorem impl_matcher_look.calls2y (k : Nat) (g : Nat) (p : List S89) (parts : List (List Int)) (l : List Int) (tbl : List (List (List Bool))) (node a : Int) (s kids : List Int) (a0 a1 : Addr) (c0 c1 : Nat) (As Ak Al : Option Addr) (cs ck cl : Nat) (w : World) (r : Bool)
    (hR : impl_matcher_look.Read w g p parts l tbl node 2 s kids a0 a1 c0 c1 As Ak Al cs ck cl) (h0 : 0 ≤ node) (h1 : node < p.length) (h2 : node < parts.length) (ha : 0 ≤ a) (ha2 : a ≤ 1000000) (hl : a < l.length) (h : impl_inSet.f k s (rd l a) = some r) :
    Calls Try.prog 111 #[.pointer (some ⟨g, 0, none⟩), .int .i64 node, .int .i64 a, .int .i64 (a + 1)] w fun e w' => e = .returned (.bool r) ∧ Below w.heap.size w w' := by
  obtain ⟨z0, z1, z2, ho, hsx, hkx, lsc, hs, _, hlC⟩ := hR
  obtain ⟨al, e, hlx⟩ := Kd.at_int hlC a ha hl
  cases e
  have HS := Aside0.mk hs
  have HL := Aside0.mk lsc
  have HH := Aside0.mk h
  clear hs lsc h hlC
  generalize rd l a = x at hlx HH
  replace h0 := eq_true h0
  replace h1 := eq_true h1
  replace h2 := eq_true h2
  have hw : IntKind.i64.wrap (a + 1) = a + 1 := IntWalk.i64_in _ (by omega)
  have hae : (a + 1 == a + 1) = true := by simp
  have ha' : (0 ≤ a) = True := eq_true ha
  have hl' : (a < (l.length : Int)) = True := eq_true hl
  clear ha ha2 hl
  have HB := Aside0.mk (below_drew (Below.refl w.heap.size w))
  go_enter Try.func111, Try.ntmps111
  go_wp2_with fail
  refine start_ (n := 23) (S := fun w' => w'.cell? ⟨g, 0, none⟩ = some (.slice (some a0) p.length c0) ∧ w'.cell? ⟨(a0.add (node.toNat * 2)).block, (a0.add (node.toNat * 2)).off + 1, none⟩ = some (.slice As s.length cs) ∧ w'.cell? ⟨g, 2, none⟩ = some (.slice (some al) l.length cl) ∧ w'.cell? (al.add a.toNat) = some (.int .i64 x)) (ds := [20]) #[false, false, false, false, false, false, false, false, false, false, false, false, false, false, false, false, false, false, false, false, false, false, false] (by kernel_rfl) rfl rfl ⟨z0, hsx, z2, hlx⟩ (fun hHeld => ?_)
  generalize w.drew = w9 at HB hHeld ⊢
  refine pure_ (i := 0) (N := some 34) (v := ?_) (a' := ?_) #[true, false, false, false, false, false, false, false, false, false, false, false, false, false, false, false, false, false, false, false, false, false, false] rfl rfl (by kernel_rfl) (fun _ _ _ h => h) (Or.inl ⟨by rfl, ?_⟩) ?_ ?_
  rotate_left
  · intro w'
    go_simp
    with_reducible rfl
  rotate_left
  · simp only [Act.put, List.setIfInBounds_toArray, List.set_cons_zero, List.set_cons_succ, i64_w, i32_w]
    rfl
  refine pure_ (i := 1) (N := some 35) (v := ?_) (a' := ?_) #[true, true, false, false, false, false, false, false, false, false, false, false, false, false, false, false, false, false, false, false, false, false, false] rfl rfl (by kernel_rfl) (fun _ _ _ h => h) (Or.inl ⟨by rfl, ?_⟩) ?_ ?_
  rotate_left
  · intro w'
    go_simp
    with_reducible rfl
  rotate_left
  · simp only [Act.put, List.setIfInBounds_toArray, List.set_cons_zero, List.set_cons_succ, i64_w, i32_w]
    rfl
  refine pure_ (i := 2) (N := some 36) (v := ?_) (a' := ?_) #[true, true, true, false, false, false, false, false, false, false, false, false, false, false, false, false, false, false, false, false, false, false, false] rfl rfl (by kernel_rfl) (fun _ _ _ h => h) (Or.inl ⟨by rfl, ?_⟩) ?_ ?_
  rotate_left
  · intro w'
    go_simp
    with_reducible rfl
  rotate_left
  · simp only [Act.put, List.setIfInBounds_toArray, List.set_cons_zero, List.set_cons_succ, i64_w, i32_w]
    rfl
  refine pure_ (i := 3) (N := some 37) (v := ?_) (a' := ?_) #[true, true, true, true, false, false, false, false, false, false, false, false, false, false, false, false, false, false, false, false, false, false, false] rfl rfl (by kernel_rfl) (fun _ _ _ h => h) (Or.inl ⟨by rfl, ?_⟩) ?_ ?_
  rotate_left
  · intro w'
    go_simp
    with_reducible rfl
  rotate_left
  · simp only [Act.put, List.setIfInBounds_toArray, List.set_cons_zero, List.set_cons_succ, i64_w, i32_w]
    rfl
  refine pure_ (i := 4) (N := some 38) (v := ?_) (a' := ?_) #[true, true, true, true, true, false, false, false, false, false, false, false, false, false, false, false, false, false, false, false, false, false, false] rfl rfl (by kernel_rfl) (fun _ _ _ h => h) (Or.inl ⟨by rfl, ?_⟩) ?_ ?_
  rotate_left
  · intro w'
    go_simp
    with_reducible rfl
  rotate_left
  · simp only [Act.put, List.setIfInBounds_toArray, List.set_cons_zero, List.set_cons_succ, i64_w, i32_w]
    rfl
  refine pure_ (i := 5) (N := some 39) (v := ?_) (a' := ?_) #[true, true, true, true, true, true, false, false, false, false, false, false, false, false, false, false, false, false, false, false, false, false, false] rfl rfl (by kernel_rfl) (fun _ _ _ h => h) (Or.inl ⟨by rfl, ?_⟩) ?_ ?_
  rotate_left
  · intro w'
    go_simp
    with_reducible rfl
  rotate_left
  · simp only [Act.put, List.setIfInBounds_toArray, List.set_cons_zero, List.set_cons_succ, i64_w, i32_w]
    rfl
  refine pure_ (i := 6) (N := some 40) (v := ?_) (a' := ?_) #[true, true, true, true, true, true, true, false, false, false, false, false, false, false, false, false, false, false, false, false, false, false, false] rfl rfl (by kernel_rfl) (fun _ _ _ h => h) (Or.inl ⟨by rfl, ?_⟩) ?_ ?_
  rotate_left
  · intro w'
    go_simp
    with_reducible rfl
  rotate_left
  · simp only [Act.put, List.setIfInBounds_toArray, List.set_cons_zero, List.set_cons_succ, i64_w, i32_w]
    rfl
  refine pure_ (i := 7) (N := some 41) (v := ?_) (a' := ?_) #[true, true, true, true, true, true, true, true, false, false, false, false, false, false, false, false, false, false, false, false, false, false, false] rfl rfl (by kernel_rfl) (fun _ _ _ h => h) (Or.inl ⟨by rfl, ?_⟩) ?_ ?_
  rotate_left
  · intro w'
    go_simp
    with_reducible rfl
  rotate_left
  · simp only [Act.put, List.setIfInBounds_toArray, List.set_cons_zero, List.set_cons_succ, i64_w, i32_w]
    rfl
  refine pure_ (i := 9) (N := some 43) (v := ?_) (a' := ?_) #[true, true, true, true, true, true, true, true, false, true, false, false, false, false, false, false, false, false, false, false, false, false, false] rfl rfl (by kernel_rfl) (fun _ _ _ h => h) (Or.inl ⟨by rfl, ?_⟩) ?_ ?_
  rotate_left
  · intro w'
    go_simp
    with_reducible rfl
  rotate_left
  · simp only [Act.put, List.setIfInBounds_toArray, List.set_cons_zero, List.set_cons_succ, i64_w, i32_w]
    rfl
  refine pure_ (i := 13) (N := some 47) (v := ?_) (a' := ?_) #[true, true, true, true, true, true, true, true, false, true, false, false, false, true, false, false, false, false, false, false, false, false, false] rfl rfl (by kernel_rfl) (fun _ _ _ h => h) (Or.inl ⟨by rfl, ?_⟩) ?_ ?_
  rotate_left
  · intro w'
    go_simp
    with_reducible rfl
  rotate_left
  · simp only [Act.put, List.setIfInBounds_toArray, List.set_cons_zero, List.set_cons_succ, i64_w, i32_w]
    rfl
  refine pure_ (i := 14) (N := some 48) (v := ?_) (a' := ?_) #[true, true, true, true, true, true, true, true, false, true, false, false, false, true, true, false, false, false, false, false, false, false, false] rfl rfl (by kernel_rfl) (fun _ _ _ h => h) (Or.inl ⟨by rfl, ?_⟩) ?_ ?_
  rotate_left
  · intro w'
    go_simp
    with_reducible rfl
  rotate_left
  · simp only [Act.put, List.setIfInBounds_toArray, List.set_cons_zero, List.set_cons_succ, i64_w, i32_w]
    rfl
  refine pure_ (i := 15) (N := some 49) (v := ?_) (a' := ?_) #[true, true, true, true, true, true, true, true, false, true, false, false, false, true, true, true, false, false, false, false, false, false, false] rfl rfl (by kernel_rfl) (fun _ _ _ h => h) (Or.inl ⟨by rfl, ?_⟩) ?_ ?_
  rotate_left
  · intro w'
    go_simp
    with_reducible rfl
  rotate_left
  · simp only [Act.put, List.setIfInBounds_toArray, List.set_cons_zero, List.set_cons_succ, i64_w, i32_w]
    rfl
  refine pure_ (i := 17) (N := some 51) (v := ?_) (a' := ?_) #[true, true, true, true, true, true, true, true, false, true, false, false, false, true, true, true, false, true, false, false, false, false, false] rfl rfl (by kernel_rfl) (fun _ _ _ h => h) (Or.inl ⟨by rfl, ?_⟩) ?_ ?_
  rotate_left
  · intro w'
    go_simp
    with_reducible rfl
  rotate_left
  · simp only [Act.put, List.setIfInBounds_toArray, List.set_cons_zero, List.set_cons_succ, i64_w, i32_w]
    rfl
  refine take_ (i := 8) (N := some 42) (v := ?_) (a' := ?_) #[true, true, true, true, true, true, true, true, true, true, false, false, false, true, true, true, false, true, false, false, false, false, false] rfl rfl (by kernel_rfl) (fun _ _ _ h => h) (Or.inl ⟨by rfl, ?_⟩) hHeld ?_ ?_
  rotate_left
  · rintro w' ⟨s0, s1, s2, s3⟩
    go_simp
    with_reducible rfl
  rotate_left
  · simp only [Act.put, List.setIfInBounds_toArray, List.set_cons_zero, List.set_cons_succ, i64_w, i32_w]
    rfl
  refine pure_ (i := 10) (N := some 44) (v := ?_) (a' := ?_) #[true, true, true, true, true, true, true, true, true, true, true, false, false, true, true, true, false, true, false, false, false, false, false] rfl rfl (by kernel_rfl) (fun _ _ _ h => h) (Or.inl ⟨by rfl, ?_⟩) ?_ ?_
  rotate_left
  · intro w'
    go_simp
    with_reducible rfl
  rotate_left
  · simp only [Act.put, List.setIfInBounds_toArray, List.set_cons_zero, List.set_cons_succ, i64_w, i32_w]
    rfl
  refine pure_ (i := 11) (N := some 45) (v := ?_) (a' := ?_) #[true, true, true, true, true, true, true, true, true, true, true, true, false, true, true, true, false, true, false, false, false, false, false] rfl rfl (by kernel_rfl) (fun _ _ _ h => h) (Or.inl ⟨by rfl, ?_⟩) ?_ ?_
  rotate_left
  · intro w'
    go_simp
    with_reducible rfl
  rotate_left
  · simp only [Act.put, List.setIfInBounds_toArray, List.set_cons_zero, List.set_cons_succ, i64_w, i32_w]
    rfl
  refine take_ (i := 12) (N := some 46) (v := ?_) (a' := ?_) #[true, true, true, true, true, true, true, true, true, true, true, true, true, true, true, true, false, true, false, false, false, false, false] rfl rfl (by kernel_rfl) (fun _ _ _ h => h) (Or.inl ⟨by rfl, ?_⟩) hHeld ?_ ?_
  rotate_left
  · rintro w' ⟨s0, s1, s2, s3⟩
    go_simp
    with_reducible rfl
  rotate_left
  · simp only [Act.put, List.setIfInBounds_toArray, List.set_cons_zero, List.set_cons_succ, i64_w, i32_w]
    rfl
  refine take_ (i := 16) (N := some 50) (v := ?_) (a' := ?_) #[true, true, true, true, true, true, true, true, true, true, true, true, true, true, true, true, true, true, false, false, false, false, false] rfl rfl (by kernel_rfl) (fun _ _ _ h => h) (Or.inl ⟨by rfl, ?_⟩) hHeld ?_ ?_
  rotate_left
  · rintro w' ⟨s0, s1, s2, s3⟩
    go_simp
    with_reducible rfl
  rotate_left
  · simp only [Act.put, List.setIfInBounds_toArray, List.set_cons_zero, List.set_cons_succ, i64_w, i32_w]
    rfl
  refine pure_ (i := 18) (N := some 52) (v := ?_) (a' := ?_) #[true, true, true, true, true, true, true, true, true, true, true, true, true, true, true, true, true, true, true, false, false, false, false] rfl rfl (by kernel_rfl) (fun _ _ _ h => h) (Or.inl ⟨by rfl, ?_⟩) ?_ ?_
  rotate_left
  · intro w'
    go_simp
    with_reducible rfl
  rotate_left
  · simp only [Act.put, List.setIfInBounds_toArray, List.set_cons_zero, List.set_cons_succ, i64_w, i32_w]
    rfl
  refine take_ (i := 19) (N := some 53) (v := ?_) (a' := ?_) #[true, true, true, true, true, true, true, true, true, true, true, true, true, true, true, true, true, true, true, true, false, false, false] rfl rfl (by kernel_rfl) (fun _ _ _ h => h) (Or.inl ⟨by rfl, ?_⟩) hHeld ?_ ?_
  rotate_left
  · rintro w' ⟨s0, s1, s2, s3⟩
    go_simp
    with_reducible rfl
  rotate_left
  · simp only [Act.put, List.setIfInBounds_toArray, List.set_cons_zero, List.set_cons_succ, i64_w, i32_w]
    rfl
  refine last_ (i := 20) (N := some 54) #[true, true, true, true, true, true, true, true, true, true, true, true, true, true, true, true, true, true, true, true, true, false, false] rfl rfl (by kernel_rfl) (by decide) (fun K hK => ?_)
  refine goes_ Try.func146 (by kernel_rfl) rfl #[.slice As s.length cs, .int .i64 x] (by rfl) rfl rfl (by simp only [List.map_toArray, List.map_cons, List.map_nil]; rfl) ?_
  with_reducible refine (impl_inSet.calls k As cs s x r _ (Kd.C_below HS.out HB.out) HL.out HH.out).mono ?_
  rintro e w3 ⟨rfl, hb⟩
  refine ⟨_, rfl, ?_⟩
  have HB3 := Aside0.mk (below_step HB.out hb)
  clear hb
  refine hK.out _ _ ?_
  clear hK K
  refine norm_ (a' := ?_) ?_ ?_
  rotate_left
  · show Act.put _ (some 54) _ = _
    simp only [Act.put, List.setIfInBounds_toArray, List.set_cons_zero, List.set_cons_succ, i64_w, i32_w]
    rfl
  refine pure_ (i := 21) (N := some 55) (v := ?_) (a' := ?_) #[true, true, true, true, true, true, true, true, true, true, true, true, true, true, true, true, true, true, true, true, true, true, false] rfl rfl (by kernel_rfl) (fun _ _ _ h => h) (Or.inl ⟨by rfl, ?_⟩) ?_ ?_
  rotate_left
  · intro w'
    go_simp
    with_reducible rfl
  rotate_left
  · simp only [Act.put, List.setIfInBounds_toArray, List.set_cons_zero, List.set_cons_succ, i64_w, i32_w]
    rfl
  refine pure_ (i := 22) (N := some 8) (v := ?_) (a' := ?_) #[true, true, true, true, true, true, true, true, true, true, true, true, true, true, true, true, true, true, true, true, true, true, true] rfl rfl (by kernel_rfl) (fun _ _ _ h => h) (Or.inl ⟨by rfl, ?_⟩) ?_ ?_
  rotate_left
  · intro w'
    go_simp
    with_reducible rfl
  rotate_left
  · simp only [Act.put, List.setIfInBounds_toArray, List.set_cons_zero, List.set_cons_succ, i64_w, i32_w]
    rfl
  refine done_ (by kernel_rfl) ?_
  go_wp2
  go_ret
  exact ⟨rfl, HB3.out⟩
theorem impl_matcher_look.kid0 {w : World} {Ak : Option Addr} {kids : List Int} (hk : (Kd.int .i64).C w Ak kids.length kids) (h : 1 ≤ (kids.length : Int)) : ∃ ak, Ak = some ak ∧ w.cell? ak = some (.int .i64 (rd kids 0)) := by
  obtain ⟨ak, e, k0⟩ := Kd.at_int hk 0 (by omega) (by omega)
  exact ⟨ak, e, by simpa [Addr.add] using k0⟩
theorem impl_matcher_look.kid1 {w : World} {ak : Addr} {kids : List Int} (hk : (Kd.int .i64).C w (some ak) kids.length kids) (h : 2 ≤ (kids.length : Int)) : w.cell? ⟨ak.block, ak.off + 1, none⟩ = some (.int .i64 (rd kids 1)) := by
  obtain ⟨ak', e, k0⟩ := Kd.at_int hk 1 (by omega) (by omega)
  cases e
  simpa [Addr.add] using k0
set_option maxHeartbeats 8000000 in
set_option maxRecDepth 100000 in
theorem impl_matcher_look.calls7 (g : Nat) (p : List S89) (parts : List (List Int)) (l : List Int) (tbl : List (List (List Bool))) (node a b : Int) (s kids : List Int) (a0 a1 : Addr) (c0 c1 : Nat) (As Ak Al : Option Addr) (cs ck cl : Nat) (w : World) (u : Bool) (hM : Mt w g p parts l tbl)
    (hR : impl_matcher_look.Read w g p parts l tbl node 7 s kids a0 a1 c0 c1 As Ak Al cs ck cl) (h0 : 0 ≤ node) (h1 : node < p.length) (h2 : node < parts.length) (hk : 1 ≤ (kids.length : Int)) (hu : impl_matcher_has.f tbl (rd kids 0) a b = some u) :
    Calls Try.prog 111 #[.pointer (some ⟨g, 0, none⟩), .int .i64 node, .int .i64 a, .int .i64 b] w fun e w' => e = .returned (.bool (!u)) ∧ Below w.heap.size w w' := by
  obtain ⟨z0, z1, z2, ho, hsx, hkx, _, _, hkk, _⟩ := hR
  obtain ⟨ak, e, k0⟩ := impl_matcher_look.kid0 hkk hk
  cases e
  have HM := Aside0.mk hM
  have HU := Aside0.mk hu
  have hkl : 0 < kids.length := by omega
  clear hkk hM hu hk
  generalize rd kids 0 = n1 at k0 HU
  replace h0 := eq_true h0
  replace h1 := eq_true h1
  replace h2 := eq_true h2
  go_enter Try.func111, Try.ntmps111
  go_wp2_with (go_at_call 82; (with_reducible refine (impl_matcher_has.calls g p parts l tbl n1 a b u _ HM.out HU.out).mono ?_); rintro e w' ⟨rfl, rfl⟩)
  go_ret
  exact ⟨rfl, Below.refl _ _⟩
set_option maxHeartbeats 8000000 in
set_option maxRecDepth 100000 in
theorem impl_matcher_look.calls6e (g : Nat) (p : List S89) (parts : List (List Int)) (l : List Int) (tbl : List (List (List Bool))) (node a : Int) (s kids : List Int) (a0 a1 : Addr) (c0 c1 : Nat) (As Ak Al : Option Addr) (cs ck cl : Nat) (w : World)
    (hR : impl_matcher_look.Read w g p parts l tbl node 6 s kids a0 a1 c0 c1 As Ak Al cs ck cl) (h0 : 0 ≤ node) (h1 : node < p.length) (h2 : node < parts.length) :
    Calls Try.prog 111 #[.pointer (some ⟨g, 0, none⟩), .int .i64 node, .int .i64 a, .int .i64 a] w fun e w' => e = .returned (.bool true) ∧ Below w.heap.size w w' := by
  obtain ⟨z0, z1, z2, ho, hsx, hkx, _, _, hkk, _⟩ := hR
  clear hkk
  have hae : (a == a) = true := by simp
  replace h0 := eq_true h0
  replace h1 := eq_true h1
  replace h2 := eq_true h2
  go_enter Try.func111, Try.ntmps111
  go_wp2
  go_ret
  exact ⟨rfl, Below.refl _ _⟩
set_option maxHeartbeats 8000000 in
set_option maxRecDepth 100000 in
theorem impl_matcher_look.calls6n (k : Nat) (g : Nat) (p : List S89) (parts : List (List Int)) (l : List Int) (tbl : List (List (List Bool))) (node a b : Int) (s kids : List Int) (a0 a1 : Addr) (c0 c1 : Nat) (As Ak Al : Option Addr) (cs ck cl : Nat) (w : World) (r : Bool) (hM : Mt w g p parts l tbl)
    (hR : impl_matcher_look.Read w g p parts l tbl node 6 s kids a0 a1 c0 c1 As Ak Al cs ck cl) (h0 : 0 ≤ node) (h1 : node < p.length) (h2 : node < parts.length) (ha : 0 ≤ a) (ha2 : a ≤ 1000000) (hb : b ≤ 1000000) (hab : a ≠ b) (hk : 1 ≤ (kids.length : Int)) (h : impl_matcher_look.l0 tbl (rd kids 0) node a b k (a + 1) = some r) :
    Calls Try.prog 111 #[.pointer (some ⟨g, 0, none⟩), .int .i64 node, .int .i64 a, .int .i64 b] w fun e w' => e = .returned (.bool r) ∧ Below w.heap.size w w' := by
  obtain ⟨z0, z1, z2, ho, hsx, hkx, _, _, hkk, _⟩ := hR
  obtain ⟨ak, e, k0⟩ := impl_matcher_look.kid0 hkk hk
  cases e
  have HM := Aside0.mk hM
  have HH := Aside0.mk h
  have hkl : 0 < kids.length := by omega
  have hae : (a == b) = false := by simpa using hab
  clear hkk hM h hk hab
  generalize rd kids 0 = n1 at k0 HH
  replace h0 := eq_true h0
  replace h1 := eq_true h1
  replace h2 := eq_true h2
  go_enter Try.func111, Try.ntmps111
  go_wp2_with fail
  go_loopg [10] k (fun kq v w' => ∃ x : Int, v = .int .i64 x ∧ w = w' ∧ Aside0 (impl_matcher_look.l0 tbl n1 node a b kq x = some r) ∧ Aside0 (kq ≤ k) ∧ 0 ≤ x ∧ x ≤ 2000000)
  case atStart => exact ⟨a + 1, rfl, rfl, HH, ⟨Nat.le_refl _⟩, by omega, by omega⟩
  case round =>
    clear HH
    obtain ⟨x, rfl, rfl, HA, HK, x0, x1⟩ := hrel
    cases gk with
    | zero => exact absurd HA.out (by simp [impl_matcher_look.l0])
    | succ k1 =>
      have H := HA.out
      clear HA
      simp only [impl_matcher_look.l0] at H
      by_cases c : x ≤ b
      · rw [if_pos c] at H
        obtain ⟨u, hu, H⟩ := Option.bind_eq_some_iff.mp H
        have HU := Aside0.mk hu
        clear hu
        cases u with
        | false =>
          rw [if_neg (by simp)] at H
          have H' := Aside0.mk H
          clear H
          go_wp2_with (go_at_call 82; (with_reducible refine (impl_matcher_has.calls g p parts l tbl n1 a x false _ HM.out HU.out).mono ?_); rintro e w' ⟨rfl, rfl⟩)
          go_roundg k1
          case measure => have := HK.out; omega
          case rel => exact ⟨x + 1, rfl, rfl, H', ⟨by have := HK.out; omega⟩, by omega, by omega⟩
        | true =>
          rw [if_pos rfl] at H
          obtain ⟨v, hv, H⟩ := Option.bind_eq_some_iff.mp H
          have HV := Aside0.mk hv
          clear hv
          cases v with
          | false =>
            rw [if_neg (by simp)] at H
            have H' := Aside0.mk H
            clear H
            go_wp2_with (go_at_call 82; first | ((with_reducible refine (impl_matcher_has.calls g p parts l tbl n1 a x true _ HM.out HU.out).mono ?_); rintro e w' ⟨rfl, rfl⟩) | ((with_reducible refine (impl_matcher_has.calls g p parts l tbl node x b false _ HM.out HV.out).mono ?_); rintro e w' ⟨rfl, rfl⟩))
            go_roundg k1
            case measure => have := HK.out; omega
            case rel => exact ⟨x + 1, rfl, rfl, H', ⟨by have := HK.out; omega⟩, by omega, by omega⟩
          | true =>
            rw [if_pos rfl] at H
            obtain rfl := Option.some.inj H
            clear H
            go_wp2_with (go_at_call 82; first | ((with_reducible refine (impl_matcher_has.calls g p parts l tbl n1 a x true _ HM.out HU.out).mono ?_); rintro e w' ⟨rfl, rfl⟩) | ((with_reducible refine (impl_matcher_has.calls g p parts l tbl node x b true _ HM.out HV.out).mono ?_); rintro e w' ⟨rfl, rfl⟩))
            go_ret
            exact ⟨rfl, Below.refl _ _⟩
      · rw [if_neg c] at H
        obtain rfl := Option.some.inj H
        clear H
        go_wp2
        go_ret
        exact ⟨rfl, Below.refl _ _⟩
set_option maxHeartbeats 8000000 in
set_option maxRecDepth 100000 in
theorem impl_matcher_look.calls4a (g : Nat) (p : List S89) (parts : List (List Int)) (l : List Int) (tbl : List (List (List Bool))) (node a b : Int) (s kids : List Int) (a0 a1 : Addr) (c0 c1 : Nat) (As Ak Al : Option Addr) (cs ck cl : Nat) (w : World) (hM : Mt w g p parts l tbl)
    (hR : impl_matcher_look.Read w g p parts l tbl node 4 s kids a0 a1 c0 c1 As Ak Al cs ck cl) (h0 : 0 ≤ node) (h1 : node < p.length) (h2 : node < parts.length) (hk : 2 ≤ (kids.length : Int)) (hu : impl_matcher_has.f tbl (rd kids 0) a b = some true) :
    Calls Try.prog 111 #[.pointer (some ⟨g, 0, none⟩), .int .i64 node, .int .i64 a, .int .i64 b] w fun e w' => e = .returned (.bool true) ∧ Below w.heap.size w w' := by
  obtain ⟨z0, z1, z2, ho, hsx, hkx, _, _, hkk, _⟩ := hR
  obtain ⟨ak, e, k0⟩ := impl_matcher_look.kid0 hkk (by omega)
  cases e
  have k1 := impl_matcher_look.kid1 hkk hk
  have HM := Aside0.mk hM
  have HU := Aside0.mk hu
  have hkl : 0 < kids.length := by omega
  have hkl2 : 1 < kids.length := by omega
  clear hkk hM hk hu
  generalize rd kids 0 = n1 at k0 HU
  generalize rd kids 1 = n2 at k1
  replace h0 := eq_true h0
  replace h1 := eq_true h1
  replace h2 := eq_true h2
  go_enter Try.func111, Try.ntmps111
  go_wp2_with (go_at_call 82; ((with_reducible refine (impl_matcher_has.calls g p parts l tbl n1 a b true _ HM.out HU.out).mono ?_); rintro e w' ⟨rfl, rfl⟩))
  go_ret
  exact ⟨rfl, Below.refl _ _⟩
set_option maxHeartbeats 8000000 in
set_option maxRecDepth 100000 in
theorem impl_matcher_look.calls5a (g : Nat) (p : List S89) (parts : List (List Int)) (l : List Int) (tbl : List (List (List Bool))) (node a b : Int) (s kids : List Int) (a0 a1 : Addr) (c0 c1 : Nat) (As Ak Al : Option Addr) (cs ck cl : Nat) (w : World) (hM : Mt w g p parts l tbl)
    (hR : impl_matcher_look.Read w g p parts l tbl node 5 s kids a0 a1 c0 c1 As Ak Al cs ck cl) (h0 : 0 ≤ node) (h1 : node < p.length) (h2 : node < parts.length) (hk : 2 ≤ (kids.length : Int)) (hu : impl_matcher_has.f tbl (rd kids 0) a b = some false) :
    Calls Try.prog 111 #[.pointer (some ⟨g, 0, none⟩), .int .i64 node, .int .i64 a, .int .i64 b] w fun e w' => e = .returned (.bool false) ∧ Below w.heap.size w w' := by
  obtain ⟨z0, z1, z2, ho, hsx, hkx, _, _, hkk, _⟩ := hR
  obtain ⟨ak, e, k0⟩ := impl_matcher_look.kid0 hkk (by omega)
  cases e
  have k1 := impl_matcher_look.kid1 hkk hk
  have HM := Aside0.mk hM
  have HU := Aside0.mk hu
  have hkl : 0 < kids.length := by omega
  have hkl2 : 1 < kids.length := by omega
  clear hkk hM hk hu
  generalize rd kids 0 = n1 at k0 HU
  generalize rd kids 1 = n2 at k1
  replace h0 := eq_true h0
  replace h1 := eq_true h1
  replace h2 := eq_true h2
  go_enter Try.func111, Try.ntmps111
  go_wp2_with (go_at_call 82; ((with_reducible refine (impl_matcher_has.calls g p parts l tbl n1 a b false _ HM.out HU.out).mono ?_); rintro e w' ⟨rfl, rfl⟩))
  go_ret
  exact ⟨rfl, Below.refl _ _⟩
set_option maxHeartbeats 8000000 in
set_option maxRecDepth 100000 in
theorem impl_matcher_look.calls4b (g : Nat) (p : List S89) (parts : List (List Int)) (l : List Int) (tbl : List (List (List Bool))) (node a b : Int) (s kids : List Int) (a0 a1 : Addr) (c0 c1 : Nat) (As Ak Al : Option Addr) (cs ck cl : Nat) (w : World) (v : Bool) (hM : Mt w g p parts l tbl)
    (hR : impl_matcher_look.Read w g p parts l tbl node 4 s kids a0 a1 c0 c1 As Ak Al cs ck cl) (h0 : 0 ≤ node) (h1 : node < p.length) (h2 : node < parts.length) (hk : 2 ≤ (kids.length : Int)) (hu : impl_matcher_has.f tbl (rd kids 0) a b = some false) (hv : impl_matcher_has.f tbl (rd kids 1) a b = some v) :
    Calls Try.prog 111 #[.pointer (some ⟨g, 0, none⟩), .int .i64 node, .int .i64 a, .int .i64 b] w fun e w' => e = .returned (.bool v) ∧ Below w.heap.size w w' := by
  obtain ⟨z0, z1, z2, ho, hsx, hkx, _, _, hkk, _⟩ := hR
  obtain ⟨ak, e, k0⟩ := impl_matcher_look.kid0 hkk (by omega)
  cases e
  have k1 := impl_matcher_look.kid1 hkk hk
  have HM := Aside0.mk hM
  have HU := Aside0.mk hu
  have HV := Aside0.mk hv
  have hkl : 0 < kids.length := by omega
  have hkl2 : 1 < kids.length := by omega
  clear hkk hM hk hu hv
  generalize rd kids 0 = n1 at k0 HU
  generalize rd kids 1 = n2 at k1 HV
  replace h0 := eq_true h0
  replace h1 := eq_true h1
  replace h2 := eq_true h2
  go_enter Try.func111, Try.ntmps111
  go_wp2_with (go_at_call 82; first | ((with_reducible refine (impl_matcher_has.calls g p parts l tbl n1 a b false _ HM.out HU.out).mono ?_); rintro e w' ⟨rfl, rfl⟩) | ((with_reducible refine (impl_matcher_has.calls g p parts l tbl n2 a b v _ HM.out HV.out).mono ?_); rintro e w' ⟨rfl, rfl⟩))
  go_ret
  exact ⟨rfl, Below.refl _ _⟩
set_option maxHeartbeats 8000000 in
set_option maxRecDepth 100000 in
theorem impl_matcher_look.calls5b (g : Nat) (p : List S89) (parts : List (List Int)) (l : List Int) (tbl : List (List (List Bool))) (node a b : Int) (s kids : List Int) (a0 a1 : Addr) (c0 c1 : Nat) (As Ak Al : Option Addr) (cs ck cl : Nat) (w : World) (v : Bool) (hM : Mt w g p parts l tbl)
    (hR : impl_matcher_look.Read w g p parts l tbl node 5 s kids a0 a1 c0 c1 As Ak Al cs ck cl) (h0 : 0 ≤ node) (h1 : node < p.length) (h2 : node < parts.length) (hk : 2 ≤ (kids.length : Int)) (hu : impl_matcher_has.f tbl (rd kids 0) a b = some true) (hv : impl_matcher_has.f tbl (rd kids 1) a b = some v) :
    Calls Try.prog 111 #[.pointer (some ⟨g, 0, none⟩), .int .i64 node, .int .i64 a, .int .i64 b] w fun e w' => e = .returned (.bool v) ∧ Below w.heap.size w w' := by
  obtain ⟨z0, z1, z2, ho, hsx, hkx, _, _, hkk, _⟩ := hR
  obtain ⟨ak, e, k0⟩ := impl_matcher_look.kid0 hkk (by omega)
  cases e
  have k1 := impl_matcher_look.kid1 hkk hk
  have HM := Aside0.mk hM
  have HU := Aside0.mk hu
  have HV := Aside0.mk hv
  have hkl : 0 < kids.length := by omega
  have hkl2 : 1 < kids.length := by omega
  clear hkk hM hk hu hv
  generalize rd kids 0 = n1 at k0 HU
  generalize rd kids 1 = n2 at k1 HV
  replace h0 := eq_true h0
  replace h1 := eq_true h1
  replace h2 := eq_true h2
  go_enter Try.func111, Try.ntmps111
  go_wp2_with (go_at_call 82; first | ((with_reducible refine (impl_matcher_has.calls g p parts l tbl n1 a b true _ HM.out HU.out).mono ?_); rintro e w' ⟨rfl, rfl⟩) | ((with_reducible refine (impl_matcher_has.calls g p parts l tbl n2 a b v _ HM.out HV.out).mono ?_); rintro e w' ⟨rfl, rfl⟩))
  go_ret
  exact ⟨rfl, Below.refl _ _⟩
set_option maxHeartbeats 8000000 in
set_option maxRecDepth 100000 in
theorem impl_matcher_look.calls3 (g : Nat) (p : List S89) (parts : List (List Int)) (l : List Int) (tbl : List (List (List Bool))) (node a b : Int) (s kids : List Int) (a0 a1 : Addr) (c0 c1 : Nat) (As Ak Al : Option Addr) (cs ck cl : Nat) (w : World) (k : Nat) (op : Int) (r : Bool) (hM : Mt w g p parts l tbl)
    (hR : impl_matcher_look.Read w g p parts l tbl node op s kids a0 a1 c0 c1 As Ak Al cs ck cl) (h0 : 0 ≤ node) (h1 : node < p.length) (h2 : node < parts.length) (hk : 2 ≤ (kids.length : Int)) (o1 : (op == 1) = false) (o2 : (op == 2) = false) (o4 : (op == 4) = false) (o5 : (op == 5) = false) (o7 : (op == 7) = false) (o6 : (op == 6) = false) (ha : 0 ≤ a) (ha2 : a ≤ 1000000) (hb : b ≤ 1000000) (h : impl_matcher_look.l0 tbl (rd kids 0) (rd kids 1) a b k a = some r) :
    Calls Try.prog 111 #[.pointer (some ⟨g, 0, none⟩), .int .i64 node, .int .i64 a, .int .i64 b] w fun e w' => e = .returned (.bool r) ∧ Below w.heap.size w w' := by
  obtain ⟨z0, z1, z2, ho, hsx, hkx, _, _, hkk, _⟩ := hR
  obtain ⟨ak, e, k0⟩ := impl_matcher_look.kid0 hkk (by omega)
  cases e
  have k1 := impl_matcher_look.kid1 hkk hk
  have HM := Aside0.mk hM
  have HH := Aside0.mk h
  have hkl : 0 < kids.length := by omega
  have hkl2 : 1 < kids.length := by omega
  clear hkk hM hk h
  generalize rd kids 0 = n1 at k0 HH
  generalize rd kids 1 = n2 at k1 HH
  replace h0 := eq_true h0
  replace h1 := eq_true h1
  replace h2 := eq_true h2
  go_enter Try.func111, Try.ntmps111
  go_wp2_with fail
  go_loopg [11] k (fun kq v w' => ∃ x : Int, v = .int .i64 x ∧ w = w' ∧ Aside0 (impl_matcher_look.l0 tbl n1 n2 a b kq x = some r) ∧ Aside0 (kq ≤ k) ∧ 0 ≤ x ∧ x ≤ 2000000)
  case atStart => exact ⟨a, rfl, rfl, HH, ⟨Nat.le_refl _⟩, by omega, by omega⟩
  case round =>
    clear HH
    obtain ⟨x, rfl, rfl, HA, HK, x0, x1⟩ := hrel
    cases gk with
    | zero => exact absurd HA.out (by simp [impl_matcher_look.l0])
    | succ k1_ =>
      have H := HA.out
      clear HA
      simp only [impl_matcher_look.l0] at H
      by_cases c : x ≤ b
      · rw [if_pos c] at H
        obtain ⟨u, hu, H⟩ := Option.bind_eq_some_iff.mp H
        have HU := Aside0.mk hu
        clear hu
        cases u with
        | false =>
          rw [if_neg (by simp)] at H
          have H' := Aside0.mk H
          clear H
          go_wp2_with (go_at_call 82; ((with_reducible refine (impl_matcher_has.calls g p parts l tbl n1 a x false _ HM.out HU.out).mono ?_); rintro e w' ⟨rfl, rfl⟩))
          go_roundg k1_
          case measure => have := HK.out; omega
          case rel => exact ⟨x + 1, rfl, rfl, H', ⟨by have := HK.out; omega⟩, by omega, by omega⟩
        | true =>
          rw [if_pos rfl] at H
          obtain ⟨v, hv, H⟩ := Option.bind_eq_some_iff.mp H
          have HV := Aside0.mk hv
          clear hv
          cases v with
          | false =>
            rw [if_neg (by simp)] at H
            have H' := Aside0.mk H
            clear H
            go_wp2_with (go_at_call 82; first | ((with_reducible refine (impl_matcher_has.calls g p parts l tbl n1 a x true _ HM.out HU.out).mono ?_); rintro e w' ⟨rfl, rfl⟩) | ((with_reducible refine (impl_matcher_has.calls g p parts l tbl n2 x b false _ HM.out HV.out).mono ?_); rintro e w' ⟨rfl, rfl⟩))
            go_roundg k1_
            case measure => have := HK.out; omega
            case rel => exact ⟨x + 1, rfl, rfl, H', ⟨by have := HK.out; omega⟩, by omega, by omega⟩
          | true =>
            rw [if_pos rfl] at H
            obtain rfl := Option.some.inj H
            clear H
            go_wp2_with (go_at_call 82; first | ((with_reducible refine (impl_matcher_has.calls g p parts l tbl n1 a x true _ HM.out HU.out).mono ?_); rintro e w' ⟨rfl, rfl⟩) | ((with_reducible refine (impl_matcher_has.calls g p parts l tbl n2 x b true _ HM.out HV.out).mono ?_); rintro e w' ⟨rfl, rfl⟩))
            go_ret
            exact ⟨rfl, Below.refl _ _⟩
      · rw [if_neg c] at H
        obtain rfl := Option.some.inj H
        clear H
        go_wp2
        go_ret
        exact ⟨rfl, Below.refl _ _⟩
theorem impl_matcher_look.beqf {a b : Int} (h : ¬ a = b) : (a == b) = false := by simpa using h
theorem impl_matcher_look.calls (k : Nat) (g : Nat) (p : List S89) (parts : List (List Int)) (l : List Int) (tbl : List (List (List Bool))) (node a b : Int) (r : Bool) (w : World) (hM : Mt w g p parts l tbl) (h : impl_matcher_look.f k p parts l tbl node a b = some r) :
    Calls Try.prog 111 #[.pointer (some ⟨g, 0, none⟩), .int .i64 node, .int .i64 a, .int .i64 b] w fun e w' => e = .returned (.bool r) ∧ Below w.heap.size w w' := by
  unfold impl_matcher_look.f at h
  split at h
  case isFalse => cases h
  rename_i hs
  obtain ⟨⟨h0, h1, h2⟩, ⟨ha, ha2⟩, ⟨hb, hb2⟩⟩ := hs
  obtain ⟨a0, a1, c0, c1, As, Ak, Al, cs, ck, cl, hR⟩ := impl_matcher_look.read hM h0 h1 h2
  revert h hR
  generalize (rd_T89 p node).f0 = op
  generalize (rd_T89 p node).f1 = s
  generalize parts.getD node.toNat [] = kids
  intro h hR
  unfold impl_matcher_look.op at h
  split at h
  · rename_i o
    subst o
    obtain rfl := Option.some.inj h
    exact impl_matcher_look.calls1 g p parts l tbl node a b s kids a0 a1 c0 c1 As Ak Al cs ck cl w hR h0 h1 h2
  rename_i o1
  split at h
  · rename_i o
    subst o
    split at h
    · rename_i hba
      subst hba
      split at h
      · rename_i hal
        exact impl_matcher_look.calls2y k g p parts l tbl node a s kids a0 a1 c0 c1 As Ak Al cs ck cl w r hR h0 h1 h2 ha ha2 hal h
      · cases h
    · rename_i hba
      obtain rfl := Option.some.inj h
      exact impl_matcher_look.calls2n g p parts l tbl node a b s kids a0 a1 c0 c1 As Ak Al cs ck cl w hR h0 h1 h2 ha ha2 hba
  rename_i o2
  split at h
  · cases h
  rename_i hk
  split at h
  · rename_i o
    subst o
    obtain ⟨u, hu, h⟩ := Option.bind_eq_some_iff.mp h
    obtain rfl := Option.some.inj h
    exact impl_matcher_look.calls7 g p parts l tbl node a b s kids a0 a1 c0 c1 As Ak Al cs ck cl w u hM hR h0 h1 h2 (by omega) hu
  rename_i o7
  split at h
  · rename_i o
    subst o
    split at h
    · rename_i hab
      subst hab
      obtain rfl := Option.some.inj h
      exact impl_matcher_look.calls6e g p parts l tbl node a s kids a0 a1 c0 c1 As Ak Al cs ck cl w hR h0 h1 h2
    · rename_i hab
      exact impl_matcher_look.calls6n k g p parts l tbl node a b s kids a0 a1 c0 c1 As Ak Al cs ck cl w r hM hR h0 h1 h2 ha ha2 hb2 hab (by omega) h
  rename_i o6
  split at h
  · cases h
  rename_i hk2
  split at h
  · rename_i o
    subst o
    obtain ⟨u, hu, h⟩ := Option.bind_eq_some_iff.mp h
    cases u
    · rw [if_neg (by simp)] at h
      exact impl_matcher_look.calls4b g p parts l tbl node a b s kids a0 a1 c0 c1 As Ak Al cs ck cl w r hM hR h0 h1 h2 (by omega) hu h
    · rw [if_pos rfl] at h
      obtain rfl := Option.some.inj h
      exact impl_matcher_look.calls4a g p parts l tbl node a b s kids a0 a1 c0 c1 As Ak Al cs ck cl w hM hR h0 h1 h2 (by omega) hu
  rename_i o4
  split at h
  · rename_i o
    subst o
    obtain ⟨u, hu, h⟩ := Option.bind_eq_some_iff.mp h
    cases u
    · rw [if_neg (by simp)] at h
      obtain rfl := Option.some.inj h
      exact impl_matcher_look.calls5a g p parts l tbl node a b s kids a0 a1 c0 c1 As Ak Al cs ck cl w hM hR h0 h1 h2 (by omega) hu
    · rw [if_pos rfl] at h
      exact impl_matcher_look.calls5b g p parts l tbl node a b s kids a0 a1 c0 c1 As Ak Al cs ck cl w r hM hR h0 h1 h2 (by omega) hu h
  rename_i o5
  exact impl_matcher_look.calls3 g p parts l tbl node a b s kids a0 a1 c0 c1 As Ak Al cs ck cl w k op r hM hR h0 h1 h2 (by omega) (impl_matcher_look.beqf o1) (impl_matcher_look.beqf o2) (impl_matcher_look.beqf o4) (impl_matcher_look.beqf o5) (impl_matcher_look.beqf o7) (impl_matcher_look.beqf o6) ha ha2 hb2 h

/-! ### impl_match: function 63 (given) -/
/-- A slice of rows that lie apart: as Kd.slice, told by S. -/
def KS {α : Type} (e : Nat) (d : Kd α) : Kd (List α) where
  sz := 1
  E := e :: d.E
  K := (Kd.slice e d).K
  M := fun w base ok xs cs => ∃ v, cs = [v] ∧ Kd.S d e w base ok v xs
  K_len := (Kd.slice e d).K_len
  K_one := (Kd.slice e d).K_one
  K_below := (Kd.slice e d).K_below
  K_of_M := by
    rintro w base ok x cs ⟨v, rfl, h⟩
    exact (Kd.slice e d).K_of_M (base := base) (ok := ok) ⟨v, rfl, Kd.S_R h⟩
  M_mono := by
    rintro w base ok ok' x cs hok ⟨v, rfl, h⟩
    exact ⟨v, rfl, Kd.S_mono h hok⟩
  M_bound := by
    rintro w base ok x cs ⟨v, rfl, h⟩
    exact ⟨v, rfl, Kd.S_bound h⟩
  M_move := by
    rintro w w1 base ok x cs hm ⟨v, rfl, h⟩
    exact ⟨v, rfl, Kd.S_move h hm⟩
  M_lower := by
    rintro w base base' ok x cs hb ⟨v, rfl, h⟩
    exact ⟨v, rfl, Kd.S_lower h hb⟩
/-- append(v, u), the new element told by its cell alone: a row with a hole at its end. -/
theorem H_append {P : Program} {ops : Array Oper} {rest : List Oper} {o : Oper} {a : Act} {Q : Exit → Act → World → Prop} {α : Type} (d : Kd α) (hd1 : d.sz = 1) {w0 W : World} (base : Nat) (hgd : o.guard = none) (s x : Operand) (t e : TypeId) (z : Value) (bytes : Nat)
    (ho : o.op = .call { callee := .builtin .append, args := #[s, x], argTypes := #[t, t] })
    (ht : P.underlying t = some (.slice e)) (hinfo : (P.info? e).map (fun i => (i.zero, i.size, i.bytes)) = some (some z, d.sz, bytes)) (hz : z.cells.size = d.sz) (hb0 : 0 < bytes)
    (v : Value) (xs : List α) (zz : α) (u : Value) (hu : u.oneCell' = true) (ok okp : Nat → Prop) (hs : a.eval s = v) (hx : a.eval x = .slice (some ⟨W.heap.size, 0, none⟩) 1 1) (hok : ∀ k, okp k → ok k ∧ k < W.heap.size) (hfresh : ∀ k, W.heap.size ≤ k → ok k)
    (HO : Kd.S d e W base (fun k => ok k ∧ ¬ okp k) v xs) (HB : Below base w0 W) (hbase : base ≤ W.heap.size) (hl : (xs.length + 1) * bytes ≤ 140737488355328)
    (h : ∀ v1 w1, Kd.H d e w1 base ok v1 (xs ++ [zz]) (xs.length : Int) okp [u] → Below base w0 w1 → W.grownBy w1 v.ownBlock → (v1.ownBlock = v.ownBlock ∨ ∃ b, v1.ownBlock = some b ∧ W.heap.size ≤ b) → wpList P ops Q rest (a.put o.dst v1) w1) :
    wpList P ops Q (o :: rest) a (W.alloc (.cells #[u] e)) := by
  obtain ⟨f, h0, inner, hown, hr⟩ := HO
  have hR : (Kd.gap f d xs.length [u]).R e W base (fun k => ok k ∧ ¬ okp k) v xs.zipIdx := by
    refine ⟨h0, inner, hown, hr.1, fun j p hj => ⟨fun hx => ?_, fun _ => hr.2 j p hj⟩⟩
    rw [List.getElem?_zipIdx, Nat.zero_add] at hj
    obtain ⟨q, hq, rfl⟩ := Option.map_eq_some_iff.1 hj
    have := (List.getElem?_eq_some_iff.1 hq).1
    simp at hx
    omega
  refine Kd.R_append (Kd.gap f d xs.length [u]) base hgd s x t e z bytes ho ht hinfo hz (by show 0 < d.sz; omega) hb0 v xs.zipIdx (zz, xs.length) [u] (fun k => ok k ∧ ¬ okp k) (fun _ => False) hs hx
    ⟨fun _ => ⟨rfl, hd1.symm, fun q hq => by rw [List.mem_singleton.1 hq]; exact hu⟩, fun hne => absurd rfl hne⟩ (fun _ hk => hk.elim) (fun k hk => ⟨hfresh k hk, fun h2 => by have := (hok k h2).2; omega⟩) hR HB hbase (by rw [List.length_zipIdx]; exact hl) ?_
  intro v1 w1 hr1 hb1 hg1 hat1
  rw [← Kd.zip_snoc] at hr1
  exact h v1 w1 ⟨fun k hk => (hok k hk).1, f, hr1⟩ hb1 hg1 hat1
abbrev KB : Kd (List Bool) := Kd.slice 4 Kd.bool
abbrev KT : Kd (List (List Bool)) := KS 131 KB
/-- While a matcher is made: its table is whole. -/
structure InvT (w0 W : World) (g : Nat) (Ap : Option Addr) (c0 : Nat) (p : List S89) (Al : Option Addr) (c1 : Nat) (l : List Int) (Av : Option Addr) (cv : Nat) (list : List (List Int)) (vt : Value) (tbl : List (List (List Bool))) (ok : Nat → Prop) : Prop where
  blk : W.heap[g]? = some (.cells #[.slice Ap p.length c0, .slice Av list.length cv, .slice Al l.length c1, vt] 138 (0, 0))
  ge : w0.heap.size ≤ g
  li : Kd.S (Kd.slice 3 (Kd.int .i64)) 23 W w0.heap.size (fun _ => True) (.slice Av list.length cv) list
  ta : Kd.S KT 132 W w0.heap.size ok vt tbl
  be : Below w0.heap.size w0 W
section
variable {w0 W W' : World} {g : Nat} {Ap : Option Addr} {c0 : Nat} {p : List S89} {Al : Option Addr} {c1 : Nat} {l : List Int} {Av : Option Addr} {cv : Nat} {list : List (List Int)} {vt : Value} {tbl : List (List (List Bool))} {ok : Nat → Prop}
theorem InvT.below (h : InvT w0 W g Ap c0 p Al c1 l Av cv list vt tbl ok) (hb : Below W.heap.size W W') : InvT w0 W' g Ap c0 p Al c1 l Av cv list vt tbl ok :=
  ⟨blk_below h.blk hb, h.ge, Kd.S_below h.li hb, Kd.S_below h.ta hb, below_step h.be hb⟩
theorem InvT.mt (h : InvT w0 W g Ap c0 p Al c1 l Av cv list vt tbl ok) (hp : Kd.C k89 w0 Ap p.length p) (hpc : p.length ≤ c0) (hl : Kd.C (Kd.int .i64) w0 Al l.length l) (hlc : l.length ≤ c1) : Mt W g p list l tbl := by
  obtain ⟨A3, c3, rfl, h3, hT⟩ := Kd.S_reads h.ta
  obtain ⟨_, h2, hL⟩ := Kd.S_reads' h.li
  exact ⟨Ap, c0, Av, cv, Al, c1, A3, c3, h.blk, Kd.C_below hp h.be, hL, Kd.C_below hl h.be, hT, hpc, h2, hlc, h3⟩
/-- While a node's rows are made. -/
structure InvF (w0 W : World) (g : Nat) (Ap : Option Addr) (c0 : Nat) (p : List S89) (Al : Option Addr) (c1 : Nat) (l : List Int) (Av : Option Addr) (cv : Nat) (list : List (List Int)) (vt : Value) (tbl : List (List (List Bool))) (N : Nat) (vr : Value) (rows : List (List Bool)) : Prop where
  t : InvT w0 W g Ap c0 p Al c1 l Av cv list vt tbl (fun k => k < N)
  ro : Kd.S KB 131 W w0.heap.size (fun k => N ≤ k) vr rows
  n : N ≤ W.heap.size
  gn : g < N
variable {N : Nat} {vr : Value} {rows : List (List Bool)}
theorem InvF.below (h : InvF w0 W g Ap c0 p Al c1 l Av cv list vt tbl N vr rows) (hb : Below W.heap.size W W') : InvF w0 W' g Ap c0 p Al c1 l Av cv list vt tbl N vr rows := ⟨h.t.below hb, Kd.S_below h.ro hb, Nat.le_trans h.n hb.size, h.gn⟩
/-- Rows have been made. -/
theorem InvF.make (h : InvT w0 W g Ap c0 p Al c1 l Av cv list vt tbl (fun _ => True)) (hr : Kd.S KB 131 W' W.heap.size (fun _ => True) vr rows) (hb : Below W.heap.size W W') : InvF w0 W' g Ap c0 p Al c1 l Av cv list vt tbl W.heap.size vr rows := by
  have h2 := h.below hb
  exact ⟨⟨h2.blk, h2.ge, h2.li, Kd.S_mono (Kd.S_old h.ta hb) (fun _ hk => hk.2), h2.be⟩, Kd.S_lower (Kd.S_mono (Kd.S_bound hr) (fun k hk => hk.2.1)) h.be.size, hb.size, blk_lt h.blk⟩
/-- A new row is stored. -/
theorem InvF.put {W1 : World} {gr m cr : Nat} {v : Value} {row : List Bool} {x : Int} (h : InvF w0 W g Ap c0 p Al c1 l Av cv list vt tbl N (.slice (some ⟨gr, 0, none⟩) m cr) rows) (hb : Below W.heap.size W W1) (hn : Kd.bool.R 4 W1 W.heap.size (fun _ => True) v row) (x0 : 0 ≤ x) (x1 : x < m) :
    (∃ old, W1.cell? ⟨gr, x.toNat, none⟩ = some old) ∧ W1.frozen? ⟨gr, x.toNat, none⟩ = false ∧ InvF w0 (W1.setCell ⟨gr, x.toNat, none⟩ v) g Ap c0 p Al c1 l Av cv list vt tbl N (.slice (some ⟨gr, 0, none⟩) m cr) (rows.set x.toNat row) := by
  have hro := Kd.S_old h.ro hb
  have hob : (Value.slice (some ⟨gr, 0, none⟩) m cr).ownBlock = some gr := by simp [Value.ownBlock]
  have HX : Kd.S KB 131 W1 w0.heap.size (fun k => N ≤ k ∧ ¬ W.heap.size ≤ k) (.slice (some ⟨gr, 0, none⟩) m cr) rows := Kd.S_mono hro (fun k hk => ⟨hk.1, by have := hk.2; omega⟩)
  have hgr := (Kd.S_R HX).1 gr hob
  have hgb := Kd.S_base HX gr hob
  obtain ⟨cg, hcg⟩ := Kd.S_typed HX gr hob
  obtain ⟨oki, c, hcl, hM, hcc, hfr, hoki, hH⟩ := Kd.S_elem HX [] x x0 x1
  obtain ⟨ve, rfl, _⟩ := hM
  have hx0 := hcc 0 _ rfl
  have hf0 := hfr 0
  have HP := Kd.S_seg (ok := fun k => N ≤ k) (okg := fun k => W.heap.size ≤ k) hH x0 x1 (seg := [v]) (j := 0) (show 1 ≤ 1 from Nat.le_refl _) (x' := row) (Kd.M_row (Kd.R_lower (Kd.R_mono (Kd.R_bound hn) (fun k hk => hk.2.1)) h.t.be.size)) (fun k hk => .inr hk) (fun k hk => ⟨Nat.le_trans h.n hk, fun he => by omega⟩)
  simp only [show (KB).sz = 1 from rfl, Nat.mul_one, Nat.add_zero] at hx0 hf0 HP
  have hb2 := h.t.below hb
  refine ⟨⟨_, hx0⟩, hf0, ⟨⟨blk_grown hb2.blk HP.2 (fun he => ?_), hb2.ge, ?_, Kd.S_grown hb2.ta HP.2 (fun k hk he => ?_), below_set hb2.be hgb⟩, ?_, ?_, h.gn⟩⟩
  · injection he with he
    have := h.gn
    omega
  · exact Kd.S_mono (Kd.S_grown (Kd.S_types hb2.li hcg (by decide)) HP.2 (fun k hk he => hk.2 (by injection he))) (fun _ hk => hk.1)
  · injection he with he
    omega
  · have := HP.1
    exact this
  · have := HP.2.size
    exact Nat.le_trans h.n (Nat.le_trans hb.size this)
/-- While a node's rows are filled: they are the table's last. -/
structure InvH (w0 W : World) (g : Nat) (Ap : Option Addr) (c0 : Nat) (p : List S89) (Al : Option Addr) (c1 : Nat) (l : List Int) (Av : Option Addr) (cv : Nat) (list : List (List Int)) (vt : Value) (tbl : List (List (List Bool))) (okR : Nat → Prop) (vr : Value) (rows : List (List Bool)) : Prop where
  blk : W.heap[g]? = some (.cells #[.slice Ap p.length c0, .slice Av list.length cv, .slice Al l.length c1, vt] 138 (0, 0))
  ge : w0.heap.size ≤ g
  li : Kd.S (Kd.slice 3 (Kd.int .i64)) 23 W w0.heap.size (fun _ => True) (.slice Av list.length cv) list
  ta : Kd.H KT 132 W w0.heap.size (fun k => k ≠ g) vt (tbl ++ [[]]) (tbl.length : Int) okR [vr]
  ro : Kd.S KB 131 W w0.heap.size okR vr rows
  be : Below w0.heap.size w0 W
variable {okR : Nat → Prop}
theorem InvH.below (h : InvH w0 W g Ap c0 p Al c1 l Av cv list vt tbl okR vr rows) (hb : Below W.heap.size W W') : InvH w0 W' g Ap c0 p Al c1 l Av cv list vt tbl okR vr rows :=
  ⟨blk_below h.blk hb, h.ge, Kd.S_below h.li hb, Kd.H_below h.ta hb, Kd.S_below h.ro hb, below_step h.be hb⟩
/-- The rows have been appended. -/
theorem InvF.append {W1 : World} {v1 : Value} (h : InvF w0 W g Ap c0 p Al c1 l Av cv list vt tbl N vr rows) (hH : Kd.H KT 132 W1 w0.heap.size (fun k => k ≠ g) v1 (tbl ++ [[]]) (tbl.length : Int) (fun k => N ≤ k ∧ k < W.heap.size) [vr]) (hb : Below w0.heap.size w0 W1) (hg : W.grownBy W1 vt.ownBlock) :
    W1.heap[g]? = some (.cells #[.slice Ap p.length c0, .slice Av list.length cv, .slice Al l.length c1, vt] 138 (0, 0)) ∧ InvH w0 (W1.setCell ⟨g, 3, none⟩ v1) g Ap c0 p Al c1 l Av cv list v1 tbl (fun k => N ≤ k ∧ k < W.heap.size) vr rows := by
  have hne : ∀ k, N ≤ k → some k ≠ vt.ownBlock := fun k hk he => by have := (Kd.S_R h.t.ta).1 k he.symm; omega
  have hblk := blk_grown h.t.blk hg (Kd.S_ne h.t.ta h.t.blk (by decide))
  have hli := Kd.S_over' h.t.li (Kd.S_typed h.t.ta) (by decide) hg
  have hro : Kd.S KB 131 W1 w0.heap.size (fun k => N ≤ k ∧ k < W.heap.size) vr rows := Kd.S_grown (Kd.S_mono (Kd.S_bound h.ro) (fun k hk => ⟨hk.1, hk.2.2.1⟩)) hg (fun k hk => hne k hk.1)
  refine ⟨hblk, ⟨blk_put hblk 3 v1 rfl, h.t.ge, ?_, Kd.H_far (p := ⟨g, 3, none⟩) hH (fun k hk => hk) v1, Kd.S_far (p := ⟨g, 3, none⟩) hro (fun k hk he => ?_) v1, below_set hb h.t.ge⟩⟩
  · exact Kd.S_mono (Kd.S_far (p := ⟨g, 3, none⟩) (Kd.S_types hli hblk (by decide)) (fun k hk => hk.2) v1) (fun _ hk => hk.1)
  · have := h.gn
    have h2 : k = g := he
    omega
theorem InvH.close (h : InvH w0 W g Ap c0 p Al c1 l Av cv list vt tbl okR vr rows) : InvT w0 W g Ap c0 p Al c1 l Av cv list vt (tbl ++ [rows]) (fun _ => True) := by
  have hS := Kd.H_back h.ta (x' := rows) (okp := okR) ⟨vr, rfl, h.ro⟩ (fun _ hk => hk)
  have he : (tbl ++ [[]]).set (tbl.length : Int).toNat rows = tbl ++ [rows] := by simp
  rw [he] at hS
  exact ⟨h.blk, h.ge, h.li, Kd.S_mono hS (fun _ _ => trivial), h.be⟩
theorem InvH.get {a : Int} {gr m cr : Nat} (h : InvH w0 W g Ap c0 p Al c1 l Av cv list vt tbl okR (.slice (some ⟨gr, 0, none⟩) m cr) rows) (a0 : 0 ≤ a) (a1 : a < m) (hr : 0 < (rows.getD a.toNat []).length) :
    ∃ gb cb, W.cell? ⟨gr, a.toNat, none⟩ = some (.slice (some ⟨gb, 0, none⟩) (rows.getD a.toNat []).length cb) := by
  obtain ⟨oki, c, hcl, hM, hcc, hfr, hoki, hH⟩ := Kd.S_elem h.ro [] a a0 a1
  obtain ⟨ve, rfl, hR⟩ := hM
  obtain ⟨gb, cb, rfl, _⟩ := Kd.R_form hR hr
  have hx0 := hcc 0 _ rfl
  simp only [show (KB).sz = 1 from rfl, Nat.mul_one, Nat.add_zero] at hx0
  exact ⟨gb, cb, hx0⟩
theorem InvH.mt (h : InvH w0 W g Ap c0 p Al c1 l Av cv list vt tbl okR vr rows) (hp : Kd.C k89 w0 Ap p.length p) (hpc : p.length ≤ c0) (hl : Kd.C (Kd.int .i64) w0 Al l.length l) (hlc : l.length ≤ c1) : Mt W g p list l (tbl ++ [rows]) := h.close.mt hp hpc hl hlc
theorem InvH.put {a x : Int} {gr m cr gb cb n : Nat} (h : InvH w0 W g Ap c0 p Al c1 l Av cv list vt tbl okR (.slice (some ⟨gr, 0, none⟩) m cr) rows) (hc : W.cell? ⟨gr, a.toNat, none⟩ = some (.slice (some ⟨gb, 0, none⟩) n cb)) (a0 : 0 ≤ a) (a1 : a < m) (x0 : 0 ≤ x) (x1 : x < (rows.getD a.toNat []).length) :
    (∃ old, W.cell? ⟨gb, x.toNat, none⟩ = some (.bool old)) ∧ W.frozen? ⟨gb, x.toNat, none⟩ = false ∧ ∀ u, InvH w0 (W.setCell ⟨gb, x.toNat, none⟩ (.bool u)) g Ap c0 p Al c1 l Av cv list vt tbl okR (.slice (some ⟨gr, 0, none⟩) m cr) (rows.set a.toNat ((rows.getD a.toNat []).set x.toNat u)) := by
  obtain ⟨oki, c, hcl, hM, hcc, hfr, hoki, hH⟩ := Kd.S_elem h.ro [] a a0 a1
  obtain ⟨ve, rfl, hR⟩ := hM
  have hx0 := hcc 0 _ rfl
  simp only [show (KB).sz = 1 from rfl, Nat.mul_one, Nat.add_zero] at hx0
  rw [hc] at hx0
  obtain rfl := Option.some.inj hx0
  have hn := (Kd.R_reads' hR).1
  have hob : (Value.slice (some ⟨gb, 0, none⟩) n cb).ownBlock = some gb := by simp [Value.ownBlock]
  have hog := hR.1 gb hob
  have hgb := Kd.R_base hR gb hob
  obtain ⟨cg, hcg⟩ := Kd.R_typed hR gb hob
  have hcf := Kd.R_celln false hR x x0 (by omega)
  refine ⟨⟨_, hcf.1⟩, hcf.2, fun u => ?_⟩
  have HP := Kd.R_putg hR x u
  refine ⟨blk_grown h.blk HP.2 (fun he => ?_), h.ge, ?_, Kd.H_grown h.ta HP.2 (fun k he => ?_), ?_, below_set h.be hgb⟩
  · injection he with he
    exact h.ta.1 gb (hoki gb hog).1 he.symm
  · exact Kd.S_mono (Kd.S_grown (Kd.S_types h.li hcg (by decide)) HP.2 (fun k hk he => hk.2 (by injection he))) (fun _ hk => hk.1)
  · injection he with he
    subst he
    exact (hoki _ hog).1
  · have hS := Kd.H_back (Kd.H_grown hH HP.2 (fun k he => by injection he with he; subst he; exact hog)) (x' := (rows.getD a.toNat []).set x.toNat u) (okp := oki) ⟨_, rfl, HP.1⟩ (fun _ hk => hk)
    exact hS
end
def impl_match.n1 (l : List Int) : Nat := l.length + 1
mutual
def impl_match.l0 : Nat → List S89 → List (List Int) → List Int → List (List (List Bool)) → Int → Option (List (List (List Bool)))
  | 0, _, _, _, _, _ => none
  | k + 1, p, q, l, tbl, i => if i < p.length then impl_match.l1 k p q l tbl i (List.replicate (l.length + 1) (List.replicate (l.length + 1) false)) l.length else some tbl
def impl_match.l1 : Nat → List S89 → List (List Int) → List Int → List (List (List Bool)) → Int → List (List Bool) → Int → Option (List (List (List Bool)))
  | 0, _, _, _, _, _, _, _ => none
  | k + 1, p, q, l, tbl, i, rows, a => if 0 ≤ a then impl_match.l2 k p q l tbl i rows a a else impl_match.l0 k p q l (tbl ++ [rows]) (i + 1)
def impl_match.l2 : Nat → List S89 → List (List Int) → List Int → List (List (List Bool)) → Int → List (List Bool) → Int → Int → Option (List (List (List Bool)))
  | 0, _, _, _, _, _, _, _, _ => none
  | k + 1, p, q, l, tbl, i, rows, a, x => if x ≤ l.length then ((impl_matcher_look.f k p q l (tbl ++ [rows]) i a x).bind fun u => impl_match.l2 k p q l tbl i (rows.set a.toNat ((rows.getD a.toNat []).set x.toNat u)) a (x + 1)) else impl_match.l1 k p q l tbl i rows (a - 1)
end
def impl_match.f (k : Nat) (p : List S89) (l : List Int) : Option (List (List Int) × List (List (List Bool))) :=
  if p.length ≤ 1000 ∧ l.length ≤ 1000 then (impl_parts.f k p).bind fun t => (impl_match.l0 k p t.1 l [] 0).bind fun tb => some (t.1, tb) else none
theorem impl_match.mono_l : ∀ k, (∀ p q l t i, LeO (impl_match.l0 k p q l t i) (impl_match.l0 (k + 1) p q l t i)) ∧ (∀ p q l t i r a, LeO (impl_match.l1 k p q l t i r a) (impl_match.l1 (k + 1) p q l t i r a)) ∧ (∀ p q l t i r a x, LeO (impl_match.l2 k p q l t i r a x) (impl_match.l2 (k + 1) p q l t i r a x))
  | 0 => ⟨fun _ _ _ _ _ r h => by simp [impl_match.l0] at h, fun _ _ _ _ _ _ _ r h => by simp [impl_match.l1] at h, fun _ _ _ _ _ _ _ _ r h => by simp [impl_match.l2] at h⟩
  | k + 1 => by
    obtain ⟨i0, i1, i2⟩ := impl_match.mono_l k
    refine ⟨fun p q l t i => ?_, fun p q l t i r a => ?_, fun p q l t i r a x => ?_⟩
    · rw [impl_match.l0, impl_match.l0]
      exact LeO.ite (i1 _ _ _ _ _ _ _) (LeO.refl _)
    · rw [impl_match.l1, impl_match.l1]
      exact LeO.ite (i2 _ _ _ _ _ _ _ _) (i0 _ _ _ _ _)
    · rw [impl_match.l2, impl_match.l2]
      exact LeO.ite (LeO.bind (impl_matcher_look.mono _ _ _ _ _ _ _ _) fun _ => i2 _ _ _ _ _ _ _ _) (i1 _ _ _ _ _ _ _)
theorem impl_match.mono : ∀ p l k, LeO (impl_match.f k p l) (impl_match.f (k + 1) p l) := by
  intro p l k
  unfold impl_match.f
  exact LeO.ite (LeO.bind (impl_parts.mono _ _) fun _ => LeO.bind ((impl_match.mono_l k).1 _ _ _ _ _) fun _ => LeO.refl _) (LeO.refl _)
/-- All rows of one length. -/
def Shape (n : Nat) (rows : List (List Bool)) : Prop := rows.length = n + 1 ∧ ∀ a : Int, 0 ≤ a → a ≤ n → (rows.getD a.toNat []).length = n + 1
theorem Shape.start (n : Nat) : Shape n (List.replicate (n + 1) (List.replicate (n + 1) false)) := by
  refine ⟨by simp, fun a a0 a1 => ?_⟩
  rw [List.getD_eq_getElem?_getD, List.getElem?_replicate, if_pos (by omega)]
  simp
theorem Shape.put {n : Nat} {rows : List (List Bool)} (h : Shape n rows) (a : Int) (x : Int) (u : Bool) : Shape n (rows.set a.toNat ((rows.getD a.toNat []).set x.toNat u)) := by
  refine ⟨by rw [List.length_set]; exact h.1, fun b b0 b1 => ?_⟩
  by_cases e : a.toNat = b.toNat
  · have hl := h.1
    have := h.2 b b0 b1
    rw [← e, List.getD_eq_getElem?_getD, List.getElem?_set_self (by omega)]
    rw [← e] at this
    simpa using this
  · rw [List.getD_eq_getElem?_getD, List.getElem?_set_ne e, ← List.getD_eq_getElem?_getD]
    exact h.2 b b0 b1
/-- So many rows are made, the others are none yet. -/
def made (n x : Nat) : List (List Bool) := List.replicate x (List.replicate (n + 1) false) ++ List.replicate (n + 1 - x) []
theorem made_zero (n : Nat) : made n 0 = List.replicate (n + 1) [] := by simp [made]
theorem made_all (n : Nat) : made n (n + 1) = List.replicate (n + 1) (List.replicate (n + 1) false) := by simp [made]
theorem made_length (n x : Nat) (h : x ≤ n + 1) : (made n x).length = n + 1 := by
  unfold made
  rw [List.length_append, List.length_replicate, List.length_replicate]
  omega
theorem made_succ (n x : Nat) (h : x ≤ n) : (made n x).set x (List.replicate (n + 1) false) = made n (x + 1) := by
  unfold made
  generalize List.replicate (n + 1) false = z
  rw [List.set_append_right _ _ (by simp), List.length_replicate, Nat.sub_self, show n + 1 - x = (n - x) + 1 by omega, List.replicate_succ (n := n - x), List.set_cons_zero, show n + 1 - (x + 1) = n - x by omega, List.replicate_succ' (n := x), List.append_assoc]
  rfl
theorem made_put (n : Nat) (x : Int) (x0 : 0 ≤ x) (x1 : x ≤ n) : (made n x.toNat).set x.toNat (List.replicate ((n : Int) + 1).toNat false) = made n (x + 1).toNat := by
  rw [show ((n : Int) + 1).toNat = n + 1 by omega, made_succ n x.toNat (by omega), show (x + 1).toNat = x.toNat + 1 by omega]
theorem impl_match.info2 : (Try.prog.info? 132).map (fun i => (i.zero, i.size, i.bytes)) = some (some (.slice none 0 0), 1, 24) := by kernel_rfl
theorem impl_match.info1 : (Try.prog.info? 131).map (fun i => (i.zero, i.size, i.bytes)) = some (some (.slice none 0 0), 1, 24) := by kernel_rfl
theorem impl_match.info0 : (Try.prog.info? 4).map (fun i => (i.zero, i.size, i.bytes)) = some (some (.bool false), 1, 1) := by kernel_rfl
set_option maxHeartbeats 16000000 in
set_option maxRecDepth 100000 in
theorem impl_match.calls (k : Nat) (A0 : Option Addr) (c0 : Nat) (p : List S89) (A1 : Option Addr) (c1 : Nat) (l : List Int) (q : List (List Int)) (tb : List (List (List Bool))) (w : World) (hr0 : Kd.C k89 w A0 p.length p) (hc0 : p.length ≤ c0) (hr1 : Kd.C (Kd.int .i64) w A1 l.length l) (hc1 : l.length ≤ c1) (h : impl_match.f k p l = some (q, tb)) :
    Calls Try.prog 63 #[.slice A0 p.length c0, .slice A1 l.length c1] w fun e w' => ∃ g : Nat, e = .returned (.pointer (some ⟨g, 0, none⟩)) ∧ Mt w' g p q l tb ∧ Below w.heap.size w w' := by
  unfold impl_match.f at h
  split at h
  case isFalse => cases h
  rename_i hs
  obtain ⟨hpl, hll⟩ := hs
  obtain ⟨⟨q', okq⟩, hq, h2⟩ := Option.bind_eq_some_iff.mp h
  clear h
  obtain ⟨tb', ht, h3⟩ := Option.bind_eq_some_iff.mp h2
  clear h2
  obtain ⟨rfl, rfl⟩ : q' = q ∧ tb' = tb := by simpa using Option.some.inj h3
  clear h3
  have HR0 := Aside0.mk hr0
  have HC0 := Aside0.mk hc0
  have HR1 := Aside0.mk hr1
  have HC1 := Aside0.mk hc1
  have HQ := Aside0.mk hq
  have HH := Aside0.mk ht
  clear hr0 hc0 hr1 hc1 hq ht
  go_enter Try.func63, Try.ntmps63
  go_wp2_with (first | (go_at_call 110; (with_reducible refine (impl_parts.calls k A0 c0 p q' okq _ HR0.out HC0.out HQ.out).mono ?_); rintro e w1 ⟨vl, rfl, hL, hb⟩; obtain ⟨Av, cv, rfl⟩ := Kd.S_slice hL; have HL := Aside0.mk hL; have HB := Aside0.mk hb; clear hL hb) | ((with_reducible refine gate_dst (N := 22) rfl ?_); refine box_event ?hg (N := 22) ?hd (cs := #[.slice A0 p.length c0, .slice Av q'.length cv, .slice A1 l.length c1, .slice none 0 0]) (t := 138) ?hr ?_; (case hd => rfl); (case hg => rfl); (case hr => first | (go_simp; done) | (go_simp; rfl)); intro g hg w2 hbox hb2; have HT := Aside0.mk (show InvT w w2 g A0 c0 p A1 c1 l Av cv q' (.slice none 0 0) [] (fun _ => True) from ⟨hbox, by rw [hg]; exact HB.out.size, Kd.S_below HL.out hb2, Kd.S_nil _ _ _ _ _, below_step HB.out hb2⟩); clear hbox hb2 hg HL HB))
  go_loopg [25] k (fun kq v w' => ∃ (i : Int) (tb1 : List (List (List Bool))) (vt : Value), v = .int .i64 i ∧ 0 ≤ i ∧ i ≤ 1000 ∧ Aside0 (impl_match.l0 kq p q' l tb1 i = some tb') ∧ Aside0 (kq ≤ k) ∧ Aside0 ((tb1.length : Int) = i) ∧ Aside0 (InvT w w' g A0 c0 p A1 c1 l Av cv q' vt tb1 (fun _ => True)))
  case atStart => exact ⟨0, [], _, rfl, by omega, by omega, HH, ⟨Nat.le_refl _⟩, ⟨rfl⟩, HT⟩
  case round =>
    clear HH HT
    obtain ⟨i, tb1, vt, rfl, i0, i1, HA, HK, HL, HT⟩ := hrel
    cases gk with
    | zero => exact absurd HA.out (by simp [impl_match.l0])
    | succ k1 =>
      have H := HA.out
      clear HA
      simp only [impl_match.l0] at H
      by_cases c : i < (p.length : Int)
      · rw [if_pos c] at H
        have H1 := Aside0.mk H
        clear H
        go_wp2_with (first | ((with_reducible refine gate_dst (N := 31) rfl ?_); refine Kd.S_make KB _ 131 rfl (N := 31) rfl 132 _ _ rfl ((l.length : Int) + 1) rfl rfl Try.underlying132 (.slice none 0 0) 24 impl_match.info1 rfl (by decide) (by omega) [] (ok := fun _ => True) (okp := fun _ => True) ⟨_, rfl, Kd.R_nil _ _ _ _ _⟩ (fun _ hk => hk) trivial (by omega) (by omega) (Below.refl _ _) (Nat.le_refl _) ?_; intro vr w3 ho hb hg_ hnew_; clear hg_ hnew_; rw [show List.replicate ((l.length : Int) + 1).toNat ([] : List Bool) = made l.length 0 by rw [made_zero, show ((l.length : Int) + 1).toNat = l.length + 1 by omega]] at ho; obtain ⟨gr, cr, er, _⟩ := Kd.S_form ho (by rw [made_length _ _ (by omega)]; omega); rw [made_length _ _ (by omega)] at er; subst er; have HF := Aside0.mk (InvF.make HT.out ho hb); clear ho hb))
        obtain ⟨N, hN⟩ : ∃ N, wr.heap.size = N := ⟨_, rfl⟩
        rw [hN] at HF
        clear hN HT
        go_loopg [34] (l.length + 1) (fun kq v w' => ∃ x : Int, v = .int .i64 x ∧ 0 ≤ x ∧ x ≤ (l.length : Int) + 1 ∧ Aside0 ((l.length : Int) + 1 - x ≤ kq) ∧ Aside0 (InvF w w' g A0 c0 p A1 c1 l Av cv q' vt tb1 N (.slice (some ⟨gr, 0, none⟩) (l.length + 1) cr) (made l.length x.toNat)))
        case atStart => exact ⟨0, rfl, by omega, by omega, ⟨by omega⟩, HF⟩
        case round =>
          clear HF
          obtain ⟨x, rfl, x0, x1, HG, HF⟩ := hrel
          by_cases cx : x < (l.length : Int) + 1
          · cases gk with
            | zero => exact absurd HG.out (by omega)
            | succ j =>
              go_wp2_with (first | ((with_reducible refine gate_dst (N := 42) rfl ?_); refine Kd.R_make Kd.bool _ 4 rfl (N := 42) rfl 131 _ _ rfl ((l.length : Int) + 1) rfl rfl Try.underlying131 (.bool false) 1 impl_match.info0 rfl (by decide) (by omega) false (ok := fun _ => True) (okp := fun _ => True) rfl (fun _ hk => hk) trivial (by omega) (by omega) (Below.refl _ _) (Nat.le_refl _) ?_; intro v w4 ho hb hg_ hnew_; clear hg_ hnew_; obtain ⟨Av2, cv2, rfl⟩ := Kd.R_slice ho; obtain ⟨⟨old, hcell⟩, hfr, hnx⟩ := HF.out.put hb ho x0 (by omega); rw [made_put _ _ x0 (by omega), show (List.replicate ((l.length : Int) + 1).toNat false).length = l.length + 1 by rw [List.length_replicate]; omega] at hnx; have HN := Aside0.mk hnx; clear ho hb hnx))
              go_roundg j
              case measure => omega
              case rel => exact ⟨x + 1, rfl, by omega, by omega, ⟨by have := HG.out; omega⟩, HN⟩
          · obtain rfl : x = (l.length : Int) + 1 := by omega
            rw [show ((l.length : Int) + 1).toNat = l.length + 1 by omega, made_all] at HF
            clear HG
            obtain ⟨At, ct, rfl⟩ := Kd.S_slice HF.out.t.ta
            have hcz : wr.cell? ⟨g, 3, none⟩ = some (.slice At tb1.length ct) := (blk_cell HF.out.t.blk 3).trans rfl
            go_wp2_with (first | ((with_reducible refine gate_builtin (b := .append) (xs := #[.tmp 49, .tmp 51]) rfl ?_); at_builtin; refine H_append KT rfl (w0 := w) w.heap.size rfl (.tmp 49) (.tmp 51) 136 132 (.slice none 0 0) 24 rfl Try.underlying136 impl_match.info2 rfl (by omega) (.slice At tb1.length ct) tb1 [] (.slice (some ⟨gr, 0, none⟩) (l.length + 1) cr) rfl (fun k => k ≠ g) (fun k => N ≤ k ∧ k < wr.heap.size) rfl rfl ?aK ?aF ?aO ?aB ?aS ?aL ?_; (case aK => exact fun k hk => ⟨fun e => by have := HF.out.gn; omega, hk.2⟩); (case aF => exact fun k hk e => by have := HF.out.gn; have := HF.out.n; omega); (case aO => exact Kd.S_mono (Kd.S_types HF.out.t.ta HF.out.t.blk (by decide)) (fun k hk => ⟨hk.2, by have := hk.1; omega⟩)); (case aB => exact HF.out.t.be); (case aS => exact HF.out.t.be.size); (case aL => have := HL.out; omega); intro v1 w6 hH hb hg hat; obtain ⟨A3, c3, e3⟩ := Kd.R_slice hH.2.choose_spec; simp only [List.length_zipIdx, List.length_append, List.length_singleton] at e3; subst e3; obtain ⟨hblk, hI⟩ := HF.out.append hH hb hg; have hcz6 : w6.cell? ⟨g, 3, none⟩ = some (.slice At tb1.length ct) := (blk_cell hblk 3).trans rfl; have hfz6 := blk_frozen hblk 3; have HI := Aside0.mk hI; clear hH hb hg hat hblk hI))
            obtain ⟨okR, hokR⟩ : ∃ okR : Nat → Prop, okR = (fun k => N ≤ k ∧ k < wr.heap.size) := ⟨_, rfl⟩
            rw [← hokR] at HI
            clear hokR
            go_loopg [11] k1 (fun kq v w' => ∃ (a : Int) (rows : List (List Bool)), v = .int .i64 a ∧ -1 ≤ a ∧ a ≤ l.length ∧ Aside0 (impl_match.l1 kq p q' l tb1 i rows a = some tb') ∧ Aside0 (kq ≤ k1) ∧ Aside0 (Shape l.length rows) ∧ Aside0 (InvH w w' g A0 c0 p A1 c1 l Av cv q' (.slice A3 (tb1.length + 1) c3) tb1 okR (.slice (some ⟨gr, 0, none⟩) (l.length + 1) cr) rows))
            case atStart => exact ⟨l.length, _, rfl, by omega, by omega, H1, ⟨Nat.le_refl _⟩, ⟨Shape.start _⟩, HI⟩
            case round =>
              clear HI H1 hcz hcz6 hfz6 HF
              obtain ⟨a, rows, rfl, a0, a1, HA, HK2, HS, HI⟩ := hrel
              cases gk with
              | zero => exact absurd HA.out (by simp [impl_match.l1])
              | succ k2 =>
                have H := HA.out
                clear HA
                simp only [impl_match.l1] at H
                by_cases c2 : 0 ≤ a
                · rw [if_pos c2] at H
                  have H2 := Aside0.mk H
                  clear H
                  go_wp2
                  go_loopg [12] k2 (fun kq v w' => ∃ (x : Int) (rows : List (List Bool)), v = .int .i64 x ∧ 0 ≤ x ∧ x ≤ l.length + 1 ∧ Aside0 (impl_match.l2 kq p q' l tb1 i rows a x = some tb') ∧ Aside0 (kq ≤ k2) ∧ Aside0 (Shape l.length rows) ∧ Aside0 (InvH w w' g A0 c0 p A1 c1 l Av cv q' (.slice A3 (tb1.length + 1) c3) tb1 okR (.slice (some ⟨gr, 0, none⟩) (l.length + 1) cr) rows))
                  case atStart => exact ⟨a, rows, rfl, by omega, by omega, H2, ⟨Nat.le_refl _⟩, HS, HI⟩
                  case round =>
                    clear H2 HI HS rows
                    obtain ⟨x, rows, rfl, x0, x1, HA, HK3, HS, HI⟩ := hrel
                    cases gk with
                    | zero => exact absurd HA.out (by simp [impl_match.l2])
                    | succ k3 =>
                      have H := HA.out
                      clear HA
                      simp only [impl_match.l2] at H
                      by_cases c3 : x ≤ (l.length : Int)
                      · rw [if_pos c3] at H
                        obtain ⟨u, hu, H3⟩ := Option.bind_eq_some_iff.mp H
                        clear H
                        have HU := Aside0.mk hu
                        have H' := Aside0.mk H3
                        clear hu H3
                        have hrl := HS.out.2 a c2 (by omega)
                        obtain ⟨gb, cb, hx1⟩ := HI.out.get c2 (by omega) (by rw [hrl]; omega)
                        rw [hrl] at hx1
                        have HRL := Aside0.mk hrl
                        clear hrl
                        have hx1d : wr.drew.cell? ⟨gr, a.toNat, none⟩ = some (.slice (some ⟨gb, 0, none⟩) (l.length + 1) cb) := hx1
                        have HID := Aside0.mk (HI.out.below (below_drew (Below.refl wr.heap.size wr)))
                        clear HI hx1
                        have ha3 : a < (l.length : Int) + 1 := by omega
                        have hx3 : x < (l.length : Int) + 1 := by omega
                        go_wp2_with fail
                        refine start_ (n := 12) (S := fun w' => w'.cell? ⟨gr, a.toNat, none⟩ = some (.slice (some ⟨gb, 0, none⟩) (l.length + 1) cb)) (ds := [11]) #[false, false, false, false, false, false, false, false, false, false, false, false] (by kernel_rfl) rfl rfl (hx1d) (fun hHeld => ?_)
                        generalize wr.drew = w7 at HID hx1d hHeld ⊢
                        refine pure_ (i := 0) (N := some 68) (v := ?_) (a' := ?_) #[true, false, false, false, false, false, false, false, false, false, false, false] rfl rfl (by kernel_rfl) (fun _ _ _ h => h) (Or.inl ⟨by rfl, ?_⟩) ?_ ?_
                        rotate_left
                        · intro w'
                          go_simp
                          with_reducible rfl
                        rotate_left
                        · simp only [Act.put, List.setIfInBounds_toArray, List.set_cons_zero, List.set_cons_succ, i64_w, i32_w]
                          rfl
                        refine pure_ (i := 1) (N := some 69) (v := ?_) (a' := ?_) #[true, true, false, false, false, false, false, false, false, false, false, false] rfl rfl (by kernel_rfl) (fun _ _ _ h => h) (Or.inl ⟨by rfl, ?_⟩) ?_ ?_
                        rotate_left
                        · intro w'
                          go_simp
                          with_reducible rfl
                        rotate_left
                        · simp only [Act.put, List.setIfInBounds_toArray, List.set_cons_zero, List.set_cons_succ, i64_w, i32_w]
                          rfl
                        refine pure_ (i := 2) (N := some 70) (v := ?_) (a' := ?_) #[true, true, true, false, false, false, false, false, false, false, false, false] rfl rfl (by kernel_rfl) (fun _ _ _ h => h) (Or.inl ⟨by rfl, ?_⟩) ?_ ?_
                        rotate_left
                        · intro w'
                          go_simp
                          with_reducible rfl
                        rotate_left
                        · simp only [Act.put, List.setIfInBounds_toArray, List.set_cons_zero, List.set_cons_succ, i64_w, i32_w]
                          rfl
                        refine pure_ (i := 4) (N := some 72) (v := ?_) (a' := ?_) #[true, true, true, false, true, false, false, false, false, false, false, false] rfl rfl (by kernel_rfl) (fun _ _ _ h => h) (Or.inl ⟨by rfl, ?_⟩) ?_ ?_
                        rotate_left
                        · intro w'
                          go_simp
                          with_reducible rfl
                        rotate_left
                        · simp only [Act.put, List.setIfInBounds_toArray, List.set_cons_zero, List.set_cons_succ, i64_w, i32_w]
                          rfl
                        refine pure_ (i := 5) (N := some 73) (v := ?_) (a' := ?_) #[true, true, true, false, true, true, false, false, false, false, false, false] rfl rfl (by kernel_rfl) (fun _ _ _ h => h) (Or.inl ⟨by rfl, ?_⟩) ?_ ?_
                        rotate_left
                        · intro w'
                          go_simp
                          with_reducible rfl
                        rotate_left
                        · simp only [Act.put, List.setIfInBounds_toArray, List.set_cons_zero, List.set_cons_succ, i64_w, i32_w]
                          rfl
                        refine pure_ (i := 6) (N := some 74) (v := ?_) (a' := ?_) #[true, true, true, false, true, true, true, false, false, false, false, false] rfl rfl (by kernel_rfl) (fun _ _ _ h => h) (Or.inl ⟨by rfl, ?_⟩) ?_ ?_
                        rotate_left
                        · intro w'
                          go_simp
                          with_reducible rfl
                        rotate_left
                        · simp only [Act.put, List.setIfInBounds_toArray, List.set_cons_zero, List.set_cons_succ, i64_w, i32_w]
                          rfl
                        refine pure_ (i := 7) (N := some 75) (v := ?_) (a' := ?_) #[true, true, true, false, true, true, true, true, false, false, false, false] rfl rfl (by kernel_rfl) (fun _ _ _ h => h) (Or.inl ⟨by rfl, ?_⟩) ?_ ?_
                        rotate_left
                        · intro w'
                          go_simp
                          with_reducible rfl
                        rotate_left
                        · simp only [Act.put, List.setIfInBounds_toArray, List.set_cons_zero, List.set_cons_succ, i64_w, i32_w]
                          rfl
                        refine pure_ (i := 8) (N := some 76) (v := ?_) (a' := ?_) #[true, true, true, false, true, true, true, true, true, false, false, false] rfl rfl (by kernel_rfl) (fun _ _ _ h => h) (Or.inl ⟨by rfl, ?_⟩) ?_ ?_
                        rotate_left
                        · intro w'
                          go_simp
                          with_reducible rfl
                        rotate_left
                        · simp only [Act.put, List.setIfInBounds_toArray, List.set_cons_zero, List.set_cons_succ, i64_w, i32_w]
                          rfl
                        refine take_ (i := 3) (N := some 71) (v := ?_) (a' := ?_) #[true, true, true, true, true, true, true, true, true, false, false, false] rfl rfl (by kernel_rfl) (fun _ _ _ h => h) (Or.inl ⟨by rfl, ?_⟩) hHeld ?_ ?_
                        rotate_left
                        · intro w' s0
                          go_simp
                          with_reducible rfl
                        rotate_left
                        · simp only [Act.put, List.setIfInBounds_toArray, List.set_cons_zero, List.set_cons_succ, i64_w, i32_w]
                          rfl
                        refine one_ (i := 9) (N := some 77) #[true, true, true, true, true, true, true, true, true, true, false, false] rfl rfl (by kernel_rfl) (by decide) (fun K hK => ?_)
                        refine goes_ Try.func111 (by kernel_rfl) rfl #[.pointer (some ⟨g, 0, none⟩), .int .i64 i, .int .i64 a, .int .i64 x] (by rfl) rfl rfl (by simp only [List.map_toArray, List.map_cons, List.map_nil]; rfl) ?_
                        with_reducible refine (impl_matcher_look.calls k3 g p q' l (tb1 ++ [rows]) i a x u _ (HID.out.mt HR0.out HC0.out HR1.out HC1.out) HU.out).mono ?_
                        rintro e w8 ⟨rfl, hb⟩
                        refine ⟨_, rfl, ?_⟩
                        have HI2 := Aside0.mk (HID.out.below hb)
                        obtain ⟨⟨old, hcell⟩, hfr, hput⟩ := HI2.out.put ((hb.cell (World.block_lt_of_cell? _ _ hx1d)).trans hx1d) c2 (by omega) x0 (by rw [HRL.out]; omega)
                        have HN := Aside0.mk (hput u)
                        clear hput
                        refine hK.out _ _ ((hb.cell (World.block_lt_of_cell? _ _ hx1d)).trans hx1d) (fun hHeld => ?_)
                        clear hK K
                        refine norm_ (a' := ?_) ?_ ?_
                        rotate_left
                        · show Act.put _ (some 77) _ = _
                          simp only [Act.put, List.setIfInBounds_toArray, List.set_cons_zero, List.set_cons_succ, i64_w, i32_w]
                          rfl
                        refine pure_ (i := 10) (N := some 78) (v := ?_) (a' := ?_) #[true, true, true, true, true, true, true, true, true, true, true, false] rfl rfl (by kernel_rfl) (fun _ _ _ h => h) (Or.inl ⟨by rfl, ?_⟩) ?_ ?_
                        rotate_left
                        · intro w'
                          go_simp
                          with_reducible rfl
                        rotate_left
                        · simp only [Act.put, List.setIfInBounds_toArray, List.set_cons_zero, List.set_cons_succ, i64_w, i32_w]
                          rfl
                        refine last_ (i := 11) (N := none) #[true, true, true, true, true, true, true, true, true, true, true, true] rfl rfl (by kernel_rfl) (by decide) (fun K hK => ?_)
                        refine skip_ (w1 := ?_) (by rfl) rfl ?_ ?_
                        rotate_left
                        · go_simp
                          rfl
                        refine hK.out _ _ ?_
                        clear hK K
                        refine done_ (by kernel_rfl) ?_
                        go_wp2
                        go_roundg k3
                        case measure => have := HK3.out; omega
                        case rel => exact ⟨x + 1, _, rfl, by omega, by omega, H', ⟨by have := HK3.out; omega⟩, ⟨HS.out.put a x u⟩, HN⟩
                      · rw [if_neg c3] at H
                        have H' := Aside0.mk H
                        clear H
                        go_wp2
                        go_roundg k3
                        case measure => have := HK2.out; have := HK3.out; omega
                        case rel => exact ⟨a - 1, _, rfl, by omega, by omega, H', ⟨by have := HK2.out; have := HK3.out; omega⟩, HS, HI⟩
                · rw [if_neg c2] at H
                  have H2 := Aside0.mk H
                  clear H
                  have HT := Aside0.mk HI.out.close
                  clear HI
                  go_wp2
                  go_roundg k2
                  case measure => have := HK2.out; omega
                  case rel => exact ⟨i + 1, _, _, rfl, by omega, by omega, H2, ⟨by have := HK.out; have := HK2.out; omega⟩, ⟨by have := HL.out; simp; omega⟩, HT⟩
      · rw [if_neg c] at H
        obtain rfl := Option.some.inj H
        clear H
        go_wp2
        go_ret
        exact ⟨g, rfl, HT.out.mt HR0.out HC0.out HR1.out HC1.out, HT.out.be⟩

/-! ### impl_matcher_longest: function 69 (given) -/
def impl_matcher_longest.l0 (tbl : List (List (List Bool))) (node a : Int) : Nat → Int → Option Int
  | 0, _ => none
  | k + 1, x => if a ≤ x then ((impl_matcher_has.f tbl node a x).bind fun u => if u = true then some x else impl_matcher_longest.l0 tbl node a k (x - 1)) else some (-1)
def impl_matcher_longest.f (k : Nat) (p : List S89) (tbl : List (List (List Bool))) (a b : Int) : Option Int :=
  if (p.length ≤ 1000000) ∧ (0 ≤ a ∧ a ≤ 1000000) ∧ (-1 ≤ b ∧ b ≤ 1000000) then impl_matcher_longest.l0 tbl ((p.length : Int) - 1) a k b else none
theorem impl_matcher_longest.l0_mono (tbl : List (List (List Bool))) (node a : Int) : ∀ k x, LeO (impl_matcher_longest.l0 tbl node a k x) (impl_matcher_longest.l0 tbl node a (k + 1) x)
  | 0, _ => LeO.none _
  | k + 1, x => by
    unfold impl_matcher_longest.l0
    exact LeO.ite (LeO.bind (LeO.refl _) fun _ => LeO.ite (LeO.refl _) (impl_matcher_longest.l0_mono tbl node a k _)) (LeO.refl _)
theorem impl_matcher_longest.mono : ∀ p tbl a b k, LeO (impl_matcher_longest.f k p tbl a b) (impl_matcher_longest.f (k + 1) p tbl a b) := by
  intro p tbl a b k
  unfold impl_matcher_longest.f
  exact LeO.ite (impl_matcher_longest.l0_mono _ _ _ _ _) (LeO.refl _)
set_option maxHeartbeats 8000000 in
theorem impl_matcher_longest.calls (k : Nat) (g : Nat) (p : List S89) (parts : List (List Int)) (l : List Int) (tbl : List (List (List Bool))) (a b : Int) (r : Int) (w : World) (hM : Mt w g p parts l tbl) (h : impl_matcher_longest.f k p tbl a b = some r) :
    Calls Try.prog 69 #[.pointer (some ⟨g, 0, none⟩), .int .i64 a, .int .i64 b] w fun e w' => e = .returned (.int .i64 r) ∧ w = w' := by
  unfold impl_matcher_longest.f at h
  split at h
  case isFalse => cases h
  rename_i hs
  obtain ⟨hp, ⟨ha, ha2⟩, ⟨hb, hb2⟩⟩ := hs
  have HM := Aside0.mk hM
  have HH := Aside0.mk h
  obtain ⟨A0, c0, A1, c1, A2, c2, A3, c3, hblk, _⟩ := hM.h
  have z0 : w.cell? ⟨g, 0, none⟩ = some (.slice A0 p.length c0) := (blk_cell hblk 0).trans rfl
  clear hM h hblk
  go_enter Try.func69, Try.ntmps69
  go_wp2_with fail
  go_loopg [7] k (fun kq v w' => ∃ x : Int, v = .int .i64 x ∧ w = w' ∧ Aside0 (impl_matcher_longest.l0 tbl ((p.length : Int) - 1) a kq x = some r) ∧ Aside0 (kq ≤ k) ∧ -1 ≤ x ∧ x ≤ 1000000)
  case atStart => exact ⟨b, rfl, rfl, HH, ⟨Nat.le_refl _⟩, by omega, by omega⟩
  case round =>
    clear HH
    obtain ⟨x, rfl, rfl, HA, HK, x0, x1⟩ := hrel
    cases gk with
    | zero => exact absurd HA.out (by simp [impl_matcher_longest.l0])
    | succ k1 =>
      have H := HA.out
      clear HA
      simp only [impl_matcher_longest.l0] at H
      by_cases c : a ≤ x
      · rw [if_pos c] at H
        obtain ⟨u, hu, H⟩ := Option.bind_eq_some_iff.mp H
        have HU := Aside0.mk hu
        clear hu
        cases u with
        | false =>
          rw [if_neg (by simp)] at H
          have H' := Aside0.mk H
          clear H
          go_wp2_with (go_at_call 82; (with_reducible refine (impl_matcher_has.calls g p parts l tbl ((p.length : Int) - 1) a x false _ HM.out HU.out).mono ?_); rintro e w' ⟨rfl, rfl⟩)
          go_roundg k1
          case measure => have := HK.out; omega
          case rel => exact ⟨x - 1, rfl, rfl, H', ⟨by have := HK.out; omega⟩, by omega, by omega⟩
        | true =>
          rw [if_pos rfl] at H
          obtain rfl := Option.some.inj H
          clear H
          go_wp2_with (go_at_call 82; (with_reducible refine (impl_matcher_has.calls g p parts l tbl ((p.length : Int) - 1) a x true _ HM.out HU.out).mono ?_); rintro e w' ⟨rfl, rfl⟩)
          go_ret
          exact ⟨rfl, rfl⟩
      · rw [if_neg c] at H
        obtain rfl := Option.some.inj H
        clear H
        go_wp2
        go_ret
        exact ⟨rfl, rfl⟩

/-! ### impl_matcher_find: function 64 (given) -/
def impl_matcher_find.l0 (kk : Nat) (p : List S89) (tbl : List (List (List Bool))) (b : Int) : Nat → Int → Option (Int × Int × Bool)
  | 0, _ => none
  | k + 1, x => if x ≤ b then ((impl_matcher_longest.f kk p tbl x b).bind fun u => if 0 ≤ u then some (x, u, true) else impl_matcher_find.l0 kk p tbl b k (x + 1)) else some (0, 0, false)
def impl_matcher_find.f (k : Nat) (p : List S89) (tbl : List (List (List Bool))) (a b : Int) : Option (Int × Int × Bool) :=
  if (0 ≤ a ∧ a ≤ 1000000) ∧ (-1 ≤ b ∧ b ≤ 1000000) then impl_matcher_find.l0 k p tbl b k a else none
theorem impl_matcher_find.l0_mono (p : List S89) (tbl : List (List (List Bool))) (b : Int) (kk : Nat) : ∀ k x, LeO (impl_matcher_find.l0 kk p tbl b k x) (impl_matcher_find.l0 (kk + 1) p tbl b (k + 1) x)
  | 0, _ => LeO.none _
  | k + 1, x => by
    rw [impl_matcher_find.l0, impl_matcher_find.l0]
    exact LeO.ite (LeO.bind (impl_matcher_longest.mono _ _ _ _ _) fun _ => LeO.ite (LeO.refl _) (impl_matcher_find.l0_mono p tbl b kk k _)) (LeO.refl _)
theorem impl_matcher_find.mono : ∀ p tbl a b k, LeO (impl_matcher_find.f k p tbl a b) (impl_matcher_find.f (k + 1) p tbl a b) := by
  intro p tbl a b k
  unfold impl_matcher_find.f
  exact LeO.ite (impl_matcher_find.l0_mono _ _ _ _ _ _) (LeO.refl _)
set_option maxHeartbeats 8000000 in
theorem impl_matcher_find.calls (k : Nat) (g : Nat) (p : List S89) (parts : List (List Int)) (l : List Int) (tbl : List (List (List Bool))) (a b : Int) (r1 r2 : Int) (r3 : Bool) (w : World) (hM : Mt w g p parts l tbl) (h : impl_matcher_find.f k p tbl a b = some (r1, r2, r3)) :
    Calls Try.prog 64 #[.pointer (some ⟨g, 0, none⟩), .int .i64 a, .int .i64 b] w fun e w' => e = .returned (.tuple #[.int .i64 r1, .int .i64 r2, .bool r3]) ∧ w = w' := by
  unfold impl_matcher_find.f at h
  split at h
  case isFalse => cases h
  rename_i hs
  obtain ⟨⟨ha, ha2⟩, ⟨hb, hb2⟩⟩ := hs
  have HM := Aside0.mk hM
  have HH := Aside0.mk h
  clear hM h
  go_enter Try.func64, Try.ntmps64
  go_wp2_with fail
  go_loopg [1] k (fun kq v w' => ∃ x : Int, v = .int .i64 x ∧ w = w' ∧ Aside0 (impl_matcher_find.l0 k p tbl b kq x = some (r1, r2, r3)) ∧ Aside0 (kq ≤ k) ∧ 0 ≤ x ∧ x ≤ 2000000)
  case atStart => exact ⟨a, rfl, rfl, HH, ⟨Nat.le_refl _⟩, by omega, by omega⟩
  case round =>
    clear HH
    obtain ⟨x, rfl, rfl, HA, HK, x0, x1⟩ := hrel
    cases gk with
    | zero => exact absurd HA.out (by simp [impl_matcher_find.l0])
    | succ k1 =>
      have H := HA.out
      clear HA
      simp only [impl_matcher_find.l0] at H
      by_cases c : x ≤ b
      · rw [if_pos c] at H
        obtain ⟨u, hu, H⟩ := Option.bind_eq_some_iff.mp H
        have HU := Aside0.mk hu
        clear hu
        by_cases c2 : 0 ≤ u
        · rw [if_pos c2] at H
          obtain ⟨rfl, rfl, rfl⟩ : x = r1 ∧ u = r2 ∧ true = r3 := by simpa using Option.some.inj H
          clear H
          go_wp2_with (go_at_call 69; (with_reducible refine (impl_matcher_longest.calls k g p parts l tbl x b u _ HM.out HU.out).mono ?_); rintro e w' ⟨rfl, rfl⟩)
          go_ret3
          exact ⟨rfl, rfl⟩
        · rw [if_neg c2] at H
          have H' := Aside0.mk H
          clear H
          go_wp2_with (go_at_call 69; (with_reducible refine (impl_matcher_longest.calls k g p parts l tbl x b u _ HM.out HU.out).mono ?_); rintro e w' ⟨rfl, rfl⟩)
          go_roundg k1
          case measure => have := HK.out; omega
          case rel => exact ⟨x + 1, rfl, rfl, H', ⟨by have := HK.out; omega⟩, by omega, by omega⟩
      · rw [if_neg c] at H
        obtain ⟨rfl, rfl, rfl⟩ : 0 = r1 ∧ 0 = r2 ∧ false = r3 := by simpa using Option.some.inj H
        clear H
        go_wp2
        go_ret3
        exact ⟨rfl, rfl⟩

/-! ### impl_FindIn: function 17 (given) -/
def impl_FindIn.f (k : Nat) (l0 : List S89) (l1 : List Int) : Option (Int × Int × Bool) := (impl_canFind.f k l0 l1).bind fun t => if t = true then ((impl_match.f k l0 l1).bind fun m => impl_matcher_find.f k l0 m.2 0 l1.length) else some (0, 0, false)
theorem impl_FindIn.mono : ∀ a0 a1 k, LeO (impl_FindIn.f k a0 a1) (impl_FindIn.f (k + 1) a0 a1) := by
  intro a0 a1 k
  unfold impl_FindIn.f
  exact LeO.bind (impl_canFind.mono _ _ _) fun _ => LeO.ite (LeO.bind (impl_match.mono _ _ _) fun _ => impl_matcher_find.mono _ _ _ _ _) (LeO.refl _)
set_option maxHeartbeats 8000000 in
set_option maxRecDepth 100000 in
theorem impl_FindIn.calls (k : Nat) (A0 : Option Addr) (c0 : Nat) (l0 : List S89) (A1 : Option Addr) (c1 : Nat) (l1 : List Int) (r1 : Int) (r2 : Int) (r3 : Bool) (w : World) (hr0 : Kd.C k89 w A0 l0.length l0) (hc0 : l0.length ≤ c0) (hr1 : Kd.C (Kd.int .i64) w A1 l1.length l1) (hc1 : l1.length ≤ c1) (h : impl_FindIn.f k l0 l1 = some (r1, r2, r3)) :
    Calls Try.prog 17 #[.slice A0 l0.length c0, .slice A1 l1.length c1] w fun e w' => e = .returned (.tuple #[.int .i64 r1, .int .i64 r2, .bool r3]) ∧ Below w.heap.size w w' := by
  have HR0 := Aside0.mk hr0
  have HC0 := Aside0.mk hc0
  have HR1 := Aside0.mk hr1
  have HC1 := Aside0.mk hc1
  unfold impl_FindIn.f at h
  obtain ⟨t, ht, h2⟩ := Option.bind_eq_some_iff.mp h
  have HT := Aside0.mk ht
  clear hr0 hc0 hr1 hc1 h ht
  cases t with
  | false =>
    rw [if_neg (by simp)] at h2
    obtain ⟨rfl, rfl, rfl⟩ : 0 = r1 ∧ 0 = r2 ∧ false = r3 := by simpa using Option.some.inj h2
    clear h2
    go_enter Try.func17, Try.ntmps17
    go_wp2_with (go_at_call 62; (with_reducible refine (impl_canFind.calls k A0 c0 l0 A1 c1 l1 false _ HR0.out HC0.out HR1.out HC1.out HT.out).mono ?_); rintro e w1 ⟨rfl, hb⟩; have HB := Aside0.mk hb; clear hb)
    go_ret3
    exact ⟨rfl, HB.out⟩
  | true =>
    rw [if_pos rfl] at h2
    obtain ⟨⟨q, tb⟩, hm, h3⟩ := Option.bind_eq_some_iff.mp h2
    have HM := Aside0.mk hm
    have HF := Aside0.mk h3
    clear h2 hm h3
    go_enter Try.func17, Try.ntmps17
    go_wp2_with (first | (go_at_call 62; (with_reducible refine (impl_canFind.calls k A0 c0 l0 A1 c1 l1 true _ HR0.out HC0.out HR1.out HC1.out HT.out).mono ?_); rintro e w1 ⟨rfl, hb⟩; have HB := Aside0.mk hb; clear hb) | (go_at_call 63; (with_reducible refine (impl_match.calls k A0 c0 l0 A1 c1 l1 q tb _ (Kd.C_below HR0.out HB.out) HC0.out (Kd.C_below HR1.out HB.out) HC1.out HM.out).mono ?_); rintro e w2 ⟨g, rfl, hmt, hb⟩; have HMt := Aside0.mk hmt; have HB2 := Aside0.mk (below_step HB.out hb); clear hb hmt) | (go_at_call 64; (with_reducible refine (impl_matcher_find.calls k g l0 q l1 tb 0 l1.length r1 r2 r3 _ HMt.out HF.out).mono ?_); rintro e w' ⟨rfl, rfl⟩))
    go_ret3
    exact ⟨rfl, HB2.out⟩

/-! ### laws_eqIntS: function 19 -/
abbrev tt26 : Bool := true
abbrev ff26 : Bool := false
def laws_eqIntS.l0 : Nat → List Int → List Int → Int → Option (Bool)
 | 0, _, _, _ => none
 | k + 1, x0, x1, x5 => if x5 < (x0.length : Int) then (if 0 ≤ x5 then (if x5 < (x1.length : Int) then (if (rd x0 x5) = (rd x1 x5) then (laws_eqIntS.l0 k x0 x1 (wrap64 (x5 + 1))) else (some false)) else (none)) else (none)) else (some true)
def laws_eqIntS.f (k : Nat) (l0 : List Int) (l1 : List Int) : Option (Bool) := if (l0.length : Int) = (l1.length : Int) then (laws_eqIntS.l0 k l0 l1 0) else (some false)
theorem laws_eqIntS.mono_l : ∀ k, (∀ y0 y1 y2, LeO (laws_eqIntS.l0 k y0 y1 y2) (laws_eqIntS.l0 (k + 1) y0 y1 y2))
 | 0 => fun _ _ _ r h => by simp [laws_eqIntS.l0] at h
 | k + 1 => by
  have ih0 := laws_eqIntS.mono_l k
  ·intro y0 y1 y2
   unfold laws_eqIntS.l0
   repeat' first
   | (with_reducible exact ih0 _ _ _)
   | (with_reducible exact LeO.refl _)
   | (with_reducible exact LeO.none _)
   | (with_reducible refine LeO.ite ?_ ?_)
   | (with_reducible refine LeO.bind ?_ (fun _ => ?_))
   | exact ih0 _ _ _
   | exact LeO.none _
   | refine LeO.ite ?_ ?_
   | refine LeO.bind ?_ (fun _ => ?_)
theorem laws_eqIntS.mono : ∀ a0 a1 k, LeO (laws_eqIntS.f k a0 a1) (laws_eqIntS.f (k + 1) a0 a1) := by
 intro a0 a1 k
 have ih0 := laws_eqIntS.mono_l k
 unfold laws_eqIntS.f
 repeat' first
   | (with_reducible exact ih0 _ _ _)
   | (with_reducible exact LeO.refl _)
   | (with_reducible exact LeO.none _)
   | (with_reducible refine LeO.ite ?_ ?_)
   | (with_reducible refine LeO.bind ?_ (fun _ => ?_))
   | exact ih0 _ _ _
   | exact LeO.none _
   | refine LeO.ite ?_ ?_
   | refine LeO.bind ?_ (fun _ => ?_)
set_option maxHeartbeats 8000000 in
set_option maxRecDepth 100000 in
theorem laws_eqIntS.calls (k : Nat) (A0 : Option Addr) (c0 : Nat) (l0 : List Int) (A1 : Option Addr) (c1 : Nat) (l1 : List Int) (r : Bool) (w : World) (hr0 : Kd.C (Kd.int .i64) w A0 l0.length l0) (hc0 : l0.length ≤ c0) (hr1 : Kd.C (Kd.int .i64) w A1 l1.length l1) (hc1 : l1.length ≤ c1) (h : laws_eqIntS.f k l0 l1 = some r) :
  Calls Try.prog 19 #[.slice A0 l0.length c0, .slice A1 l1.length c1] w fun e w' => e = .returned (.bool r) ∧ Drawn0 w w' := by
 have HR0 := Aside0.mk hr0
 have HC0 := Aside0.mk hc0
 clear hr0 hc0
 have HR1 := Aside0.mk hr1
 have HC1 := Aside0.mk hc1
 clear hr1 hc1
 have H : (if (l0.length : Int) = (l1.length : Int) then (laws_eqIntS.l0 k l0 l1 0) else (some false)) = some r := h
 clear h
 by_cases c3 : (l0.length : Int) = (l1.length : Int)
 ·rw [if_pos c3] at H
  have c3b0 : ((l0.length : Int) == (l1.length : Int)) = true := beq_iff_eq.mpr c3
  have c3b1 : ((l0.length : Int) != (l1.length : Int)) = false := bne_eq_false_iff_eq.mpr c3
  have c3b2 : (l0.length == l1.length) = true := by first | simpa using c3 | (simp at c3 ⊢; omega)
  clear c3
  have H' := Aside0.mk H
  clear H
  go_enter Try.func19, Try.ntmps19
  go_wp2
  repeat (go_quiet (fail); try go_wp2)
  go_loopg [5] k (fun kq v5 w' => ∃ (x5_1 : Int), v5 = .int .i64 x5_1 ∧ Aside0 (laws_eqIntS.l0 kq l0 l1 x5_1 = some r) ∧ Aside0 (kq ≤ k) ∧ Drawn0 w w')
  case atStart => exact ⟨(0), (by first | rfl | (simp; done) | (simp [*]; done)), H', ⟨Nat.le_refl _⟩, by repeat (first | exact Drawn0.refl _ | apply Drawn0.step)⟩
  case round =>
   clear H'
   try clear c1
   try clear p2
   try clear c3
   try clear c3b0
   try clear c3b1
   try clear c3b2
   obtain ⟨x5_1, rfl, HA, HK1, ⟨m1, rfl⟩⟩ := hrel
   cases gk with
   | zero => exact absurd HA.out (by simp [laws_eqIntS.l0])
   | succ k1 =>
    have H := HA.out
    clear HA
    simp only [laws_eqIntS.l0] at H
    by_cases c4 : x5_1 < (l0.length : Int)
    ·rw [if_pos c4] at H
     have c4b0 : decide (x5_1 < (l0.length : Int)) = true := decide_eq_true c4
     clear c4
     by_cases c5 : 0 ≤ x5_1
     ·rw [if_pos c5] at H
      have c5b0 : decide (0 ≤ x5_1) = true := decide_eq_true c5
      clear c5
      by_cases c6 : x5_1 < (l1.length : Int)
      ·rw [if_pos c6] at H
       have c6b0 : decide (x5_1 < (l1.length : Int)) = true := decide_eq_true c6
       clear c6
       by_cases c7 : (rd l0 x5_1) = (rd l1 x5_1)
       ·rw [if_pos c7] at H
        have c7b0 : ((rd l0 x5_1) == (rd l1 x5_1)) = true := beq_iff_eq.mpr c7
        have c7b1 : ((rd l0 x5_1) != (rd l1 x5_1)) = false := bne_eq_false_iff_eq.mpr c7
        clear c7
        have H' := Aside0.mk H
        clear H
        have p251 : 0 ≤ (x5_1 : Int) := of_decide_eq_true (by first | (with_reducible assumption) | assumption)
        have q251 : x5_1 < (l0.length : Int) := of_decide_eq_true (by first | (with_reducible assumption) | assumption)
        obtain ⟨ad251, e251, hx251_0⟩ := Kd.at_int HR0.out x5_1 p251 q251
        cases e251
        replace p251 := eq_true p251
        replace q251 := eq_true q251
        have p252 : 0 ≤ (x5_1 : Int) := of_decide_eq_true (by first | (with_reducible assumption) | assumption)
        have q252 : x5_1 < (l1.length : Int) := of_decide_eq_true (by first | (with_reducible assumption) | assumption)
        obtain ⟨ad252, e252, hx252_0⟩ := Kd.at_int HR1.out x5_1 p252 q252
        cases e252
        replace p252 := eq_true p252
        replace q252 := eq_true q252
        go_wp2
        repeat (go_quiet (fail); try go_wp2)
        go_roundg k1
        case measure => have := HK1.out; omega
        case rel => exact ⟨(wrap64 (x5_1 + 1)), (by first | rfl | (simp; done) | (simp [*]; done)), H', ⟨by have := HK1.out; omega⟩, by repeat (first | exact Drawn0.refl _ | apply Drawn0.step)⟩
       ·rw [if_neg c7] at H
        have c7b0 : ((rd l0 x5_1) == (rd l1 x5_1)) = false := beq_eq_false_iff_ne.mpr c7
        have c7b1 : ((rd l0 x5_1) != (rd l1 x5_1)) = true := bne_iff_ne.mpr c7
        obtain rfl := Option.some.inj H
        have p251 : 0 ≤ (x5_1 : Int) := of_decide_eq_true (by first | (with_reducible assumption) | assumption)
        have q251 : x5_1 < (l0.length : Int) := of_decide_eq_true (by first | (with_reducible assumption) | assumption)
        obtain ⟨ad251, e251, hx251_0⟩ := Kd.at_int HR0.out x5_1 p251 q251
        cases e251
        replace p251 := eq_true p251
        replace q251 := eq_true q251
        have p252 : 0 ≤ (x5_1 : Int) := of_decide_eq_true (by first | (with_reducible assumption) | assumption)
        have q252 : x5_1 < (l1.length : Int) := of_decide_eq_true (by first | (with_reducible assumption) | assumption)
        obtain ⟨ad252, e252, hx252_0⟩ := Kd.at_int HR1.out x5_1 p252 q252
        cases e252
        replace p252 := eq_true p252
        replace q252 := eq_true q252
        go_wp2
        repeat (go_quiet (fail); try go_wp2)
        go_ret
        exact ⟨by first | rfl | (simp; done) | (simp [*]; done), by repeat (first | exact Drawn0.refl _ | apply Drawn0.step)⟩
      ·rw [if_neg c6] at H
       exact absurd H (by simp)
     ·rw [if_neg c5] at H
      exact absurd H (by simp)
    ·rw [if_neg c4] at H
     have c4b0 : decide (x5_1 < (l0.length : Int)) = false := decide_eq_false c4
     clear c4
     obtain rfl := Option.some.inj H
     go_wp2
     repeat (go_quiet (fail); try go_wp2)
     go_ret
     exact ⟨by first | rfl | (simp; done) | (simp [*]; done), by repeat (first | exact Drawn0.refl _ | apply Drawn0.step)⟩
 ·rw [if_neg c3] at H
  have c3b0 : ((l0.length : Int) == (l1.length : Int)) = false := beq_eq_false_iff_ne.mpr c3
  have c3b1 : ((l0.length : Int) != (l1.length : Int)) = true := bne_iff_ne.mpr c3
  have c3b2 : (l0.length == l1.length) = false := by first | simpa using c3 | (simp at c3 ⊢; omega)
  obtain rfl := Option.some.inj H
  go_enter Try.func19, Try.ntmps19
  go_wp2
  repeat (go_quiet (fail); try go_wp2)
  go_ret
  exact ⟨by first | rfl | (simp; done) | (simp [*]; done), by repeat (first | exact Drawn0.refl _ | apply Drawn0.step)⟩

/-! ### laws_eqRe: function 65 -/
abbrev tt27 : Bool := true
abbrev ff27 : Bool := false
def laws_eqRe.f (k : Nat) (a0_0 : Int) (l0_1 : List Int) (a1_0 : Int) (l1_1 : List Int) : Option (Bool) := if a0_0 = a1_0 then ((laws_eqIntS.f k l0_1 l1_1).bind fun t255 => (if t255 = true then (some true) else (some false))) else (some false)
theorem laws_eqRe.mono : ∀ a0 a1 a2 a3 k, LeO (laws_eqRe.f k a0 a1 a2 a3) (laws_eqRe.f (k + 1) a0 a1 a2 a3) := by
 intro a0 a1 a2 a3 k
 unfold laws_eqRe.f
 repeat' first
   | (with_reducible exact laws_eqIntS.mono _ _ _)
   | (with_reducible exact LeO.refl _)
   | (with_reducible exact LeO.none _)
   | (with_reducible refine LeO.ite ?_ ?_)
   | (with_reducible refine LeO.bind ?_ (fun _ => ?_))
   | exact laws_eqIntS.mono _ _ _
   | exact LeO.none _
   | refine LeO.ite ?_ ?_
   | refine LeO.bind ?_ (fun _ => ?_)
set_option maxHeartbeats 8000000 in
set_option maxRecDepth 100000 in
theorem laws_eqRe.calls (k : Nat) (a0_0 : Int) (A0_1 : Option Addr) (c0_1 : Nat) (l0_1 : List Int) (a1_0 : Int) (A1_1 : Option Addr) (c1_1 : Nat) (l1_1 : List Int) (r : Bool) (w : World) (hr0_1 : Kd.C (Kd.int .i64) w A0_1 l0_1.length l0_1) (hc0_1 : l0_1.length ≤ c0_1) (hr1_1 : Kd.C (Kd.int .i64) w A1_1 l1_1.length l1_1) (hc1_1 : l1_1.length ≤ c1_1) (h : laws_eqRe.f k a0_0 l0_1 a1_0 l1_1 = some r) :
  Calls Try.prog 65 #[.agg #[.int .i64 a0_0, .slice A0_1 l0_1.length c0_1], .agg #[.int .i64 a1_0, .slice A1_1 l1_1.length c1_1]] w fun e w' => e = .returned (.bool r) ∧ Below w.heap.size w w' := by
 have hu89 := Try.underlying89
 have HR0_1 := Aside0.mk hr0_1
 have HC0_1 := Aside0.mk hc0_1
 clear hr0_1 hc0_1
 have HR1_1 := Aside0.mk hr1_1
 have HC1_1 := Aside0.mk hc1_1
 clear hr1_1 hc1_1
 have HB := Aside0.mk (Below.refl w.heap.size w)
 have H : (if a0_0 = a1_0 then ((laws_eqIntS.f k l0_1 l1_1).bind fun t255 => (if t255 = true then (some true) else (some false))) else (some false)) = some r := h
 clear h
 by_cases c3 : a0_0 = a1_0
 ·rw [if_pos c3] at H
  have c3b0 : (a0_0 == a1_0) = true := beq_iff_eq.mpr c3
  have c3b1 : (a0_0 != a1_0) = false := bne_eq_false_iff_eq.mpr c3
  clear c3
  replace H := Option.bind_eq_some_iff.mp H
  obtain ⟨t255, A40, H⟩ := H
  replace H : (if t255 = true then (some true) else (some false)) = some r := H
  have A4 := Aside0.mk A40
  clear A40
  by_cases c5 : t255 = true
  ·subst c5
   have H1 : (some true) = some r := by rw [if_pos rfl] at H; exact H
   clear H
   have H := H1
   clear H1
   obtain rfl := Option.some.inj H
   go_enter Try.func65, Try.ntmps65
   go_wp2_with (first | ((with_reducible refine gate_dst (N := 2) rfl ?_); refine box_event ?hg (N := 2) ?hd (cs := #[.int .i64 a0_0, .slice A0_1 l0_1.length c0_1]) (t := 89) ?hr ?_; (case hd => rfl); (case hg => rfl); (case hr => first | (go_simp; done) | (go_simp; rfl)); intro gb253 hg w6 hbox hb; have n0_ := Aside0.mk (below_step (by repeat (first | (with_reducible first | exact HB.out | apply below_alloc | apply pw_below_drewN | apply below_drew1) | exact HB.out)) hb); have n1_ := Aside0.mk (hbox); have n2_ := Aside0.mk ((by rw [hg]; exact (below_size (by repeat (first | (with_reducible first | exact HB.out | apply below_alloc | apply pw_below_drewN | apply below_drew1) | exact HB.out))) : w.heap.size ≤ gb253)); have n3_ := Aside0.mk ((by rw [hg]; exact (below_size (by repeat (first | (with_reducible first | exact HB.out | apply below_alloc | apply pw_below_drewN | apply below_drew1) | exact HB.out))) : w.heap.size ≤ gb253)); clear HB; have HB := n0_; have BK253 := n1_; have GW253 := n2_; have GE253 := n3_; clear n0_ n1_ n2_ n3_; clear hb hbox hg) | ((with_reducible refine gate_dst (N := 3) rfl ?_); refine box_event ?hg (N := 3) ?hd (cs := #[.int .i64 a1_0, .slice A1_1 l1_1.length c1_1]) (t := 89) ?hr ?_; (case hd => rfl); (case hg => rfl); (case hr => first | (go_simp; done) | (go_simp; rfl)); intro gb254 hg w7 hbox hb; have n0_ := Aside0.mk (blk_below (g := gb253) (o := .cells #[.int .i64 a0_0, .slice A0_1 l0_1.length c0_1] 89 (0, 0)) (by (with_reducible repeat (first | refine blk_drewN ?_ _ | refine blk_drew ?_ | refine blk_alloc ?_ _)); exact BK253.out) hb); have n1_ := Aside0.mk (below_step (by repeat (first | (with_reducible first | exact HB.out | apply below_alloc | apply pw_below_drewN | apply below_drew1 | refine below_set ?_ GE253.out) | exact HB.out)) hb); have n2_ := Aside0.mk (hbox); have n3_ := Aside0.mk ((by rw [hg]; exact (below_size (by repeat (first | (with_reducible first | exact HB.out | apply below_alloc | apply pw_below_drewN | apply below_drew1 | refine below_set ?_ GE253.out) | exact HB.out))) : w.heap.size ≤ gb254)); have n4_ := Aside0.mk ((by rw [hg]; exact (below_size (by repeat (first | (with_reducible first | exact HB.out | apply below_alloc | apply pw_below_drewN | apply below_drew1 | refine below_set ?_ GE253.out) | exact HB.out))) : w.heap.size ≤ gb254)); have n5_ := Aside0.mk ((by rw [hg]; exact Nat.ne_of_lt (blk_lt (g := gb253) (o := .cells #[.int .i64 a0_0, .slice A0_1 l0_1.length c0_1] 89 (0, 0)) (by (with_reducible repeat (first | refine blk_drewN ?_ _ | refine blk_drew ?_ | refine blk_alloc ?_ _)); exact BK253.out)) : gb253 ≠ gb254)); have n6_ := Aside0.mk ((by rw [hg]; exact Nat.ne_of_gt (blk_lt (g := gb253) (o := .cells #[.int .i64 a0_0, .slice A0_1 l0_1.length c0_1] 89 (0, 0)) (by (with_reducible repeat (first | refine blk_drewN ?_ _ | refine blk_drew ?_ | refine blk_alloc ?_ _)); exact BK253.out)) : gb254 ≠ gb253)); clear BK253; clear HB; have BK253 := n0_; have HB := n1_; have BK254 := n2_; have GW254 := n3_; have GE254 := n4_; have NB253_254 := n5_; have NB254_253 := n6_; clear n0_ n1_ n2_ n3_ n4_ n5_ n6_; clear hb hbox hg; have hnb8 := NB253_254.out; have hnc8 := NB254_253.out; have hcz9_0 : w7.cell? ⟨gb253, 0, none⟩ = some (.int .i64 a0_0) := (blk_cell BK253.out 0).trans rfl; have hcz9_1 : w7.cell? ⟨gb253, 1, none⟩ = some (.slice A0_1 l0_1.length c0_1) := (blk_cell BK253.out 1).trans rfl; have hfz9_0 := blk_frozen BK253.out 0; have hfz9_1 := blk_frozen BK253.out 1; have hcz10_0 : w7.cell? ⟨gb254, 0, none⟩ = some (.int .i64 a1_0) := (blk_cell BK254.out 0).trans rfl; have hcz10_1 : w7.cell? ⟨gb254, 1, none⟩ = some (.slice A1_1 l1_1.length c1_1) := (blk_cell BK254.out 1).trans rfl; have hfz10_0 := blk_frozen BK254.out 0; have hfz10_1 := blk_frozen BK254.out 1) | ((with_reducible refine gate_callee (f := 19) rfl ?_); refine goesL_ (some 14) rfl rfl Try.func19 (by kernel_rfl) rfl #[.slice A0_1 l0_1.length c0_1, .slice A1_1 l1_1.length c1_1] rfl (by (try simp only [List.map_toArray, List.map_cons, List.map_nil]); first | done | rfl | (simp only [List.length_drop, List.length_take]; rfl)) ?_; (with_reducible refine (laws_eqIntS.calls k _ _ l0_1 _ _ l1_1 true _ ?side1 ?side2 ?side3 ?side4 A4.out).mono ?_); (case side1 => repeat (first | exact (Kd.C_below HR0_1.out HB.out) | (with_reducible refine Kd.C_alloc ?_ _) | (with_reducible refine Kd.C_drewN ?_ _) | (with_reducible refine Kd.C_drew ?_))); (case side2 => exact HC0_1.out); (case side3 => repeat (first | exact (Kd.C_below HR1_1.out HB.out) | (with_reducible refine Kd.C_alloc ?_ _) | (with_reducible refine Kd.C_drewN ?_ _) | (with_reducible refine Kd.C_drew ?_))); (case side4 => exact HC1_1.out); rintro e w' ⟨rfl, ⟨nd, rfl⟩⟩; refine ⟨_, rfl, ?_⟩))
   go_ret
   exact ⟨by first | rfl | (simp [errW_none, errW_some] <;> rfl) | (simp [*, errW_none, errW_some] <;> rfl), by repeat (first | (with_reducible first | exact HB.out | apply below_alloc | apply pw_below_drewN | apply below_drew1 | refine below_set ?_ GE253.out | refine below_set ?_ GE254.out) | exact HB.out)⟩
  ·replace c5 := Bool.eq_false_iff.mpr c5
   subst c5
   have H1 : (some false) = some r := by rw [if_neg (show ¬ (false = true) by decide)] at H; exact H
   clear H
   have H := H1
   clear H1
   obtain rfl := Option.some.inj H
   go_enter Try.func65, Try.ntmps65
   go_wp2_with (first | ((with_reducible refine gate_dst (N := 2) rfl ?_); refine box_event ?hg (N := 2) ?hd (cs := #[.int .i64 a0_0, .slice A0_1 l0_1.length c0_1]) (t := 89) ?hr ?_; (case hd => rfl); (case hg => rfl); (case hr => first | (go_simp; done) | (go_simp; rfl)); intro gb253 hg w11 hbox hb; have n0_ := Aside0.mk (below_step (by repeat (first | (with_reducible first | exact HB.out | apply below_alloc | apply pw_below_drewN | apply below_drew1) | exact HB.out)) hb); have n1_ := Aside0.mk (hbox); have n2_ := Aside0.mk ((by rw [hg]; exact (below_size (by repeat (first | (with_reducible first | exact HB.out | apply below_alloc | apply pw_below_drewN | apply below_drew1) | exact HB.out))) : w.heap.size ≤ gb253)); have n3_ := Aside0.mk ((by rw [hg]; exact (below_size (by repeat (first | (with_reducible first | exact HB.out | apply below_alloc | apply pw_below_drewN | apply below_drew1) | exact HB.out))) : w.heap.size ≤ gb253)); clear HB; have HB := n0_; have BK253 := n1_; have GW253 := n2_; have GE253 := n3_; clear n0_ n1_ n2_ n3_; clear hb hbox hg) | ((with_reducible refine gate_dst (N := 3) rfl ?_); refine box_event ?hg (N := 3) ?hd (cs := #[.int .i64 a1_0, .slice A1_1 l1_1.length c1_1]) (t := 89) ?hr ?_; (case hd => rfl); (case hg => rfl); (case hr => first | (go_simp; done) | (go_simp; rfl)); intro gb254 hg w12 hbox hb; have n0_ := Aside0.mk (blk_below (g := gb253) (o := .cells #[.int .i64 a0_0, .slice A0_1 l0_1.length c0_1] 89 (0, 0)) (by (with_reducible repeat (first | refine blk_drewN ?_ _ | refine blk_drew ?_ | refine blk_alloc ?_ _)); exact BK253.out) hb); have n1_ := Aside0.mk (below_step (by repeat (first | (with_reducible first | exact HB.out | apply below_alloc | apply pw_below_drewN | apply below_drew1 | refine below_set ?_ GE253.out) | exact HB.out)) hb); have n2_ := Aside0.mk (hbox); have n3_ := Aside0.mk ((by rw [hg]; exact (below_size (by repeat (first | (with_reducible first | exact HB.out | apply below_alloc | apply pw_below_drewN | apply below_drew1 | refine below_set ?_ GE253.out) | exact HB.out))) : w.heap.size ≤ gb254)); have n4_ := Aside0.mk ((by rw [hg]; exact (below_size (by repeat (first | (with_reducible first | exact HB.out | apply below_alloc | apply pw_below_drewN | apply below_drew1 | refine below_set ?_ GE253.out) | exact HB.out))) : w.heap.size ≤ gb254)); have n5_ := Aside0.mk ((by rw [hg]; exact Nat.ne_of_lt (blk_lt (g := gb253) (o := .cells #[.int .i64 a0_0, .slice A0_1 l0_1.length c0_1] 89 (0, 0)) (by (with_reducible repeat (first | refine blk_drewN ?_ _ | refine blk_drew ?_ | refine blk_alloc ?_ _)); exact BK253.out)) : gb253 ≠ gb254)); have n6_ := Aside0.mk ((by rw [hg]; exact Nat.ne_of_gt (blk_lt (g := gb253) (o := .cells #[.int .i64 a0_0, .slice A0_1 l0_1.length c0_1] 89 (0, 0)) (by (with_reducible repeat (first | refine blk_drewN ?_ _ | refine blk_drew ?_ | refine blk_alloc ?_ _)); exact BK253.out)) : gb254 ≠ gb253)); clear BK253; clear HB; have BK253 := n0_; have HB := n1_; have BK254 := n2_; have GW254 := n3_; have GE254 := n4_; have NB253_254 := n5_; have NB254_253 := n6_; clear n0_ n1_ n2_ n3_ n4_ n5_ n6_; clear hb hbox hg; have hnb13 := NB253_254.out; have hnc13 := NB254_253.out; have hcz14_0 : w12.cell? ⟨gb253, 0, none⟩ = some (.int .i64 a0_0) := (blk_cell BK253.out 0).trans rfl; have hcz14_1 : w12.cell? ⟨gb253, 1, none⟩ = some (.slice A0_1 l0_1.length c0_1) := (blk_cell BK253.out 1).trans rfl; have hfz14_0 := blk_frozen BK253.out 0; have hfz14_1 := blk_frozen BK253.out 1; have hcz15_0 : w12.cell? ⟨gb254, 0, none⟩ = some (.int .i64 a1_0) := (blk_cell BK254.out 0).trans rfl; have hcz15_1 : w12.cell? ⟨gb254, 1, none⟩ = some (.slice A1_1 l1_1.length c1_1) := (blk_cell BK254.out 1).trans rfl; have hfz15_0 := blk_frozen BK254.out 0; have hfz15_1 := blk_frozen BK254.out 1) | ((with_reducible refine gate_callee (f := 19) rfl ?_); refine goesL_ (some 14) rfl rfl Try.func19 (by kernel_rfl) rfl #[.slice A0_1 l0_1.length c0_1, .slice A1_1 l1_1.length c1_1] rfl (by (try simp only [List.map_toArray, List.map_cons, List.map_nil]); first | done | rfl | (simp only [List.length_drop, List.length_take]; rfl)) ?_; (with_reducible refine (laws_eqIntS.calls k _ _ l0_1 _ _ l1_1 false _ ?side1 ?side2 ?side3 ?side4 A4.out).mono ?_); (case side1 => repeat (first | exact (Kd.C_below HR0_1.out HB.out) | (with_reducible refine Kd.C_alloc ?_ _) | (with_reducible refine Kd.C_drewN ?_ _) | (with_reducible refine Kd.C_drew ?_))); (case side2 => exact HC0_1.out); (case side3 => repeat (first | exact (Kd.C_below HR1_1.out HB.out) | (with_reducible refine Kd.C_alloc ?_ _) | (with_reducible refine Kd.C_drewN ?_ _) | (with_reducible refine Kd.C_drew ?_))); (case side4 => exact HC1_1.out); rintro e w' ⟨rfl, ⟨nd, rfl⟩⟩; refine ⟨_, rfl, ?_⟩))
   go_ret
   exact ⟨by first | rfl | (simp [errW_none, errW_some] <;> rfl) | (simp [*, errW_none, errW_some] <;> rfl), by repeat (first | (with_reducible first | exact HB.out | apply below_alloc | apply pw_below_drewN | apply below_drew1 | refine below_set ?_ GE253.out | refine below_set ?_ GE254.out) | exact HB.out)⟩
 ·rw [if_neg c3] at H
  have c3b0 : (a0_0 == a1_0) = false := beq_eq_false_iff_ne.mpr c3
  have c3b1 : (a0_0 != a1_0) = true := bne_iff_ne.mpr c3
  obtain rfl := Option.some.inj H
  go_enter Try.func65, Try.ntmps65
  go_wp2_with (first | ((with_reducible refine gate_dst (N := 2) rfl ?_); refine box_event ?hg (N := 2) ?hd (cs := #[.int .i64 a0_0, .slice A0_1 l0_1.length c0_1]) (t := 89) ?hr ?_; (case hd => rfl); (case hg => rfl); (case hr => first | (go_simp; done) | (go_simp; rfl)); intro gb253 hg w16 hbox hb; have n0_ := Aside0.mk (below_step (by repeat (first | (with_reducible first | exact HB.out | apply below_alloc | apply pw_below_drewN | apply below_drew1) | exact HB.out)) hb); have n1_ := Aside0.mk (hbox); have n2_ := Aside0.mk ((by rw [hg]; exact (below_size (by repeat (first | (with_reducible first | exact HB.out | apply below_alloc | apply pw_below_drewN | apply below_drew1) | exact HB.out))) : w.heap.size ≤ gb253)); have n3_ := Aside0.mk ((by rw [hg]; exact (below_size (by repeat (first | (with_reducible first | exact HB.out | apply below_alloc | apply pw_below_drewN | apply below_drew1) | exact HB.out))) : w.heap.size ≤ gb253)); clear HB; have HB := n0_; have BK253 := n1_; have GW253 := n2_; have GE253 := n3_; clear n0_ n1_ n2_ n3_; clear hb hbox hg) | ((with_reducible refine gate_dst (N := 3) rfl ?_); refine box_event ?hg (N := 3) ?hd (cs := #[.int .i64 a1_0, .slice A1_1 l1_1.length c1_1]) (t := 89) ?hr ?_; (case hd => rfl); (case hg => rfl); (case hr => first | (go_simp; done) | (go_simp; rfl)); intro gb254 hg w17 hbox hb; have n0_ := Aside0.mk (blk_below (g := gb253) (o := .cells #[.int .i64 a0_0, .slice A0_1 l0_1.length c0_1] 89 (0, 0)) (by (with_reducible repeat (first | refine blk_drewN ?_ _ | refine blk_drew ?_ | refine blk_alloc ?_ _)); exact BK253.out) hb); have n1_ := Aside0.mk (below_step (by repeat (first | (with_reducible first | exact HB.out | apply below_alloc | apply pw_below_drewN | apply below_drew1 | refine below_set ?_ GE253.out) | exact HB.out)) hb); have n2_ := Aside0.mk (hbox); have n3_ := Aside0.mk ((by rw [hg]; exact (below_size (by repeat (first | (with_reducible first | exact HB.out | apply below_alloc | apply pw_below_drewN | apply below_drew1 | refine below_set ?_ GE253.out) | exact HB.out))) : w.heap.size ≤ gb254)); have n4_ := Aside0.mk ((by rw [hg]; exact (below_size (by repeat (first | (with_reducible first | exact HB.out | apply below_alloc | apply pw_below_drewN | apply below_drew1 | refine below_set ?_ GE253.out) | exact HB.out))) : w.heap.size ≤ gb254)); have n5_ := Aside0.mk ((by rw [hg]; exact Nat.ne_of_lt (blk_lt (g := gb253) (o := .cells #[.int .i64 a0_0, .slice A0_1 l0_1.length c0_1] 89 (0, 0)) (by (with_reducible repeat (first | refine blk_drewN ?_ _ | refine blk_drew ?_ | refine blk_alloc ?_ _)); exact BK253.out)) : gb253 ≠ gb254)); have n6_ := Aside0.mk ((by rw [hg]; exact Nat.ne_of_gt (blk_lt (g := gb253) (o := .cells #[.int .i64 a0_0, .slice A0_1 l0_1.length c0_1] 89 (0, 0)) (by (with_reducible repeat (first | refine blk_drewN ?_ _ | refine blk_drew ?_ | refine blk_alloc ?_ _)); exact BK253.out)) : gb254 ≠ gb253)); clear BK253; clear HB; have BK253 := n0_; have HB := n1_; have BK254 := n2_; have GW254 := n3_; have GE254 := n4_; have NB253_254 := n5_; have NB254_253 := n6_; clear n0_ n1_ n2_ n3_ n4_ n5_ n6_; clear hb hbox hg; have hnb18 := NB253_254.out; have hnc18 := NB254_253.out; have hcz19_0 : w17.cell? ⟨gb253, 0, none⟩ = some (.int .i64 a0_0) := (blk_cell BK253.out 0).trans rfl; have hcz19_1 : w17.cell? ⟨gb253, 1, none⟩ = some (.slice A0_1 l0_1.length c0_1) := (blk_cell BK253.out 1).trans rfl; have hfz19_0 := blk_frozen BK253.out 0; have hfz19_1 := blk_frozen BK253.out 1; have hcz20_0 : w17.cell? ⟨gb254, 0, none⟩ = some (.int .i64 a1_0) := (blk_cell BK254.out 0).trans rfl; have hcz20_1 : w17.cell? ⟨gb254, 1, none⟩ = some (.slice A1_1 l1_1.length c1_1) := (blk_cell BK254.out 1).trans rfl; have hfz20_0 := blk_frozen BK254.out 0; have hfz20_1 := blk_frozen BK254.out 1))
  go_ret
  exact ⟨by first | rfl | (simp [errW_none, errW_some] <;> rfl) | (simp [*, errW_none, errW_some] <;> rfl), by repeat (first | (with_reducible first | exact HB.out | apply below_alloc | apply pw_below_drewN | apply below_drew1 | refine below_set ?_ GE253.out | refine below_set ?_ GE254.out) | exact HB.out)⟩


end Go.Proofs.Ytkpeihdlmjdejaa.P
