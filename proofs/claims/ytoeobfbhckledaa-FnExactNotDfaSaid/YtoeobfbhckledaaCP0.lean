/- The kinds of the types that this claim uses. -/
import Derived.Test.YtoeobfbhckledaaProg
import Derived.Below
import Derived.Deep.Draws
import Derived.Deep.AppendLies
import Derived.Maps.AppendAt
import Derived.OwnWalk
import Derived.Laws.BytesArg
import Derived.Laws.MakeOwn
import Derived.Laws.OwnMore
import Derived.Deep.OwnRows
import Derived.Tactics
import Derived.Lib.ConvBytes
import Derived.Laws.Slices
import Derived.WalkKit
import Derived.KernelRfl
import Derived.RowKit3
import Derived.Deep.LoopGhost
import Derived.Deep.QuietTactic
import Derived.BigQuiet
import Derived.WideLaws
import Derived.Deep.DeepCutAuto
import Derived.Deep.CutBlock
import Derived.Deep.RegionHeld3
import Derived.Laws.Rows
import Derived.Lib.AppendStr
import Derived.ArgAppend
import Derived.Laws.IdiomCopy
import Derived.OrdersHeld
import Derived.Laws.BitsLemmas
import Derived.RowKit
import Derived.Lib.RuneCount
import Derived.Laws.RangeString
import Derived.Laws.RangeAny
import Derived.LoopTactic
import Derived.Lib.Walk
import Derived.Shelf.Abstract
import Derived.IntWalk
import Derived.Test.YtoeobfbhckledaaCWWords
import Derived.Test.YtoeobfbhckledaaCWLast
import Derived.Test.YtoeobfbhckledaaCWTab
import Derived.Test.YtoeobfbhckledaaCWFour
import Derived.Test.YtoeobfbhckledaaCWQPut
import Derived.Test.YtoeobfbhckledaaCWApart
import Derived.Test.YtoeobfbhckledaaCWArr
import Derived.Test.YtoeobfbhckledaaCWZeros
import Derived.Test.YtoeobfbhckledaaCWFoot
import Derived.Test.YtoeobfbhckledaaCWKept
import Derived.Test.YtoeobfbhckledaaCWShare
import Derived.Test.YtoeobfbhckledaaCWN
import Derived.Test.YtoeobfbhckledaaCWFootNe
import Derived.Test.YtoeobfbhckledaaCWAt
import Derived.Test.YtoeobfbhckledaaCWEqStruct
import Derived.Test.YtoeobfbhckledaaCWRepsOne
import Derived.Test.YtoeobfbhckledaaCWInv
import Derived.Test.YtoeobfbhckledaaCWInvWords
import Derived.Test.YtoeobfbhckledaaCWGuard
import Derived.Test.YtoeobfbhckledaaCWNEv
import Derived.Test.YtoeobfbhckledaaCWMore
namespace Go.Proofs.Ytoeobfbhckledaa.P
open Go.RowKit Go.Proofs.YtoeobfbhckledaaW.PrintWords Go.Proofs.YtoeobfbhckledaaW.PrintLast Go.Proofs.YtoeobfbhckledaaW.PrintMore
attribute [local go_sem] max2_int min2_int max_two min_two max_three min_three max_four min_four   -- for this text's walks alone
set_option linter.unusedVariables false
set_option linter.unusedSimpArgs false
def errW : Option Int → Value
  | none => .nilIface
  | some c => .iface 0 (.int .i64 c)
theorem errW_none : errW none = .nilIface := rfl
theorem errW_some (c : Int) : errW (some c) = .iface 0 (.int .i64 c) := rfl
theorem info3 : (Try.prog.info? 3).map (fun i => (i.zero, i.size, i.bytes)) = some (some (.int .i64 0), 1, 8) := by kernel_rfl
theorem info4 : (Try.prog.info? 4).map (fun i => (i.zero, i.size, i.bytes)) = some (some (.bool false), 1, 1) := by kernel_rfl
theorem info22 : (Try.prog.info? 22).map (fun i => (i.zero, i.size, i.bytes)) = some (some (.slice none 0 0), 1, 24) := by kernel_rfl
def rd_L1 (xs : List (List Int)) (i : Int) : (List Int) := xs.getD i.toNat ([] : List Int)
theorem at_L1 {w : World} {A : Option Addr} {n : Nat} {xs : List (List Int)} (h : Kd.C (Kd.slice 3 (Kd.int .i64)) w A n xs) (i : Int) (h0 : 0 ≤ i) (h1 : i < n) : ∃ ad A0 c0, A = some ad ∧ w.cell? (ad.add i.toNat) = some (.slice A0 (rd_L1 xs i).length c0) ∧ (rd_L1 xs i).length ≤ c0 ∧ (Kd.int .i64).C w A0 (rd_L1 xs i).length (rd_L1 xs i) := by
  obtain ⟨ad, c, e, _, hK, hc0⟩ := Kd.C_get h ([] : List Int) i h0 h1
  have hc : ∀ j u, c[j]? = some u → w.cell? (ad.add (i.toNat * 1 + j)) = some u := hc0
  obtain ⟨A0, c0, rfl, l0, g0⟩ := hK
  exact ⟨ad, A0, c0, e, by have hq := hc 0 _ rfl; rwa [Nat.mul_one, Nat.add_zero] at hq, l0, g0⟩
structure S55 where
  f0 : Int
  f1 : Int
  f2 : Int
structure S64 where
  f0 : (List Int)
  f1 : (List (List Int))
  f2 : (List Bool)
structure S62 where
  f0 : (List Int)
  f1 : (List (List Int))
  f2 : (List Bool)
def k62 : Kd S62 := Kd.iso (Kd.pair (Kd.slice 3 (Kd.int .i64)) (Kd.pair (Kd.slice 22 (Kd.slice 3 (Kd.int .i64))) (Kd.slice 4 Kd.bool))) (fun x : S62 => (x.f0, x.f1, x.f2))
theorem k62_open {w : World} {x : S62} {cs : List Value} (h : k62.K w x cs) : ∃ A0 c0 A1 c1 A2 c2, cs = [.slice A0 x.f0.length c0, .slice A1 x.f1.length c1, .slice A2 x.f2.length c2] ∧ x.f0.length ≤ c0 ∧ (Kd.int .i64).C w A0 x.f0.length x.f0 ∧ x.f1.length ≤ c1 ∧ (Kd.slice 3 (Kd.int .i64)).C w A1 x.f1.length x.f1 ∧ x.f2.length ≤ c2 ∧ Kd.bool.C w A2 x.f2.length x.f2 := by
  obtain ⟨_, _, rfl, ⟨A0, c0, rfl, l0, g0⟩, ⟨_, _, rfl, ⟨A1, c1, rfl, l1, g1⟩, ⟨A2, c2, rfl, l2, g2⟩⟩⟩ := h
  exact ⟨A0, c0, A1, c1, A2, c2, rfl, l0, g0, l1, g1, l2, g2⟩
structure S141 where
  f0 : Int
  f1 : (List Int)
structure S170 where
  f0 : Int
  f1 : (List Int)
structure S183 where
  f0 : Bool
  f1 : (List Int)
  f2 : (List Int)
structure S150 where
  f0 : Int
  f1 : Int
def idxOf {α : Type} (p : α → Bool) : List α → Int
  | [] => -1
  | x :: r => if p x then 0 else if idxOf p r < 0 then -1 else idxOf p r + 1
theorem idxOf_any {α : Type} (p : α → Bool) : ∀ l : List α, (0 ≤ idxOf p l) = (l.any p = true)
  | [] => by simp [idxOf]
  | x :: r => by
    have ih := idxOf_any p r
    simp only [idxOf, List.any_cons, Bool.or_eq_true]
    by_cases h : p x = true
    · simp [h]
    · rw [if_neg h]
      by_cases h2 : idxOf p r < 0
      · rw [if_pos h2, ← ih]
        simp [h]
        omega
      · rw [if_neg h2, ← ih]
        simp [h]
        omega
theorem idxOf_hit {α : Type} (p : α → Bool) : ∀ (l : List α) (k : Nat) (hk : k < l.length), (∀ j (hj : j < k), p (l[j]'(Nat.lt_trans hj hk)) = false) → p (l[k]'hk) = true → idxOf p l = k
  | [], k, hk, _, _ => by simp at hk
  | x :: r, 0, hk, _, h => by simp at h; simp [idxOf, h]
  | x :: r, k + 1, hk, hj, h => by
    have h0 := hj 0 (by omega)
    simp at h0
    have := idxOf_hit p r k (by simpa using hk) (fun j hjk => by simpa using hj (j + 1) (by omega)) (by simpa using h)
    simp only [idxOf, h0, this]
    simp
    omega
theorem idxOf_miss {α : Type} (p : α → Bool) : ∀ (l : List α), (∀ x ∈ l, p x = false) → idxOf p l = -1
  | [], _ => rfl
  | x :: r, h => by
    have h0 := h x List.mem_cons_self
    have := idxOf_miss p r (fun y hy => h y (List.mem_cons_of_mem _ hy))
    simp [idxOf, h0, this]
theorem rd_get (l : List Int) (k : Nat) (hk : k < l.length) : rd l (k : Int) = l[k] := by
  unfold rd
  rw [Int.toNat_natCast, List.getD_eq_getElem?_getD, List.getElem?_eq_getElem hk]
  rfl
def anyO {α : Type} (p : α → Option Bool) (l : List α) : Option Bool := if l.all (fun x => (p x).isSome) then some (l.any fun x => (p x).getD false) else none
theorem anyO_some {α : Type} {p : α → Option Bool} {l : List α} {r : Bool} (h : anyO p l = some r) : (∀ x ∈ l, (p x).isSome = true) ∧ r = l.any fun x => (p x).getD false := by
  unfold anyO at h
  split at h
  · rename_i h1
    exact ⟨List.all_eq_true.1 h1, (Option.some.inj h).symm⟩
  · cases h
theorem anyO_eq {α : Type} {p : α → Option Bool} {q : α → Bool} {l : List α} (h : ∀ x ∈ l, p x = some (q x)) : anyO p l = some (l.any q) := by
  unfold anyO
  rw [if_pos (List.all_eq_true.2 (fun x hx => by rw [h x hx]; rfl))]
  congr 1
  induction l with
  | nil => rfl
  | cons a r ih => rw [List.any_cons, List.any_cons, h a List.mem_cons_self, ih (fun x hx => h x (List.mem_cons_of_mem _ hx))]; rfl
theorem bc0 {w : World} {g : Nat} {t : TypeId} {v0 : Value} {l : List Value} (h : w.heap[g]? = some (.cells (List.toArray (v0 :: l)) t (0, 0))) : w.cell? ⟨g, 0, none⟩ = some v0 := (blk_cell h 0).trans rfl
theorem bc1 {w : World} {g : Nat} {t : TypeId} {v0 v1 : Value} {l : List Value} (h : w.heap[g]? = some (.cells (List.toArray (v0 :: v1 :: l)) t (0, 0))) : w.cell? ⟨g, 1, none⟩ = some v1 := (blk_cell h 1).trans rfl
theorem bc2 {w : World} {g : Nat} {t : TypeId} {v0 v1 v2 : Value} {l : List Value} (h : w.heap[g]? = some (.cells (List.toArray (v0 :: v1 :: v2 :: l)) t (0, 0))) : w.cell? ⟨g, 2, none⟩ = some v2 := (blk_cell h 2).trans rfl
theorem R_rng {α : Type} {d : Kd α} {e base : Nat} {w : World} {ok : Nat → Prop} {v : Value} {xs : List α} (h : d.R e w base ok v xs) : d.R e w base (fun k => ok k ∧ base ≤ k ∧ k < w.heap.size) v xs := Kd.R_mono (Kd.R_bound h) (fun _ hk => ⟨hk.1, hk.2.1, hk.2.2.1⟩)
theorem S_rng {α : Type} {d : Kd α} {e base : Nat} {w : World} {ok : Nat → Prop} {v : Value} {xs : List α} (h : Kd.S d e w base ok v xs) : Kd.S d e w base (fun k => ok k ∧ base ≤ k ∧ k < w.heap.size) v xs := Kd.S_mono (Kd.S_bound h) (fun _ hk => ⟨hk.1, hk.2.1, hk.2.2.1⟩)
theorem R_upto {α : Type} {d : Kd α} {e base : Nat} {w : World} {ok : Nat → Prop} {v : Value} {xs : List α} (h : d.R e w base ok v xs) : d.R e w base (fun k => ok k ∧ k < w.heap.size) v xs := Kd.R_mono (Kd.R_bound h) (fun _ hk => ⟨hk.1, hk.2.2.1⟩)
theorem S_upto {α : Type} {d : Kd α} {e base : Nat} {w : World} {ok : Nat → Prop} {v : Value} {xs : List α} (h : Kd.S d e w base ok v xs) : Kd.S d e w base (fun k => ok k ∧ k < w.heap.size) v xs := Kd.S_mono (Kd.S_bound h) (fun _ hk => ⟨hk.1, hk.2.2.1⟩)
theorem S_apartR {α β : Type} {d : Kd α} {d' : Kd β} {e e' base base' : Nat} {w : World} {ok ok' : Nat → Prop} {u v : Value} {xs : List α} {ys : List β} (h : Kd.S d e w base ok u xs) (hv : d'.R e' w base' ok' v ys) (ht : ∀ q, q ∈ e :: d.E → q ≠ e') : Kd.S d e w base (fun k => ok k ∧ some k ≠ v.ownBlock) u xs := Kd.S_apart' h (Kd.R_typed hv) ht
theorem rr_ne {α β : Type} {d : Kd α} {d' : Kd β} {e e' base base' : Nat} {w : World} {ok ok' : Nat → Prop} {u v : Value} {xs : List α} {ys : List β} (h : d.R e w base ok u xs) (hv : d'.R e' w base' ok' v ys) (ht : e ≠ e') : ∀ k, some k = u.ownBlock → ¬ some k = v.ownBlock := by
  intro k hk hk2
  obtain ⟨c1, h1⟩ := Kd.R_typed h k hk.symm
  obtain ⟨c2, h2⟩ := Kd.R_typed hv k hk2.symm
  rw [h1] at h2
  injection h2 with h2
  injection h2 with _ h3
  exact ht h3
theorem R_selfok {α : Type} {d : Kd α} {e base : Nat} {w : World} {ok : Nat → Prop} {v : Value} {xs : List α} (hE : d.E = []) (h : d.R e w base ok v xs) : d.R e w base (fun k => ok k ∧ some k = v.ownBlock) v xs := Kd.R_mono (Kd.R_tight hE h) (fun k hk => ⟨h.1 k hk.symm, hk⟩)
theorem S_age {α : Type} {d : Kd α} {e base : Nat} {w : World} {P Q : Nat → Prop} {v : Value} {xs : List α} (h : Kd.S d e w base (fun k => P k ∧ Q k) v xs) : Kd.S d e w base (fun k => (P k ∧ k < w.heap.size) ∧ Q k) v xs := Kd.S_mono (S_upto h) (fun _ hk => ⟨⟨hk.1.1, hk.2⟩, hk.1.2⟩)
theorem S_lit1_step {P : Program} {ops : Array Oper} {o : Oper} {a : Act} {Q : Exit → Act → World → Prop} {Kc : Act → World → Prop} {α : Type} (d : Kd α) {W : World} (base e : Nat) (hw : Region.wanted o (yielded ops a.tmps) = true) {N' : Tmp} (_hd : o.dst = some N') {xs : List α} {inner : List Value} {ok okp : Nat → Prop}
    (hrun : (execOp a.eval o).run P W = .ok (.value (.slice (some ⟨W.heap.size, 0, none⟩) xs.length xs.length)) (W.alloc (.cells inner.toArray e)))
    (hp : ∃ p, xs = [p] ∧ d.M W base okp p inner) (hok : ∀ k, okp k → ok k) (hfresh : ok W.heap.size) (hbase : base ≤ W.heap.size) (hm : xs.length ≤ 9223372036854775807)
    (h : ∀ v1 w1, Kd.S d e w1 base ok v1 xs → Below W.heap.size W w1 → W.grownBy w1 none → (∃ b, v1.ownBlock = some b ∧ W.heap.size ≤ b) → Kc (a.put o.dst v1) w1) :
    if Region.wanted o (yielded ops a.tmps) = true then Oper.wp P o a W Kc Q else Kc (a.put o.dst undef) W := by
  obtain ⟨p, rfl, hM⟩ := hp
  have hl : inner.length = d.sz := d.K_len (d.K_of_M hM)
  refine Kd.S_lits_step d base e hw _hd (xs := [p]) (inner := inner) (ok := ok) (fun j k => j = 0 ∧ okp k) hrun (by rw [hl]; simp) (fun j x hj => ?_) (fun i j k hi hj => by rw [hi.1, hj.1]) (fun j k hk => hok k hk.2) hfresh (Below.refl base W) hbase hm (fun v1 w1 a b c e => h v1 w1 a ((Below.refl _ W).grown c (Nat.le_refl _) (by intro k hk; cases hk)) c e)
  obtain ⟨hj0, he⟩ := List.getElem?_eq_some_iff.1 hj
  have h0 : j = 0 := by simpa using hj0
  subst h0
  have hx : p = x := by simpa using he
  subst hx
  rw [Nat.zero_mul, List.drop_zero, ← hl, List.take_length]
  exact d.M_mono (fun k hk => ⟨rfl, hk⟩) hM
open Classical in
theorem S_append_S_step {P : Program} {ops : Array Oper} {o : Oper} {a : Act} {Q : Exit → Act → World → Prop} {Kc : Act → World → Prop} {α : Type} (d : Kd α) {w0 W : World} (base : Nat) (hw : Region.wanted o (yielded ops a.tmps) = true) (s x : Operand) (t e : TypeId) (z : Value) (bytes : Nat)
    (ho : o.op = .call { callee := .builtin .append, args := #[s, x], argTypes := #[t, t] })
    (ht : P.underlying t = some (.slice e)) (hinfo : (P.info? e).map (fun i => (i.zero, i.size, i.bytes)) = some (some z, d.sz, bytes)) (hz : z.cells.size = d.sz) (hs0 : 0 < d.sz) (hb0 : 0 < bytes)
    (v : Value) (xs ys : List α) (A : Option Addr) (m c : Nat) (ok okp : Nat → Prop) (hs : a.eval s = v) (hx : a.eval x = .slice A m c)
    (HO : Kd.S d e W base (fun k => ok k ∧ ¬ okp k) v xs) (HL : Kd.S d e W base okp (.slice A m c) ys) (hokp : ∀ k, okp k → ok k ∧ some k ≠ v.ownBlock) (hfresh : ∀ k, W.heap.size ≤ k → ok k)
    (HB : Below base w0 W) (hbase : base ≤ W.heap.size) (hl : (xs.length + m) * bytes ≤ 140737488355328)
    (h : ∀ v1 w1, Kd.S d e w1 base ok v1 (xs ++ ys) → Below base w0 w1 → W.grownBy w1 v.ownBlock → (v1.ownBlock = v.ownBlock ∨ ∃ b, v1.ownBlock = some b ∧ W.heap.size ≤ b) → Kc (a.put o.dst v1) w1) :
    if Region.wanted o (yielded ops a.tmps) = true then Oper.wp P o a W Kc Q else Kc (a.put o.dst undef) W := by
  obtain ⟨f, hf⟩ := HO
  obtain ⟨g, hg⟩ := HL
  have hF : (Kd.tag (fun k => if okp k then xs.length + g k else f k) d).R e W base (fun k => ok k ∧ ¬ okp k) v xs.zipIdx := Kd.R_tag hf (fun k hk _ => if_neg hk.2)
  obtain ⟨A', c', he, _, hr⟩ := OwnRow.reads hg.2
  injection he with e1 e2 e3
  subst e1
  rw [List.length_zipIdx] at e2 hr
  subst e2
  have hr2 : ReadsRow ((Kd.tag (fun k => if okp k then xs.length + g k else f k) d).M W base okp) d.sz W A ys.length (ys.zipIdx xs.length) := by
    refine ⟨by rw [List.length_zipIdx], hr.2.1, fun hp => ?_⟩
    obtain ⟨ad, hA, hc⟩ := hr.2.2 hp
    refine ⟨ad, hA, fun j p hj => ?_⟩
    rw [List.getElem?_zipIdx] at hj
    obtain ⟨y, hy, rfl⟩ := Option.map_eq_some_iff.1 hj
    obtain ⟨cs, h1, h2, h3⟩ := hc j (y, j) (by rw [List.getElem?_zipIdx, hy]; simp)
    refine ⟨cs, h1, d.M_mono (fun k hk => ⟨hk.1.1, ?_⟩) h2, h3⟩
    show (if okp k then xs.length + g k else f k) = xs.length + j
    rw [if_pos hk.1.1]
    have h4 : g k = j := hk.2
    omega
  refine Kd.R_append_rows_step (Kd.tag (fun k => if okp k then xs.length + g k else f k) d) base hw s x t e z bytes ho ht hinfo hz hs0 hb0 v xs.zipIdx (ys.zipIdx xs.length) A ys.length c ok okp hs hx (Kd.R_mono hF (fun _ hk => hk.1)) hr2 (fun _ _ hk => hk) hokp hfresh HB hbase (by rw [List.length_zipIdx]; exact hl) ?_
  intro v1 w1 hr1 hb1 hg1 hat1
  have e9 : (xs ++ ys).zipIdx = xs.zipIdx ++ ys.zipIdx xs.length := by rw [List.zipIdx_append, Nat.zero_add]
  rw [← e9] at hr1
  exact h v1 w1 ⟨_, hr1⟩ hb1 hg1 hat1
end Go.Proofs.Ytoeobfbhckledaa.P
