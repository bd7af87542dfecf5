import Derived.Test.YtkpeihdlmjdejaaCP0
import Derived.Test.YtkpeihdlmjdejaaC0
import Derived.Test.YtkpeihdlmjdejaaC1
import Derived.Test.YtkpeihdlmjdejaaC2
namespace Go.Proofs.Ytkpeihdlmjdejaa.P
open Go.RowKit Go.Proofs.YtkpeihdlmjdejaaW.PrintWords Go.Proofs.YtkpeihdlmjdejaaW.PrintLast Go.Proofs.YtkpeihdlmjdejaaW.PrintMore
attribute [local go_sem] max2_int min2_int max_two min_two max_three min_three max_four min_four   -- for this text's walks alone
set_option linter.unusedVariables false
set_option linter.unusedSimpArgs false


/-- A slice of rows that lie apart: as Kd.slice, told by S. -/
def KS {α : Type} (e : Nat) (d : Kd α) : Kd (List α) where
  sz := 1
  E := e :: d.E
  K := (Kd.slice e d).K
  M := fun w base ok xs cs => ∃ v, cs = [v] ∧ Kd.S d e w base ok v xs
  K_len := (Kd.slice e d).K_len
  K_one := (Kd.slice e d).K_one
  K_below := (Kd.slice e d).K_below
  K_of_M := by
    rintro w base ok x cs ⟨v, rfl, h⟩
    exact (Kd.slice e d).K_of_M (base := base) (ok := ok) ⟨v, rfl, Kd.S_R h⟩
  M_mono := by
    rintro w base ok ok' x cs hok ⟨v, rfl, h⟩
    exact ⟨v, rfl, Kd.S_mono h hok⟩
  M_bound := by
    rintro w base ok x cs ⟨v, rfl, h⟩
    exact ⟨v, rfl, Kd.S_bound h⟩
  M_move := by
    rintro w w1 base ok x cs hm ⟨v, rfl, h⟩
    exact ⟨v, rfl, Kd.S_move h hm⟩
  M_lower := by
    rintro w base base' ok x cs hb ⟨v, rfl, h⟩
    exact ⟨v, rfl, Kd.S_lower h hb⟩
/-- append(v, u), the new element told by its cell alone: a row with a hole at its end. -/
theorem H_append {P : Program} {ops : Array Oper} {rest : List Oper} {o : Oper} {a : Act} {Q : Exit → Act → World → Prop} {α : Type} (d : Kd α) (hd1 : d.sz = 1) {w0 W : World} (base : Nat) (hgd : o.guard = none) (s x : Operand) (t e : TypeId) (z : Value) (bytes : Nat)
    (ho : o.op = .call { callee := .builtin .append, args := #[s, x], argTypes := #[t, t] })
    (ht : P.underlying t = some (.slice e)) (hinfo : (P.info? e).map (fun i => (i.zero, i.size, i.bytes)) = some (some z, d.sz, bytes)) (hz : z.cells.size = d.sz) (hb0 : 0 < bytes)
    (v : Value) (xs : List α) (zz : α) (u : Value) (hu : u.oneCell' = true) (ok okp : Nat → Prop) (hs : a.eval s = v) (hx : a.eval x = .slice (some ⟨W.heap.size, 0, none⟩) 1 1) (hok : ∀ k, okp k → ok k ∧ k < W.heap.size) (hfresh : ∀ k, W.heap.size ≤ k → ok k)
    (HO : Kd.S d e W base (fun k => ok k ∧ ¬ okp k) v xs) (HB : Below base w0 W) (hbase : base ≤ W.heap.size) (hl : (xs.length + 1) * bytes ≤ 140737488355328)
    (h : ∀ v1 w1, Kd.H d e w1 base ok v1 (xs ++ [zz]) (xs.length : Int) okp [u] → Below base w0 w1 → W.grownBy w1 v.ownBlock → (v1.ownBlock = v.ownBlock ∨ ∃ b, v1.ownBlock = some b ∧ W.heap.size ≤ b) → wpList P ops Q rest (a.put o.dst v1) w1) :
    wpList P ops Q (o :: rest) a (W.alloc (.cells #[u] e)) := by
  obtain ⟨f, h0, inner, hown, hr⟩ := HO
  have hR : (Kd.gap f d xs.length [u]).R e W base (fun k => ok k ∧ ¬ okp k) v xs.zipIdx := by
    refine ⟨h0, inner, hown, hr.1, fun j p hj => ⟨fun hx => ?_, fun _ => hr.2 j p hj⟩⟩
    rw [List.getElem?_zipIdx, Nat.zero_add] at hj
    obtain ⟨q, hq, rfl⟩ := Option.map_eq_some_iff.1 hj
    have := (List.getElem?_eq_some_iff.1 hq).1
    simp at hx
    omega
  refine Kd.R_append (Kd.gap f d xs.length [u]) base hgd s x t e z bytes ho ht hinfo hz (by show 0 < d.sz; omega) hb0 v xs.zipIdx (zz, xs.length) [u] (fun k => ok k ∧ ¬ okp k) (fun _ => False) hs hx
    ⟨fun _ => ⟨rfl, hd1.symm, fun q hq => by rw [List.mem_singleton.1 hq]; exact hu⟩, fun hne => absurd rfl hne⟩ (fun _ hk => hk.elim) (fun k hk => ⟨hfresh k hk, fun h2 => by have := (hok k h2).2; omega⟩) hR HB hbase (by rw [List.length_zipIdx]; exact hl) ?_
  intro v1 w1 hr1 hb1 hg1 hat1
  rw [← Kd.zip_snoc] at hr1
  exact h v1 w1 ⟨fun k hk => (hok k hk).1, f, hr1⟩ hb1 hg1 hat1
abbrev KB : Kd (List Bool) := Kd.slice 4 Kd.bool
abbrev KT : Kd (List (List Bool)) := KS 131 KB
/-- While a matcher is made: its table is whole. -/
structure InvT (w0 W : World) (g : Nat) (Ap : Option Addr) (c0 : Nat) (p : List S89) (Al : Option Addr) (c1 : Nat) (l : List Int) (Av : Option Addr) (cv : Nat) (list : List (List Int)) (vt : Value) (tbl : List (List (List Bool))) (ok : Nat → Prop) : Prop where
  blk : W.heap[g]? = some (.cells #[.slice Ap p.length c0, .slice Av list.length cv, .slice Al l.length c1, vt] 138 (0, 0))
  ge : w0.heap.size ≤ g
  li : Kd.S (Kd.slice 3 (Kd.int .i64)) 23 W w0.heap.size (fun _ => True) (.slice Av list.length cv) list
  ta : Kd.S KT 132 W w0.heap.size ok vt tbl
  be : Below w0.heap.size w0 W
section
variable {w0 W W' : World} {g : Nat} {Ap : Option Addr} {c0 : Nat} {p : List S89} {Al : Option Addr} {c1 : Nat} {l : List Int} {Av : Option Addr} {cv : Nat} {list : List (List Int)} {vt : Value} {tbl : List (List (List Bool))} {ok : Nat → Prop}
theorem InvT.below (h : InvT w0 W g Ap c0 p Al c1 l Av cv list vt tbl ok) (hb : Below W.heap.size W W') : InvT w0 W' g Ap c0 p Al c1 l Av cv list vt tbl ok :=
  ⟨blk_below h.blk hb, h.ge, Kd.S_below h.li hb, Kd.S_below h.ta hb, below_step h.be hb⟩
theorem InvT.mt (h : InvT w0 W g Ap c0 p Al c1 l Av cv list vt tbl ok) (hp : Kd.C k89 w0 Ap p.length p) (hpc : p.length ≤ c0) (hl : Kd.C (Kd.int .i64) w0 Al l.length l) (hlc : l.length ≤ c1) : Mt W g p list l tbl := by
  obtain ⟨A3, c3, rfl, h3, hT⟩ := Kd.S_reads h.ta
  obtain ⟨_, h2, hL⟩ := Kd.S_reads' h.li
  exact ⟨Ap, c0, Av, cv, Al, c1, A3, c3, h.blk, Kd.C_below hp h.be, hL, Kd.C_below hl h.be, hT, hpc, h2, hlc, h3⟩
/-- While a node's rows are made. -/
structure InvF (w0 W : World) (g : Nat) (Ap : Option Addr) (c0 : Nat) (p : List S89) (Al : Option Addr) (c1 : Nat) (l : List Int) (Av : Option Addr) (cv : Nat) (list : List (List Int)) (vt : Value) (tbl : List (List (List Bool))) (N : Nat) (vr : Value) (rows : List (List Bool)) : Prop where
  t : InvT w0 W g Ap c0 p Al c1 l Av cv list vt tbl (fun k => k < N)
  ro : Kd.S KB 131 W w0.heap.size (fun k => N ≤ k) vr rows
  n : N ≤ W.heap.size
  gn : g < N
variable {N : Nat} {vr : Value} {rows : List (List Bool)}
theorem InvF.below (h : InvF w0 W g Ap c0 p Al c1 l Av cv list vt tbl N vr rows) (hb : Below W.heap.size W W') : InvF w0 W' g Ap c0 p Al c1 l Av cv list vt tbl N vr rows := ⟨h.t.below hb, Kd.S_below h.ro hb, Nat.le_trans h.n hb.size, h.gn⟩
/-- Rows have been made. -/
theorem InvF.make (h : InvT w0 W g Ap c0 p Al c1 l Av cv list vt tbl (fun _ => True)) (hr : Kd.S KB 131 W' W.heap.size (fun _ => True) vr rows) (hb : Below W.heap.size W W') : InvF w0 W' g Ap c0 p Al c1 l Av cv list vt tbl W.heap.size vr rows := by
  have h2 := h.below hb
  exact ⟨⟨h2.blk, h2.ge, h2.li, Kd.S_mono (Kd.S_old h.ta hb) (fun _ hk => hk.2), h2.be⟩, Kd.S_lower (Kd.S_mono (Kd.S_bound hr) (fun k hk => hk.2.1)) h.be.size, hb.size, blk_lt h.blk⟩
/-- A new row is stored. -/
theorem InvF.put {W1 : World} {gr m cr : Nat} {v : Value} {row : List Bool} {x : Int} (h : InvF w0 W g Ap c0 p Al c1 l Av cv list vt tbl N (.slice (some ⟨gr, 0, none⟩) m cr) rows) (hb : Below W.heap.size W W1) (hn : Kd.bool.R 4 W1 W.heap.size (fun _ => True) v row) (x0 : 0 ≤ x) (x1 : x < m) :
    (∃ old, W1.cell? ⟨gr, x.toNat, none⟩ = some old) ∧ W1.frozen? ⟨gr, x.toNat, none⟩ = false ∧ InvF w0 (W1.setCell ⟨gr, x.toNat, none⟩ v) g Ap c0 p Al c1 l Av cv list vt tbl N (.slice (some ⟨gr, 0, none⟩) m cr) (rows.set x.toNat row) := by
  have hro := Kd.S_old h.ro hb
  have hob : (Value.slice (some ⟨gr, 0, none⟩) m cr).ownBlock = some gr := by simp [Value.ownBlock]
  have HX : Kd.S KB 131 W1 w0.heap.size (fun k => N ≤ k ∧ ¬ W.heap.size ≤ k) (.slice (some ⟨gr, 0, none⟩) m cr) rows := Kd.S_mono hro (fun k hk => ⟨hk.1, by have := hk.2; omega⟩)
  have hgr := (Kd.S_R HX).1 gr hob
  have hgb := Kd.S_base HX gr hob
  obtain ⟨cg, hcg⟩ := Kd.S_typed HX gr hob
  obtain ⟨oki, c, hcl, hM, hcc, hfr, hoki, hH⟩ := Kd.S_elem HX [] x x0 x1
  obtain ⟨ve, rfl, _⟩ := hM
  have hx0 := hcc 0 _ rfl
  have hf0 := hfr 0
  have HP := Kd.S_seg (ok := fun k => N ≤ k) (okg := fun k => W.heap.size ≤ k) hH x0 x1 (seg := [v]) (j := 0) (show 1 ≤ 1 from Nat.le_refl _) (x' := row) (Kd.M_row (Kd.R_lower (Kd.R_mono (Kd.R_bound hn) (fun k hk => hk.2.1)) h.t.be.size)) (fun k hk => .inr hk) (fun k hk => ⟨Nat.le_trans h.n hk, fun he => by omega⟩)
  simp only [show (KB).sz = 1 from rfl, Nat.mul_one, Nat.add_zero] at hx0 hf0 HP
  have hb2 := h.t.below hb
  refine ⟨⟨_, hx0⟩, hf0, ⟨⟨blk_grown hb2.blk HP.2 (fun he => ?_), hb2.ge, ?_, Kd.S_grown hb2.ta HP.2 (fun k hk he => ?_), below_set hb2.be hgb⟩, ?_, ?_, h.gn⟩⟩
  · injection he with he
    have := h.gn
    omega
  · exact Kd.S_mono (Kd.S_grown (Kd.S_types hb2.li hcg (by decide)) HP.2 (fun k hk he => hk.2 (by injection he))) (fun _ hk => hk.1)
  · injection he with he
    omega
  · have := HP.1
    exact this
  · have := HP.2.size
    exact Nat.le_trans h.n (Nat.le_trans hb.size this)
/-- While a node's rows are filled: they are the table's last. -/
structure InvH (w0 W : World) (g : Nat) (Ap : Option Addr) (c0 : Nat) (p : List S89) (Al : Option Addr) (c1 : Nat) (l : List Int) (Av : Option Addr) (cv : Nat) (list : List (List Int)) (vt : Value) (tbl : List (List (List Bool))) (okR : Nat → Prop) (vr : Value) (rows : List (List Bool)) : Prop where
  blk : W.heap[g]? = some (.cells #[.slice Ap p.length c0, .slice Av list.length cv, .slice Al l.length c1, vt] 138 (0, 0))
  ge : w0.heap.size ≤ g
  li : Kd.S (Kd.slice 3 (Kd.int .i64)) 23 W w0.heap.size (fun _ => True) (.slice Av list.length cv) list
  ta : Kd.H KT 132 W w0.heap.size (fun k => k ≠ g) vt (tbl ++ [[]]) (tbl.length : Int) okR [vr]
  ro : Kd.S KB 131 W w0.heap.size okR vr rows
  be : Below w0.heap.size w0 W
variable {okR : Nat → Prop}
theorem InvH.below (h : InvH w0 W g Ap c0 p Al c1 l Av cv list vt tbl okR vr rows) (hb : Below W.heap.size W W') : InvH w0 W' g Ap c0 p Al c1 l Av cv list vt tbl okR vr rows :=
  ⟨blk_below h.blk hb, h.ge, Kd.S_below h.li hb, Kd.H_below h.ta hb, Kd.S_below h.ro hb, below_step h.be hb⟩
/-- The rows have been appended. -/
theorem InvF.append {W1 : World} {v1 : Value} (h : InvF w0 W g Ap c0 p Al c1 l Av cv list vt tbl N vr rows) (hH : Kd.H KT 132 W1 w0.heap.size (fun k => k ≠ g) v1 (tbl ++ [[]]) (tbl.length : Int) (fun k => N ≤ k ∧ k < W.heap.size) [vr]) (hb : Below w0.heap.size w0 W1) (hg : W.grownBy W1 vt.ownBlock) :
    W1.heap[g]? = some (.cells #[.slice Ap p.length c0, .slice Av list.length cv, .slice Al l.length c1, vt] 138 (0, 0)) ∧ InvH w0 (W1.setCell ⟨g, 3, none⟩ v1) g Ap c0 p Al c1 l Av cv list v1 tbl (fun k => N ≤ k ∧ k < W.heap.size) vr rows := by
  have hne : ∀ k, N ≤ k → some k ≠ vt.ownBlock := fun k hk he => by have := (Kd.S_R h.t.ta).1 k he.symm; omega
  have hblk := blk_grown h.t.blk hg (Kd.S_ne h.t.ta h.t.blk (by decide))
  have hli := Kd.S_over' h.t.li (Kd.S_typed h.t.ta) (by decide) hg
  have hro : Kd.S KB 131 W1 w0.heap.size (fun k => N ≤ k ∧ k < W.heap.size) vr rows := Kd.S_grown (Kd.S_mono (Kd.S_bound h.ro) (fun k hk => ⟨hk.1, hk.2.2.1⟩)) hg (fun k hk => hne k hk.1)
  refine ⟨hblk, ⟨blk_put hblk 3 v1 rfl, h.t.ge, ?_, Kd.H_far (p := ⟨g, 3, none⟩) hH (fun k hk => hk) v1, Kd.S_far (p := ⟨g, 3, none⟩) hro (fun k hk he => ?_) v1, below_set hb h.t.ge⟩⟩
  · exact Kd.S_mono (Kd.S_far (p := ⟨g, 3, none⟩) (Kd.S_types hli hblk (by decide)) (fun k hk => hk.2) v1) (fun _ hk => hk.1)
  · have := h.gn
    have h2 : k = g := he
    omega
theorem InvH.close (h : InvH w0 W g Ap c0 p Al c1 l Av cv list vt tbl okR vr rows) : InvT w0 W g Ap c0 p Al c1 l Av cv list vt (tbl ++ [rows]) (fun _ => True) := by
  have hS := Kd.H_back h.ta (x' := rows) (okp := okR) ⟨vr, rfl, h.ro⟩ (fun _ hk => hk)
  have he : (tbl ++ [[]]).set (tbl.length : Int).toNat rows = tbl ++ [rows] := by simp
  rw [he] at hS
  exact ⟨h.blk, h.ge, h.li, Kd.S_mono hS (fun _ _ => trivial), h.be⟩
theorem InvH.get {a : Int} {gr m cr : Nat} (h : InvH w0 W g Ap c0 p Al c1 l Av cv list vt tbl okR (.slice (some ⟨gr, 0, none⟩) m cr) rows) (a0 : 0 ≤ a) (a1 : a < m) (hr : 0 < (rows.getD a.toNat []).length) :
    ∃ gb cb, W.cell? ⟨gr, a.toNat, none⟩ = some (.slice (some ⟨gb, 0, none⟩) (rows.getD a.toNat []).length cb) := by
  obtain ⟨oki, c, hcl, hM, hcc, hfr, hoki, hH⟩ := Kd.S_elem h.ro [] a a0 a1
  obtain ⟨ve, rfl, hR⟩ := hM
  obtain ⟨gb, cb, rfl, _⟩ := Kd.R_form hR hr
  have hx0 := hcc 0 _ rfl
  simp only [show (KB).sz = 1 from rfl, Nat.mul_one, Nat.add_zero] at hx0
  exact ⟨gb, cb, hx0⟩
theorem InvH.mt (h : InvH w0 W g Ap c0 p Al c1 l Av cv list vt tbl okR vr rows) (hp : Kd.C k89 w0 Ap p.length p) (hpc : p.length ≤ c0) (hl : Kd.C (Kd.int .i64) w0 Al l.length l) (hlc : l.length ≤ c1) : Mt W g p list l (tbl ++ [rows]) := h.close.mt hp hpc hl hlc
theorem InvH.put {a x : Int} {gr m cr gb cb n : Nat} (h : InvH w0 W g Ap c0 p Al c1 l Av cv list vt tbl okR (.slice (some ⟨gr, 0, none⟩) m cr) rows) (hc : W.cell? ⟨gr, a.toNat, none⟩ = some (.slice (some ⟨gb, 0, none⟩) n cb)) (a0 : 0 ≤ a) (a1 : a < m) (x0 : 0 ≤ x) (x1 : x < (rows.getD a.toNat []).length) :
    (∃ old, W.cell? ⟨gb, x.toNat, none⟩ = some (.bool old)) ∧ W.frozen? ⟨gb, x.toNat, none⟩ = false ∧ ∀ u, InvH w0 (W.setCell ⟨gb, x.toNat, none⟩ (.bool u)) g Ap c0 p Al c1 l Av cv list vt tbl okR (.slice (some ⟨gr, 0, none⟩) m cr) (rows.set a.toNat ((rows.getD a.toNat []).set x.toNat u)) := by
  obtain ⟨oki, c, hcl, hM, hcc, hfr, hoki, hH⟩ := Kd.S_elem h.ro [] a a0 a1
  obtain ⟨ve, rfl, hR⟩ := hM
  have hx0 := hcc 0 _ rfl
  simp only [show (KB).sz = 1 from rfl, Nat.mul_one, Nat.add_zero] at hx0
  rw [hc] at hx0
  obtain rfl := Option.some.inj hx0
  have hn := (Kd.R_reads' hR).1
  have hob : (Value.slice (some ⟨gb, 0, none⟩) n cb).ownBlock = some gb := by simp [Value.ownBlock]
  have hog := hR.1 gb hob
  have hgb := Kd.R_base hR gb hob
  obtain ⟨cg, hcg⟩ := Kd.R_typed hR gb hob
  have hcf := Kd.R_celln false hR x x0 (by omega)
  refine ⟨⟨_, hcf.1⟩, hcf.2, fun u => ?_⟩
  have HP := Kd.R_putg hR x u
  refine ⟨blk_grown h.blk HP.2 (fun he => ?_), h.ge, ?_, Kd.H_grown h.ta HP.2 (fun k he => ?_), ?_, below_set h.be hgb⟩
  · injection he with he
    exact h.ta.1 gb (hoki gb hog).1 he.symm
  · exact Kd.S_mono (Kd.S_grown (Kd.S_types h.li hcg (by decide)) HP.2 (fun k hk he => hk.2 (by injection he))) (fun _ hk => hk.1)
  · injection he with he
    subst he
    exact (hoki _ hog).1
  · have hS := Kd.H_back (Kd.H_grown hH HP.2 (fun k he => by injection he with he; subst he; exact hog)) (x' := (rows.getD a.toNat []).set x.toNat u) (okp := oki) ⟨_, rfl, HP.1⟩ (fun _ hk => hk)
    exact hS
end
def impl_match.n1 (l : List Int) : Nat := l.length + 1
mutual
def impl_match.l0 : Nat → List S89 → List (List Int) → List Int → List (List (List Bool)) → Int → Option (List (List (List Bool)))
  | 0, _, _, _, _, _ => none
  | k + 1, p, q, l, tbl, i => if i < p.length then impl_match.l1 k p q l tbl i (List.replicate (l.length + 1) (List.replicate (l.length + 1) false)) l.length else some tbl
def impl_match.l1 : Nat → List S89 → List (List Int) → List Int → List (List (List Bool)) → Int → List (List Bool) → Int → Option (List (List (List Bool)))
  | 0, _, _, _, _, _, _, _ => none
  | k + 1, p, q, l, tbl, i, rows, a => if 0 ≤ a then impl_match.l2 k p q l tbl i rows a a else impl_match.l0 k p q l (tbl ++ [rows]) (i + 1)
def impl_match.l2 : Nat → List S89 → List (List Int) → List Int → List (List (List Bool)) → Int → List (List Bool) → Int → Int → Option (List (List (List Bool)))
  | 0, _, _, _, _, _, _, _, _ => none
  | k + 1, p, q, l, tbl, i, rows, a, x => if x ≤ l.length then ((impl_matcher_look.f k p q l (tbl ++ [rows]) i a x).bind fun u => impl_match.l2 k p q l tbl i (rows.set a.toNat ((rows.getD a.toNat []).set x.toNat u)) a (x + 1)) else impl_match.l1 k p q l tbl i rows (a - 1)
end
def impl_match.f (k : Nat) (p : List S89) (l : List Int) : Option (List (List Int) × List (List (List Bool))) :=
  if p.length ≤ 1000 ∧ l.length ≤ 1000 then (impl_parts.f k p).bind fun t => (impl_match.l0 k p t.1 l [] 0).bind fun tb => some (t.1, tb) else none
theorem impl_match.mono_l : ∀ k, (∀ p q l t i, LeO (impl_match.l0 k p q l t i) (impl_match.l0 (k + 1) p q l t i)) ∧ (∀ p q l t i r a, LeO (impl_match.l1 k p q l t i r a) (impl_match.l1 (k + 1) p q l t i r a)) ∧ (∀ p q l t i r a x, LeO (impl_match.l2 k p q l t i r a x) (impl_match.l2 (k + 1) p q l t i r a x))
  | 0 => ⟨fun _ _ _ _ _ r h => by simp [impl_match.l0] at h, fun _ _ _ _ _ _ _ r h => by simp [impl_match.l1] at h, fun _ _ _ _ _ _ _ _ r h => by simp [impl_match.l2] at h⟩
  | k + 1 => by
    obtain ⟨i0, i1, i2⟩ := impl_match.mono_l k
    refine ⟨fun p q l t i => ?_, fun p q l t i r a => ?_, fun p q l t i r a x => ?_⟩
    · rw [impl_match.l0, impl_match.l0]
      exact LeO.ite (i1 _ _ _ _ _ _ _) (LeO.refl _)
    · rw [impl_match.l1, impl_match.l1]
      exact LeO.ite (i2 _ _ _ _ _ _ _ _) (i0 _ _ _ _ _)
    · rw [impl_match.l2, impl_match.l2]
      exact LeO.ite (LeO.bind (impl_matcher_look.mono _ _ _ _ _ _ _ _) fun _ => i2 _ _ _ _ _ _ _ _) (i1 _ _ _ _ _ _ _)
theorem impl_match.mono : ∀ p l k, LeO (impl_match.f k p l) (impl_match.f (k + 1) p l) := by
  intro p l k
  unfold impl_match.f
  exact LeO.ite (LeO.bind (impl_parts.mono _ _) fun _ => LeO.bind ((impl_match.mono_l k).1 _ _ _ _ _) fun _ => LeO.refl _) (LeO.refl _)
/-- All rows of one length. -/
def Shape (n : Nat) (rows : List (List Bool)) : Prop := rows.length = n + 1 ∧ ∀ a : Int, 0 ≤ a → a ≤ n → (rows.getD a.toNat []).length = n + 1
theorem Shape.start (n : Nat) : Shape n (List.replicate (n + 1) (List.replicate (n + 1) false)) := by
  refine ⟨by simp, fun a a0 a1 => ?_⟩
  rw [List.getD_eq_getElem?_getD, List.getElem?_replicate, if_pos (by omega)]
  simp
theorem Shape.put {n : Nat} {rows : List (List Bool)} (h : Shape n rows) (a : Int) (x : Int) (u : Bool) : Shape n (rows.set a.toNat ((rows.getD a.toNat []).set x.toNat u)) := by
  refine ⟨by rw [List.length_set]; exact h.1, fun b b0 b1 => ?_⟩
  by_cases e : a.toNat = b.toNat
  · have hl := h.1
    have := h.2 b b0 b1
    rw [← e, List.getD_eq_getElem?_getD, List.getElem?_set_self (by omega)]
    rw [← e] at this
    simpa using this
  · rw [List.getD_eq_getElem?_getD, List.getElem?_set_ne e, ← List.getD_eq_getElem?_getD]
    exact h.2 b b0 b1
/-- So many rows are made, the others are none yet. -/
def made (n x : Nat) : List (List Bool) := List.replicate x (List.replicate (n + 1) false) ++ List.replicate (n + 1 - x) []
theorem made_zero (n : Nat) : made n 0 = List.replicate (n + 1) [] := by simp [made]
theorem made_all (n : Nat) : made n (n + 1) = List.replicate (n + 1) (List.replicate (n + 1) false) := by simp [made]
theorem made_length (n x : Nat) (h : x ≤ n + 1) : (made n x).length = n + 1 := by
  unfold made
  rw [List.length_append, List.length_replicate, List.length_replicate]
  omega
theorem made_succ (n x : Nat) (h : x ≤ n) : (made n x).set x (List.replicate (n + 1) false) = made n (x + 1) := by
  unfold made
  generalize List.replicate (n + 1) false = z
  rw [List.set_append_right _ _ (by simp), List.length_replicate, Nat.sub_self, show n + 1 - x = (n - x) + 1 by omega, List.replicate_succ (n := n - x), List.set_cons_zero, show n + 1 - (x + 1) = n - x by omega, List.replicate_succ' (n := x), List.append_assoc]
  rfl
theorem made_put (n : Nat) (x : Int) (x0 : 0 ≤ x) (x1 : x ≤ n) : (made n x.toNat).set x.toNat (List.replicate ((n : Int) + 1).toNat false) = made n (x + 1).toNat := by
  rw [show ((n : Int) + 1).toNat = n + 1 by omega, made_succ n x.toNat (by omega), show (x + 1).toNat = x.toNat + 1 by omega]
theorem impl_match.info2 : (Try.prog.info? 132).map (fun i => (i.zero, i.size, i.bytes)) = some (some (.slice none 0 0), 1, 24) := by kernel_rfl
theorem impl_match.info1 : (Try.prog.info? 131).map (fun i => (i.zero, i.size, i.bytes)) = some (some (.slice none 0 0), 1, 24) := by kernel_rfl
theorem impl_match.info0 : (Try.prog.info? 4).map (fun i => (i.zero, i.size, i.bytes)) = some (some (.bool false), 1, 1) := by kernel_rfl
set_option maxHeartbeats 16000000 in
set_option maxRecDepth 100000 in
theorem impl_match.calls (k : Nat) (A0 : Option Addr) (c0 : Nat) (p : List S89) (A1 : Option Addr) (c1 : Nat) (l : List Int) (q : List (List Int)) (tb : List (List (List Bool))) (w : World) (hr0 : Kd.C k89 w A0 p.length p) (hc0 : p.length ≤ c0) (hr1 : Kd.C (Kd.int .i64) w A1 l.length l) (hc1 : l.length ≤ c1) (h : impl_match.f k p l = some (q, tb)) :
    Calls Try.prog 63 #[.slice A0 p.length c0, .slice A1 l.length c1] w fun e w' => ∃ g : Nat, e = .returned (.pointer (some ⟨g, 0, none⟩)) ∧ Mt w' g p q l tb ∧ Below w.heap.size w w' := by
  unfold impl_match.f at h
  split at h
  case isFalse => cases h
  rename_i hs
  obtain ⟨hpl, hll⟩ := hs
  obtain ⟨⟨q', okq⟩, hq, h2⟩ := Option.bind_eq_some_iff.mp h
  clear h
  obtain ⟨tb', ht, h3⟩ := Option.bind_eq_some_iff.mp h2
  clear h2
  obtain ⟨rfl, rfl⟩ : q' = q ∧ tb' = tb := by simpa using Option.some.inj h3
  clear h3
  have HR0 := Aside0.mk hr0
  have HC0 := Aside0.mk hc0
  have HR1 := Aside0.mk hr1
  have HC1 := Aside0.mk hc1
  have HQ := Aside0.mk hq
  have HH := Aside0.mk ht
  clear hr0 hc0 hr1 hc1 hq ht
  go_enter Try.func63, Try.ntmps63
  go_wp2_with (first | (go_at_call 110; (with_reducible refine (impl_parts.calls k A0 c0 p q' okq _ HR0.out HC0.out HQ.out).mono ?_); rintro e w1 ⟨vl, rfl, hL, hb⟩; obtain ⟨Av, cv, rfl⟩ := Kd.S_slice hL; have HL := Aside0.mk hL; have HB := Aside0.mk hb; clear hL hb) | ((with_reducible refine gate_dst (N := 22) rfl ?_); refine box_event ?hg (N := 22) ?hd (cs := #[.slice A0 p.length c0, .slice Av q'.length cv, .slice A1 l.length c1, .slice none 0 0]) (t := 138) ?hr ?_; (case hd => rfl); (case hg => rfl); (case hr => first | (go_simp; done) | (go_simp; rfl)); intro g hg w2 hbox hb2; have HT := Aside0.mk (show InvT w w2 g A0 c0 p A1 c1 l Av cv q' (.slice none 0 0) [] (fun _ => True) from ⟨hbox, by rw [hg]; exact HB.out.size, Kd.S_below HL.out hb2, Kd.S_nil _ _ _ _ _, below_step HB.out hb2⟩); clear hbox hb2 hg HL HB))
  go_loopg [25] k (fun kq v w' => ∃ (i : Int) (tb1 : List (List (List Bool))) (vt : Value), v = .int .i64 i ∧ 0 ≤ i ∧ i ≤ 1000 ∧ Aside0 (impl_match.l0 kq p q' l tb1 i = some tb') ∧ Aside0 (kq ≤ k) ∧ Aside0 ((tb1.length : Int) = i) ∧ Aside0 (InvT w w' g A0 c0 p A1 c1 l Av cv q' vt tb1 (fun _ => True)))
  case atStart => exact ⟨0, [], _, rfl, by omega, by omega, HH, ⟨Nat.le_refl _⟩, ⟨rfl⟩, HT⟩
  case round =>
    clear HH HT
    obtain ⟨i, tb1, vt, rfl, i0, i1, HA, HK, HL, HT⟩ := hrel
    cases gk with
    | zero => exact absurd HA.out (by simp [impl_match.l0])
    | succ k1 =>
      have H := HA.out
      clear HA
      simp only [impl_match.l0] at H
      by_cases c : i < (p.length : Int)
      · rw [if_pos c] at H
        have H1 := Aside0.mk H
        clear H
        go_wp2_with (first | ((with_reducible refine gate_dst (N := 31) rfl ?_); refine Kd.S_make KB _ 131 rfl (N := 31) rfl 132 _ _ rfl ((l.length : Int) + 1) rfl rfl Try.underlying132 (.slice none 0 0) 24 impl_match.info1 rfl (by decide) (by omega) [] (ok := fun _ => True) (okp := fun _ => True) ⟨_, rfl, Kd.R_nil _ _ _ _ _⟩ (fun _ hk => hk) trivial (by omega) (by omega) (Below.refl _ _) (Nat.le_refl _) ?_; intro vr w3 ho hb hg_ hnew_; clear hg_ hnew_; rw [show List.replicate ((l.length : Int) + 1).toNat ([] : List Bool) = made l.length 0 by rw [made_zero, show ((l.length : Int) + 1).toNat = l.length + 1 by omega]] at ho; obtain ⟨gr, cr, er, _⟩ := Kd.S_form ho (by rw [made_length _ _ (by omega)]; omega); rw [made_length _ _ (by omega)] at er; subst er; have HF := Aside0.mk (InvF.make HT.out ho hb); clear ho hb))
        obtain ⟨N, hN⟩ : ∃ N, wr.heap.size = N := ⟨_, rfl⟩
        rw [hN] at HF
        clear hN HT
        go_loopg [34] (l.length + 1) (fun kq v w' => ∃ x : Int, v = .int .i64 x ∧ 0 ≤ x ∧ x ≤ (l.length : Int) + 1 ∧ Aside0 ((l.length : Int) + 1 - x ≤ kq) ∧ Aside0 (InvF w w' g A0 c0 p A1 c1 l Av cv q' vt tb1 N (.slice (some ⟨gr, 0, none⟩) (l.length + 1) cr) (made l.length x.toNat)))
        case atStart => exact ⟨0, rfl, by omega, by omega, ⟨by omega⟩, HF⟩
        case round =>
          clear HF
          obtain ⟨x, rfl, x0, x1, HG, HF⟩ := hrel
          by_cases cx : x < (l.length : Int) + 1
          · cases gk with
            | zero => exact absurd HG.out (by omega)
            | succ j =>
              go_wp2_with (first | ((with_reducible refine gate_dst (N := 42) rfl ?_); refine Kd.R_make Kd.bool _ 4 rfl (N := 42) rfl 131 _ _ rfl ((l.length : Int) + 1) rfl rfl Try.underlying131 (.bool false) 1 impl_match.info0 rfl (by decide) (by omega) false (ok := fun _ => True) (okp := fun _ => True) rfl (fun _ hk => hk) trivial (by omega) (by omega) (Below.refl _ _) (Nat.le_refl _) ?_; intro v w4 ho hb hg_ hnew_; clear hg_ hnew_; obtain ⟨Av2, cv2, rfl⟩ := Kd.R_slice ho; obtain ⟨⟨old, hcell⟩, hfr, hnx⟩ := HF.out.put hb ho x0 (by omega); rw [made_put _ _ x0 (by omega), show (List.replicate ((l.length : Int) + 1).toNat false).length = l.length + 1 by rw [List.length_replicate]; omega] at hnx; have HN := Aside0.mk hnx; clear ho hb hnx))
              go_roundg j
              case measure => omega
              case rel => exact ⟨x + 1, rfl, by omega, by omega, ⟨by have := HG.out; omega⟩, HN⟩
          · obtain rfl : x = (l.length : Int) + 1 := by omega
            rw [show ((l.length : Int) + 1).toNat = l.length + 1 by omega, made_all] at HF
            clear HG
            obtain ⟨At, ct, rfl⟩ := Kd.S_slice HF.out.t.ta
            have hcz : wr.cell? ⟨g, 3, none⟩ = some (.slice At tb1.length ct) := (blk_cell HF.out.t.blk 3).trans rfl
            go_wp2_with (first | ((with_reducible refine gate_builtin (b := .append) (xs := #[.tmp 49, .tmp 51]) rfl ?_); at_builtin; refine H_append KT rfl (w0 := w) w.heap.size rfl (.tmp 49) (.tmp 51) 136 132 (.slice none 0 0) 24 rfl Try.underlying136 impl_match.info2 rfl (by omega) (.slice At tb1.length ct) tb1 [] (.slice (some ⟨gr, 0, none⟩) (l.length + 1) cr) rfl (fun k => k ≠ g) (fun k => N ≤ k ∧ k < wr.heap.size) rfl rfl ?aK ?aF ?aO ?aB ?aS ?aL ?_; (case aK => exact fun k hk => ⟨fun e => by have := HF.out.gn; omega, hk.2⟩); (case aF => exact fun k hk e => by have := HF.out.gn; have := HF.out.n; omega); (case aO => exact Kd.S_mono (Kd.S_types HF.out.t.ta HF.out.t.blk (by decide)) (fun k hk => ⟨hk.2, by have := hk.1; omega⟩)); (case aB => exact HF.out.t.be); (case aS => exact HF.out.t.be.size); (case aL => have := HL.out; omega); intro v1 w6 hH hb hg hat; obtain ⟨A3, c3, e3⟩ := Kd.R_slice hH.2.choose_spec; simp only [List.length_zipIdx, List.length_append, List.length_singleton] at e3; subst e3; obtain ⟨hblk, hI⟩ := HF.out.append hH hb hg; have hcz6 : w6.cell? ⟨g, 3, none⟩ = some (.slice At tb1.length ct) := (blk_cell hblk 3).trans rfl; have hfz6 := blk_frozen hblk 3; have HI := Aside0.mk hI; clear hH hb hg hat hblk hI))
            obtain ⟨okR, hokR⟩ : ∃ okR : Nat → Prop, okR = (fun k => N ≤ k ∧ k < wr.heap.size) := ⟨_, rfl⟩
            rw [← hokR] at HI
            clear hokR
            go_loopg [11] k1 (fun kq v w' => ∃ (a : Int) (rows : List (List Bool)), v = .int .i64 a ∧ -1 ≤ a ∧ a ≤ l.length ∧ Aside0 (impl_match.l1 kq p q' l tb1 i rows a = some tb') ∧ Aside0 (kq ≤ k1) ∧ Aside0 (Shape l.length rows) ∧ Aside0 (InvH w w' g A0 c0 p A1 c1 l Av cv q' (.slice A3 (tb1.length + 1) c3) tb1 okR (.slice (some ⟨gr, 0, none⟩) (l.length + 1) cr) rows))
            case atStart => exact ⟨l.length, _, rfl, by omega, by omega, H1, ⟨Nat.le_refl _⟩, ⟨Shape.start _⟩, HI⟩
            case round =>
              clear HI H1 hcz hcz6 hfz6 HF
              obtain ⟨a, rows, rfl, a0, a1, HA, HK2, HS, HI⟩ := hrel
              cases gk with
              | zero => exact absurd HA.out (by simp [impl_match.l1])
              | succ k2 =>
                have H := HA.out
                clear HA
                simp only [impl_match.l1] at H
                by_cases c2 : 0 ≤ a
                · rw [if_pos c2] at H
                  have H2 := Aside0.mk H
                  clear H
                  go_wp2
                  go_loopg [12] k2 (fun kq v w' => ∃ (x : Int) (rows : List (List Bool)), v = .int .i64 x ∧ 0 ≤ x ∧ x ≤ l.length + 1 ∧ Aside0 (impl_match.l2 kq p q' l tb1 i rows a x = some tb') ∧ Aside0 (kq ≤ k2) ∧ Aside0 (Shape l.length rows) ∧ Aside0 (InvH w w' g A0 c0 p A1 c1 l Av cv q' (.slice A3 (tb1.length + 1) c3) tb1 okR (.slice (some ⟨gr, 0, none⟩) (l.length + 1) cr) rows))
                  case atStart => exact ⟨a, rows, rfl, by omega, by omega, H2, ⟨Nat.le_refl _⟩, HS, HI⟩
                  case round =>
                    clear H2 HI HS rows
                    obtain ⟨x, rows, rfl, x0, x1, HA, HK3, HS, HI⟩ := hrel
                    cases gk with
                    | zero => exact absurd HA.out (by simp [impl_match.l2])
                    | succ k3 =>
                      have H := HA.out
                      clear HA
                      simp only [impl_match.l2] at H
                      by_cases c3 : x ≤ (l.length : Int)
                      · rw [if_pos c3] at H
                        obtain ⟨u, hu, H3⟩ := Option.bind_eq_some_iff.mp H
                        clear H
                        have HU := Aside0.mk hu
                        have H' := Aside0.mk H3
                        clear hu H3
                        have hrl := HS.out.2 a c2 (by omega)
                        obtain ⟨gb, cb, hx1⟩ := HI.out.get c2 (by omega) (by rw [hrl]; omega)
                        rw [hrl] at hx1
                        have HRL := Aside0.mk hrl
                        clear hrl
                        have hx1d : wr.drew.cell? ⟨gr, a.toNat, none⟩ = some (.slice (some ⟨gb, 0, none⟩) (l.length + 1) cb) := hx1
                        have HID := Aside0.mk (HI.out.below (below_drew (Below.refl wr.heap.size wr)))
                        clear HI hx1
                        have ha3 : a < (l.length : Int) + 1 := by omega
                        have hx3 : x < (l.length : Int) + 1 := by omega
                        go_wp2_with fail
                        refine start_ (n := 12) (S := fun w' => w'.cell? ⟨gr, a.toNat, none⟩ = some (.slice (some ⟨gb, 0, none⟩) (l.length + 1) cb)) (ds := [11]) #[false, false, false, false, false, false, false, false, false, false, false, false] (by kernel_rfl) rfl rfl (hx1d) (fun hHeld => ?_)
                        generalize wr.drew = w7 at HID hx1d hHeld ⊢
                        refine pure_ (i := 0) (N := some 68) (v := ?_) (a' := ?_) #[true, false, false, false, false, false, false, false, false, false, false, false] rfl rfl (by kernel_rfl) (fun _ _ _ h => h) (Or.inl ⟨by rfl, ?_⟩) ?_ ?_
                        rotate_left
                        · intro w'
                          go_simp
                          with_reducible rfl
                        rotate_left
                        · simp only [Act.put, List.setIfInBounds_toArray, List.set_cons_zero, List.set_cons_succ, i64_w, i32_w]
                          rfl
                        refine pure_ (i := 1) (N := some 69) (v := ?_) (a' := ?_) #[true, true, false, false, false, false, false, false, false, false, false, false] rfl rfl (by kernel_rfl) (fun _ _ _ h => h) (Or.inl ⟨by rfl, ?_⟩) ?_ ?_
                        rotate_left
                        · intro w'
                          go_simp
                          with_reducible rfl
                        rotate_left
                        · simp only [Act.put, List.setIfInBounds_toArray, List.set_cons_zero, List.set_cons_succ, i64_w, i32_w]
                          rfl
                        refine pure_ (i := 2) (N := some 70) (v := ?_) (a' := ?_) #[true, true, true, false, false, false, false, false, false, false, false, false] rfl rfl (by kernel_rfl) (fun _ _ _ h => h) (Or.inl ⟨by rfl, ?_⟩) ?_ ?_
                        rotate_left
                        · intro w'
                          go_simp
                          with_reducible rfl
                        rotate_left
                        · simp only [Act.put, List.setIfInBounds_toArray, List.set_cons_zero, List.set_cons_succ, i64_w, i32_w]
                          rfl
                        refine pure_ (i := 4) (N := some 72) (v := ?_) (a' := ?_) #[true, true, true, false, true, false, false, false, false, false, false, false] rfl rfl (by kernel_rfl) (fun _ _ _ h => h) (Or.inl ⟨by rfl, ?_⟩) ?_ ?_
                        rotate_left
                        · intro w'
                          go_simp
                          with_reducible rfl
                        rotate_left
                        · simp only [Act.put, List.setIfInBounds_toArray, List.set_cons_zero, List.set_cons_succ, i64_w, i32_w]
                          rfl
                        refine pure_ (i := 5) (N := some 73) (v := ?_) (a' := ?_) #[true, true, true, false, true, true, false, false, false, false, false, false] rfl rfl (by kernel_rfl) (fun _ _ _ h => h) (Or.inl ⟨by rfl, ?_⟩) ?_ ?_
                        rotate_left
                        · intro w'
                          go_simp
                          with_reducible rfl
                        rotate_left
                        · simp only [Act.put, List.setIfInBounds_toArray, List.set_cons_zero, List.set_cons_succ, i64_w, i32_w]
                          rfl
                        refine pure_ (i := 6) (N := some 74) (v := ?_) (a' := ?_) #[true, true, true, false, true, true, true, false, false, false, false, false] rfl rfl (by kernel_rfl) (fun _ _ _ h => h) (Or.inl ⟨by rfl, ?_⟩) ?_ ?_
                        rotate_left
                        · intro w'
                          go_simp
                          with_reducible rfl
                        rotate_left
                        · simp only [Act.put, List.setIfInBounds_toArray, List.set_cons_zero, List.set_cons_succ, i64_w, i32_w]
                          rfl
                        refine pure_ (i := 7) (N := some 75) (v := ?_) (a' := ?_) #[true, true, true, false, true, true, true, true, false, false, false, false] rfl rfl (by kernel_rfl) (fun _ _ _ h => h) (Or.inl ⟨by rfl, ?_⟩) ?_ ?_
                        rotate_left
                        · intro w'
                          go_simp
                          with_reducible rfl
                        rotate_left
                        · simp only [Act.put, List.setIfInBounds_toArray, List.set_cons_zero, List.set_cons_succ, i64_w, i32_w]
                          rfl
                        refine pure_ (i := 8) (N := some 76) (v := ?_) (a' := ?_) #[true, true, true, false, true, true, true, true, true, false, false, false] rfl rfl (by kernel_rfl) (fun _ _ _ h => h) (Or.inl ⟨by rfl, ?_⟩) ?_ ?_
                        rotate_left
                        · intro w'
                          go_simp
                          with_reducible rfl
                        rotate_left
                        · simp only [Act.put, List.setIfInBounds_toArray, List.set_cons_zero, List.set_cons_succ, i64_w, i32_w]
                          rfl
                        refine take_ (i := 3) (N := some 71) (v := ?_) (a' := ?_) #[true, true, true, true, true, true, true, true, true, false, false, false] rfl rfl (by kernel_rfl) (fun _ _ _ h => h) (Or.inl ⟨by rfl, ?_⟩) hHeld ?_ ?_
                        rotate_left
                        · intro w' s0
                          go_simp
                          with_reducible rfl
                        rotate_left
                        · simp only [Act.put, List.setIfInBounds_toArray, List.set_cons_zero, List.set_cons_succ, i64_w, i32_w]
                          rfl
                        refine one_ (i := 9) (N := some 77) #[true, true, true, true, true, true, true, true, true, true, false, false] rfl rfl (by kernel_rfl) (by decide) (fun K hK => ?_)
                        refine goes_ Try.func111 (by kernel_rfl) rfl #[.pointer (some ⟨g, 0, none⟩), .int .i64 i, .int .i64 a, .int .i64 x] (by rfl) rfl rfl (by simp only [List.map_toArray, List.map_cons, List.map_nil]; rfl) ?_
                        with_reducible refine (impl_matcher_look.calls k3 g p q' l (tb1 ++ [rows]) i a x u _ (HID.out.mt HR0.out HC0.out HR1.out HC1.out) HU.out).mono ?_
                        rintro e w8 ⟨rfl, hb⟩
                        refine ⟨_, rfl, ?_⟩
                        have HI2 := Aside0.mk (HID.out.below hb)
                        obtain ⟨⟨old, hcell⟩, hfr, hput⟩ := HI2.out.put ((hb.cell (World.block_lt_of_cell? _ _ hx1d)).trans hx1d) c2 (by omega) x0 (by rw [HRL.out]; omega)
                        have HN := Aside0.mk (hput u)
                        clear hput
                        refine hK.out _ _ ((hb.cell (World.block_lt_of_cell? _ _ hx1d)).trans hx1d) (fun hHeld => ?_)
                        clear hK K
                        refine norm_ (a' := ?_) ?_ ?_
                        rotate_left
                        · show Act.put _ (some 77) _ = _
                          simp only [Act.put, List.setIfInBounds_toArray, List.set_cons_zero, List.set_cons_succ, i64_w, i32_w]
                          rfl
                        refine pure_ (i := 10) (N := some 78) (v := ?_) (a' := ?_) #[true, true, true, true, true, true, true, true, true, true, true, false] rfl rfl (by kernel_rfl) (fun _ _ _ h => h) (Or.inl ⟨by rfl, ?_⟩) ?_ ?_
                        rotate_left
                        · intro w'
                          go_simp
                          with_reducible rfl
                        rotate_left
                        · simp only [Act.put, List.setIfInBounds_toArray, List.set_cons_zero, List.set_cons_succ, i64_w, i32_w]
                          rfl
                        refine last_ (i := 11) (N := none) #[true, true, true, true, true, true, true, true, true, true, true, true] rfl rfl (by kernel_rfl) (by decide) (fun K hK => ?_)
                        refine skip_ (w1 := ?_) (by rfl) rfl ?_ ?_
                        rotate_left
                        · go_simp
                          rfl
                        refine hK.out _ _ ?_
                        clear hK K
                        refine done_ (by kernel_rfl) ?_
                        go_wp2
                        go_roundg k3
                        case measure => have := HK3.out; omega
                        case rel => exact ⟨x + 1, _, rfl, by omega, by omega, H', ⟨by have := HK3.out; omega⟩, ⟨HS.out.put a x u⟩, HN⟩
                      · rw [if_neg c3] at H
                        have H' := Aside0.mk H
                        clear H
                        go_wp2
                        go_roundg k3
                        case measure => have := HK2.out; have := HK3.out; omega
                        case rel => exact ⟨a - 1, _, rfl, by omega, by omega, H', ⟨by have := HK2.out; have := HK3.out; omega⟩, HS, HI⟩
                · rw [if_neg c2] at H
                  have H2 := Aside0.mk H
                  clear H
                  have HT := Aside0.mk HI.out.close
                  clear HI
                  go_wp2
                  go_roundg k2
                  case measure => have := HK2.out; omega
                  case rel => exact ⟨i + 1, _, _, rfl, by omega, by omega, H2, ⟨by have := HK.out; have := HK2.out; omega⟩, ⟨by have := HL.out; simp; omega⟩, HT⟩
      · rw [if_neg c] at H
        obtain rfl := Option.some.inj H
        clear H
        go_wp2
        go_ret
        exact ⟨g, rfl, HT.out.mt HR0.out HC0.out HR1.out HC1.out, HT.out.be⟩

def impl_matcher_longest.l0 (tbl : List (List (List Bool))) (node a : Int) : Nat → Int → Option Int
  | 0, _ => none
  | k + 1, x => if a ≤ x then ((impl_matcher_has.f tbl node a x).bind fun u => if u = true then some x else impl_matcher_longest.l0 tbl node a k (x - 1)) else some (-1)
def impl_matcher_longest.f (k : Nat) (p : List S89) (tbl : List (List (List Bool))) (a b : Int) : Option Int :=
  if (p.length ≤ 1000000) ∧ (0 ≤ a ∧ a ≤ 1000000) ∧ (-1 ≤ b ∧ b ≤ 1000000) then impl_matcher_longest.l0 tbl ((p.length : Int) - 1) a k b else none
theorem impl_matcher_longest.l0_mono (tbl : List (List (List Bool))) (node a : Int) : ∀ k x, LeO (impl_matcher_longest.l0 tbl node a k x) (impl_matcher_longest.l0 tbl node a (k + 1) x)
  | 0, _ => LeO.none _
  | k + 1, x => by
    unfold impl_matcher_longest.l0
    exact LeO.ite (LeO.bind (LeO.refl _) fun _ => LeO.ite (LeO.refl _) (impl_matcher_longest.l0_mono tbl node a k _)) (LeO.refl _)
theorem impl_matcher_longest.mono : ∀ p tbl a b k, LeO (impl_matcher_longest.f k p tbl a b) (impl_matcher_longest.f (k + 1) p tbl a b) := by
  intro p tbl a b k
  unfold impl_matcher_longest.f
  exact LeO.ite (impl_matcher_longest.l0_mono _ _ _ _ _) (LeO.refl _)
set_option maxHeartbeats 8000000 in
theorem impl_matcher_longest.calls (k : Nat) (g : Nat) (p : List S89) (parts : List (List Int)) (l : List Int) (tbl : List (List (List Bool))) (a b : Int) (r : Int) (w : World) (hM : Mt w g p parts l tbl) (h : impl_matcher_longest.f k p tbl a b = some r) :
    Calls Try.prog 69 #[.pointer (some ⟨g, 0, none⟩), .int .i64 a, .int .i64 b] w fun e w' => e = .returned (.int .i64 r) ∧ w = w' := by
  unfold impl_matcher_longest.f at h
  split at h
  case isFalse => cases h
  rename_i hs
  obtain ⟨hp, ⟨ha, ha2⟩, ⟨hb, hb2⟩⟩ := hs
  have HM := Aside0.mk hM
  have HH := Aside0.mk h
  obtain ⟨A0, c0, A1, c1, A2, c2, A3, c3, hblk, _⟩ := hM.h
  have z0 : w.cell? ⟨g, 0, none⟩ = some (.slice A0 p.length c0) := (blk_cell hblk 0).trans rfl
  clear hM h hblk
  go_enter Try.func69, Try.ntmps69
  go_wp2_with fail
  go_loopg [7] k (fun kq v w' => ∃ x : Int, v = .int .i64 x ∧ w = w' ∧ Aside0 (impl_matcher_longest.l0 tbl ((p.length : Int) - 1) a kq x = some r) ∧ Aside0 (kq ≤ k) ∧ -1 ≤ x ∧ x ≤ 1000000)
  case atStart => exact ⟨b, rfl, rfl, HH, ⟨Nat.le_refl _⟩, by omega, by omega⟩
  case round =>
    clear HH
    obtain ⟨x, rfl, rfl, HA, HK, x0, x1⟩ := hrel
    cases gk with
    | zero => exact absurd HA.out (by simp [impl_matcher_longest.l0])
    | succ k1 =>
      have H := HA.out
      clear HA
      simp only [impl_matcher_longest.l0] at H
      by_cases c : a ≤ x
      · rw [if_pos c] at H
        obtain ⟨u, hu, H⟩ := Option.bind_eq_some_iff.mp H
        have HU := Aside0.mk hu
        clear hu
        cases u with
        | false =>
          rw [if_neg (by simp)] at H
          have H' := Aside0.mk H
          clear H
          go_wp2_with (go_at_call 82; (with_reducible refine (impl_matcher_has.calls g p parts l tbl ((p.length : Int) - 1) a x false _ HM.out HU.out).mono ?_); rintro e w' ⟨rfl, rfl⟩)
          go_roundg k1
          case measure => have := HK.out; omega
          case rel => exact ⟨x - 1, rfl, rfl, H', ⟨by have := HK.out; omega⟩, by omega, by omega⟩
        | true =>
          rw [if_pos rfl] at H
          obtain rfl := Option.some.inj H
          clear H
          go_wp2_with (go_at_call 82; (with_reducible refine (impl_matcher_has.calls g p parts l tbl ((p.length : Int) - 1) a x true _ HM.out HU.out).mono ?_); rintro e w' ⟨rfl, rfl⟩)
          go_ret
          exact ⟨rfl, rfl⟩
      · rw [if_neg c] at H
        obtain rfl := Option.some.inj H
        clear H
        go_wp2
        go_ret
        exact ⟨rfl, rfl⟩

def impl_matcher_find.l0 (kk : Nat) (p : List S89) (tbl : List (List (List Bool))) (b : Int) : Nat → Int → Option (Int × Int × Bool)
  | 0, _ => none
  | k + 1, x => if x ≤ b then ((impl_matcher_longest.f kk p tbl x b).bind fun u => if 0 ≤ u then some (x, u, true) else impl_matcher_find.l0 kk p tbl b k (x + 1)) else some (0, 0, false)
def impl_matcher_find.f (k : Nat) (p : List S89) (tbl : List (List (List Bool))) (a b : Int) : Option (Int × Int × Bool) :=
  if (0 ≤ a ∧ a ≤ 1000000) ∧ (-1 ≤ b ∧ b ≤ 1000000) then impl_matcher_find.l0 k p tbl b k a else none
theorem impl_matcher_find.l0_mono (p : List S89) (tbl : List (List (List Bool))) (b : Int) (kk : Nat) : ∀ k x, LeO (impl_matcher_find.l0 kk p tbl b k x) (impl_matcher_find.l0 (kk + 1) p tbl b (k + 1) x)
  | 0, _ => LeO.none _
  | k + 1, x => by
    rw [impl_matcher_find.l0, impl_matcher_find.l0]
    exact LeO.ite (LeO.bind (impl_matcher_longest.mono _ _ _ _ _) fun _ => LeO.ite (LeO.refl _) (impl_matcher_find.l0_mono p tbl b kk k _)) (LeO.refl _)
theorem impl_matcher_find.mono : ∀ p tbl a b k, LeO (impl_matcher_find.f k p tbl a b) (impl_matcher_find.f (k + 1) p tbl a b) := by
  intro p tbl a b k
  unfold impl_matcher_find.f
  exact LeO.ite (impl_matcher_find.l0_mono _ _ _ _ _ _) (LeO.refl _)
set_option maxHeartbeats 8000000 in
theorem impl_matcher_find.calls (k : Nat) (g : Nat) (p : List S89) (parts : List (List Int)) (l : List Int) (tbl : List (List (List Bool))) (a b : Int) (r1 r2 : Int) (r3 : Bool) (w : World) (hM : Mt w g p parts l tbl) (h : impl_matcher_find.f k p tbl a b = some (r1, r2, r3)) :
    Calls Try.prog 64 #[.pointer (some ⟨g, 0, none⟩), .int .i64 a, .int .i64 b] w fun e w' => e = .returned (.tuple #[.int .i64 r1, .int .i64 r2, .bool r3]) ∧ w = w' := by
  unfold impl_matcher_find.f at h
  split at h
  case isFalse => cases h
  rename_i hs
  obtain ⟨⟨ha, ha2⟩, ⟨hb, hb2⟩⟩ := hs
  have HM := Aside0.mk hM
  have HH := Aside0.mk h
  clear hM h
  go_enter Try.func64, Try.ntmps64
  go_wp2_with fail
  go_loopg [1] k (fun kq v w' => ∃ x : Int, v = .int .i64 x ∧ w = w' ∧ Aside0 (impl_matcher_find.l0 k p tbl b kq x = some (r1, r2, r3)) ∧ Aside0 (kq ≤ k) ∧ 0 ≤ x ∧ x ≤ 2000000)
  case atStart => exact ⟨a, rfl, rfl, HH, ⟨Nat.le_refl _⟩, by omega, by omega⟩
  case round =>
    clear HH
    obtain ⟨x, rfl, rfl, HA, HK, x0, x1⟩ := hrel
    cases gk with
    | zero => exact absurd HA.out (by simp [impl_matcher_find.l0])
    | succ k1 =>
      have H := HA.out
      clear HA
      simp only [impl_matcher_find.l0] at H
      by_cases c : x ≤ b
      · rw [if_pos c] at H
        obtain ⟨u, hu, H⟩ := Option.bind_eq_some_iff.mp H
        have HU := Aside0.mk hu
        clear hu
        by_cases c2 : 0 ≤ u
        · rw [if_pos c2] at H
          obtain ⟨rfl, rfl, rfl⟩ : x = r1 ∧ u = r2 ∧ true = r3 := by simpa using Option.some.inj H
          clear H
          go_wp2_with (go_at_call 69; (with_reducible refine (impl_matcher_longest.calls k g p parts l tbl x b u _ HM.out HU.out).mono ?_); rintro e w' ⟨rfl, rfl⟩)
          go_ret3
          exact ⟨rfl, rfl⟩
        · rw [if_neg c2] at H
          have H' := Aside0.mk H
          clear H
          go_wp2_with (go_at_call 69; (with_reducible refine (impl_matcher_longest.calls k g p parts l tbl x b u _ HM.out HU.out).mono ?_); rintro e w' ⟨rfl, rfl⟩)
          go_roundg k1
          case measure => have := HK.out; omega
          case rel => exact ⟨x + 1, rfl, rfl, H', ⟨by have := HK.out; omega⟩, by omega, by omega⟩
      · rw [if_neg c] at H
        obtain ⟨rfl, rfl, rfl⟩ : 0 = r1 ∧ 0 = r2 ∧ false = r3 := by simpa using Option.some.inj H
        clear H
        go_wp2
        go_ret3
        exact ⟨rfl, rfl⟩

def impl_FindIn.f (k : Nat) (l0 : List S89) (l1 : List Int) : Option (Int × Int × Bool) := (impl_canFind.f k l0 l1).bind fun t => if t = true then ((impl_match.f k l0 l1).bind fun m => impl_matcher_find.f k l0 m.2 0 l1.length) else some (0, 0, false)
theorem impl_FindIn.mono : ∀ a0 a1 k, LeO (impl_FindIn.f k a0 a1) (impl_FindIn.f (k + 1) a0 a1) := by
  intro a0 a1 k
  unfold impl_FindIn.f
  exact LeO.bind (impl_canFind.mono _ _ _) fun _ => LeO.ite (LeO.bind (impl_match.mono _ _ _) fun _ => impl_matcher_find.mono _ _ _ _ _) (LeO.refl _)
set_option maxHeartbeats 8000000 in
set_option maxRecDepth 100000 in
theorem impl_FindIn.calls (k : Nat) (A0 : Option Addr) (c0 : Nat) (l0 : List S89) (A1 : Option Addr) (c1 : Nat) (l1 : List Int) (r1 : Int) (r2 : Int) (r3 : Bool) (w : World) (hr0 : Kd.C k89 w A0 l0.length l0) (hc0 : l0.length ≤ c0) (hr1 : Kd.C (Kd.int .i64) w A1 l1.length l1) (hc1 : l1.length ≤ c1) (h : impl_FindIn.f k l0 l1 = some (r1, r2, r3)) :
    Calls Try.prog 17 #[.slice A0 l0.length c0, .slice A1 l1.length c1] w fun e w' => e = .returned (.tuple #[.int .i64 r1, .int .i64 r2, .bool r3]) ∧ Below w.heap.size w w' := by
  have HR0 := Aside0.mk hr0
  have HC0 := Aside0.mk hc0
  have HR1 := Aside0.mk hr1
  have HC1 := Aside0.mk hc1
  unfold impl_FindIn.f at h
  obtain ⟨t, ht, h2⟩ := Option.bind_eq_some_iff.mp h
  have HT := Aside0.mk ht
  clear hr0 hc0 hr1 hc1 h ht
  cases t with
  | false =>
    rw [if_neg (by simp)] at h2
    obtain ⟨rfl, rfl, rfl⟩ : 0 = r1 ∧ 0 = r2 ∧ false = r3 := by simpa using Option.some.inj h2
    clear h2
    go_enter Try.func17, Try.ntmps17
    go_wp2_with (go_at_call 62; (with_reducible refine (impl_canFind.calls k A0 c0 l0 A1 c1 l1 false _ HR0.out HC0.out HR1.out HC1.out HT.out).mono ?_); rintro e w1 ⟨rfl, hb⟩; have HB := Aside0.mk hb; clear hb)
    go_ret3
    exact ⟨rfl, HB.out⟩
  | true =>
    rw [if_pos rfl] at h2
    obtain ⟨⟨q, tb⟩, hm, h3⟩ := Option.bind_eq_some_iff.mp h2
    have HM := Aside0.mk hm
    have HF := Aside0.mk h3
    clear h2 hm h3
    go_enter Try.func17, Try.ntmps17
    go_wp2_with (first | (go_at_call 62; (with_reducible refine (impl_canFind.calls k A0 c0 l0 A1 c1 l1 true _ HR0.out HC0.out HR1.out HC1.out HT.out).mono ?_); rintro e w1 ⟨rfl, hb⟩; have HB := Aside0.mk hb; clear hb) | (go_at_call 63; (with_reducible refine (impl_match.calls k A0 c0 l0 A1 c1 l1 q tb _ (Kd.C_below HR0.out HB.out) HC0.out (Kd.C_below HR1.out HB.out) HC1.out HM.out).mono ?_); rintro e w2 ⟨g, rfl, hmt, hb⟩; have HMt := Aside0.mk hmt; have HB2 := Aside0.mk (below_step HB.out hb); clear hb hmt) | (go_at_call 64; (with_reducible refine (impl_matcher_find.calls k g l0 q l1 tb 0 l1.length r1 r2 r3 _ HMt.out HF.out).mono ?_); rintro e w' ⟨rfl, rfl⟩))
    go_ret3
    exact ⟨rfl, HB2.out⟩

def laws_eqIntS.l0 : Nat → List Int → List Int → Int → Option (Bool)
 | 0, _, _, _ => none
 | k + 1, x0, x1, x5 => if x5 < (x0.length : Int) then (if 0 ≤ x5 then (if x5 < (x1.length : Int) then (if (rd x0 x5) = (rd x1 x5) then (laws_eqIntS.l0 k x0 x1 (wrap64 (x5 + 1))) else (some false)) else (none)) else (none)) else (some true)
def laws_eqIntS.f (k : Nat) (l0 : List Int) (l1 : List Int) : Option (Bool) := if (l0.length : Int) = (l1.length : Int) then (laws_eqIntS.l0 k l0 l1 0) else (some false)
theorem laws_eqIntS.mono_l : ∀ k, (∀ y0 y1 y2, LeO (laws_eqIntS.l0 k y0 y1 y2) (laws_eqIntS.l0 (k + 1) y0 y1 y2))
 | 0 => fun _ _ _ r h => by simp [laws_eqIntS.l0] at h
 | k + 1 => by
  have ih0 := laws_eqIntS.mono_l k
  ·intro y0 y1 y2
   unfold laws_eqIntS.l0
   repeat' first
   | (with_reducible exact ih0 _ _ _)
   | (with_reducible exact LeO.refl _)
   | (with_reducible exact LeO.none _)
   | (with_reducible refine LeO.ite ?_ ?_)
   | (with_reducible refine LeO.bind ?_ (fun _ => ?_))
   | exact ih0 _ _ _
   | exact LeO.none _
   | refine LeO.ite ?_ ?_
   | refine LeO.bind ?_ (fun _ => ?_)
theorem laws_eqIntS.mono : ∀ a0 a1 k, LeO (laws_eqIntS.f k a0 a1) (laws_eqIntS.f (k + 1) a0 a1) := by
 intro a0 a1 k
 have ih0 := laws_eqIntS.mono_l k
 unfold laws_eqIntS.f
 repeat' first
   | (with_reducible exact ih0 _ _ _)
   | (with_reducible exact LeO.refl _)
   | (with_reducible exact LeO.none _)
   | (with_reducible refine LeO.ite ?_ ?_)
   | (with_reducible refine LeO.bind ?_ (fun _ => ?_))
   | exact ih0 _ _ _
   | exact LeO.none _
   | refine LeO.ite ?_ ?_
   | refine LeO.bind ?_ (fun _ => ?_)
set_option maxHeartbeats 8000000 in
set_option maxRecDepth 100000 in
theorem laws_eqIntS.calls (k : Nat) (A0 : Option Addr) (c0 : Nat) (l0 : List Int) (A1 : Option Addr) (c1 : Nat) (l1 : List Int) (r : Bool) (w : World) (hr0 : Kd.C (Kd.int .i64) w A0 l0.length l0) (hc0 : l0.length ≤ c0) (hr1 : Kd.C (Kd.int .i64) w A1 l1.length l1) (hc1 : l1.length ≤ c1) (h : laws_eqIntS.f k l0 l1 = some r) :
  Calls Try.prog 19 #[.slice A0 l0.length c0, .slice A1 l1.length c1] w fun e w' => e = .returned (.bool r) ∧ Drawn0 w w' := by
 have HR0 := Aside0.mk hr0
 have HC0 := Aside0.mk hc0
 clear hr0 hc0
 have HR1 := Aside0.mk hr1
 have HC1 := Aside0.mk hc1
 clear hr1 hc1
 have H : (if (l0.length : Int) = (l1.length : Int) then (laws_eqIntS.l0 k l0 l1 0) else (some false)) = some r := h
 clear h
 by_cases c3 : (l0.length : Int) = (l1.length : Int)
 ·rw [if_pos c3] at H
  have c3b0 : ((l0.length : Int) == (l1.length : Int)) = true := beq_iff_eq.mpr c3
  have c3b1 : ((l0.length : Int) != (l1.length : Int)) = false := bne_eq_false_iff_eq.mpr c3
  have c3b2 : (l0.length == l1.length) = true := by first | simpa using c3 | (simp at c3 ⊢; omega)
  clear c3
  have H' := Aside0.mk H
  clear H
  go_enter Try.func19, Try.ntmps19
  go_wp2
  repeat (go_quiet (fail); try go_wp2)
  go_loopg [5] k (fun kq v5 w' => ∃ (x5_1 : Int), v5 = .int .i64 x5_1 ∧ Aside0 (laws_eqIntS.l0 kq l0 l1 x5_1 = some r) ∧ Aside0 (kq ≤ k) ∧ Drawn0 w w')
  case atStart => exact ⟨(0), (by first | rfl | (simp; done) | (simp [*]; done)), H', ⟨Nat.le_refl _⟩, by repeat (first | exact Drawn0.refl _ | apply Drawn0.step)⟩
  case round =>
   clear H'
   try clear c1
   try clear p2
   try clear c3
   try clear c3b0
   try clear c3b1
   try clear c3b2
   obtain ⟨x5_1, rfl, HA, HK1, ⟨m1, rfl⟩⟩ := hrel
   cases gk with
   | zero => exact absurd HA.out (by simp [laws_eqIntS.l0])
   | succ k1 =>
    have H := HA.out
    clear HA
    simp only [laws_eqIntS.l0] at H
    by_cases c4 : x5_1 < (l0.length : Int)
    ·rw [if_pos c4] at H
     have c4b0 : decide (x5_1 < (l0.length : Int)) = true := decide_eq_true c4
     clear c4
     by_cases c5 : 0 ≤ x5_1
     ·rw [if_pos c5] at H
      have c5b0 : decide (0 ≤ x5_1) = true := decide_eq_true c5
      clear c5
      by_cases c6 : x5_1 < (l1.length : Int)
      ·rw [if_pos c6] at H
       have c6b0 : decide (x5_1 < (l1.length : Int)) = true := decide_eq_true c6
       clear c6
       by_cases c7 : (rd l0 x5_1) = (rd l1 x5_1)
       ·rw [if_pos c7] at H
        have c7b0 : ((rd l0 x5_1) == (rd l1 x5_1)) = true := beq_iff_eq.mpr c7
        have c7b1 : ((rd l0 x5_1) != (rd l1 x5_1)) = false := bne_eq_false_iff_eq.mpr c7
        clear c7
        have H' := Aside0.mk H
        clear H
        have p251 : 0 ≤ (x5_1 : Int) := of_decide_eq_true (by first | (with_reducible assumption) | assumption)
        have q251 : x5_1 < (l0.length : Int) := of_decide_eq_true (by first | (with_reducible assumption) | assumption)
        obtain ⟨ad251, e251, hx251_0⟩ := Kd.at_int HR0.out x5_1 p251 q251
        cases e251
        replace p251 := eq_true p251
        replace q251 := eq_true q251
        have p252 : 0 ≤ (x5_1 : Int) := of_decide_eq_true (by first | (with_reducible assumption) | assumption)
        have q252 : x5_1 < (l1.length : Int) := of_decide_eq_true (by first | (with_reducible assumption) | assumption)
        obtain ⟨ad252, e252, hx252_0⟩ := Kd.at_int HR1.out x5_1 p252 q252
        cases e252
        replace p252 := eq_true p252
        replace q252 := eq_true q252
        go_wp2
        repeat (go_quiet (fail); try go_wp2)
        go_roundg k1
        case measure => have := HK1.out; omega
        case rel => exact ⟨(wrap64 (x5_1 + 1)), (by first | rfl | (simp; done) | (simp [*]; done)), H', ⟨by have := HK1.out; omega⟩, by repeat (first | exact Drawn0.refl _ | apply Drawn0.step)⟩
       ·rw [if_neg c7] at H
        have c7b0 : ((rd l0 x5_1) == (rd l1 x5_1)) = false := beq_eq_false_iff_ne.mpr c7
        have c7b1 : ((rd l0 x5_1) != (rd l1 x5_1)) = true := bne_iff_ne.mpr c7
        obtain rfl := Option.some.inj H
        have p251 : 0 ≤ (x5_1 : Int) := of_decide_eq_true (by first | (with_reducible assumption) | assumption)
        have q251 : x5_1 < (l0.length : Int) := of_decide_eq_true (by first | (with_reducible assumption) | assumption)
        obtain ⟨ad251, e251, hx251_0⟩ := Kd.at_int HR0.out x5_1 p251 q251
        cases e251
        replace p251 := eq_true p251
        replace q251 := eq_true q251
        have p252 : 0 ≤ (x5_1 : Int) := of_decide_eq_true (by first | (with_reducible assumption) | assumption)
        have q252 : x5_1 < (l1.length : Int) := of_decide_eq_true (by first | (with_reducible assumption) | assumption)
        obtain ⟨ad252, e252, hx252_0⟩ := Kd.at_int HR1.out x5_1 p252 q252
        cases e252
        replace p252 := eq_true p252
        replace q252 := eq_true q252
        go_wp2
        repeat (go_quiet (fail); try go_wp2)
        go_ret
        exact ⟨by first | rfl | (simp; done) | (simp [*]; done), by repeat (first | exact Drawn0.refl _ | apply Drawn0.step)⟩
      ·rw [if_neg c6] at H
       exact absurd H (by simp)
     ·rw [if_neg c5] at H
      exact absurd H (by simp)
    ·rw [if_neg c4] at H
     have c4b0 : decide (x5_1 < (l0.length : Int)) = false := decide_eq_false c4
     clear c4
     obtain rfl := Option.some.inj H
     go_wp2
     repeat (go_quiet (fail); try go_wp2)
     go_ret
     exact ⟨by first | rfl | (simp; done) | (simp [*]; done), by repeat (first | exact Drawn0.refl _ | apply Drawn0.step)⟩
 ·rw [if_neg c3] at H
  have c3b0 : ((l0.length : Int) == (l1.length : Int)) = false := beq_eq_false_iff_ne.mpr c3
  have c3b1 : ((l0.length : Int) != (l1.length : Int)) = true := bne_iff_ne.mpr c3
  have c3b2 : (l0.length == l1.length) = false := by first | simpa using c3 | (simp at c3 ⊢; omega)
  obtain rfl := Option.some.inj H
  go_enter Try.func19, Try.ntmps19
  go_wp2
  repeat (go_quiet (fail); try go_wp2)
  go_ret
  exact ⟨by first | rfl | (simp; done) | (simp [*]; done), by repeat (first | exact Drawn0.refl _ | apply Drawn0.step)⟩

def spec_l7First.l0 : Nat → List Int → List (List (S89)) → Int → Int → Int → Int → Int → Option (Int × Int × Int × Bool)
 | 0, _, _, _, _, _, _, _ => none
 | k + 1, x1, x13, x14, x15, x365000, x365001, x365002 => if x15 < x14 then (if 0 ≤ x15 then (if x15 < (x13.length : Int) then ((spec_l7Find.f k (rd_L8 x13 x15) x1).bind fun bt366 => (if bt366.2.2 = true then (if x365000 < 0 then (spec_l7First.l0 k x1 x13 x14 (wrap64 (x15 + 1)) x15 bt366.1 bt366.2.1) else (if bt366.1 < x365001 then (spec_l7First.l0 k x1 x13 x14 (wrap64 (x15 + 1)) x15 bt366.1 bt366.2.1) else (spec_l7First.l0 k x1 x13 x14 (wrap64 (x15 + 1)) x365000 x365001 x365002))) else (spec_l7First.l0 k x1 x13 x14 (wrap64 (x15 + 1)) x365000 x365001 x365002))) else (none)) else (none)) else (if x365000 < 0 then (some (0, 0, 0, false)) else (some (x365000, x365001, x365002, true)))
def spec_l7First.f (k : Nat) (l0 : List (List (S89))) (l1 : List Int) : Option (Int × Int × Int × Bool) := spec_l7First.l0 k l1 l0 (l0.length : Int) 0 (-1) 0 0
theorem spec_l7First.mono_l : ∀ k, (∀ y0 y1 y2 y3 y4 y5 y6, LeO (spec_l7First.l0 k y0 y1 y2 y3 y4 y5 y6) (spec_l7First.l0 (k + 1) y0 y1 y2 y3 y4 y5 y6))
 | 0 => fun _ _ _ _ _ _ _ r h => by simp [spec_l7First.l0] at h
 | k + 1 => by
  have ih0 := spec_l7First.mono_l k
  ·intro y0 y1 y2 y3 y4 y5 y6
   unfold spec_l7First.l0
   repeat' first
   | (with_reducible exact ih0 _ _ _ _ _ _ _)
   | (with_reducible exact spec_l7Find.mono _ _ _)
   | (with_reducible exact LeO.refl _)
   | (with_reducible exact LeO.none _)
   | (with_reducible refine LeO.ite ?_ ?_)
   | (with_reducible refine LeO.bind ?_ (fun _ => ?_))
   | exact ih0 _ _ _ _ _ _ _
   | exact spec_l7Find.mono _ _ _
   | exact LeO.none _
   | refine LeO.ite ?_ ?_
   | refine LeO.bind ?_ (fun _ => ?_)
theorem spec_l7First.mono : ∀ a0 a1 k, LeO (spec_l7First.f k a0 a1) (spec_l7First.f (k + 1) a0 a1) := by
 intro a0 a1 k
 have ih0 := spec_l7First.mono_l k
 unfold spec_l7First.f
 repeat' first
   | (with_reducible exact ih0 _ _ _ _ _ _ _)
   | (with_reducible exact spec_l7Find.mono _ _ _)
   | (with_reducible exact LeO.refl _)
   | (with_reducible exact LeO.none _)
   | (with_reducible refine LeO.ite ?_ ?_)
   | (with_reducible refine LeO.bind ?_ (fun _ => ?_))
   | exact ih0 _ _ _ _ _ _ _
   | exact spec_l7Find.mono _ _ _
   | exact LeO.none _
   | refine LeO.ite ?_ ?_
   | refine LeO.bind ?_ (fun _ => ?_)
set_option maxHeartbeats 8000000 in
set_option maxRecDepth 100000 in
theorem spec_l7First.calls (k : Nat) (A0 : Option Addr) (c0 : Nat) (l0 : List (List (S89))) (A1 : Option Addr) (c1 : Nat) (l1 : List Int) (r1 : Int) (r2 : Int) (r3 : Int) (r4 : Bool) (w : World) (hr0 : Kd.C (Kd.slice 89 k89) w A0 l0.length l0) (hc0 : l0.length ≤ c0) (hr1 : Kd.C (Kd.int .i64) w A1 l1.length l1) (hc1 : l1.length ≤ c1) (h : spec_l7First.f k l0 l1 = some (r1, r2, r3, r4)) :
  Calls Try.prog 71 #[.slice A0 l0.length c0, .slice A1 l1.length c1] w fun e w' => e = .returned (.tuple #[.agg #[.int .i64 r1, .int .i64 r2, .int .i64 r3], .bool r4]) ∧ Below w.heap.size w w' := by
 have hu40 := Try.underlying40
 have HR0 := Aside0.mk hr0
 have HC0 := Aside0.mk hc0
 clear hr0 hc0
 have HR1 := Aside0.mk hr1
 have HC1 := Aside0.mk hc1
 clear hr1 hc1
 have HB := Aside0.mk (Below.refl w.heap.size w)
 have H : (spec_l7First.l0 k l1 l0 (l0.length : Int) 0 (-1) 0 0) = some (r1, r2, r3, r4) := h
 clear h
 have H' := Aside0.mk H
 clear H
 go_enter Try.func71, Try.ntmps71
 go_wp2_with (first | ((with_reducible refine gate_dst (N := 4) rfl ?_); refine box_event ?hg (N := 4) ?hd (cs := #[.int .i64 0, .int .i64 0, .int .i64 0]) (t := 40) ?hr ?_; (case hd => rfl); (case hg => rfl); (case hr => go_simp <;> rfl); intro gb363 hg w3 hbox hb; have n0_ := Aside0.mk (below_step HB.out hb); have n1_ := Aside0.mk (hbox); have n2_ := Aside0.mk ((by rw [hg]; exact (below_size HB.out) : w.heap.size ≤ gb363)); have n3_ := Aside0.mk ((by rw [hg]; exact (below_size HB.out) : w.heap.size ≤ gb363)); clear HB; have HB := n0_; have BK363 := n1_; have GW363 := n2_; have GE363 := n3_; clear n0_ n1_ n2_ n3_; clear hb hbox hg) | ((with_reducible refine gate_dst (N := 6) rfl ?_); refine box_event ?hg (N := 6) ?hd (cs := #[.int .i64 0, .int .i64 0, .int .i64 0]) (t := 40) ?hr ?_; (case hd => rfl); (case hg => rfl); (case hr => go_simp <;> rfl); intro gb364 hg w4 hbox hb; have n0_ := Aside0.mk (blk_below (g := gb363) (o := .cells #[.int .i64 0, .int .i64 0, .int .i64 0] 40 (0, 0)) (by (with_reducible repeat (first | refine blk_drewN ?_ _ | refine blk_drew ?_ | refine blk_alloc ?_ _)); exact BK363.out) hb); have n1_ := Aside0.mk (below_step HB.out hb); have n2_ := Aside0.mk (hbox); have n3_ := Aside0.mk ((by rw [hg]; exact (below_size HB.out) : w.heap.size ≤ gb364)); have n4_ := Aside0.mk ((by rw [hg]; exact (below_size HB.out) : w.heap.size ≤ gb364)); have n5_ := Aside0.mk ((by rw [hg]; exact Nat.ne_of_lt (blk_lt (g := gb363) (o := .cells #[.int .i64 0, .int .i64 0, .int .i64 0] 40 (0, 0)) (by (with_reducible repeat (first | refine blk_drewN ?_ _ | refine blk_drew ?_ | refine blk_alloc ?_ _)); exact BK363.out)) : gb363 ≠ gb364)); have n6_ := Aside0.mk ((by rw [hg]; exact Nat.ne_of_gt (blk_lt (g := gb363) (o := .cells #[.int .i64 0, .int .i64 0, .int .i64 0] 40 (0, 0)) (by (with_reducible repeat (first | refine blk_drewN ?_ _ | refine blk_drew ?_ | refine blk_alloc ?_ _)); exact BK363.out)) : gb364 ≠ gb363)); clear BK363; clear HB; have BK363 := n0_; have HB := n1_; have BK364 := n2_; have GW364 := n3_; have GE364 := n4_; have NB363_364 := n5_; have NB364_363 := n6_; clear n0_ n1_ n2_ n3_ n4_ n5_ n6_; clear hb hbox hg; have hnb5 := NB364_363.out; have hnc5 := NB363_364.out; have hcz6_0 : w4.cell? ⟨gb364, 0, none⟩ = some (.int .i64 0) := (blk_cell BK364.out 0).trans rfl; have hcz6_1 : w4.cell? ⟨gb364, 1, none⟩ = some (.int .i64 0) := (blk_cell BK364.out 1).trans rfl; have hcz6_2 : w4.cell? ⟨gb364, 2, none⟩ = some (.int .i64 0) := (blk_cell BK364.out 2).trans rfl; have hfz6_0 := blk_frozen BK364.out 0; have hfz6_1 := blk_frozen BK364.out 1; have hfz6_2 := blk_frozen BK364.out 2))
 go_loopg [15] k (fun kq v15 w' => ∃ (x15_1 : Int) (x365000_1 : Int) (x365001_1 : Int) (x365002_1 : Int), v15 = .int .i64 x15_1 ∧ Aside0 (spec_l7First.l0 kq l1 l0 (l0.length : Int) x15_1 x365000_1 x365001_1 x365002_1 = some (r1, r2, r3, r4)) ∧ Aside0 (kq ≤ k) ∧ Aside0 (w'.heap[gb363]? = some (.cells #[.int .i64 0, .int .i64 0, .int .i64 0] 40 (0, 0))) ∧ Aside0 (w'.heap[gb364]? = some (.cells #[.int .i64 x365000_1, .int .i64 x365001_1, .int .i64 x365002_1] 40 (0, 0))) ∧ Aside0 (Below w.heap.size w w'))
 case atStart => exact ⟨(0), ((-1)), (0), (0), (by first | rfl | (simp; done) | (simp [*]; done)), H', ⟨Nat.le_refl _⟩, ⟨by (with_reducible repeat (first | refine blk_drewN ?_ _ | refine blk_drew ?_ | refine blk_alloc ?_ _)); refine blk_far ?_ NB363_364.out _; (with_reducible repeat (first | refine blk_drewN ?_ _ | refine blk_drew ?_ | refine blk_alloc ?_ _)); refine blk_far ?_ NB363_364.out _; (with_reducible repeat (first | refine blk_drewN ?_ _ | refine blk_drew ?_ | refine blk_alloc ?_ _)); refine blk_far ?_ NB363_364.out _; (with_reducible repeat (first | refine blk_drewN ?_ _ | refine blk_drew ?_ | refine blk_alloc ?_ _)); exact BK363.out⟩, ⟨by (with_reducible repeat (first | refine blk_drewN ?_ _ | refine blk_drew ?_ | refine blk_alloc ?_ _)); refine blk_put (cs := #[.int .i64 (-1), .int .i64 0, .int .i64 0]) ?_ 2 _ rfl; (with_reducible repeat (first | refine blk_drewN ?_ _ | refine blk_drew ?_ | refine blk_alloc ?_ _)); refine blk_put (cs := #[.int .i64 (-1), .int .i64 0, .int .i64 0]) ?_ 1 _ rfl; (with_reducible repeat (first | refine blk_drewN ?_ _ | refine blk_drew ?_ | refine blk_alloc ?_ _)); refine blk_put (cs := #[.int .i64 0, .int .i64 0, .int .i64 0]) ?_ 0 _ rfl; (with_reducible repeat (first | refine blk_drewN ?_ _ | refine blk_drew ?_ | refine blk_alloc ?_ _)); exact BK364.out⟩, ⟨by repeat (first | (with_reducible first | exact HB.out | apply below_alloc | apply pw_below_drewN | apply below_drew1 | refine below_set ?_ GE363.out | refine below_set ?_ GE364.out) | exact HB.out)⟩⟩
 case round =>
  clear H'
  try clear c1
  try clear p2
  try clear c5
  try clear hcz6_0
  try clear hcz6_1
  try clear hcz6_2
  try clear hfz6_0
  try clear hfz6_1
  try clear hfz6_2
  obtain ⟨x15_1, x365000_1, x365001_1, x365002_1, rfl, HA, HK1, BK363, BK364, HB⟩ := hrel
  cases gk with
  | zero => exact absurd HA.out (by simp [spec_l7First.l0])
  | succ k1 =>
   have H := HA.out
   clear HA
   simp only [spec_l7First.l0] at H
   by_cases c7 : x15_1 < (l0.length : Int)
   ·rw [if_pos c7] at H
    have c7b0 : decide (x15_1 < (l0.length : Int)) = true := decide_eq_true c7
    clear c7
    by_cases c8 : 0 ≤ x15_1
    ·rw [if_pos c8] at H
     have c8b0 : decide (0 ≤ x15_1) = true := decide_eq_true c8
     clear c8
     by_cases c9 : x15_1 < (l0.length : Int)
     ·rw [if_pos c9] at H
      have c9b0 : decide (x15_1 < (l0.length : Int)) = true := decide_eq_true c9
      clear c9
      replace H := Option.bind_eq_some_iff.mp H
      obtain ⟨⟨t366, t367, t368⟩, A100, H⟩ := H
      replace H : (if t368 = true then (if x365000_1 < 0 then (spec_l7First.l0 k1 l1 l0 (l0.length : Int) (wrap64 (x15_1 + 1)) x15_1 t366 t367) else (if t366 < x365001_1 then (spec_l7First.l0 k1 l1 l0 (l0.length : Int) (wrap64 (x15_1 + 1)) x15_1 t366 t367) else (spec_l7First.l0 k1 l1 l0 (l0.length : Int) (wrap64 (x15_1 + 1)) x365000_1 x365001_1 x365002_1))) else (spec_l7First.l0 k1 l1 l0 (l0.length : Int) (wrap64 (x15_1 + 1)) x365000_1 x365001_1 x365002_1)) = some (r1, r2, r3, r4) := H
      have A10 := Aside0.mk A100
      clear A100
      by_cases c11 : t368 = true
      ·subst c11
       have H1 : (if x365000_1 < 0 then (spec_l7First.l0 k1 l1 l0 (l0.length : Int) (wrap64 (x15_1 + 1)) x15_1 t366 t367) else (if t366 < x365001_1 then (spec_l7First.l0 k1 l1 l0 (l0.length : Int) (wrap64 (x15_1 + 1)) x15_1 t366 t367) else (spec_l7First.l0 k1 l1 l0 (l0.length : Int) (wrap64 (x15_1 + 1)) x365000_1 x365001_1 x365002_1))) = some (r1, r2, r3, r4) := by rw [if_pos rfl] at H; exact H
       clear H
       have H := H1
       clear H1
       by_cases c12 : x365000_1 < 0
       ·rw [if_pos c12] at H
        have c12b0 : decide (x365000_1 < 0) = true := decide_eq_true c12
        clear c12
        have H' := Aside0.mk H
        clear H
        have p365 : 0 ≤ (x15_1 : Int) := of_decide_eq_true (by assumption)
        have q365 : x15_1 < (l0.length : Int) := of_decide_eq_true (by assumption)
        obtain ⟨ad365, A365_0, c365_0, e365, hx365_0, hl365_0, hi365_0⟩ := at_L8 HR0.out x15_1 p365 q365
        cases e365
        replace hx365_0 := (HB.out.cell (World.block_lt_of_cell? w _ hx365_0)).trans hx365_0
        have HR365_0 := Aside0.mk hi365_0
        have HC365_0 := Aside0.mk hl365_0
        clear hi365_0 hl365_0
        replace p365 := eq_true p365
        replace q365 := eq_true q365
        go_wp2_with (first | ((with_reducible refine gate_callee (f := 60) rfl ?_); refine goesL_ (some 23) rfl rfl Try.func60 (by kernel_rfl) rfl #[.slice A365_0 (rd_L8 l0 x15_1).length c365_0, .slice A1 l1.length c1] rfl (by simp only [List.map_toArray, List.map_cons, List.map_nil] <;> rfl) ?_; (with_reducible refine (spec_l7Find.calls k1 _ _ (rd_L8 l0 x15_1) _ _ l1 t366 t367 true _ ?side1 ?side2 ?side3 ?side4 A10.out).mono ?_); (case side1 => repeat (first | exact (Kd.C_below HR365_0.out HB.out) | (with_reducible refine Kd.C_alloc ?_ _) | (with_reducible refine Kd.C_drewN ?_ _) | (with_reducible refine Kd.C_drew ?_))); (case side2 => exact HC365_0.out); (case side3 => repeat (first | exact (Kd.C_below HR1.out HB.out) | (with_reducible refine Kd.C_alloc ?_ _) | (with_reducible refine Kd.C_drewN ?_ _) | (with_reducible refine Kd.C_drew ?_))); (case side4 => exact HC1.out); rintro e w13 ⟨rfl, hb⟩; refine ⟨_, rfl, ?_⟩; have n0_ := Aside0.mk (blk_below (g := gb363) (o := .cells #[.int .i64 0, .int .i64 0, .int .i64 0] 40 (0, 0)) (by (with_reducible repeat (first | refine blk_drewN ?_ _ | refine blk_drew ?_ | refine blk_alloc ?_ _)); exact BK363.out) hb); have n1_ := Aside0.mk (blk_below (g := gb364) (o := .cells #[.int .i64 x365000_1, .int .i64 x365001_1, .int .i64 x365002_1] 40 (0, 0)) (by (with_reducible repeat (first | refine blk_drewN ?_ _ | refine blk_drew ?_ | refine blk_alloc ?_ _)); exact BK364.out) hb); have n2_ := Aside0.mk (below_step HB.out hb); clear BK363; clear BK364; clear HB; have BK363 := n0_; have BK364 := n1_; have HB := n2_; clear n0_ n1_ n2_; have hnb14 := NB364_363.out; have hnc14 := NB363_364.out; have hcz15_0 : w13.cell? ⟨gb364, 0, none⟩ = some (.int .i64 x365000_1) := (blk_cell BK364.out 0).trans rfl; have hcz15_1 : w13.cell? ⟨gb364, 1, none⟩ = some (.int .i64 x365001_1) := (blk_cell BK364.out 1).trans rfl; have hcz15_2 : w13.cell? ⟨gb364, 2, none⟩ = some (.int .i64 x365002_1) := (blk_cell BK364.out 2).trans rfl; have hfz15_0 := blk_frozen BK364.out 0; have hfz15_1 := blk_frozen BK364.out 1; have hfz15_2 := blk_frozen BK364.out 2))
        go_roundg k1
        case measure => have := HK1.out; omega
        case rel => exact ⟨(wrap64 (x15_1 + 1)), (x15_1), (t366), (t367), (by first | rfl | (simp; done) | (simp [*]; done)), H', ⟨by have := HK1.out; omega⟩, ⟨by (with_reducible repeat (first | refine blk_drewN ?_ _ | refine blk_drew ?_ | refine blk_alloc ?_ _)); refine blk_far ?_ NB363_364.out _; (with_reducible repeat (first | refine blk_drewN ?_ _ | refine blk_drew ?_ | refine blk_alloc ?_ _)); refine blk_far ?_ NB363_364.out _; (with_reducible repeat (first | refine blk_drewN ?_ _ | refine blk_drew ?_ | refine blk_alloc ?_ _)); refine blk_far ?_ NB363_364.out _; (with_reducible repeat (first | refine blk_drewN ?_ _ | refine blk_drew ?_ | refine blk_alloc ?_ _)); exact BK363.out⟩, ⟨by (with_reducible repeat (first | refine blk_drewN ?_ _ | refine blk_drew ?_ | refine blk_alloc ?_ _)); refine blk_put (cs := #[.int .i64 x15_1, .int .i64 t366, .int .i64 x365002_1]) ?_ 2 _ rfl; (with_reducible repeat (first | refine blk_drewN ?_ _ | refine blk_drew ?_ | refine blk_alloc ?_ _)); refine blk_put (cs := #[.int .i64 x15_1, .int .i64 x365001_1, .int .i64 x365002_1]) ?_ 1 _ rfl; (with_reducible repeat (first | refine blk_drewN ?_ _ | refine blk_drew ?_ | refine blk_alloc ?_ _)); refine blk_put (cs := #[.int .i64 x365000_1, .int .i64 x365001_1, .int .i64 x365002_1]) ?_ 0 _ rfl; (with_reducible repeat (first | refine blk_drewN ?_ _ | refine blk_drew ?_ | refine blk_alloc ?_ _)); exact BK364.out⟩, ⟨by repeat (first | (with_reducible first | exact HB.out | apply below_alloc | apply pw_below_drewN | apply below_drew1 | refine below_set ?_ GE363.out | refine below_set ?_ GE364.out) | exact HB.out)⟩⟩
       ·rw [if_neg c12] at H
        have c12b0 : decide (x365000_1 < 0) = false := decide_eq_false c12
        clear c12
        by_cases c16 : t366 < x365001_1
        ·rw [if_pos c16] at H
         have c16b0 : decide (t366 < x365001_1) = true := decide_eq_true c16
         clear c16
         have H' := Aside0.mk H
         clear H
         have p365 : 0 ≤ (x15_1 : Int) := of_decide_eq_true (by assumption)
         have q365 : x15_1 < (l0.length : Int) := of_decide_eq_true (by assumption)
         obtain ⟨ad365, A365_0, c365_0, e365, hx365_0, hl365_0, hi365_0⟩ := at_L8 HR0.out x15_1 p365 q365
         cases e365
         replace hx365_0 := (HB.out.cell (World.block_lt_of_cell? w _ hx365_0)).trans hx365_0
         have HR365_0 := Aside0.mk hi365_0
         have HC365_0 := Aside0.mk hl365_0
         clear hi365_0 hl365_0
         replace p365 := eq_true p365
         replace q365 := eq_true q365
         go_wp2_with (first | ((with_reducible refine gate_callee (f := 60) rfl ?_); refine goesL_ (some 23) rfl rfl Try.func60 (by kernel_rfl) rfl #[.slice A365_0 (rd_L8 l0 x15_1).length c365_0, .slice A1 l1.length c1] rfl (by simp only [List.map_toArray, List.map_cons, List.map_nil] <;> rfl) ?_; (with_reducible refine (spec_l7Find.calls k1 _ _ (rd_L8 l0 x15_1) _ _ l1 t366 t367 true _ ?side1 ?side2 ?side3 ?side4 A10.out).mono ?_); (case side1 => repeat (first | exact (Kd.C_below HR365_0.out HB.out) | (with_reducible refine Kd.C_alloc ?_ _) | (with_reducible refine Kd.C_drewN ?_ _) | (with_reducible refine Kd.C_drew ?_))); (case side2 => exact HC365_0.out); (case side3 => repeat (first | exact (Kd.C_below HR1.out HB.out) | (with_reducible refine Kd.C_alloc ?_ _) | (with_reducible refine Kd.C_drewN ?_ _) | (with_reducible refine Kd.C_drew ?_))); (case side4 => exact HC1.out); rintro e w17 ⟨rfl, hb⟩; refine ⟨_, rfl, ?_⟩; have n0_ := Aside0.mk (blk_below (g := gb363) (o := .cells #[.int .i64 0, .int .i64 0, .int .i64 0] 40 (0, 0)) (by (with_reducible repeat (first | refine blk_drewN ?_ _ | refine blk_drew ?_ | refine blk_alloc ?_ _)); exact BK363.out) hb); have n1_ := Aside0.mk (blk_below (g := gb364) (o := .cells #[.int .i64 x365000_1, .int .i64 x365001_1, .int .i64 x365002_1] 40 (0, 0)) (by (with_reducible repeat (first | refine blk_drewN ?_ _ | refine blk_drew ?_ | refine blk_alloc ?_ _)); exact BK364.out) hb); have n2_ := Aside0.mk (below_step HB.out hb); clear BK363; clear BK364; clear HB; have BK363 := n0_; have BK364 := n1_; have HB := n2_; clear n0_ n1_ n2_; have hnb18 := NB364_363.out; have hnc18 := NB363_364.out; have hcz19_0 : w17.cell? ⟨gb364, 0, none⟩ = some (.int .i64 x365000_1) := (blk_cell BK364.out 0).trans rfl; have hcz19_1 : w17.cell? ⟨gb364, 1, none⟩ = some (.int .i64 x365001_1) := (blk_cell BK364.out 1).trans rfl; have hcz19_2 : w17.cell? ⟨gb364, 2, none⟩ = some (.int .i64 x365002_1) := (blk_cell BK364.out 2).trans rfl; have hfz19_0 := blk_frozen BK364.out 0; have hfz19_1 := blk_frozen BK364.out 1; have hfz19_2 := blk_frozen BK364.out 2))
         go_roundg k1
         case measure => have := HK1.out; omega
         case rel => exact ⟨(wrap64 (x15_1 + 1)), (x15_1), (t366), (t367), (by first | rfl | (simp; done) | (simp [*]; done)), H', ⟨by have := HK1.out; omega⟩, ⟨by (with_reducible repeat (first | refine blk_drewN ?_ _ | refine blk_drew ?_ | refine blk_alloc ?_ _)); refine blk_far ?_ NB363_364.out _; (with_reducible repeat (first | refine blk_drewN ?_ _ | refine blk_drew ?_ | refine blk_alloc ?_ _)); refine blk_far ?_ NB363_364.out _; (with_reducible repeat (first | refine blk_drewN ?_ _ | refine blk_drew ?_ | refine blk_alloc ?_ _)); refine blk_far ?_ NB363_364.out _; (with_reducible repeat (first | refine blk_drewN ?_ _ | refine blk_drew ?_ | refine blk_alloc ?_ _)); exact BK363.out⟩, ⟨by (with_reducible repeat (first | refine blk_drewN ?_ _ | refine blk_drew ?_ | refine blk_alloc ?_ _)); refine blk_put (cs := #[.int .i64 x15_1, .int .i64 t366, .int .i64 x365002_1]) ?_ 2 _ rfl; (with_reducible repeat (first | refine blk_drewN ?_ _ | refine blk_drew ?_ | refine blk_alloc ?_ _)); refine blk_put (cs := #[.int .i64 x15_1, .int .i64 x365001_1, .int .i64 x365002_1]) ?_ 1 _ rfl; (with_reducible repeat (first | refine blk_drewN ?_ _ | refine blk_drew ?_ | refine blk_alloc ?_ _)); refine blk_put (cs := #[.int .i64 x365000_1, .int .i64 x365001_1, .int .i64 x365002_1]) ?_ 0 _ rfl; (with_reducible repeat (first | refine blk_drewN ?_ _ | refine blk_drew ?_ | refine blk_alloc ?_ _)); exact BK364.out⟩, ⟨by repeat (first | (with_reducible first | exact HB.out | apply below_alloc | apply pw_below_drewN | apply below_drew1 | refine below_set ?_ GE363.out | refine below_set ?_ GE364.out) | exact HB.out)⟩⟩
        ·rw [if_neg c16] at H
         have c16b0 : decide (t366 < x365001_1) = false := decide_eq_false c16
         clear c16
         have H' := Aside0.mk H
         clear H
         have p365 : 0 ≤ (x15_1 : Int) := of_decide_eq_true (by assumption)
         have q365 : x15_1 < (l0.length : Int) := of_decide_eq_true (by assumption)
         obtain ⟨ad365, A365_0, c365_0, e365, hx365_0, hl365_0, hi365_0⟩ := at_L8 HR0.out x15_1 p365 q365
         cases e365
         replace hx365_0 := (HB.out.cell (World.block_lt_of_cell? w _ hx365_0)).trans hx365_0
         have HR365_0 := Aside0.mk hi365_0
         have HC365_0 := Aside0.mk hl365_0
         clear hi365_0 hl365_0
         replace p365 := eq_true p365
         replace q365 := eq_true q365
         go_wp2_with (first | ((with_reducible refine gate_callee (f := 60) rfl ?_); refine goesL_ (some 23) rfl rfl Try.func60 (by kernel_rfl) rfl #[.slice A365_0 (rd_L8 l0 x15_1).length c365_0, .slice A1 l1.length c1] rfl (by simp only [List.map_toArray, List.map_cons, List.map_nil] <;> rfl) ?_; (with_reducible refine (spec_l7Find.calls k1 _ _ (rd_L8 l0 x15_1) _ _ l1 t366 t367 true _ ?side1 ?side2 ?side3 ?side4 A10.out).mono ?_); (case side1 => repeat (first | exact (Kd.C_below HR365_0.out HB.out) | (with_reducible refine Kd.C_alloc ?_ _) | (with_reducible refine Kd.C_drewN ?_ _) | (with_reducible refine Kd.C_drew ?_))); (case side2 => exact HC365_0.out); (case side3 => repeat (first | exact (Kd.C_below HR1.out HB.out) | (with_reducible refine Kd.C_alloc ?_ _) | (with_reducible refine Kd.C_drewN ?_ _) | (with_reducible refine Kd.C_drew ?_))); (case side4 => exact HC1.out); rintro e w20 ⟨rfl, hb⟩; refine ⟨_, rfl, ?_⟩; have n0_ := Aside0.mk (blk_below (g := gb363) (o := .cells #[.int .i64 0, .int .i64 0, .int .i64 0] 40 (0, 0)) (by (with_reducible repeat (first | refine blk_drewN ?_ _ | refine blk_drew ?_ | refine blk_alloc ?_ _)); exact BK363.out) hb); have n1_ := Aside0.mk (blk_below (g := gb364) (o := .cells #[.int .i64 x365000_1, .int .i64 x365001_1, .int .i64 x365002_1] 40 (0, 0)) (by (with_reducible repeat (first | refine blk_drewN ?_ _ | refine blk_drew ?_ | refine blk_alloc ?_ _)); exact BK364.out) hb); have n2_ := Aside0.mk (below_step HB.out hb); clear BK363; clear BK364; clear HB; have BK363 := n0_; have BK364 := n1_; have HB := n2_; clear n0_ n1_ n2_; have hnb21 := NB364_363.out; have hnc21 := NB363_364.out; have hcz22_0 : w20.cell? ⟨gb364, 0, none⟩ = some (.int .i64 x365000_1) := (blk_cell BK364.out 0).trans rfl; have hcz22_1 : w20.cell? ⟨gb364, 1, none⟩ = some (.int .i64 x365001_1) := (blk_cell BK364.out 1).trans rfl; have hcz22_2 : w20.cell? ⟨gb364, 2, none⟩ = some (.int .i64 x365002_1) := (blk_cell BK364.out 2).trans rfl; have hfz22_0 := blk_frozen BK364.out 0; have hfz22_1 := blk_frozen BK364.out 1; have hfz22_2 := blk_frozen BK364.out 2))
         go_roundg k1
         case measure => have := HK1.out; omega
         case rel => exact ⟨(wrap64 (x15_1 + 1)), (x365000_1), (x365001_1), (x365002_1), (by first | rfl | (simp; done) | (simp [*]; done)), H', ⟨by have := HK1.out; omega⟩, ⟨by (with_reducible repeat (first | refine blk_drewN ?_ _ | refine blk_drew ?_ | refine blk_alloc ?_ _)); exact BK363.out⟩, ⟨by (with_reducible repeat (first | refine blk_drewN ?_ _ | refine blk_drew ?_ | refine blk_alloc ?_ _)); exact BK364.out⟩, ⟨HB.out⟩⟩
      ·replace c11 := Bool.eq_false_iff.mpr c11
       subst c11
       have H1 : (spec_l7First.l0 k1 l1 l0 (l0.length : Int) (wrap64 (x15_1 + 1)) x365000_1 x365001_1 x365002_1) = some (r1, r2, r3, r4) := by rw [if_neg (show ¬ (false = true) by decide)] at H; exact H
       clear H
       have H := H1
       clear H1
       have H' := Aside0.mk H
       clear H
       have p365 : 0 ≤ (x15_1 : Int) := of_decide_eq_true (by assumption)
       have q365 : x15_1 < (l0.length : Int) := of_decide_eq_true (by assumption)
       obtain ⟨ad365, A365_0, c365_0, e365, hx365_0, hl365_0, hi365_0⟩ := at_L8 HR0.out x15_1 p365 q365
       cases e365
       replace hx365_0 := (HB.out.cell (World.block_lt_of_cell? w _ hx365_0)).trans hx365_0
       have HR365_0 := Aside0.mk hi365_0
       have HC365_0 := Aside0.mk hl365_0
       clear hi365_0 hl365_0
       replace p365 := eq_true p365
       replace q365 := eq_true q365
       go_wp2_with (first | ((with_reducible refine gate_callee (f := 60) rfl ?_); refine goesL_ (some 23) rfl rfl Try.func60 (by kernel_rfl) rfl #[.slice A365_0 (rd_L8 l0 x15_1).length c365_0, .slice A1 l1.length c1] rfl (by simp only [List.map_toArray, List.map_cons, List.map_nil] <;> rfl) ?_; (with_reducible refine (spec_l7Find.calls k1 _ _ (rd_L8 l0 x15_1) _ _ l1 t366 t367 false _ ?side1 ?side2 ?side3 ?side4 A10.out).mono ?_); (case side1 => repeat (first | exact (Kd.C_below HR365_0.out HB.out) | (with_reducible refine Kd.C_alloc ?_ _) | (with_reducible refine Kd.C_drewN ?_ _) | (with_reducible refine Kd.C_drew ?_))); (case side2 => exact HC365_0.out); (case side3 => repeat (first | exact (Kd.C_below HR1.out HB.out) | (with_reducible refine Kd.C_alloc ?_ _) | (with_reducible refine Kd.C_drewN ?_ _) | (with_reducible refine Kd.C_drew ?_))); (case side4 => exact HC1.out); rintro e w23 ⟨rfl, hb⟩; refine ⟨_, rfl, ?_⟩; have n0_ := Aside0.mk (blk_below (g := gb363) (o := .cells #[.int .i64 0, .int .i64 0, .int .i64 0] 40 (0, 0)) (by (with_reducible repeat (first | refine blk_drewN ?_ _ | refine blk_drew ?_ | refine blk_alloc ?_ _)); exact BK363.out) hb); have n1_ := Aside0.mk (blk_below (g := gb364) (o := .cells #[.int .i64 x365000_1, .int .i64 x365001_1, .int .i64 x365002_1] 40 (0, 0)) (by (with_reducible repeat (first | refine blk_drewN ?_ _ | refine blk_drew ?_ | refine blk_alloc ?_ _)); exact BK364.out) hb); have n2_ := Aside0.mk (below_step HB.out hb); clear BK363; clear BK364; clear HB; have BK363 := n0_; have BK364 := n1_; have HB := n2_; clear n0_ n1_ n2_))
       go_roundg k1
       case measure => have := HK1.out; omega
       case rel => exact ⟨(wrap64 (x15_1 + 1)), (x365000_1), (x365001_1), (x365002_1), (by first | rfl | (simp; done) | (simp [*]; done)), H', ⟨by have := HK1.out; omega⟩, ⟨by (with_reducible repeat (first | refine blk_drewN ?_ _ | refine blk_drew ?_ | refine blk_alloc ?_ _)); exact BK363.out⟩, ⟨by (with_reducible repeat (first | refine blk_drewN ?_ _ | refine blk_drew ?_ | refine blk_alloc ?_ _)); exact BK364.out⟩, ⟨HB.out⟩⟩
     ·rw [if_neg c9] at H
      exact absurd H (by simp)
    ·rw [if_neg c8] at H
     exact absurd H (by simp)
   ·rw [if_neg c7] at H
    have c7b0 : decide (x15_1 < (l0.length : Int)) = false := decide_eq_false c7
    clear c7
    by_cases c24 : x365000_1 < 0
    ·rw [if_pos c24] at H
     have c24b0 : decide (x365000_1 < 0) = true := decide_eq_true c24
     clear c24
     simp only [Option.some.injEq, Prod.mk.injEq] at H
     obtain ⟨rfl, rfl, rfl, rfl⟩ := H
     have hnb25 := NB364_363.out
     have hnc25 := NB363_364.out
     have hcz26_0 : wr.cell? ⟨gb364, 0, none⟩ = some (.int .i64 x365000_1) := (blk_cell BK364.out 0).trans rfl
     have hcz26_1 : wr.cell? ⟨gb364, 1, none⟩ = some (.int .i64 x365001_1) := (blk_cell BK364.out 1).trans rfl
     have hcz26_2 : wr.cell? ⟨gb364, 2, none⟩ = some (.int .i64 x365002_1) := (blk_cell BK364.out 2).trans rfl
     have hfz26_0 := blk_frozen BK364.out 0
     have hfz26_1 := blk_frozen BK364.out 1
     have hfz26_2 := blk_frozen BK364.out 2
     have hcz27_0 : wr.cell? ⟨gb363, 0, none⟩ = some (.int .i64 0) := (blk_cell BK363.out 0).trans rfl
     have hcz27_1 : wr.cell? ⟨gb363, 1, none⟩ = some (.int .i64 0) := (blk_cell BK363.out 1).trans rfl
     have hcz27_2 : wr.cell? ⟨gb363, 2, none⟩ = some (.int .i64 0) := (blk_cell BK363.out 2).trans rfl
     have hfz27_0 := blk_frozen BK363.out 0
     have hfz27_1 := blk_frozen BK363.out 1
     have hfz27_2 := blk_frozen BK363.out 2
     go_wp2
     refine bodyPost_ret (results_ct rfl _ _ gb363 40 #[.int .i64 0, .int .i64 0, .int .i64 0] (0, 0) _ rfl (by (with_reducible repeat (first | refine blk_drewN ?_ _ | refine blk_drew ?_ | refine blk_alloc ?_ _)); refine blk_put (cs := #[.int .i64 0, .int .i64 0, .int .i64 0]) ?_ 2 _ rfl; (with_reducible repeat (first | refine blk_drewN ?_ _ | refine blk_drew ?_ | refine blk_alloc ?_ _)); refine blk_put (cs := #[.int .i64 0, .int .i64 0, .int .i64 0]) ?_ 1 _ rfl; (with_reducible repeat (first | refine blk_drewN ?_ _ | refine blk_drew ?_ | refine blk_alloc ?_ _)); refine blk_put (cs := #[.int .i64 0, .int .i64 0, .int .i64 0]) ?_ 0 _ rfl; (with_reducible repeat (first | refine blk_drewN ?_ _ | refine blk_drew ?_ | refine blk_alloc ?_ _)); exact BK363.out) Try.underlying40 rfl (by kernel_rfl)) rfl ?_
     exact ⟨by first | rfl | (simp [errW_none, errW_some] <;> rfl) | (simp [*, errW_none, errW_some] <;> rfl), by repeat (first | (with_reducible first | exact HB.out | apply below_alloc | apply pw_below_drewN | apply below_drew1 | refine below_set ?_ GE363.out | refine below_set ?_ GE364.out) | exact HB.out)⟩
    ·rw [if_neg c24] at H
     have c24b0 : decide (x365000_1 < 0) = false := decide_eq_false c24
     clear c24
     simp only [Option.some.injEq, Prod.mk.injEq] at H
     obtain ⟨rfl, rfl, rfl, rfl⟩ := H
     have hnb28 := NB364_363.out
     have hnc28 := NB363_364.out
     have hcz29_0 : wr.cell? ⟨gb364, 0, none⟩ = some (.int .i64 x365000_1) := (blk_cell BK364.out 0).trans rfl
     have hcz29_1 : wr.cell? ⟨gb364, 1, none⟩ = some (.int .i64 x365001_1) := (blk_cell BK364.out 1).trans rfl
     have hcz29_2 : wr.cell? ⟨gb364, 2, none⟩ = some (.int .i64 x365002_1) := (blk_cell BK364.out 2).trans rfl
     have hfz29_0 := blk_frozen BK364.out 0
     have hfz29_1 := blk_frozen BK364.out 1
     have hfz29_2 := blk_frozen BK364.out 2
     have hcz30_0 : wr.cell? ⟨gb363, 0, none⟩ = some (.int .i64 0) := (blk_cell BK363.out 0).trans rfl
     have hcz30_1 : wr.cell? ⟨gb363, 1, none⟩ = some (.int .i64 0) := (blk_cell BK363.out 1).trans rfl
     have hcz30_2 : wr.cell? ⟨gb363, 2, none⟩ = some (.int .i64 0) := (blk_cell BK363.out 2).trans rfl
     have hfz30_0 := blk_frozen BK363.out 0
     have hfz30_1 := blk_frozen BK363.out 1
     have hfz30_2 := blk_frozen BK363.out 2
     go_wp2
     refine bodyPost_ret (results_ct rfl _ _ gb363 40 #[.int .i64 x365000_1, .int .i64 x365001_1, .int .i64 x365002_1] (0, 0) _ rfl (by (with_reducible repeat (first | refine blk_drewN ?_ _ | refine blk_drew ?_ | refine blk_alloc ?_ _)); refine blk_put (cs := #[.int .i64 x365000_1, .int .i64 x365001_1, .int .i64 0]) ?_ 2 _ rfl; (with_reducible repeat (first | refine blk_drewN ?_ _ | refine blk_drew ?_ | refine blk_alloc ?_ _)); refine blk_put (cs := #[.int .i64 x365000_1, .int .i64 0, .int .i64 0]) ?_ 1 _ rfl; (with_reducible repeat (first | refine blk_drewN ?_ _ | refine blk_drew ?_ | refine blk_alloc ?_ _)); refine blk_put (cs := #[.int .i64 0, .int .i64 0, .int .i64 0]) ?_ 0 _ rfl; (with_reducible repeat (first | refine blk_drewN ?_ _ | refine blk_drew ?_ | refine blk_alloc ?_ _)); exact BK363.out) Try.underlying40 rfl (by kernel_rfl)) rfl ?_
     exact ⟨by first | rfl | (simp [errW_none, errW_some] <;> rfl) | (simp [*, errW_none, errW_some] <;> rfl), by repeat (first | (with_reducible first | exact HB.out | apply below_alloc | apply pw_below_drewN | apply below_drew1 | refine below_set ?_ GE363.out | refine below_set ?_ GE364.out) | exact HB.out)⟩

def spec_FirstOf.l0 : Nat → List (List (S89)) → List Int → List (List (S89)) → Int → Int → Option (Int × Int × Int × Bool)
 | 0, _, _, _, _, _ => none
 | k + 1, x0, x1, x12, x13, x14 => if x14 < x13 then (if 0 ≤ x14 then (if x14 < (x12.length : Int) then ((spec_l7Asked.f k (rd_L8 x12 x14) x1).bind fun t371 => (if t371 = true then (spec_FirstOf.l0 k x0 x1 x12 x13 (wrap64 (x14 + 1))) else (some (0, 0, 0, false)))) else (none)) else (none)) else ((spec_l7First.f k x0 x1).bind fun bt372 => (some (bt372.1, bt372.2.1, bt372.2.2.1, bt372.2.2.2)))
def spec_FirstOf.f (k : Nat) (l0 : List (List (S89))) (l1 : List Int) : Option (Int × Int × Int × Bool) := if (l0.length : Int) > 8 then (some (0, 0, 0, false)) else (spec_FirstOf.l0 k l0 l1 l0 (l0.length : Int) 0)
theorem spec_FirstOf.mono_l : ∀ k, (∀ y0 y1 y2 y3 y4, LeO (spec_FirstOf.l0 k y0 y1 y2 y3 y4) (spec_FirstOf.l0 (k + 1) y0 y1 y2 y3 y4))
 | 0 => fun _ _ _ _ _ r h => by simp [spec_FirstOf.l0] at h
 | k + 1 => by
  have ih0 := spec_FirstOf.mono_l k
  ·intro y0 y1 y2 y3 y4
   unfold spec_FirstOf.l0
   repeat' first
   | (with_reducible exact ih0 _ _ _ _ _)
   | (with_reducible exact spec_l7Asked.mono _ _ _)
   | (with_reducible exact spec_l7First.mono _ _ _)
   | (with_reducible exact LeO.refl _)
   | (with_reducible exact LeO.none _)
   | (with_reducible refine LeO.ite ?_ ?_)
   | (with_reducible refine LeO.bind ?_ (fun _ => ?_))
   | exact ih0 _ _ _ _ _
   | exact spec_l7Asked.mono _ _ _
   | exact spec_l7First.mono _ _ _
   | exact LeO.none _
   | refine LeO.ite ?_ ?_
   | refine LeO.bind ?_ (fun _ => ?_)
theorem spec_FirstOf.mono : ∀ a0 a1 k, LeO (spec_FirstOf.f k a0 a1) (spec_FirstOf.f (k + 1) a0 a1) := by
 intro a0 a1 k
 have ih0 := spec_FirstOf.mono_l k
 unfold spec_FirstOf.f
 repeat' first
   | (with_reducible exact ih0 _ _ _ _ _)
   | (with_reducible exact spec_l7Asked.mono _ _ _)
   | (with_reducible exact spec_l7First.mono _ _ _)
   | (with_reducible exact LeO.refl _)
   | (with_reducible exact LeO.none _)
   | (with_reducible refine LeO.ite ?_ ?_)
   | (with_reducible refine LeO.bind ?_ (fun _ => ?_))
   | exact ih0 _ _ _ _ _
   | exact spec_l7Asked.mono _ _ _
   | exact spec_l7First.mono _ _ _
   | exact LeO.none _
   | refine LeO.ite ?_ ?_
   | refine LeO.bind ?_ (fun _ => ?_)
set_option maxHeartbeats 8000000 in
set_option maxRecDepth 100000 in
theorem spec_FirstOf.calls (k : Nat) (A0 : Option Addr) (c0 : Nat) (l0 : List (List (S89))) (A1 : Option Addr) (c1 : Nat) (l1 : List Int) (r1 : Int) (r2 : Int) (r3 : Int) (r4 : Bool) (w : World) (hr0 : Kd.C (Kd.slice 89 k89) w A0 l0.length l0) (hc0 : l0.length ≤ c0) (hr1 : Kd.C (Kd.int .i64) w A1 l1.length l1) (hc1 : l1.length ≤ c1) (h : spec_FirstOf.f k l0 l1 = some (r1, r2, r3, r4)) :
  Calls Try.prog 25 #[.slice A0 l0.length c0, .slice A1 l1.length c1] w fun e w' => e = .returned (.tuple #[.agg #[.int .i64 r1, .int .i64 r2, .int .i64 r3], .bool r4]) ∧ Below w.heap.size w w' := by
 have hu40 := Try.underlying40
 have HR0 := Aside0.mk hr0
 have HC0 := Aside0.mk hc0
 clear hr0 hc0
 have HR1 := Aside0.mk hr1
 have HC1 := Aside0.mk hc1
 clear hr1 hc1
 have HB := Aside0.mk (Below.refl w.heap.size w)
 have H : (if (l0.length : Int) > 8 then (some (0, 0, 0, false)) else (spec_FirstOf.l0 k l0 l1 l0 (l0.length : Int) 0)) = some (r1, r2, r3, r4) := h
 clear h
 by_cases c3 : (l0.length : Int) > 8
 ·rw [if_pos c3] at H
  have c3b0 : decide (8 < (l0.length : Int)) = true := decide_eq_true c3
  have c3b1 : decide (8 < l0.length) = true := decide_eq_true (by omega)
  clear c3
  simp only [Option.some.injEq, Prod.mk.injEq] at H
  obtain ⟨rfl, rfl, rfl, rfl⟩ := H
  go_enter Try.func25, Try.ntmps25
  go_wp2_with (first | ((with_reducible refine gate_dst (N := 4) rfl ?_); refine box_event ?hg (N := 4) ?hd (cs := #[.int .i64 0, .int .i64 0, .int .i64 0]) (t := 40) ?hr ?_; (case hd => rfl); (case hg => rfl); (case hr => go_simp <;> rfl); intro gb369 hg w4 hbox hb; have n0_ := Aside0.mk (below_step HB.out hb); have n1_ := Aside0.mk (hbox); have n2_ := Aside0.mk ((by rw [hg]; exact (below_size HB.out) : w.heap.size ≤ gb369)); have n3_ := Aside0.mk ((by rw [hg]; exact (below_size HB.out) : w.heap.size ≤ gb369)); clear HB; have HB := n0_; have BK369 := n1_; have GW369 := n2_; have GE369 := n3_; clear n0_ n1_ n2_ n3_; clear hb hbox hg; have hcz5_0 : w4.cell? ⟨gb369, 0, none⟩ = some (.int .i64 0) := (blk_cell BK369.out 0).trans rfl; have hcz5_1 : w4.cell? ⟨gb369, 1, none⟩ = some (.int .i64 0) := (blk_cell BK369.out 1).trans rfl; have hcz5_2 : w4.cell? ⟨gb369, 2, none⟩ = some (.int .i64 0) := (blk_cell BK369.out 2).trans rfl; have hfz5_0 := blk_frozen BK369.out 0; have hfz5_1 := blk_frozen BK369.out 1; have hfz5_2 := blk_frozen BK369.out 2))
  refine bodyPost_ret (results_ct rfl _ _ gb369 40 #[.int .i64 0, .int .i64 0, .int .i64 0] (0, 0) _ rfl (by (with_reducible repeat (first | refine blk_drewN ?_ _ | refine blk_drew ?_ | refine blk_alloc ?_ _)); refine blk_put (cs := #[.int .i64 0, .int .i64 0, .int .i64 0]) ?_ 2 _ rfl; (with_reducible repeat (first | refine blk_drewN ?_ _ | refine blk_drew ?_ | refine blk_alloc ?_ _)); refine blk_put (cs := #[.int .i64 0, .int .i64 0, .int .i64 0]) ?_ 1 _ rfl; (with_reducible repeat (first | refine blk_drewN ?_ _ | refine blk_drew ?_ | refine blk_alloc ?_ _)); refine blk_put (cs := #[.int .i64 0, .int .i64 0, .int .i64 0]) ?_ 0 _ rfl; (with_reducible repeat (first | refine blk_drewN ?_ _ | refine blk_drew ?_ | refine blk_alloc ?_ _)); exact BK369.out) Try.underlying40 rfl (by kernel_rfl)) rfl ?_
  exact ⟨by first | rfl | (simp [errW_none, errW_some] <;> rfl) | (simp [*, errW_none, errW_some] <;> rfl), by repeat (first | (with_reducible first | exact HB.out | apply below_alloc | apply pw_below_drewN | apply below_drew1 | refine below_set ?_ GE369.out) | exact HB.out)⟩
 ·rw [if_neg c3] at H
  have c3b0 : decide (8 < (l0.length : Int)) = false := decide_eq_false c3
  have c3b1 : decide (8 < l0.length) = false := decide_eq_false (by omega)
  clear c3
  have H' := Aside0.mk H
  clear H
  go_enter Try.func25, Try.ntmps25
  go_wp2_with (first | ((with_reducible refine gate_dst (N := 4) rfl ?_); refine box_event ?hg (N := 4) ?hd (cs := #[.int .i64 0, .int .i64 0, .int .i64 0]) (t := 40) ?hr ?_; (case hd => rfl); (case hg => rfl); (case hr => go_simp <;> rfl); intro gb369 hg w6 hbox hb; have n0_ := Aside0.mk (below_step HB.out hb); have n1_ := Aside0.mk (hbox); have n2_ := Aside0.mk ((by rw [hg]; exact (below_size HB.out) : w.heap.size ≤ gb369)); have n3_ := Aside0.mk ((by rw [hg]; exact (below_size HB.out) : w.heap.size ≤ gb369)); clear HB; have HB := n0_; have BK369 := n1_; have GW369 := n2_; have GE369 := n3_; clear n0_ n1_ n2_ n3_; clear hb hbox hg))
  go_loopg [14] k (fun kq v14 w' => ∃ (x14_1 : Int) (x370000_1 : Int) (x370001_1 : Int) (x370002_1 : Int), v14 = .int .i64 x14_1 ∧ Aside0 (spec_FirstOf.l0 kq l0 l1 l0 (l0.length : Int) x14_1 = some (r1, r2, r3, r4)) ∧ Aside0 (kq ≤ k) ∧ Aside0 (w'.heap[gb369]? = some (.cells #[.int .i64 x370000_1, .int .i64 x370001_1, .int .i64 x370002_1] 40 (0, 0))) ∧ Aside0 (Below w.heap.size w w'))
  case atStart => exact ⟨(0), (0), (0), (0), (by first | rfl | (simp; done) | (simp [*]; done)), H', ⟨Nat.le_refl _⟩, ⟨by (with_reducible repeat (first | refine blk_drewN ?_ _ | refine blk_drew ?_ | refine blk_alloc ?_ _)); exact BK369.out⟩, ⟨HB.out⟩⟩
  case round =>
   clear H'
   try clear c1
   try clear c2
   try clear p2
   try clear c3
   try clear c3b0
   try clear c3b1
   try clear hcz5_0
   try clear hcz5_1
   try clear hcz5_2
   try clear hfz5_0
   try clear hfz5_1
   try clear hfz5_2
   obtain ⟨x14_1, x370000_1, x370001_1, x370002_1, rfl, HA, HK1, BK369, HB⟩ := hrel
   cases gk with
   | zero => exact absurd HA.out (by simp [spec_FirstOf.l0])
   | succ k1 =>
    have H := HA.out
    clear HA
    simp only [spec_FirstOf.l0] at H
    by_cases c7 : x14_1 < (l0.length : Int)
    ·rw [if_pos c7] at H
     have c7b0 : decide (x14_1 < (l0.length : Int)) = true := decide_eq_true c7
     clear c7
     by_cases c8 : 0 ≤ x14_1
     ·rw [if_pos c8] at H
      have c8b0 : decide (0 ≤ x14_1) = true := decide_eq_true c8
      clear c8
      by_cases c9 : x14_1 < (l0.length : Int)
      ·rw [if_pos c9] at H
       have c9b0 : decide (x14_1 < (l0.length : Int)) = true := decide_eq_true c9
       clear c9
       replace H := Option.bind_eq_some_iff.mp H
       obtain ⟨t371, A100, H⟩ := H
       replace H : (if t371 = true then (spec_FirstOf.l0 k1 l0 l1 l0 (l0.length : Int) (wrap64 (x14_1 + 1))) else (some (0, 0, 0, false))) = some (r1, r2, r3, r4) := H
       have A10 := Aside0.mk A100
       clear A100
       by_cases c11 : t371 = true
       ·subst c11
        have H1 : (spec_FirstOf.l0 k1 l0 l1 l0 (l0.length : Int) (wrap64 (x14_1 + 1))) = some (r1, r2, r3, r4) := by rw [if_pos rfl] at H; exact H
        clear H
        have H := H1
        clear H1
        have H' := Aside0.mk H
        clear H
        have p370 : 0 ≤ (x14_1 : Int) := of_decide_eq_true (by assumption)
        have q370 : x14_1 < (l0.length : Int) := of_decide_eq_true (by assumption)
        obtain ⟨ad370, A370_0, c370_0, e370, hx370_0, hl370_0, hi370_0⟩ := at_L8 HR0.out x14_1 p370 q370
        cases e370
        replace hx370_0 := (HB.out.cell (World.block_lt_of_cell? w _ hx370_0)).trans hx370_0
        have HR370_0 := Aside0.mk hi370_0
        have HC370_0 := Aside0.mk hl370_0
        clear hi370_0 hl370_0
        replace p370 := eq_true p370
        replace q370 := eq_true q370
        go_wp2_with (first | ((with_reducible refine gate_callee (f := 59) rfl ?_); refine goesL_ (some 20) rfl rfl Try.func59 (by kernel_rfl) rfl #[.slice A370_0 (rd_L8 l0 x14_1).length c370_0, .slice A1 l1.length c1] rfl (by simp only [List.map_toArray, List.map_cons, List.map_nil] <;> rfl) ?_; (with_reducible refine (spec_l7Asked.calls k1 _ _ (rd_L8 l0 x14_1) _ _ l1 true _ ?side1 ?side2 ?side3 ?side4 A10.out).mono ?_); (case side1 => repeat (first | exact (Kd.C_below HR370_0.out HB.out) | (with_reducible refine Kd.C_alloc ?_ _) | (with_reducible refine Kd.C_drewN ?_ _) | (with_reducible refine Kd.C_drew ?_))); (case side2 => exact HC370_0.out); (case side3 => repeat (first | exact (Kd.C_below HR1.out HB.out) | (with_reducible refine Kd.C_alloc ?_ _) | (with_reducible refine Kd.C_drewN ?_ _) | (with_reducible refine Kd.C_drew ?_))); (case side4 => exact HC1.out); rintro e w12 ⟨rfl, hb⟩; refine ⟨_, rfl, ?_⟩; have n0_ := Aside0.mk (blk_below (g := gb369) (o := .cells #[.int .i64 x370000_1, .int .i64 x370001_1, .int .i64 x370002_1] 40 (0, 0)) (by (with_reducible repeat (first | refine blk_drewN ?_ _ | refine blk_drew ?_ | refine blk_alloc ?_ _)); exact BK369.out) hb); have n1_ := Aside0.mk (below_step HB.out hb); clear BK369; clear HB; have BK369 := n0_; have HB := n1_; clear n0_ n1_))
        go_roundg k1
        case measure => have := HK1.out; omega
        case rel => exact ⟨(wrap64 (x14_1 + 1)), (x370000_1), (x370001_1), (x370002_1), (by first | rfl | (simp; done) | (simp [*]; done)), H', ⟨by have := HK1.out; omega⟩, ⟨by (with_reducible repeat (first | refine blk_drewN ?_ _ | refine blk_drew ?_ | refine blk_alloc ?_ _)); exact BK369.out⟩, ⟨HB.out⟩⟩
       ·replace c11 := Bool.eq_false_iff.mpr c11
        subst c11
        have H1 : (some (0, 0, 0, false)) = some (r1, r2, r3, r4) := by rw [if_neg (show ¬ (false = true) by decide)] at H; exact H
        clear H
        have H := H1
        clear H1
        simp only [Option.some.injEq, Prod.mk.injEq] at H
        obtain ⟨rfl, rfl, rfl, rfl⟩ := H
        have p370 : 0 ≤ (x14_1 : Int) := of_decide_eq_true (by assumption)
        have q370 : x14_1 < (l0.length : Int) := of_decide_eq_true (by assumption)
        obtain ⟨ad370, A370_0, c370_0, e370, hx370_0, hl370_0, hi370_0⟩ := at_L8 HR0.out x14_1 p370 q370
        cases e370
        replace hx370_0 := (HB.out.cell (World.block_lt_of_cell? w _ hx370_0)).trans hx370_0
        have HR370_0 := Aside0.mk hi370_0
        have HC370_0 := Aside0.mk hl370_0
        clear hi370_0 hl370_0
        replace p370 := eq_true p370
        replace q370 := eq_true q370
        go_wp2_with (first | ((with_reducible refine gate_callee (f := 59) rfl ?_); refine goesL_ (some 20) rfl rfl Try.func59 (by kernel_rfl) rfl #[.slice A370_0 (rd_L8 l0 x14_1).length c370_0, .slice A1 l1.length c1] rfl (by simp only [List.map_toArray, List.map_cons, List.map_nil] <;> rfl) ?_; (with_reducible refine (spec_l7Asked.calls k1 _ _ (rd_L8 l0 x14_1) _ _ l1 false _ ?side1 ?side2 ?side3 ?side4 A10.out).mono ?_); (case side1 => repeat (first | exact (Kd.C_below HR370_0.out HB.out) | (with_reducible refine Kd.C_alloc ?_ _) | (with_reducible refine Kd.C_drewN ?_ _) | (with_reducible refine Kd.C_drew ?_))); (case side2 => exact HC370_0.out); (case side3 => repeat (first | exact (Kd.C_below HR1.out HB.out) | (with_reducible refine Kd.C_alloc ?_ _) | (with_reducible refine Kd.C_drewN ?_ _) | (with_reducible refine Kd.C_drew ?_))); (case side4 => exact HC1.out); rintro e w13 ⟨rfl, hb⟩; refine ⟨_, rfl, ?_⟩; have n0_ := Aside0.mk (blk_below (g := gb369) (o := .cells #[.int .i64 x370000_1, .int .i64 x370001_1, .int .i64 x370002_1] 40 (0, 0)) (by (with_reducible repeat (first | refine blk_drewN ?_ _ | refine blk_drew ?_ | refine blk_alloc ?_ _)); exact BK369.out) hb); have n1_ := Aside0.mk (below_step HB.out hb); clear BK369; clear HB; have BK369 := n0_; have HB := n1_; clear n0_ n1_; have hcz14_0 : w13.cell? ⟨gb369, 0, none⟩ = some (.int .i64 x370000_1) := (blk_cell BK369.out 0).trans rfl; have hcz14_1 : w13.cell? ⟨gb369, 1, none⟩ = some (.int .i64 x370001_1) := (blk_cell BK369.out 1).trans rfl; have hcz14_2 : w13.cell? ⟨gb369, 2, none⟩ = some (.int .i64 x370002_1) := (blk_cell BK369.out 2).trans rfl; have hfz14_0 := blk_frozen BK369.out 0; have hfz14_1 := blk_frozen BK369.out 1; have hfz14_2 := blk_frozen BK369.out 2))
        refine bodyPost_ret (results_ct rfl _ _ gb369 40 #[.int .i64 0, .int .i64 0, .int .i64 0] (0, 0) _ rfl (by (with_reducible repeat (first | refine blk_drewN ?_ _ | refine blk_drew ?_ | refine blk_alloc ?_ _)); refine blk_put (cs := #[.int .i64 0, .int .i64 0, .int .i64 x370002_1]) ?_ 2 _ rfl; (with_reducible repeat (first | refine blk_drewN ?_ _ | refine blk_drew ?_ | refine blk_alloc ?_ _)); refine blk_put (cs := #[.int .i64 0, .int .i64 x370001_1, .int .i64 x370002_1]) ?_ 1 _ rfl; (with_reducible repeat (first | refine blk_drewN ?_ _ | refine blk_drew ?_ | refine blk_alloc ?_ _)); refine blk_put (cs := #[.int .i64 x370000_1, .int .i64 x370001_1, .int .i64 x370002_1]) ?_ 0 _ rfl; (with_reducible repeat (first | refine blk_drewN ?_ _ | refine blk_drew ?_ | refine blk_alloc ?_ _)); exact BK369.out) Try.underlying40 rfl (by kernel_rfl)) rfl ?_
        exact ⟨by first | rfl | (simp [errW_none, errW_some] <;> rfl) | (simp [*, errW_none, errW_some] <;> rfl), by repeat (first | (with_reducible first | exact HB.out | apply below_alloc | apply pw_below_drewN | apply below_drew1 | refine below_set ?_ GE369.out) | exact HB.out)⟩
      ·rw [if_neg c9] at H
       exact absurd H (by simp)
     ·rw [if_neg c8] at H
      exact absurd H (by simp)
    ·rw [if_neg c7] at H
     have c7b0 : decide (x14_1 < (l0.length : Int)) = false := decide_eq_false c7
     clear c7
     replace H := Option.bind_eq_some_iff.mp H
     obtain ⟨⟨t372, t373, t374, t375⟩, A150, H⟩ := H
     replace H : (some (t372, t373, t374, t375)) = some (r1, r2, r3, r4) := H
     have A15 := Aside0.mk A150
     clear A150
     simp only [Option.some.injEq, Prod.mk.injEq] at H
     obtain ⟨rfl, rfl, rfl, rfl⟩ := H
     go_wp2_with (first | ((with_reducible refine gate_callee (f := 71) rfl ?_); refine goesL_ (some 26) rfl rfl Try.func71 (by kernel_rfl) rfl #[.slice A0 l0.length c0, .slice A1 l1.length c1] rfl (by simp only [List.map_toArray, List.map_cons, List.map_nil] <;> rfl) ?_; (with_reducible refine (spec_l7First.calls k1 _ _ l0 _ _ l1 t372 t373 t374 t375 _ ?side1 ?side2 ?side3 ?side4 A15.out).mono ?_); (case side1 => repeat (first | exact (Kd.C_below HR0.out HB.out) | (with_reducible refine Kd.C_alloc ?_ _) | (with_reducible refine Kd.C_drewN ?_ _) | (with_reducible refine Kd.C_drew ?_))); (case side2 => exact HC0.out); (case side3 => repeat (first | exact (Kd.C_below HR1.out HB.out) | (with_reducible refine Kd.C_alloc ?_ _) | (with_reducible refine Kd.C_drewN ?_ _) | (with_reducible refine Kd.C_drew ?_))); (case side4 => exact HC1.out); rintro e w16 ⟨rfl, hb⟩; refine ⟨_, rfl, ?_⟩; have n0_ := Aside0.mk (blk_below (g := gb369) (o := .cells #[.int .i64 x370000_1, .int .i64 x370001_1, .int .i64 x370002_1] 40 (0, 0)) (by (with_reducible repeat (first | refine blk_drewN ?_ _ | refine blk_drew ?_ | refine blk_alloc ?_ _)); exact BK369.out) hb); have n1_ := Aside0.mk (below_step HB.out hb); clear BK369; clear HB; have BK369 := n0_; have HB := n1_; clear n0_ n1_; have hcz17_0 : w16.cell? ⟨gb369, 0, none⟩ = some (.int .i64 x370000_1) := (blk_cell BK369.out 0).trans rfl; have hcz17_1 : w16.cell? ⟨gb369, 1, none⟩ = some (.int .i64 x370001_1) := (blk_cell BK369.out 1).trans rfl; have hcz17_2 : w16.cell? ⟨gb369, 2, none⟩ = some (.int .i64 x370002_1) := (blk_cell BK369.out 2).trans rfl; have hfz17_0 := blk_frozen BK369.out 0; have hfz17_1 := blk_frozen BK369.out 1; have hfz17_2 := blk_frozen BK369.out 2))
     refine bodyPost_ret (results_ct rfl _ _ gb369 40 #[.int .i64 t372, .int .i64 t373, .int .i64 t374] (0, 0) _ rfl (by (with_reducible repeat (first | refine blk_drewN ?_ _ | refine blk_drew ?_ | refine blk_alloc ?_ _)); refine blk_put (cs := #[.int .i64 t372, .int .i64 t373, .int .i64 x370002_1]) ?_ 2 _ rfl; (with_reducible repeat (first | refine blk_drewN ?_ _ | refine blk_drew ?_ | refine blk_alloc ?_ _)); refine blk_put (cs := #[.int .i64 t372, .int .i64 x370001_1, .int .i64 x370002_1]) ?_ 1 _ rfl; (with_reducible repeat (first | refine blk_drewN ?_ _ | refine blk_drew ?_ | refine blk_alloc ?_ _)); refine blk_put (cs := #[.int .i64 x370000_1, .int .i64 x370001_1, .int .i64 x370002_1]) ?_ 0 _ rfl; (with_reducible repeat (first | refine blk_drewN ?_ _ | refine blk_drew ?_ | refine blk_alloc ?_ _)); exact BK369.out) Try.underlying40 rfl (by kernel_rfl)) rfl ?_
     exact ⟨by first | rfl | (simp [errW_none, errW_some] <;> rfl) | (simp [*, errW_none, errW_some] <;> rfl), by repeat (first | (with_reducible first | exact HB.out | apply below_alloc | apply pw_below_drewN | apply below_drew1 | refine below_set ?_ GE369.out) | exact HB.out)⟩

set_option maxHeartbeats 8000000 in
theorem slices_IndexFunc_rows__impl_Re.fn (g : Nat) (lb : Array Value) (eg : ∀ args w, (callFunc g args).run Try.prog w = .ok (.enter g args) w) (p : List S89 → Bool) (A : Option Addr) (c : Nat) (l : List (List S89)) (w : World) (hr : Kd.C (Kd.slice 89 k89) w A l.length l)
    (hp : ∀ (w1 : World) (x : List S89) (A0 : Option Addr) (c0 : Nat), x ∈ l → Below w.heap.size w w1 → k89.C w A0 x.length x → x.length ≤ c0 → Calls Try.prog g (#[.slice A0 x.length c0] ++ lb) w1 fun e w' => e = .returned (.bool (p x)) ∧ Below w1.heap.size w1 w') :
    Calls Try.prog 116 #[.slice A l.length c, .func (.func g) #[] lb] w fun e w' => e = .returned (.int .i64 (idxOf p l)) ∧ Below w.heap.size w w' := by
  have hbig : l.length ≤ 9223372036854775807 := hr.2.1
  have HR := Aside0.mk hr
  have HP := Aside0.mk hp
  have HB := Aside0.mk (Below.refl w.heap.size w)
  clear hr hp
  go_enter Try.func116, Try.ntmps116
  go_wp2
  go_loopg [5, 8] l.length (fun gg _ s8 wr => ∃ kk : Nat, kk ≤ l.length ∧ l.length - kk ≤ gg ∧ s8 = .int .i64 kk ∧ Aside0 (∀ j (hj : j < l.length), j < kk → p l[j] = false) ∧ Aside0 (Below w.heap.size w wr))
  case atStart => exact ⟨0, Nat.zero_le _, by omega, rfl, ⟨fun j _ hj => absurd hj (Nat.not_lt_zero _)⟩, ⟨by repeat (first | (with_reducible first | exact HB.out | apply below_alloc | apply pw_below_drewN | apply below_drew1) | exact HB.out)⟩⟩
  case round =>
    clear HB
    obtain ⟨kk, hkk, hg, rfl, HA, HB⟩ := hrel
    by_cases hlt : kk < l.length
    · have hltz : (kk : Int) < (l.length : Int) := by omega
      obtain ⟨ad, cs, e, _, hK, hcc⟩ := Kd.C_get HR.out ([] : List S89) (kk : Int) (by omega) hltz
      cases e
      obtain ⟨A0, c0, rfl, hl0, hC0⟩ := hK
      have hx0 : w.cell? (ad.add kk) = some (.slice A0 (l.getD (kk : Int).toNat []).length c0) := by
        have hq := hcc 0 _ rfl
        simpa [Kd.slice] using hq
      have hge : l.getD (kk : Int).toNat [] = l[kk] := by rw [Int.toNat_natCast, List.getD_eq_getElem?_getD, List.getElem?_eq_getElem hlt]; rfl
      replace hx0 := (HB.out.cell (World.block_lt_of_cell? w _ hx0)).trans hx0
      have hm : l.getD (kk : Int).toNat [] ∈ l := by rw [hge]; exact List.getElem_mem hlt
      have HPE := Aside0.mk (show p (l.getD (kk : Int).toNat []) = p l[kk] by rw [hge])
      have HL0 := Aside0.mk hl0
      have HC0 := Aside0.mk hC0
      have HM := Aside0.mk hm
      clear hm hge hcc hl0 hC0
      generalize l.getD (kk : Int).toNat [] = y at hx0 HL0 HC0 HPE HM
      try simp only [Int.toNat_natCast] at hx0
      have HC := Aside0.mk (fun (w1 : World) (hb1 : Below w.heap.size w w1) => HP.out w1 y A0 c0 HM.out hb1 HC0.out HL0.out)
      cases hq : p y with
      | true =>
        have HQ := Aside0.mk (HPE.out.symm.trans hq)
        have HC2 := Aside0.mk (fun (w1 : World) (hb1 : Below w.heap.size w w1) => hq ▸ HC.out w1 hb1)
        clear hq
        go_wp2_with (go_at_fn g; refine (HC2.out _ ?hb1).mono ?_; (case hb1 => repeat (first | (with_reducible first | exact HB.out | apply below_alloc | apply pw_below_drewN | apply below_drew1) | exact HB.out)); rintro e w' ⟨rfl, hb⟩; have n0_ := Aside0.mk (below_step (by repeat (first | (with_reducible first | exact HB.out | apply below_alloc | apply pw_below_drewN | apply below_drew1) | exact HB.out)) hb); clear HB hb; have HB := n0_; clear n0_)
        go_ret
        refine ⟨?_, by repeat (first | (with_reducible first | exact HB.out | apply below_alloc | apply pw_below_drewN | apply below_drew1) | exact HB.out)⟩
        rw [idxOf_hit p l kk hlt (fun j hj => HA.out j (by omega) hj) HQ.out]
        rfl
      | false =>
        have HQ := Aside0.mk (HPE.out.symm.trans hq)
        have HC2 := Aside0.mk (fun (w1 : World) (hb1 : Below w.heap.size w w1) => hq ▸ HC.out w1 hb1)
        clear hq
        go_wp2_with (go_at_fn g; refine (HC2.out _ ?hb1).mono ?_; (case hb1 => repeat (first | (with_reducible first | exact HB.out | apply below_alloc | apply pw_below_drewN | apply below_drew1) | exact HB.out)); rintro e w' ⟨rfl, hb⟩; have n0_ := Aside0.mk (below_step (by repeat (first | (with_reducible first | exact HB.out | apply below_alloc | apply pw_below_drewN | apply below_drew1) | exact HB.out)) hb); clear HB hb; have HB := n0_; clear n0_)
        go_roundg (l.length - (kk + 1))
        case measure => omega
        case rel =>
          refine ⟨kk + 1, by omega, by omega, by go_num, ⟨fun j hj hjk => ?_⟩, ⟨by repeat (first | (with_reducible first | exact HB.out | apply below_alloc | apply pw_below_drewN | apply below_drew1) | exact HB.out)⟩⟩
          by_cases e : j = kk
          · subst e
            exact HQ.out
          · exact HA.out j hj (by omega)
    · have hltz : ¬ (kk : Int) < (l.length : Int) := by omega
      have HMI := Aside0.mk (idxOf_miss p l (fun x hx => by
        obtain ⟨j, hj, rfl⟩ := List.getElem_of_mem hx
        exact HA.out j hj (by omega)))
      go_wp2
      go_ret
      refine ⟨?_, by repeat (first | (with_reducible first | exact HB.out | apply below_alloc | apply pw_below_drewN | apply below_drew1) | exact HB.out)⟩
      rw [HMI.out]
      rfl

set_option maxHeartbeats 8000000 in
theorem slices_ContainsFunc_rows__impl_Re.fn (g : Nat) (lb : Array Value) (eg : ∀ args w, (callFunc g args).run Try.prog w = .ok (.enter g args) w) (p : List S89 → Bool) (A : Option Addr) (c : Nat) (l : List (List S89)) (w : World) (hr : Kd.C (Kd.slice 89 k89) w A l.length l)
    (hp : ∀ (w1 : World) (x : List S89) (A0 : Option Addr) (c0 : Nat), x ∈ l → Below w.heap.size w w1 → k89.C w A0 x.length x → x.length ≤ c0 → Calls Try.prog g (#[.slice A0 x.length c0] ++ lb) w1 fun e w' => e = .returned (.bool (p x)) ∧ Below w1.heap.size w1 w') :
    Calls Try.prog 73 #[.slice A l.length c, .func (.func g) #[] lb] w fun e w' => e = .returned (.bool (l.any p)) ∧ Below w.heap.size w w' := by
  have H := slices_IndexFunc_rows__impl_Re.fn g lb eg p A c l w hr hp
  have HB := Aside0.mk (idxOf_any p l)
  clear hr hp
  generalize idxOf p l = i at H HB
  generalize l.any p = b at HB
  have HH := Aside0.mk H
  clear H
  by_cases h0 : 0 ≤ i
  · obtain rfl : b = true := by rw [← HB.out]; exact h0
    clear HB
    go_enter Try.func73, Try.ntmps73
    go_wp2_with (go_at_call 116; refine HH.out.mono ?_; rintro e w' ⟨rfl, hb⟩; have HB2 := Aside0.mk hb; clear hb)
    go_ret
    exact ⟨by simp [h0], by repeat (first | (with_reducible first | exact HB2.out | apply below_alloc | apply pw_below_drewN | apply below_drew1) | exact HB2.out)⟩
  · obtain rfl : b = false := by
      cases hb : b
      · rfl
      · exact absurd (HB.out.mpr hb) h0
    clear HB
    go_enter Try.func73, Try.ntmps73
    go_wp2_with (go_at_call 116; refine HH.out.mono ?_; rintro e w' ⟨rfl, hb⟩; have HB2 := Aside0.mk hb; clear hb)
    go_ret
    exact ⟨by simp [h0], by repeat (first | (with_reducible first | exact HB2.out | apply below_alloc | apply pw_below_drewN | apply below_drew1) | exact HB2.out)⟩

def impl_FirstOf_1.f (k : Nat) (l0 : List (S89)) : Option (Bool) := (impl_GoodRe.f k l0).bind fun t384 => (some (!t384))
theorem impl_FirstOf_1.mono : ∀ a0 k, LeO (impl_FirstOf_1.f k a0) (impl_FirstOf_1.f (k + 1) a0) := by
  intro a0 k
  unfold impl_FirstOf_1.f
  repeat' first
      | (with_reducible exact impl_GoodRe.mono _ _)
      | (with_reducible exact LeO.refl _)
      | (with_reducible exact LeO.none _)
      | (with_reducible refine LeO.ite ?_ ?_)
      | (with_reducible refine LeO.bind ?_ (fun _ => ?_))
      | exact impl_GoodRe.mono _ _
      | exact LeO.none _
      | refine LeO.ite ?_ ?_
      | refine LeO.bind ?_ (fun _ => ?_)
set_option maxHeartbeats 8000000 in
set_option maxRecDepth 100000 in
theorem impl_FirstOf_1.calls (k : Nat) (A0 : Option Addr) (c0 : Nat) (l0 : List (S89)) (r : Bool) (w : World) (hr0 : Kd.C k89 w A0 l0.length l0) (hc0 : l0.length ≤ c0) (h : impl_FirstOf_1.f k l0 = some r) :
    Calls Try.prog 74 #[.slice A0 l0.length c0] w fun e w' => e = .returned (.bool r) ∧ Below w.heap.size w w' := by
  have HR0 := Aside0.mk hr0
  have HC0 := Aside0.mk hc0
  clear hr0 hc0
  have HB := Aside0.mk (Below.refl w.heap.size w)
  have H : ((impl_GoodRe.f k l0).bind fun t384 => (some (!t384))) = some r := h
  clear h
  replace H := Option.bind_eq_some_iff.mp H
  obtain ⟨t384, A20, H⟩ := H
  replace H : (some (!t384)) = some r := H
  have A2 := Aside0.mk A20
  clear A20
  obtain rfl := Option.some.inj H
  go_enter Try.func74, Try.ntmps74
  go_wp2_with (first | ((with_reducible refine gate_callee (f := 75) rfl ?_); refine goesL_ (some 4) rfl rfl Try.func75 (by kernel_rfl) rfl #[.slice A0 l0.length c0] rfl (by (try simp only [List.map_toArray, List.map_cons, List.map_nil]); first | done | rfl | (simp only [List.length_drop, List.length_take]; rfl)) ?_; (with_reducible refine (impl_GoodRe.calls k _ _ l0 t384 _ ?side1 ?side2 A2.out).mono ?_); (case side1 => repeat (first | exact HR0.out | (with_reducible refine Kd.C_alloc ?_ _) | (with_reducible refine Kd.C_drewN ?_ _) | (with_reducible refine Kd.C_drew ?_))); (case side2 => exact HC0.out); rintro e w3 ⟨rfl, hb⟩; refine ⟨_, rfl, ?_⟩; have n0_ := Aside0.mk (below_step (by repeat (first | (with_reducible first | exact HB.out | apply below_alloc | apply pw_below_drewN | apply below_drew1) | exact HB.out)) hb); clear HB; have HB := n0_; clear n0_; (try clear hb); (try clear hb2); (try clear hk); (try clear hi)))
  go_ret
  exact ⟨by first | rfl | (simp [errW_none, errW_some] <;> rfl) | (simp [*, errW_none, errW_some] <;> rfl), by repeat (first | (with_reducible first | exact HB.out | apply below_alloc | apply pw_below_drewN | apply below_drew1) | exact HB.out)⟩

def impl_firstOf.l0 (l : List Int) (ps : List (List S89)) : Nat → Int → Int → Int → Int → Bool → Option (Int × Int × Int × Bool)
  | 0, _, _, _, _, _ => none
  | k + 1, i, b0, b1, b2, fd => if i < ps.length then ((impl_match.f k (ps.getD i.toNat []) l).bind fun m => (impl_matcher_find.f k (ps.getD i.toNat []) m.2 0 l.length).bind fun u => if u.2.2 = true then (if fd = true then (if u.1 < b1 then impl_firstOf.l0 l ps k (i + 1) i u.1 u.2.1 true else impl_firstOf.l0 l ps k (i + 1) b0 b1 b2 true) else impl_firstOf.l0 l ps k (i + 1) i u.1 u.2.1 true) else impl_firstOf.l0 l ps k (i + 1) b0 b1 b2 fd) else some (b0, b1, b2, fd)
def impl_firstOf.f (k : Nat) (l0 : List (List S89)) (l1 : List Int) : Option (Int × Int × Int × Bool) := if l0.length ≤ 1000 then impl_firstOf.l0 l1 l0 k 0 0 0 0 false else none
theorem impl_firstOf.l0_mono (l : List Int) (ps : List (List S89)) : ∀ k i b0 b1 b2 fd, LeO (impl_firstOf.l0 l ps k i b0 b1 b2 fd) (impl_firstOf.l0 l ps (k + 1) i b0 b1 b2 fd)
  | 0, _, _, _, _, _ => LeO.none _
  | k + 1, i, b0, b1, b2, fd => by
    have ih := impl_firstOf.l0_mono l ps k
    rw [impl_firstOf.l0, impl_firstOf.l0]
    exact LeO.ite (LeO.bind (impl_match.mono _ _ _) fun _ => LeO.bind (impl_matcher_find.mono _ _ _ _ _) fun _ => LeO.ite (LeO.ite (LeO.ite (ih _ _ _ _ _) (ih _ _ _ _ _)) (ih _ _ _ _ _)) (ih _ _ _ _ _)) (LeO.refl _)
theorem impl_firstOf.mono : ∀ a0 a1 k, LeO (impl_firstOf.f k a0 a1) (impl_firstOf.f (k + 1) a0 a1) := by
  intro a0 a1 k
  unfold impl_firstOf.f
  exact LeO.ite (impl_firstOf.l0_mono _ _ _ _ _ _ _ _) (LeO.refl _)
set_option maxHeartbeats 8000000 in
set_option maxRecDepth 100000 in
theorem impl_firstOf.calls (k : Nat) (A0 : Option Addr) (c0 : Nat) (l0 : List (List S89)) (A1 : Option Addr) (c1 : Nat) (l1 : List Int) (r1 : Int) (r2 : Int) (r3 : Int) (r4 : Bool) (w : World) (hr0 : Kd.C (Kd.slice 89 k89) w A0 l0.length l0) (hc0 : l0.length ≤ c0) (hr1 : Kd.C (Kd.int .i64) w A1 l1.length l1) (hc1 : l1.length ≤ c1) (h : impl_firstOf.f k l0 l1 = some (r1, r2, r3, r4)) :
    Calls Try.prog 76 #[.slice A0 l0.length c0, .slice A1 l1.length c1] w fun e w' => e = .returned (.tuple #[.agg #[.int .i64 r1, .int .i64 r2, .int .i64 r3], .bool r4]) ∧ Below w.heap.size w w' := by
  have hu := Try.underlying40
  have HR0 := Aside0.mk hr0
  have HC0 := Aside0.mk hc0
  have HR1 := Aside0.mk hr1
  have HC1 := Aside0.mk hc1
  unfold impl_firstOf.f at h
  split at h
  case isFalse => cases h
  rename_i hll
  have HH := Aside0.mk h
  clear hr0 hc0 hr1 hc1 h
  go_enter Try.func76, Try.ntmps76
  go_wp2_with (first | ((with_reducible refine gate_dst (N := 4) rfl ?_); refine box_event ?hg (N := 4) ?hd (cs := #[.int .i64 0, .int .i64 0, .int .i64 0]) (t := 40) ?hr ?_; (case hd => rfl); (case hg => rfl); (case hr => first | (go_simp; done) | (go_simp; rfl)); intro gr hg w3 hbox hb; have RK := Aside0.mk hbox; have GR := Aside0.mk (show w.heap.size ≤ gr by rw [hg]; exact Nat.le_refl _); have HB0 := Aside0.mk hb; clear hb hbox hg) | ((with_reducible refine gate_dst (N := 6) rfl ?_); refine box_event ?hg (N := 6) ?hd (cs := #[.int .i64 0, .int .i64 0, .int .i64 0]) (t := 40) ?hr ?_; (case hd => rfl); (case hg => rfl); (case hr => first | (go_simp; done) | (go_simp; rfl)); intro gb hg w4 hbox hb; have NB := Aside0.mk (show gr ≠ gb by rw [hg]; exact Nat.ne_of_lt (blk_lt RK.out)); have GE := Aside0.mk (show w.heap.size ≤ gb by rw [hg]; exact HB0.out.size); have RK0 := Aside0.mk (blk_below RK.out hb); have BK := Aside0.mk hbox; have HB := Aside0.mk (below_step HB0.out hb); have hcz0 : w4.cell? ⟨gb, 0, none⟩ = some (.int .i64 0) := (blk_cell BK.out 0).trans rfl; have hcz1 : w4.cell? ⟨gb, 1, none⟩ = some (.int .i64 0) := (blk_cell BK.out 1).trans rfl; have hcz2 : w4.cell? ⟨gb, 2, none⟩ = some (.int .i64 0) := (blk_cell BK.out 2).trans rfl; have hfz0 := blk_frozen BK.out 0; have hfz1 := blk_frozen BK.out 1; have hfz2 := blk_frozen BK.out 2; clear hb hbox hg))
  go_loopg [16, 7] k (fun kq v f w' => ∃ (i b0 b1 b2 : Int) (fd : Bool), v = .int .i64 i ∧ f = .bool fd ∧ 0 ≤ i ∧ i ≤ 2000 ∧ Aside0 (impl_firstOf.l0 l1 l0 kq i b0 b1 b2 fd = some (r1, r2, r3, r4)) ∧ Aside0 (kq ≤ k) ∧ Aside0 (w'.heap[gr]? = some (.cells #[.int .i64 0, .int .i64 0, .int .i64 0] 40 (0, 0))) ∧ Aside0 (w'.heap[gb]? = some (.cells #[.int .i64 b0, .int .i64 b1, .int .i64 b2] 40 (0, 0))) ∧ Aside0 (Below w.heap.size w w'))
  case atStart => exact ⟨0, 0, 0, 0, false, rfl, rfl, by omega, by omega, HH, ⟨Nat.le_refl _⟩, ⟨blk_far (blk_far (blk_far RK0.out NB.out _) NB.out _) NB.out _⟩, ⟨blk_put (blk_put (blk_put BK.out 0 _ rfl) 1 _ rfl) 2 _ rfl⟩, ⟨below_set (below_set (below_set HB.out GE.out) GE.out) GE.out⟩⟩
  case round =>
    clear HH hcz0 hcz1 hcz2 hfz0 hfz1 hfz2 RK RK0 BK HB HB0
    obtain ⟨i, b0, b1, b2, fd, rfl, rfl, i0, i1, HA, HK, RK, BK, HB⟩ := hrel
    cases gk with
    | zero => exact absurd HA.out (by simp [impl_firstOf.l0])
    | succ k1 =>
      have H := HA.out
      clear HA
      simp only [impl_firstOf.l0] at H
      by_cases c : i < (l0.length : Int)
      · rw [if_pos c] at H
        obtain ⟨⟨q, tb⟩, hm, H1⟩ := Option.bind_eq_some_iff.mp H
        clear H
        obtain ⟨⟨u1, u2, u3⟩, hf, H2⟩ := Option.bind_eq_some_iff.mp H1
        clear H1
        obtain ⟨ad, Ap, cp, e, hx, hl, hC⟩ := at_sl HR0.out i i0 c
        cases e
        generalize l0.getD i.toNat [] = p at hx hl hC hm hf
        replace hx := (HB.out.cell (World.block_lt_of_cell? w _ hx)).trans hx
        have HP := Aside0.mk (Kd.C_below hC HB.out)
        have HL := Aside0.mk hl
        have HM := Aside0.mk hm
        have HF := Aside0.mk hf
        have i0' := eq_true i0
        have c' := eq_true c
        clear hm hf hC hl
        cases u3 with
        | false =>
          have H3 := (if_neg (by simp)).symm.trans H2
          clear H2
          have H' := Aside0.mk H3
          clear H3
          go_wp2_with (first | (go_at_call 63; (with_reducible refine (impl_match.calls k1 Ap cp p A1 c1 l1 q tb _ HP.out HL.out (Kd.C_below HR1.out HB.out) HC1.out HM.out).mono ?_); rintro e w2 ⟨g, rfl, hmt, hb⟩; have HMt := Aside0.mk hmt; have HB2 := Aside0.mk (below_step HB.out hb); have RK2 := Aside0.mk (blk_below RK.out hb); have BK2 := Aside0.mk (blk_below BK.out hb); clear hb hmt) | (go_at_call 64; (with_reducible refine (impl_matcher_find.calls k1 g p q l1 tb 0 l1.length u1 u2 false _ HMt.out HF.out).mono ?_); rintro e w' ⟨rfl, rfl⟩))
          go_roundg k1
          case measure => have := HK.out; omega
          case rel => exact ⟨i + 1, b0, b1, b2, fd, rfl, rfl, by omega, by omega, H', ⟨by have := HK.out; omega⟩, RK2, BK2, HB2⟩
        | true =>
          have H2' := (if_pos rfl).symm.trans H2
          clear H2
          cases fd with
          | false =>
            have H3 := (if_neg (by simp)).symm.trans H2'
            clear H2'
            have H' := Aside0.mk H3
            clear H3
            go_wp2_with (first | (go_at_call 63; (with_reducible refine (impl_match.calls k1 Ap cp p A1 c1 l1 q tb _ HP.out HL.out (Kd.C_below HR1.out HB.out) HC1.out HM.out).mono ?_); rintro e w2 ⟨g, rfl, hmt, hb⟩; have HMt := Aside0.mk hmt; have HB2 := Aside0.mk (below_step HB.out hb); have RK2 := Aside0.mk (blk_below RK.out hb); have BK2 := Aside0.mk (blk_below BK.out hb); clear hb hmt; have hcz0 : w2.cell? ⟨gb, 0, none⟩ = some (.int .i64 b0) := (blk_cell BK2.out 0).trans rfl; have hcz1 : w2.cell? ⟨gb, 1, none⟩ = some (.int .i64 b1) := (blk_cell BK2.out 1).trans rfl; have hcz2 : w2.cell? ⟨gb, 2, none⟩ = some (.int .i64 b2) := (blk_cell BK2.out 2).trans rfl; have hfz0 := blk_frozen BK2.out 0; have hfz1 := blk_frozen BK2.out 1; have hfz2 := blk_frozen BK2.out 2) | (go_at_call 64; (with_reducible refine (impl_matcher_find.calls k1 g p q l1 tb 0 l1.length u1 u2 true _ HMt.out HF.out).mono ?_); rintro e w' ⟨rfl, rfl⟩))
            go_roundg k1
            case measure => have := HK.out; omega
            case rel => exact ⟨i + 1, i, u1, u2, true, rfl, rfl, by omega, by omega, H', ⟨by have := HK.out; omega⟩, ⟨blk_far (blk_far (blk_far RK2.out NB.out _) NB.out _) NB.out _⟩, ⟨blk_put (blk_put (blk_put BK2.out 0 _ rfl) 1 _ rfl) 2 _ rfl⟩, ⟨below_set (below_set (below_set HB2.out GE.out) GE.out) GE.out⟩⟩
          | true =>
            have H2 := (if_pos rfl).symm.trans H2'
            clear H2'
            by_cases c2 : u1 < b1
            · have H3 := (if_pos c2).symm.trans H2
              clear H2
              have H' := Aside0.mk H3
              clear H3
              go_wp2_with (first | (go_at_call 63; (with_reducible refine (impl_match.calls k1 Ap cp p A1 c1 l1 q tb _ HP.out HL.out (Kd.C_below HR1.out HB.out) HC1.out HM.out).mono ?_); rintro e w2 ⟨g, rfl, hmt, hb⟩; have HMt := Aside0.mk hmt; have HB2 := Aside0.mk (below_step HB.out hb); have RK2 := Aside0.mk (blk_below RK.out hb); have BK2 := Aside0.mk (blk_below BK.out hb); clear hb hmt; have hcz0 : w2.cell? ⟨gb, 0, none⟩ = some (.int .i64 b0) := (blk_cell BK2.out 0).trans rfl; have hcz1 : w2.cell? ⟨gb, 1, none⟩ = some (.int .i64 b1) := (blk_cell BK2.out 1).trans rfl; have hcz2 : w2.cell? ⟨gb, 2, none⟩ = some (.int .i64 b2) := (blk_cell BK2.out 2).trans rfl; have hfz0 := blk_frozen BK2.out 0; have hfz1 := blk_frozen BK2.out 1; have hfz2 := blk_frozen BK2.out 2) | (go_at_call 64; (with_reducible refine (impl_matcher_find.calls k1 g p q l1 tb 0 l1.length u1 u2 true _ HMt.out HF.out).mono ?_); rintro e w' ⟨rfl, rfl⟩))
              go_roundg k1
              case measure => have := HK.out; omega
              case rel => exact ⟨i + 1, i, u1, u2, true, rfl, rfl, by omega, by omega, H', ⟨by have := HK.out; omega⟩, ⟨blk_far (blk_far (blk_far RK2.out NB.out _) NB.out _) NB.out _⟩, ⟨blk_put (blk_put (blk_put BK2.out 0 _ rfl) 1 _ rfl) 2 _ rfl⟩, ⟨below_set (below_set (below_set HB2.out GE.out) GE.out) GE.out⟩⟩
            · have H3 := (if_neg c2).symm.trans H2
              clear H2
              have H' := Aside0.mk H3
              clear H3
              go_wp2_with (first | (go_at_call 63; (with_reducible refine (impl_match.calls k1 Ap cp p A1 c1 l1 q tb _ HP.out HL.out (Kd.C_below HR1.out HB.out) HC1.out HM.out).mono ?_); rintro e w2 ⟨g, rfl, hmt, hb⟩; have HMt := Aside0.mk hmt; have HB2 := Aside0.mk (below_step HB.out hb); have RK2 := Aside0.mk (blk_below RK.out hb); have BK2 := Aside0.mk (blk_below BK.out hb); clear hb hmt; have hcz0 : w2.cell? ⟨gb, 0, none⟩ = some (.int .i64 b0) := (blk_cell BK2.out 0).trans rfl; have hcz1 : w2.cell? ⟨gb, 1, none⟩ = some (.int .i64 b1) := (blk_cell BK2.out 1).trans rfl; have hcz2 : w2.cell? ⟨gb, 2, none⟩ = some (.int .i64 b2) := (blk_cell BK2.out 2).trans rfl; have hfz0 := blk_frozen BK2.out 0; have hfz1 := blk_frozen BK2.out 1; have hfz2 := blk_frozen BK2.out 2) | (go_at_call 64; (with_reducible refine (impl_matcher_find.calls k1 g p q l1 tb 0 l1.length u1 u2 true _ HMt.out HF.out).mono ?_); rintro e w' ⟨rfl, rfl⟩))
              go_roundg k1
              case measure => have := HK.out; omega
              case rel => exact ⟨i + 1, b0, b1, b2, true, rfl, rfl, by omega, by omega, H', ⟨by have := HK.out; omega⟩, RK2, BK2, HB2⟩
      · rw [if_neg c] at H
        obtain ⟨rfl, rfl, rfl, rfl⟩ : b0 = r1 ∧ b1 = r2 ∧ b2 = r3 ∧ fd = r4 := by simpa using Option.some.inj H
        clear H
        have hbz0 : wr.cell? ⟨gb, 0, none⟩ = some (.int .i64 b0) := (blk_cell BK.out 0).trans rfl
        have hbz1 : wr.cell? ⟨gb, 1, none⟩ = some (.int .i64 b1) := (blk_cell BK.out 1).trans rfl
        have hbz2 : wr.cell? ⟨gb, 2, none⟩ = some (.int .i64 b2) := (blk_cell BK.out 2).trans rfl
        have hrz0 : wr.cell? ⟨gr, 0, none⟩ = some (.int .i64 0) := (blk_cell RK.out 0).trans rfl
        have hrz1 : wr.cell? ⟨gr, 1, none⟩ = some (.int .i64 0) := (blk_cell RK.out 1).trans rfl
        have hrz2 : wr.cell? ⟨gr, 2, none⟩ = some (.int .i64 0) := (blk_cell RK.out 2).trans rfl
        have hrf0 := blk_frozen RK.out 0
        have hrf1 := blk_frozen RK.out 1
        have hrf2 := blk_frozen RK.out 2
        go_wp2
        refine bodyPost_ret (results_ct rfl _ _ gr 40 #[.int .i64 b0, .int .i64 b1, .int .i64 b2] (0, 0) _ rfl (blk_put (blk_put (blk_put RK.out 0 _ rfl) 1 _ rfl) 2 _ rfl) Try.underlying40 rfl (by kernel_rfl)) rfl ?_
        exact ⟨rfl, below_set (below_set (below_set HB.out GR.out) GR.out) GR.out⟩


end Go.Proofs.Ytkpeihdlmjdejaa.P
