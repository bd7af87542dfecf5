/- How an argument that can be read as data stands in memory, kind by kind (the print's kinds): whole numbers, bools, strings, slices, structs, one in the other. -/
import Derived.Test.YtliafedmhgkciaaDoorCP0
import Derived.ChangeArms
import Derived.ChangeSlices
import Derived.WideShapes
import Derived.Carry
import Derived.SizedLaws
import Derived.Test.YtliafedmhgkciaaDoorCWWords
set_option linter.unusedVariables false
namespace Go.Proofs.YtliafedmhgkciaaDoor.XOpen
open Go.RowKit Go.Proofs.YtliafedmhgkciaaDoorW.PrintWords

theorem listOf {α : Type} {Q : Nat → α → Prop} : ∀ n : Nat, (∀ i, i < n → ∃ y, Q i y) → ∃ ys : List α, ys.length = n ∧ ∀ i y, ys[i]? = some y → Q i y
  | 0, _ => ⟨[], rfl, fun i y h => by simp at h⟩
  | n + 1, h => by
    obtain ⟨ys, hl, hq⟩ := listOf n (fun i hi => h i (by omega))
    obtain ⟨y, hy⟩ := h n (by omega)
    refine ⟨ys ++ [y], by simp [hl], fun i z hz => ?_⟩
    by_cases hi : i < n
    · rw [List.getElem?_append_left (by omega)] at hz
      exact hq i z hz
    · have hlt := (List.getElem?_eq_some_iff.1 hz).1
      simp [hl] at hlt
      have : i = n := by omega
      subst this
      rw [List.getElem?_append_right (by omega), hl] at hz
      simp at hz
      exact hz ▸ hy

theorem weightsAll_mem {H : Type} (P : Program) (e : TypeId) : ∀ (ds : List (DataW H)) (i : Nat) (d : DataW H), ds[i]? = some d → ∀ n ∈ d.weights P e, n ∈ DataW.weightsAll P e ds
  | [], i, d, h, n, hn => by simp at h
  | x :: r, 0, d, h, n, hn => by
    simp at h
    subst h
    unfold DataW.weightsAll
    exact List.mem_append_left _ hn
  | x :: r, i + 1, d, h, n, hn => by
    simp at h
    unfold DataW.weightsAll
    exact List.mem_append_right _ (weightsAll_mem P e r i d h n hn)

theorem add_add (a : Addr) (m n : Nat) : (a.add m).add n = a.add (m + n) := by
  unfold Addr.add
  by_cases hm : m = 0
  · simp [hm]
  · by_cases hn : n = 0
    · simp [hm, hn]
    · simp [hm, hn, Nat.add_assoc]

/-- What is read at type t is of kind d, and meets wf. -/
def Opens {α : Type} (P : Program) (t : TypeId) (d : Kd α) (wf : α → Prop) : Prop :=
  P.cellsOf t = d.sz ∧ ∀ {H : Type} (enc : TypeId × Value → H) (W : World) (base fuel : Nat) (cs : List Value) (x : DataW H × List MemPlace),
    DataW.trod enc P W base (fun _ => true) true fuel t cs = some x → (∀ n ∈ x.1.weights P t, n ≤ reachBytes) → ∃ y, d.K W y cs ∧ wf y

theorem Opens.int {P : Program} {t : TypeId} {k : IntKind} (ht : P.underlying t = some (.int k)) (hc : P.cellsOf t = 1) : Opens P t (Kd.int k) (fun x => (Lit.int k x).wf = true) :=
  ⟨hc, fun enc W base fuel cs x h _ => by
    obtain ⟨n, rfl, _, hw⟩ := DataW.trod_int ht h
    exact ⟨n, rfl, hw⟩⟩
theorem Opens.bool {P : Program} {t : TypeId} (ht : P.underlying t = some .bool) (hc : P.cellsOf t = 1) : Opens P t Kd.bool (fun _ => True) :=
  ⟨hc, fun enc W base fuel cs x h _ => by
    obtain ⟨b, rfl, _⟩ := DataW.trod_bool ht h
    exact ⟨b, rfl, trivial⟩⟩
theorem Opens.string {P : Program} {t : TypeId} (ht : P.underlying t = some .string) (hc : P.cellsOf t = 1) : Opens P t Kd.string (fun s => s.size ≤ 140737488351232) :=
  ⟨hc, fun enc W base fuel cs x h hw => by
    obtain ⟨s, rfl, rfl, _⟩ := DataW.trod_string ht h
    refine ⟨s, rfl, ?_⟩
    have := hw s.data.toList.length (by simp [DataW.weights])
    simp only [reachBytes, Array.length_toList] at this
    exact this⟩

theorem Opens.slice {α : Type} {P : Program} {t e : TypeId} {d : Kd α} {wf : α → Prop} {B : Nat} (ht : P.underlying t = some (.slice e)) (hc : P.cellsOf t = 1) (he : Opens P e d wf) (hB : P.bytesOf e = B) :
    Opens P t (Kd.slice e d) (fun xs => xs.length * B ≤ 140737488351232 ∧ ∀ x ∈ xs, wf x) := by
  refine ⟨hc, fun enc W base fuel cs x h hw => ?_⟩
  obtain ⟨hsz, he⟩ := he
  rcases DataW.trod_slice ht h with ⟨rfl, rfl⟩ | ⟨a, len, cap, elems, rest, n, _, rfl, rfl, hb, hl, hm, hlen, hel, _, _⟩
  · exact ⟨[], ⟨none, 0, rfl, Nat.le_refl _, rfl, by simp, fun h0 => absurd h0 (by simp)⟩, by simp, fun x hx => by simp at hx⟩
  · have hQ : ∀ i, i < len → ∃ y, wf y ∧ ∃ c, c.length = d.sz ∧ d.K W y c ∧ ∀ k u, c[k]? = some u → W.cell? (a.add (i * d.sz + k)) = some u := by
      intro i hi
      have h1 := hel i hi
      have hi' : i < elems.length := by omega
      rw [List.getElem?_eq_getElem hi', Option.bind_eq_some_iff] at h1
      obtain ⟨c, hcs, hy⟩ := h1
      obtain ⟨y, hK, hwf⟩ := he enc W base n c _ hy (fun m hm => hw m (by
        simp only [DataW.weights, ht]
        refine List.mem_cons_of_mem _ (List.mem_append_left _ (weightsAll_mem P e _ i (elems[i]).1 ?_ m hm))
        rw [List.getElem?_map, List.getElem?_eq_getElem hi']
        rfl))
      obtain ⟨_, hcl, hcell⟩ := World.cells?_some hcs
      refine ⟨y, hwf, c, by rw [hcl, hsz], hK, fun k u hu => ?_⟩
      have hk : k < c.length := (List.getElem?_eq_some_iff.1 hu).1
      have := hcell k (by omega)
      rw [add_add, hsz, hu] at this
      exact this
    obtain ⟨ys, hyl, hq⟩ := listOf len hQ
    have hbytes := hw ((elems.length + rest.length) * P.bytesOf e) (by simp [DataW.weights, ht])
    rw [hB] at hbytes
    simp only [reachBytes] at hbytes
    have hlen2 : ys.length ≤ elems.length + rest.length := by omega
    refine ⟨ys, ⟨some a, cap, by rw [hyl], by omega, rfl, by simp only [maxLen] at hm; omega, fun _ => ⟨a, rfl, fun j p hp => (hq j p hp).2⟩⟩, Nat.le_trans (Nat.mul_le_mul_right _ hlen2) hbytes, fun x hx => ?_⟩
    obtain ⟨j, hj⟩ := List.getElem?_of_mem hx
    exact (hq j x hj).1

/-- The fields of a struct, from one offset on. -/
def OpensL {α : Type} (P : Program) (off : Nat) (fs : List Field) (d : Kd α) (wf : α → Prop) : Prop :=
  ∀ {H : Type} (enc : TypeId × Value → H) (W : World) (base n : Nat) (cs : List Value) (xs : List (DataW H × List MemPlace)), cs.length = off + d.sz → xs.length = fs.length →
    (∀ (i : Nat) (f : Field), fs[i]? = some f → DataW.trod enc P W base (fun _ => true) true n f.type ((cs.drop f.offset).take (P.cellsOf f.type)) = xs[i]?) →
    (∀ m ∈ DataW.weightsEach P (fs.map (·.type)) (xs.map (·.1)), m ≤ reachBytes) → ∃ y, d.K W y (cs.drop off) ∧ wf y

theorem OpensL.one {α : Type} {P : Program} {off : Nat} {f : Field} {d : Kd α} {wf : α → Prop} {t : TypeId} (ht : f.type = t) (ho : f.offset = off) (h : Opens P t d wf) : OpensL P off [f] d wf := by
  subst ht
  intro H enc W base n cs xs hl hx ht hw
  match xs, hx with
  | [x], _ =>
    have h1 := ht 0 f rfl
    rw [ho, h.1] at h1
    have h2 : (cs.drop off).take d.sz = cs.drop off := List.take_of_length_le (by simp; omega)
    rw [h2] at h1
    exact h.2 enc W base n _ x h1 (fun m hm => hw m (by simp [DataW.weightsEach, hm]))

theorem OpensL.cons {α β : Type} {P : Program} {off : Nat} {f : Field} {fs : List Field} {a : Kd α} {b : Kd β} {wa : α → Prop} {wb : β → Prop} {t : TypeId} (ht : f.type = t) (ho : f.offset = off) (h : Opens P t a wa) (hr : OpensL P (off + a.sz) fs b wb) :
    OpensL P off (f :: fs) (Kd.pair a b) (fun x => wa x.1 ∧ wb x.2) := by
  subst ht
  intro H enc W base n cs xs hl hx ht hw
  match xs, hx with
  | x :: xs, hx =>
    have hps : (Kd.pair a b).sz = a.sz + b.sz := rfl
    have h1 := ht 0 f rfl
    rw [ho, h.1] at h1
    obtain ⟨y, hK, hy⟩ := h.2 enc W base n _ x h1 (fun m hm => hw m (by simp [DataW.weightsEach, hm]))
    obtain ⟨z, hK2, hz⟩ := hr enc W base n cs xs (by rw [hl, hps, Nat.add_assoc]) (by simpa using hx) (fun i g hg => by simpa using ht (i + 1) g (by simpa using hg)) (fun m hm => hw m (by
      simp only [List.map_cons, DataW.weightsEach]
      exact List.mem_append_right _ hm))
    refine ⟨(y, z), ⟨(cs.drop off).take a.sz, cs.drop (off + a.sz), ?_, hK, hK2⟩, hy, hz⟩
    rw [← List.drop_drop, List.take_append_drop]

theorem Opens.struct {α β : Type} {P : Program} {t : TypeId} {fs : Array Field} {d : Kd α} {wf : α → Prop} {f : β → α} (g : α → β) (hg : ∀ x, f (g x) = x) (ht : P.underlying t = some (.struct fs)) (hc : P.cellsOf t = d.sz) (h : OpensL P 0 fs.toList d wf) :
    Opens P t (Kd.iso d f) (fun x => wf (f x)) := by
  refine ⟨hc, fun enc W base fuel cs x hx hw => ?_⟩
  obtain ⟨xs, n, _, rfl, hl, hxl, hf⟩ := DataW.trod_struct ht hx
  obtain ⟨y, hK, hy⟩ := h enc W base n cs xs (by rw [hl, hc]; omega) (by rw [hxl]; simp) (fun i g hg' => hf i g (by simpa using hg')) (fun m hm => hw m (by
    simp only [DataW.weights, ht]
    exact hm))
  refine ⟨g y, ?_, ?_⟩
  · show d.K W (f (g y)) cs
    rw [hg]
    simpa using hK
  · show wf (f (g y))
    rw [hg]
    exact hy

/-- An argument, opened. -/
theorem Opens.arg {α : Type} {P : Program} {t : TypeId} {d : Kd α} {wf : α → Prop} (h : Opens P t d wf) {H : Type} {enc : TypeId × Value → H} {W : World} {base : Nat} {v : Value} {x : DataW H} {ps : List MemPlace} {ts : List TypeId} {ds : List (DataW H)} {j : Nat}
    (hT : DataW.Trod enc P W base (fun _ => true) true t v x ps) (hsz : (DataW.weightsEach P ts ds).all (· ≤ reachBytes) = true) (htj : ts[j]? = some t) (hdj : ds[j]? = some x) : ∃ y, d.K W y v.cells.toList ∧ wf y := by
  obtain ⟨fuel, hf⟩ := hT
  refine h.2 enc W base fuel _ _ hf (fun n hn => ?_)
  have : n ∈ DataW.weightsEach P ts ds := by
    clear hf hsz
    induction ts generalizing ds j with
    | nil => simp at htj
    | cons t' ts ih =>
      cases ds with
      | nil => simp at hdj
      | cons d' ds =>
        unfold DataW.weightsEach
        cases j with
        | zero =>
          simp at htj hdj
          subst htj; subst hdj
          exact List.mem_append_left _ hn
        | succ j =>
          simp at htj hdj
          exact List.mem_append_right _ (ih htj hdj)
  simpa using List.all_eq_true.1 hsz n this
end Go.Proofs.YtliafedmhgkciaaDoor.XOpen
