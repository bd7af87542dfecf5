/- Plain laws of loops: what goes through numbers one by one, by rounds. -/
import Derived.Test.YtliafedmhgkciaaDoorCP0
import Derived.Test.YtliafedmhgkciaaDoorCBase0
set_option linter.unusedVariables false
set_option linter.unusedSimpArgs false
namespace Go.Proofs.YtliafedmhgkciaaDoor.Pure
open Go.RowKit Go.Proofs.YtliafedmhgkciaaDoor.P Go.Proofs.YtliafedmhgkciaaDoorW.PrintWords

theorem w64s {i : Nat} (h : i < 1000000000000000) : wrap64 ((i : Int) + 1) = ((i + 1 : Nat) : Int) := by unfold wrap64; omega
def allFrom (p : Nat → Bool) : Nat → Nat → Bool
 | _, 0 => true
 | i, d + 1 => p i && allFrom p (i + 1) d
theorem allFrom_iff (p : Nat → Bool) : ∀ (d i : Nat), allFrom p i d = true ↔ ∀ j, i ≤ j → j < i + d → p j = true
 | 0, i => by simp [allFrom]; intro j h1 h2; omega
 | d + 1, i => by
  simp only [allFrom, Bool.and_eq_true, allFrom_iff p d (i + 1)]
  constructor
  ·rintro ⟨h1, h2⟩ j hj hd
   by_cases e : j = i
   ·rw [e]; exact h1
   ·exact h2 j (by omega) (by omega)
  ·intro h
   exact ⟨h i (by omega) (by omega), fun j h1 h2 => h j (by omega) (by omega)⟩
theorem allFrom_congr {p q : Nat → Bool} : ∀ (d i : Nat), (∀ j, i ≤ j → j < i + d → p j = q j) → allFrom p i d = allFrom q i d
 | 0, i, _ => rfl
 | d + 1, i, h => by
  simp only [allFrom]
  rw [h i (by omega) (by omega), allFrom_congr d (i + 1) (fun j h1 h2 => h j (by omega) (by omega))]
theorem Ev.allLoop {g : Nat → Nat → Option Bool} {p : Nat → Bool} {n : Nat} {r : Bool} (h0 : Ev (fun k => g k n) r)
  (hf : ∀ i, i < n → p i = false → Ev (fun k => g k i) false) (ht : ∀ i v, i < n → p i = true → Ev (fun k => g k (i + 1)) v → Ev (fun k => g k i) v) :
  ∀ (d i : Nat), i + d = n → Ev (fun k => g k i) (allFrom p i d && r)
 | 0, i, hd => by
  have : i = n := by omega
  subst this
  simpa [allFrom] using h0
 | d + 1, i, hd => by
  simp only [allFrom]
  cases hp : p i
  ·simpa using hf i (by omega) hp
  ·rw [Bool.true_and]
   exact ht i _ (by omega) hp (Ev.allLoop h0 hf ht d (i + 1) (by omega))
theorem Ev.andLoop {g : Nat → Nat → Option Bool} {p : Nat → Bool} {n : Nat} {r : Bool} (h0 : Ev (fun k => g k n) r)
  (h : ∀ i v, i < n → Ev (fun k => g k (i + 1)) v → Ev (fun k => g k i) (p i && v)) : ∀ (d i : Nat), i + d = n → Ev (fun k => g k i) (allFrom p i d && r)
 | 0, i, hd => by
  have : i = n := by omega
  subst this
  simpa [allFrom] using h0
 | d + 1, i, hd => by
  simp only [allFrom]
  rw [Bool.and_assoc]
  exact h i _ (by omega) (Ev.andLoop h0 h d (i + 1) (by omega))
theorem Ev.andFrom {g : Nat → Nat → Option Bool} {p : Nat → Bool} {m n : Nat} {r : Bool} (h0 : Ev (fun k => g k n) r)
  (h : ∀ i v, m ≤ i → i < n → Ev (fun k => g k (i + 1)) v → Ev (fun k => g k i) (p i && v)) : ∀ (d i : Nat), m ≤ i → i + d = n → Ev (fun k => g k i) (allFrom p i d && r)
 | 0, i, hm, hd => by
  have : i = n := by omega
  subst this
  simpa [allFrom] using h0
 | d + 1, i, hm, hd => by
  simp only [allFrom]
  rw [Bool.and_assoc]
  exact h i _ hm (by omega) (Ev.andFrom h0 h d (i + 1) (by omega) (by omega))
theorem Ev.eq' {α : Type} {g : Nat → Option α} {a b : α} (h : Ev g a) (e : a = b) : Ev g b := e ▸ h
def findFrom {α : Type} (p : Nat → Bool) (v : Nat → α) (z : α) : Nat → Nat → α
 | _, 0 => z
 | i, d + 1 => if p i = true then v i else findFrom p v z (i + 1) d
theorem Ev.findLoop {α : Type} {g : Nat → Nat → Option α} {p : Nat → Bool} {v : Nat → α} {z : α} {n : Nat} (h0 : Ev (fun k => g k n) z)
  (ht : ∀ i, i < n → p i = true → Ev (fun k => g k i) (v i)) (hf : ∀ i x, i < n → p i = false → Ev (fun k => g k (i + 1)) x → Ev (fun k => g k i) x) :
  ∀ (d i : Nat), i + d = n → Ev (fun k => g k i) (findFrom p v z i d)
 | 0, i, hd => by
  have : i = n := by omega
  subst this
  simpa [findFrom] using h0
 | d + 1, i, hd => by
  simp only [findFrom]
  cases hp : p i
  ·rw [if_neg (by simp)]
   exact hf i _ (by omega) hp (Ev.findLoop h0 ht hf d (i + 1) (by omega))
  ·rw [if_pos rfl]
   exact ht i (by omega) hp
theorem findFrom_hit {α : Type} {p : Nat → Bool} {v : Nat → α} {z : α} : ∀ (d i j : Nat), i ≤ j → j < i + d → p j = true → (∀ m, i ≤ m → m < j → p m = false) → findFrom p v z i d = v j
 | 0, i, j, h1, h2, _, _ => by omega
 | d + 1, i, j, h1, h2, h3, h4 => by
  simp only [findFrom]
  by_cases e : i = j
  ·subst e
   rw [if_pos h3]
  ·rw [if_neg (by rw [h4 i (by omega) (by omega)]; simp)]
   exact findFrom_hit d (i + 1) j (by omega) (by omega) h3 (fun m a b => h4 m (by omega) b)
theorem findFrom_miss {α : Type} {p : Nat → Bool} {v : Nat → α} {z : α} : ∀ (d i : Nat), (∀ m, i ≤ m → m < i + d → p m = false) → findFrom p v z i d = z
 | 0, i, _ => rfl
 | d + 1, i, h => by
  simp only [findFrom]
  rw [if_neg (by rw [h i (by omega) (by omega)]; simp)]
  exact findFrom_miss d (i + 1) (fun m a b => h m (by omega) (by omega))
theorem findFrom_cases {α : Type} {p : Nat → Bool} {v : Nat → α} {z : α} : ∀ (d i : Nat), (findFrom p v z i d = z ∧ ∀ m, i ≤ m → m < i + d → p m = false) ∨ ∃ j, i ≤ j ∧ j < i + d ∧ p j = true ∧ (∀ m, i ≤ m → m < j → p m = false) ∧ findFrom p v z i d = v j
 | 0, i => .inl ⟨rfl, fun m a b => by omega⟩
 | d + 1, i => by
  simp only [findFrom]
  cases hp : p i
  ·rw [if_neg (by simp)]
   rcases findFrom_cases (p := p) (v := v) (z := z) d (i + 1) with ⟨h1, h2⟩ | ⟨j, h1, h2, h3, h4, h5⟩
   ·refine .inl ⟨h1, fun m a b => ?_⟩
    by_cases e : m = i
    ·rw [e]; exact hp
    ·exact h2 m (by omega) (by omega)
   ·refine .inr ⟨j, by omega, by omega, h3, fun m a b => ?_, h5⟩
    by_cases e : m = i
    ·rw [e]; exact hp
    ·exact h4 m (by omega) b
  ·rw [if_pos rfl]
   exact .inr ⟨i, by omega, by omega, hp, fun m a b => by omega, rfl⟩
theorem Ev.uniq {α : Type} {g : Nat → Option α} {a b : α} (h : Ev g a) (k : Ev g b) : a = b := by
 obtain ⟨K, h⟩ := h
 obtain ⟨K', k⟩ := k
 have h1 := h (max K K') (Nat.le_max_left _ _)
 rw [k (max K K') (Nat.le_max_right _ _)] at h1
 exact (Option.some.inj h1).symm
theorem Ev.cond {α : Type} {c : Prop} [Decidable c] {f g : Nat → Option α} {r : α} (h1 : c → Ev f r) (h2 : ¬ c → Ev g r) : Ev (fun n => if c then f n else g n) r := by
 by_cases h : c
 ·exact Ev.pos h (h1 h)
 ·exact Ev.neg h (h2 h)
end Go.Proofs.YtliafedmhgkciaaDoor.Pure
