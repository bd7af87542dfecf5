/- Plain laws of the draws: texts, bytes in a code and decoders that are drawn are small. -/
import Derived.Test.YtliafedmhgkciaaDoorCP0
import Derived.Test.YtliafedmhgkciaaDoorC0
import Derived.Test.YtliafedmhgkciaaDoorC1
import Derived.Test.YtliafedmhgkciaaDoorC2
import Derived.Test.YtliafedmhgkciaaDoorC3
import Derived.Test.YtliafedmhgkciaaDoorC5
import Derived.Test.YtliafedmhgkciaaDoorCCur1
import Derived.Test.YtliafedmhgkciaaDoorCFeedD
set_option linter.unusedVariables false
set_option linter.unusedSimpArgs false
namespace Go.Proofs.YtliafedmhgkciaaDoor.Pure
open Go.RowKit Go.Proofs.YtliafedmhgkciaaDoor.P Go.Proofs.YtliafedmhgkciaaDoorW.PrintWords
theorem strN_size (l : List Int) : (strOfNums l).size = l.length := by
 unfold strOfNums
 simp [ByteArray.size]
theorem utf8L_len (r : Int) : (utf8L r).length ≤ 4 := by
 unfold utf8L
 repeat' split
 all_goals simp
theorem cur_rune {c : List Int} (hc : isBytes c) (at_ s : Int) (h0 : 0 ≤ at_) (h1 : at_ ≤ 100000000000000) : ∃ v at' s', spec_l1Cur_rune.f c at_ s = some (v, at', s') ∧ (0 ≤ v ∧ v ≤ 1114111) ∧ at_ ≤ at' ∧ at' ≤ at_ + 2 := by
 unfold spec_l1Cur_rune.f
 obtain ⟨v, at', s', e, hv, h2, h3⟩ := cur_among hc at_ s [97, 98, 99, 120, 32, 49, 10, 0, 127, 128, 228, 769, 770, 2047, 2048, 4352, 4449, 12354, 44032, 55295, 57344, 65533, 65536, 128512, 1114111] (by decide) (by decide) h0 h1
 rw [e, Option.bind_some]
 refine ⟨v, at', s', rfl, ?_, h2, h3⟩
 have : ∀ x ∈ [(97 : Int), 98, 99, 120, 32, 49, 10, 0, 127, 128, 228, 769, 770, 2047, 2048, 4352, 4449, 12354, 44032, 55295, 57344, 65533, 65536, 128512, 1114111], 0 ≤ x ∧ x ≤ 1114111 := by decide
 exact this v hv
def AllR (l : List Int) : Prop := ∀ x ∈ l, 0 ≤ x ∧ x ≤ 1114111
theorem AllR.snoc {l : List Int} {v : Int} (h : AllR l) (hv : 0 ≤ v ∧ v ≤ 1114111) : AllR (l ++ [v]) := fun x hx => by
 rcases List.mem_append.1 hx with hx | hx
 ·exact h x hx
 ·rw [List.mem_singleton.1 hx]; exact hv
theorem cur_runes_l {c : List Int} (hc : isBytes c) : ∀ (d : Nat) (x : List Int) (at_ s : Int), 0 ≤ at_ → at_ + 2 * d ≤ 10000000000000 → AllR x → x.length + d ≤ 1000 →
  ∃ l at' s', Ev (fun k => spec_l1Cur_runes.l0 k x (d : Int) c at_ s) (l, at', s') ∧ AllR l ∧ l.length ≤ x.length + d ∧ at_ ≤ at' ∧ at' ≤ at_ + 2 * d
 | 0, x, at_, s, h0, h1, hx, hl => ⟨x, at_, s, Ev.step (fun k => spec_l1Cur_runes.l0.eq_2 ..) (Ev.neg (by omega) (Ev.now _)), hx, by omega, by omega, by omega⟩
 | d + 1, x, at_, s, h0, h1, hx, hl => by
  obtain ⟨v, at1, s1, e1, hv, g1, g2⟩ := cur_rune hc at_ s h0 (by omega)
  obtain ⟨l, at2, s2, e2, h2, h3, h4, h5⟩ := cur_runes_l hc d (x ++ [v]) at1 s1 (by omega) (by omega) (hx.snoc hv) (by simp; omega)
  refine ⟨l, at2, s2, Ev.step (fun k => spec_l1Cur_runes.l0.eq_2 ..) (Ev.pos (by omega) (Ev.bind0 e1 (Ev.pos (by omega) ?_))), h2, by simp at h3; omega, by omega, by omega⟩
  rw [w64 (by omega) (by omega), show ((d + 1 : Nat) : Int) - 1 = (d : Int) from by omega]
  exact e2
theorem cur_runes {c : List Int} (hc : isBytes c) (n : Nat) (hn : n ≤ 100) (at_ s : Int) (h0 : 0 ≤ at_) (h1 : at_ + 1000 ≤ 10000000000000) :
  ∃ l at' s', Ev (fun k => spec_l1Cur_runes.f k c at_ s (n : Int)) (l, at', s') ∧ AllR l ∧ l.length ≤ n ∧ at_ ≤ at' ∧ at' ≤ at_ + 2 + 2 * n := by
 unfold spec_l1Cur_runes.f
 obtain ⟨v, at1, s1, e1, g1, g2, g3, g4⟩ := cur_pick hc at_ s (wrap64 ((n : Int) + 1)) h0 (by omega) (by rw [w64 (by omega) (by omega)]; omega)
 rw [w64 (by omega) (by omega)] at g2
 obtain ⟨l, at2, s2, e2, h2, h3, h4, h5⟩ := cur_runes_l hc v.toNat [] at1 s1 (by omega) (by omega) (by simp [AllR]) (by simp; omega)
 rw [Int.toNat_of_nonneg g1] at e2
 exact ⟨l, at2, s2, Ev.bind0 e1 e2, h2, by simp at h3; omega, by omega, by omega⟩
theorem textOf_l (l : List Int) (hl : AllR l) (hs : l.length ≤ 1000000) : ∀ (d i : Nat) (x : List Int), i + d = l.length → x.length + 4 * d ≤ 10000000 → ∃ t, Ev (fun k => spec_l1TextOf.l0 k x l (l.length : Int) (i : Int)) t ∧ t.size ≤ x.length + 4 * d
 | 0, i, x, hi, hx => ⟨_, Ev.step (fun k => spec_l1TextOf.l0.eq_2 ..) (Ev.neg (by omega) (Ev.now _)), by rw [strN_size]; omega⟩
 | d + 1, i, x, hi, hx => by
  have hb : i < l.length := by omega
  have hr := hl _ (List.getElem_mem hb)
  have hz := utf8L_len l[i]
  obtain ⟨t, e, ht⟩ := textOf_l l hl hs d (i + 1) (x ++ utf8L l[i]) (by omega) (by simp; omega)
  refine ⟨t, Ev.step (fun k => spec_l1TextOf.l0.eq_2 ..) (Ev.pos (by omega) (Ev.pos (by omega) (Ev.pos (by omega) ?_))), by simp at ht; omega⟩
  rw [rd_eq l hb]
  refine Ev.bind0 (l1Utf8_eq _ hr.1 hr.2) (Ev.pos (by rw [strN_size]; omega) ?_)
  rw [bytesOf_utf8L _ hr.1 hr.2, w64s (by omega)]
  exact e
theorem textOf (l : List Int) (hl : AllR l) (hs : l.length ≤ 1000000) : ∃ t, Ev (fun k => spec_l1TextOf.f k l) t ∧ t.size ≤ 4 * l.length := by
 obtain ⟨t, e, h⟩ := textOf_l l hl hs l.length 0 [] (by omega) (by simp; omega)
 exact ⟨t, e, by simpa using h⟩
theorem cur_bytes_l {c : List Int} (hc : isBytes c) : ∀ (d : Nat) (x : ByteArray) (at_ s : Int), 0 ≤ at_ → at_ + 10 * d ≤ 10000000000000 → x.size + d ≤ 1000 →
  ∃ t at' s', Ev (fun k => spec_l1Cur_bytes.l0 k x (d : Int) c at_ s) (t, at', s') ∧ t.size ≤ x.size + d ∧ at_ ≤ at' ∧ at' ≤ at_ + 10 * d
 | 0, x, at_, s, h0, h1, hl => ⟨x, at_, s, Ev.step (fun k => spec_l1Cur_bytes.l0.eq_2 ..) (Ev.neg (by omega) (Ev.step (fun k => spec_l1Cur_bytes.j1.eq_2 ..) (Ev.neg (by simp) (Ev.now _)))), by omega, by omega, by omega⟩
 | d + 1, x, at_, s, h0, h1, hl => by
  by_cases hx : 0 < x.size
  ·obtain ⟨v, at1, s1, e1, g1, g2, g3, g4⟩ := cur_pick hc at_ s (x.size : Int) h0 (by omega) (by omega)
   obtain ⟨u, at2, s2, e2, k1, k2, k3, k4⟩ := cur_pick hc at1 s1 4 (by omega) (by omega) (by omega)
   have hv : v < (x.size : Int) := by omega
   have wv : wrap64 (v + 1) = v + 1 := w64 (by omega) (by omega)
   have wd : wrap64 (((d + 1 : Nat) : Int) - 1) = (d : Int) := by rw [w64 (by omega) (by omega)]; omega
   have pre : ∀ {r : ByteArray × Int × Int}, Ev (fun k => if u = 0 then (if 0 ≤ v then (if v ≤ (x.size : Int) then (if 0 ≤ (wrap64 (v + 1)) then (if (wrap64 (v + 1)) ≤ (x.size : Int) then (if (x.extract 0 (v : Int).toNat).size + (x.extract ((wrap64 (v + 1)) : Int).toNat x.size).size ≤ 9223372036854775807 then (spec_l1Cur_bytes.l0 k ((x.extract 0 (v : Int).toNat) ++ (x.extract ((wrap64 (v + 1)) : Int).toNat x.size)) (wrap64 (((d + 1 : Nat) : Int) - 1)) c at2 s2) else (none)) else (none)) else (none)) else (none)) else (none)) else (if u = 1 then (if 0 ≤ v then (if v ≤ (x.size : Int) then ((spec_l1Cur_next.f c at2 s2).bind fun bt268 => ((some (([(bt268.1) % 256] : List Int) : List Int)).bind fun y271 => (if (x.extract 0 (v : Int).toNat).size + (strOfNums y271).size ≤ 9223372036854775807 then (if ((x.extract 0 (v : Int).toNat) ++ (strOfNums y271)).size + (x.extract (v : Int).toNat x.size).size ≤ 9223372036854775807 then (spec_l1Cur_bytes.l0 k (((x.extract 0 (v : Int).toNat) ++ (strOfNums y271)) ++ (x.extract (v : Int).toNat x.size)) (wrap64 (((d + 1 : Nat) : Int) - 1)) c bt268.2.1 bt268.2.2) else (none)) else (none)))) else (none)) else (none)) else (spec_l1Cur_bytes.l0 k x (wrap64 (((d + 1 : Nat) : Int) - 1)) c at2 s2))) r →
     Ev (fun k => spec_l1Cur_bytes.l0 k x ((d + 1 : Nat) : Int) c at_ s) r := fun h =>
    Ev.step (fun k => spec_l1Cur_bytes.l0.eq_2 ..) (Ev.pos (by omega) (Ev.step (fun k => spec_l1Cur_bytes.j1.eq_2 ..) (Ev.pos (decide_eq_true (by omega)) (Ev.bind0 e1 (Ev.bind0 e2 h)))))
   by_cases u0 : u = 0
   ·obtain ⟨t, at3, s3, e3, m1, m2, m3⟩ := cur_bytes_l hc d (x.extract 0 v.toNat ++ x.extract (wrap64 (v + 1)).toNat x.size) at2 s2 (by omega) (by omega) (by rw [ByteArray.size_append, ByteArray.size_extract, ByteArray.size_extract]; omega)
    refine ⟨t, at3, s3, pre (Ev.pos u0 (Ev.pos g1 (Ev.pos (by omega) (Ev.pos (by omega) (Ev.pos (by omega) (Ev.pos (by rw [ByteArray.size_extract, ByteArray.size_extract]; omega) ?_)))))), by rw [ByteArray.size_append, ByteArray.size_extract, ByteArray.size_extract] at m1; omega, by omega, by omega⟩
    rw [wd]
    exact e3
   by_cases u1 : u = 1
   ·obtain ⟨b, s3, e3, n1, n2⟩ := cur_next hc at2 s2 (by omega) (by omega)
    obtain ⟨t, at4, s4, e4, m1, m2, m3⟩ := cur_bytes_l hc d ((x.extract 0 v.toNat ++ strOfNums [b % 256]) ++ x.extract v.toNat x.size) (at2 + 1) s3 (by omega) (by omega) (by rw [ByteArray.size_append, ByteArray.size_append, strN_size, ByteArray.size_extract, ByteArray.size_extract]; simp; omega)
    rw [ByteArray.size_append, ByteArray.size_append, strN_size, ByteArray.size_extract, ByteArray.size_extract] at m1
    refine ⟨t, at4, s4, pre (Ev.neg u0 (Ev.pos u1 (Ev.pos g1 (Ev.pos (by omega) (Ev.bind0 e3 (Ev.bind0 rfl (Ev.pos (by rw [strN_size, ByteArray.size_extract]; simp; omega) (Ev.pos (by rw [ByteArray.size_append, strN_size, ByteArray.size_extract, ByteArray.size_extract]; simp; omega) ?_)))))))), by simp at m1; omega, by omega, by omega⟩
    rw [wd]
    exact e4
   ·obtain ⟨t, at3, s3, e3, m1, m2, m3⟩ := cur_bytes_l hc d x at2 s2 (by omega) (by omega) (by omega)
    refine ⟨t, at3, s3, pre (Ev.neg u0 (Ev.neg u1 ?_)), by omega, by omega, by omega⟩
    rw [wd]
    exact e3
  ·refine ⟨x, at_, s, Ev.step (fun k => spec_l1Cur_bytes.l0.eq_2 ..) (Ev.pos (by omega) (Ev.step (fun k => spec_l1Cur_bytes.j1.eq_2 ..) (Ev.neg (by rw [decide_eq_true_iff]; omega) (Ev.now _)))), by omega, by omega, by omega⟩
theorem cur_bytes {c : List Int} (hc : isBytes c) (at_ s : Int) (h0 : 0 ≤ at_) (h1 : at_ + 2000 ≤ 10000000000000) : ∃ t at' s', Ev (fun k => spec_l1Cur_bytes.f k c at_ s) (t, at', s') ∧ t.size ≤ 26 ∧ at_ ≤ at' ∧ at' ≤ at_ + 100 := by
 unfold spec_l1Cur_bytes.f
 obtain ⟨l, at1, s1, e1, g1, g2, g3, g4⟩ := cur_runes hc 6 (by omega) at_ s h0 (by omega)
 obtain ⟨t, e2, h2⟩ := textOf l g1 (by omega)
 obtain ⟨v, at2, s2, e3, k1, k2, k3, k4⟩ := cur_pick hc at1 s1 3 (by omega) (by omega) (by omega)
 obtain ⟨u, at3, s3, e4, m1, m2, m3⟩ := cur_bytes_l hc v.toNat t at2 s2 (by omega) (by omega) (by omega)
 rw [Int.toNat_of_nonneg k1] at e4
 exact ⟨u, at3, s3, Ev.bind e1 (Ev.bind e2 (Ev.bind0 e3 e4)), by omega, by omega, by omega⟩
theorem pair_size (en n : Int) : ∃ t, spec_l2Pair.f en n = some t ∧ t.size = 2 := by
 unfold spec_l2Pair.f
 split
 ·exact ⟨_, rfl, by rw [strN_size]; rfl⟩
 ·exact ⟨_, rfl, by rw [strN_size]; rfl⟩
theorem put_size (en sh r : Int) (h0 : 0 ≤ r) (h1 : r ≤ 1114111) : ∃ t n b, Ev (fun k => spec_l2Put.f k en sh r) (t, n, b) ∧ t.size ≤ 4 := by
 have j2 : ∀ (x9 x10 : Int) (b : Bool), ∃ t n c, Ev (fun k => spec_l2Put.j2 k sh x9 x10 b) (t, n, c) ∧ t.size ≤ 4 := fun x9 x10 b => by
  cases b
  ·by_cases c1 : x9 = sh
   ·exact ⟨_, _, _, Ev.step (fun k => spec_l2Put.j2.eq_2 ..) (Ev.neg (by simp) (Ev.bind0 rfl (Ev.pos c1 (Ev.now _)))), by rw [strN_size]; simp⟩
   ·exact ⟨_, _, _, Ev.step (fun k => spec_l2Put.j2.eq_2 ..) (Ev.neg (by simp) (Ev.bind0 rfl (Ev.neg c1 (Ev.bind0 rfl (Ev.pos (by rw [strN_size, strN_size]; simp) (Ev.now _)))))), by rw [ByteArray.size_append, strN_size, strN_size]; simp⟩
  ·exact ⟨_, _, _, Ev.step (fun k => spec_l2Put.j2.eq_2 ..) (Ev.pos rfl (Ev.now _)), by decide⟩
 have j1 : ∀ (x9 x10 : Int), ∃ t n c, Ev (fun k => spec_l2Put.j1 k sh r x9 x10) (t, n, c) ∧ t.size ≤ 4 := fun x9 x10 => by
  by_cases c1 : inB x10 32 126 = true
  ·by_cases c2 : x9 = 0
   ·obtain ⟨t, n, c, e, h⟩ := j2 x9 x10 (decide (r > 126))
    exact ⟨t, n, c, Ev.step (fun k => spec_l2Put.j1.eq_2 ..) (Ev.bind0 (l1In_eq ..) (Ev.pos c1 (Ev.pos c2 e))), h⟩
   ·obtain ⟨t, n, c, e, h⟩ := j2 x9 x10 false
    exact ⟨t, n, c, Ev.step (fun k => spec_l2Put.j1.eq_2 ..) (Ev.bind0 (l1In_eq ..) (Ev.pos c1 (Ev.neg c2 e))), h⟩
  ·obtain ⟨t, n, c, e, h⟩ := j2 x9 x10 true
   exact ⟨t, n, c, Ev.step (fun k => spec_l2Put.j1.eq_2 ..) (Ev.bind0 (l1In_eq ..) (Ev.neg c1 e)), h⟩
 have j0 : ∀ b : Bool, ∃ t n c, Ev (fun k => spec_l2Put.j0 k en sh r b) (t, n, c) ∧ t.size ≤ 4 := fun b => by
  cases b
  ·by_cases c1 : decide (en = 2 ∨ en = 3) = true
   ·obtain ⟨t1, e1, z1⟩ := pair_size en (wrap64 (55296 + (wrap64 (Int.tdiv (wrap64 (r - 65536)) 1024))))
    obtain ⟨t2, e2, z2⟩ := pair_size en (wrap64 (56320 + (Int.tmod (wrap64 (r - 65536)) 1024)))
    exact ⟨_, _, _, Ev.step (fun k => spec_l2Put.j0.eq_2 ..) (Ev.neg (by simp) (Ev.bind0 (specUnits en) (Ev.pos c1 (Ev.bind0 e1 (Ev.bind0 e2 (Ev.pos (by omega) (Ev.now _))))))), by rw [ByteArray.size_append]; omega⟩
   by_cases c2 : en = 4
   ·exact ⟨_, _, _, Ev.step (fun k => spec_l2Put.j0.eq_2 ..) (Ev.neg (by simp) (Ev.bind0 (specUnits en) (Ev.neg c1 (Ev.pos c2 (Ev.now _))))), by rw [strN_size]; simp⟩
   by_cases c3 : r < 32
   ·by_cases c4 : r = 14
    ·exact ⟨_, _, _, Ev.step (fun k => spec_l2Put.j0.eq_2 ..) (Ev.neg (by simp) (Ev.bind0 (specUnits en) (Ev.neg c1 (Ev.neg c2 (Ev.pos c3 (Ev.bind0 rfl (Ev.pos c4 (Ev.now _)))))))), by rw [strN_size]; simp⟩
    ·exact ⟨_, _, _, Ev.step (fun k => spec_l2Put.j0.eq_2 ..) (Ev.neg (by simp) (Ev.bind0 (specUnits en) (Ev.neg c1 (Ev.neg c2 (Ev.pos c3 (Ev.bind0 rfl (Ev.neg c4 (Ev.now _)))))))), by rw [strN_size]; simp⟩
   by_cases c5 : inB r 12352 12446 = true
   ·obtain ⟨t, n, c, e, h⟩ := j1 1 (wrap64 ((wrap64 (r - 12352)) + 32))
    exact ⟨t, n, c, Ev.step (fun k => spec_l2Put.j0.eq_2 ..) (Ev.neg (by simp) (Ev.bind0 (specUnits en) (Ev.neg c1 (Ev.neg c2 (Ev.neg c3 (Ev.bind0 (l1In_eq ..) (Ev.pos c5 e))))))), h⟩
   ·obtain ⟨t, n, c, e, h⟩ := j1 0 r
    exact ⟨t, n, c, Ev.step (fun k => spec_l2Put.j0.eq_2 ..) (Ev.neg (by simp) (Ev.bind0 (specUnits en) (Ev.neg c1 (Ev.neg c2 (Ev.neg c3 (Ev.bind0 (l1In_eq ..) (Ev.neg c5 e))))))), h⟩
  ·obtain ⟨t1, e1, z1⟩ := pair_size en r
   exact ⟨_, _, _, Ev.step (fun k => spec_l2Put.j0.eq_2 ..) (Ev.pos rfl (Ev.bind0 e1 (Ev.now _))), by omega⟩
 unfold spec_l2Put.f
 by_cases c1 : en = 1
 ·exact ⟨_, _, _, Ev.pos c1 (Ev.bind0 (l1Utf8_eq _ h0 h1) (Ev.now _)), by rw [strN_size]; exact utf8L_len r⟩
 by_cases c2 : decide (en = 2 ∨ en = 3) = true
 ·obtain ⟨t, n, c, e, h⟩ := j0 (decide (r < 65536))
  exact ⟨t, n, c, Ev.neg c1 (Ev.bind0 (specUnits en) (Ev.pos c2 e)), h⟩
 ·obtain ⟨t, n, c, e, h⟩ := j0 false
  exact ⟨t, n, c, Ev.neg c1 (Ev.bind0 (specUnits en) (Ev.neg c2 e)), h⟩
theorem encode_l (en : Int) (l : List Int) (hl : AllR l) (hs : l.length ≤ 1000000) : ∀ (d i : Nat) (x : ByteArray) (sh : Int), i + d = l.length → x.size + 4 * d ≤ 10000000 → ∃ t n b, Ev (fun k => spec_EncodeAll.l0 k en x sh l (l.length : Int) (i : Int)) (t, n, b) ∧ t.size ≤ x.size + 4 * d + 1
 | 0, i, x, sh, hi, hx => by
  have e : ∀ {r : ByteArray × Int × Bool}, Ev (fun k => (if sh = 1 then ((some (([15] : List Int) : List Int)).bind fun y219 => (if x.size + (strOfNums y219).size ≤ 9223372036854775807 then (if ((x ++ (strOfNums y219)).size : Int) > 1000 then (some ((⟨#[]⟩ : ByteArray), (0 : Int), false)) else (some (x ++ (strOfNums y219), (-1), true))) else (none))) else (if (x.size : Int) > 1000 then (some ((⟨#[]⟩ : ByteArray), 0, false)) else (some (x, (-1), true))))) r → Ev (fun k => spec_EncodeAll.l0 k en x sh l (l.length : Int) (i : Int)) r := fun h =>
   Ev.step (fun k => spec_EncodeAll.l0.eq_2 ..) (Ev.neg (by omega) h)
  by_cases c1 : sh = 1
  ·by_cases c2 : ((x ++ strOfNums [15]).size : Int) > 1000
   ·exact ⟨_, _, _, e (Ev.pos c1 (Ev.bind0 rfl (Ev.pos (by rw [strN_size]; simp; omega) (Ev.pos c2 (Ev.now _))))), Nat.zero_le _⟩
   ·exact ⟨_, _, _, e (Ev.pos c1 (Ev.bind0 rfl (Ev.pos (by rw [strN_size]; simp; omega) (Ev.neg c2 (Ev.now _))))), by rw [ByteArray.size_append, strN_size]; simp⟩
  ·by_cases c2 : (x.size : Int) > 1000
   ·exact ⟨_, _, _, e (Ev.neg c1 (Ev.pos c2 (Ev.now _))), Nat.zero_le _⟩
   ·exact ⟨_, _, _, e (Ev.neg c1 (Ev.neg c2 (Ev.now _))), by omega⟩
 | d + 1, i, x, sh, hi, hx => by
  have hb : i < l.length := by omega
  have hr := hl _ (List.getElem_mem hb)
  obtain ⟨t, n, b, e1, z⟩ := put_size en sh l[i] hr.1 hr.2
  have e : ∀ {r : ByteArray × Int × Bool}, Ev (fun k => (if b = true then (if x.size + t.size ≤ 9223372036854775807 then (spec_EncodeAll.l0 k en (x ++ t) n l (l.length : Int) (wrap64 ((i : Int) + 1))) else (none)) else (some ((⟨#[]⟩ : ByteArray), (i : Int), true)))) r → Ev (fun k => spec_EncodeAll.l0 k en x sh l (l.length : Int) (i : Int)) r := fun h => by
   refine Ev.step (fun k => spec_EncodeAll.l0.eq_2 ..) (Ev.pos (by omega) (Ev.pos (by omega) (Ev.pos (by omega) ?_)))
   rw [rd_eq l hb]
   exact Ev.bind e1 h
  cases b
  ·exact ⟨_, _, _, e (Ev.neg (by simp) (Ev.now _)), Nat.zero_le _⟩
  ·obtain ⟨t2, n2, b2, e2, z2⟩ := encode_l en l hl hs d (i + 1) (x ++ t) n (by omega) (by rw [ByteArray.size_append]; omega)
   rw [ByteArray.size_append] at z2
   refine ⟨t2, n2, b2, e (Ev.pos rfl (Ev.pos (by omega) ?_)), by omega⟩
   rw [w64s (by omega)]
   exact e2
theorem encode_size (en : Int) (l : List Int) (hl : AllR l) (hs : l.length ≤ 1000000) : ∃ t n b, Ev (fun k => spec_EncodeAll.f k en l) (t, n, b) ∧ t.size ≤ 4 * l.length + 1 := by
 unfold spec_EncodeAll.f
 have j0 : ∀ c : Bool, ∃ t n b, Ev (fun k => spec_EncodeAll.j0 k en l c) (t, n, b) ∧ t.size ≤ 4 * l.length + 1 := fun c => by
  cases c
  ·obtain ⟨t, n, b, e, z⟩ := encode_l en l hl hs l.length 0 (⟨#[]⟩ : ByteArray) 0 (by omega) (by rw [show (⟨#[]⟩ : ByteArray).size = 0 from rfl]; omega)
   exact ⟨t, n, b, Ev.step (fun k => spec_EncodeAll.j0.eq_2 ..) (Ev.neg (by simp) e), by rw [show (⟨#[]⟩ : ByteArray).size = 0 from rfl] at z; omega⟩
  ·exact ⟨_, _, _, Ev.step (fun k => spec_EncodeAll.j0.eq_2 ..) (Ev.pos rfl (Ev.now _)), Nat.zero_le _⟩
 have hcode : ∃ b, spec_l2Code.f en = some b := by
  unfold spec_l2Code.f
  rw [l1In_eq]
  exact ⟨_, rfl⟩
 obtain ⟨b, hb⟩ := hcode
 cases b
 ·obtain ⟨t, n, c, e, z⟩ := j0 true
  exact ⟨t, n, c, Ev.bind0 hb (Ev.neg (by simp) e), z⟩
 ·obtain ⟨t, n, c, e, z⟩ := j0 (!(l.all runeB && decide (l.length ≤ 1000)))
  exact ⟨t, n, c, Ev.bind0 hb (Ev.pos rfl (Ev.bind (l1AllRunes l (by omega)) e)), z⟩
theorem cur_of {c : List Int} (hc : isBytes c) (at_ s : Int) (l : List ByteArray) (hl : 0 < l.length) (hl2 : l.length ≤ 1000000) (n : Nat) (hn : ∀ t ∈ l, t.size ≤ n) (h0 : 0 ≤ at_) (h1 : at_ ≤ 100000000000000) : ∃ t at' s', spec_l1Cur_of.f c at_ s l = some (t, at', s') ∧ t.size ≤ n ∧ at_ ≤ at' ∧ at' ≤ at_ + 2 := by
 unfold spec_l1Cur_of.f
 obtain ⟨v, at', s', e, g0, g1, g2, g3⟩ := cur_pick hc at_ s (l.length : Int) h0 h1 (by omega)
 rw [e, Option.bind_some, if_pos g0, if_pos (by simp only []; omega)]
 refine ⟨_, _, _, rfl, ?_, g2, g3⟩
 unfold rdOf
 have : v.toNat < l.length := by omega
 simp only [List.getD_eq_getElem?_getD, List.getElem?_eq_getElem this, Option.getD_some]
 exact hn _ (List.getElem_mem _)
theorem cur_en {c : List Int} (hc : isBytes c) (at_ s : Int) (h0 : 0 ≤ at_) (h1 : at_ ≤ 100000000000000) : ∃ v at' s', spec_l1Cur_en.f c at_ s = some (v, at', s') ∧ at_ ≤ at' ∧ at' ≤ at_ + 2 := by
 unfold spec_l1Cur_en.f
 obtain ⟨v, at', s', e, hv, h2, h3⟩ := cur_among hc at_ s [1, 1, 2, 3, 4, 5, 5, 1, 2, 3, 5, 0, 6] (by decide) (by decide) h0 h1
 rw [e, Option.bind_some]
 exact ⟨v, at', s', rfl, h2, h3⟩
theorem coded_j4 {c : List Int} (hc : isBytes c) (x : ByteArray) (hx : x.size ≤ 1000) (at_ s : Int) (h0 : 0 ≤ at_) (h1 : at_ ≤ 10000000000000) : ∃ t at' s', Ev (fun k => spec_l1Cur_coded.j4 k x c at_ s) (t, at', s') ∧ t.size ≤ x.size + 2 ∧ at_ ≤ at' ∧ at' ≤ at_ + 4 := by
 obtain ⟨b, at1, s1, e1, g1, g2⟩ := cur_one hc at_ s 6 h0 (by omega) (by omega)
 cases b
 ·exact ⟨x, at1, s1, Ev.step (fun k => spec_l1Cur_coded.j4.eq_2 ..) (Ev.bind0 e1 (Ev.neg (by simp) (Ev.now _))), by omega, by omega, by omega⟩
 ·obtain ⟨t, at2, s2, e2, h2, g3, g4⟩ := cur_of hc at1 s1 [(⟨#[216, 61]⟩ : ByteArray), (⟨#[61, 216]⟩ : ByteArray), (⟨#[222, 0]⟩ : ByteArray), (⟨#[14]⟩ : ByteArray), (⟨#[15, 97]⟩ : ByteArray), (⟨#[255]⟩ : ByteArray)] (by decide) (by decide) 2 (by decide) (by omega) (by omega)
  exact ⟨x ++ t, at2, s2, Ev.step (fun k => spec_l1Cur_coded.j4.eq_2 ..) (Ev.bind0 e1 (Ev.pos rfl (Ev.bind0 e2 (Ev.pos (by simp only []; omega) (Ev.now _))))), by rw [ByteArray.size_append]; omega, by omega, by omega⟩
theorem coded_j3 {c : List Int} (hc : isBytes c) (x : ByteArray) (b : Bool) (hb : b = true → 0 < x.size) (hx : x.size ≤ 1000) (at_ s : Int) (h0 : 0 ≤ at_) (h1 : at_ + 100 ≤ 10000000000000) : ∃ t at' s', Ev (fun k => spec_l1Cur_coded.j3 k x b c at_ s) (t, at', s') ∧ t.size ≤ x.size + 2 ∧ at_ ≤ at' ∧ at' ≤ at_ + 6 := by
 cases b
 ·obtain ⟨t, at1, s1, e1, h⟩ := coded_j4 hc x hx at_ s h0 (by omega)
  exact ⟨t, at1, s1, Ev.step (fun k => spec_l1Cur_coded.j3.eq_2 ..) (Ev.neg (by simp) e1), by omega, by omega, by omega⟩
 ·have hb := hb rfl
  obtain ⟨v, at1, s1, e1, g1, g2, g3, g4⟩ := cur_pick hc at_ s (x.size : Int) h0 (by omega) (by omega)
  have wv : wrap64 (v + 1) = v + 1 := w64 (by omega) (by omega)
  have z : (x.extract 0 v.toNat).size + (x.extract (wrap64 (v + 1)).toNat x.size).size ≤ x.size := by
   rw [ByteArray.size_extract, ByteArray.size_extract]
   omega
  obtain ⟨t, at2, s2, e2, h⟩ := coded_j4 hc (x.extract 0 v.toNat ++ x.extract (wrap64 (v + 1)).toNat x.size) (by rw [ByteArray.size_append]; omega) at1 s1 (by omega) (by omega)
  rw [ByteArray.size_append] at h
  exact ⟨t, at2, s2, Ev.step (fun k => spec_l1Cur_coded.j3.eq_2 ..) (Ev.pos rfl (Ev.bind0 e1 (Ev.pos g1 (Ev.pos (by simp only []; omega) (Ev.pos (by simp only []; omega) (Ev.pos (by simp only []; omega) (Ev.pos (by simp only []; omega) e2))))))), by omega, by omega, by omega⟩
theorem coded_j2 {c : List Int} (hc : isBytes c) (x : ByteArray) (hx : x.size ≤ 1000) (at_ s : Int) (h0 : 0 ≤ at_) (h1 : at_ + 200 ≤ 10000000000000) : ∃ t at' s', Ev (fun k => spec_l1Cur_coded.j2 k x c at_ s) (t, at', s') ∧ t.size ≤ x.size + 2 ∧ at_ ≤ at' ∧ at' ≤ at_ + 8 := by
 by_cases c1 : (x.size : Int) > 0
 ·obtain ⟨b, at1, s1, e1, g1, g2⟩ := cur_one hc at_ s 4 h0 (by omega) (by omega)
  obtain ⟨t, at2, s2, e2, h⟩ := coded_j3 hc x b (fun _ => by omega) hx at1 s1 (by omega) (by omega)
  exact ⟨t, at2, s2, Ev.step (fun k => spec_l1Cur_coded.j2.eq_2 ..) (Ev.pos c1 (Ev.bind0 e1 e2)), by omega, by omega, by omega⟩
 ·obtain ⟨t, at2, s2, e2, h⟩ := coded_j3 hc x false (fun h => by cases h) hx at_ s h0 (by omega)
  exact ⟨t, at2, s2, Ev.step (fun k => spec_l1Cur_coded.j2.eq_2 ..) (Ev.neg c1 e2), by omega, by omega, by omega⟩
theorem coded_j1 {c : List Int} (hc : isBytes c) (x : ByteArray) (b : Bool) (hx : x.size ≤ 900) (at_ s : Int) (h0 : 0 ≤ at_) (h1 : at_ + 4000 ≤ 10000000000000) : ∃ t at' s', Ev (fun k => spec_l1Cur_coded.j1 k x b c at_ s) (t, at', s') ∧ t.size ≤ x.size + 28 ∧ at_ ≤ at' ∧ at' ≤ at_ + 108 := by
 cases b
 ·obtain ⟨t, at2, s2, e2, h⟩ := coded_j2 hc x (by omega) at_ s h0 (by omega)
  exact ⟨t, at2, s2, Ev.step (fun k => spec_l1Cur_coded.j1.eq_2 ..) (Ev.neg (by simp) e2), by omega, by omega, by omega⟩
 ·obtain ⟨u, at1, s1, e1, z, g1, g2⟩ := cur_bytes hc at_ s h0 (by omega)
  obtain ⟨t, at2, s2, e2, h⟩ := coded_j2 hc (x ++ u) (by rw [ByteArray.size_append]; omega) at1 s1 (by omega) (by omega)
  rw [ByteArray.size_append] at h
  exact ⟨t, at2, s2, Ev.step (fun k => spec_l1Cur_coded.j1.eq_2 ..) (Ev.pos rfl (Ev.bind e1 (Ev.pos (by simp only []; omega) e2))), by omega, by omega, by omega⟩
theorem coded_l {c : List Int} (hc : isBytes c) (en : Int) : ∀ (d : Nat) (x : List Int) (at_ s : Int), 0 ≤ at_ → at_ + 10 * d + 5000 ≤ 10000000000000 → AllR x → x.length + d ≤ 100 →
  ∃ t at' s', Ev (fun k => spec_l1Cur_coded.l0 k en x (d : Int) c at_ s) (t, at', s') ∧ t.size ≤ 4 * (x.length + d) + 30 ∧ at_ ≤ at' ∧ at' ≤ at_ + 10 * d + 200
 | 0, x, at_, s, h0, h1, hx, hl => by
  obtain ⟨u, n, b, e1, z⟩ := encode_size en x hx (by omega)
  by_cases c1 : u.toList = ([] : List UInt8)
  ·obtain ⟨t, at2, s2, e2, h⟩ := coded_j1 hc u true (by omega) at_ s h0 (by omega)
   exact ⟨t, at2, s2, Ev.step (fun k => spec_l1Cur_coded.l0.eq_2 ..) (Ev.neg (by omega) (Ev.bind e1 (Ev.pos c1 e2))), by omega, by omega, by omega⟩
  ·obtain ⟨q, at1, s1, e3, g1, g2⟩ := cur_one hc at_ s 4 h0 (by omega) (by omega)
   obtain ⟨t, at2, s2, e2, h⟩ := coded_j1 hc u q (by omega) at1 s1 (by omega) (by omega)
   exact ⟨t, at2, s2, Ev.step (fun k => spec_l1Cur_coded.l0.eq_2 ..) (Ev.neg (by omega) (Ev.bind e1 (Ev.neg c1 (Ev.bind0 e3 e2)))), by omega, by omega, by omega⟩
 | d + 1, x, at_, s, h0, h1, hx, hl => by
  obtain ⟨v, at1, s1, e1, hv, g1, g2⟩ := cur_rune hc at_ s h0 (by omega)
  have wd : wrap64 (((d + 1 : Nat) : Int) - 1) = (d : Int) := by rw [w64 (by omega) (by omega)]; omega
  have go : ∀ (v at2 s2 : Int), (0 ≤ v ∧ v ≤ 1114111) → at_ ≤ at2 → at2 ≤ at_ + 10 → ∃ t at' s', Ev (fun k => spec_l1Cur_coded.l0 k en (x ++ [v]) (wrap64 (((d + 1 : Nat) : Int) - 1)) c at2 s2) (t, at', s') ∧ t.size ≤ 4 * (x.length + (d + 1)) + 30 ∧ at_ ≤ at' ∧ at' ≤ at_ + 10 * ((d + 1 : Nat) : Int) + 200 := fun v at2 s2 hv k1 k2 => by
   obtain ⟨t, at3, s3, e, z, k3, k4⟩ := coded_l hc en d (x ++ [v]) at2 s2 (by omega) (by omega) (hx.snoc hv) (by simp; omega)
   rw [wd]
   exact ⟨t, at3, s3, e, by simp at z; omega, by omega, by omega⟩
  by_cases c1 : en ≥ 4
  ·obtain ⟨b, at2, s2, e2, g3, g4⟩ := cur_one hc at1 s1 2 (by omega) (by omega) (by omega)
   cases b
   ·obtain ⟨t, at3, s3, e, z⟩ := go v at2 s2 hv (by omega) (by omega)
    exact ⟨t, at3, s3, Ev.step (fun k => spec_l1Cur_coded.l0.eq_2 ..) (Ev.pos (by omega) (Ev.bind0 e1 (Ev.pos c1 (Ev.bind0 e2 (Ev.neg (by simp) (Ev.pos (by omega) e)))))), z⟩
   ·obtain ⟨u, at3, s3, e3, hu, g5, g6⟩ := cur_among hc at2 s2 [97, 122, 7, 200, 12352, 12400, 12446] (by decide) (by decide) (by omega) (by omega)
    have hu2 : ∀ y ∈ [(97 : Int), 122, 7, 200, 12352, 12400, 12446], 0 ≤ y ∧ y ≤ 1114111 := by decide
    obtain ⟨t, at4, s4, e, z⟩ := go u at3 s3 (hu2 u hu) (by omega) (by omega)
    exact ⟨t, at4, s4, Ev.step (fun k => spec_l1Cur_coded.l0.eq_2 ..) (Ev.pos (by omega) (Ev.bind0 e1 (Ev.pos c1 (Ev.bind0 e2 (Ev.pos rfl (Ev.bind0 e3 (Ev.pos (by omega) e))))))), z⟩
  ·obtain ⟨t, at3, s3, e, z⟩ := go v at1 s1 hv (by omega) (by omega)
   exact ⟨t, at3, s3, Ev.step (fun k => spec_l1Cur_coded.l0.eq_2 ..) (Ev.pos (by omega) (Ev.bind0 e1 (Ev.neg c1 (Ev.pos (by omega) e)))), z⟩
theorem cur_coded {c : List Int} (hc : isBytes c) (en at_ s : Int) (h0 : 0 ≤ at_) (h1 : at_ + 6000 ≤ 10000000000000) : ∃ t at' s', Ev (fun k => spec_l1Cur_coded.f k c at_ s en) (t, at', s') ∧ t.size ≤ 60 ∧ at_ ≤ at' ∧ at' ≤ at_ + 300 := by
 unfold spec_l1Cur_coded.f
 obtain ⟨v, at1, s1, e1, g1, g2, g3, g4⟩ := cur_pick hc at_ s 7 h0 (by omega) (by omega)
 obtain ⟨t, at2, s2, e2, z, g5, g6⟩ := coded_l hc en v.toNat [] at1 s1 (by omega) (by omega) (by simp [AllR]) (by simp; omega)
 rw [Int.toNat_of_nonneg g1] at e2
 exact ⟨t, at2, s2, Ev.bind0 e1 e2, by simp at z; omega, by omega, by omega⟩
theorem feedM_held (en : Int) (d : Nat) (x : ByteArray) (r l : List Int) : (feedM en d x r l).1.size ≤ x.size := (feedM_len en d x r l).2.2
theorem fdR_held (en sh lo : Int) (h s : ByteArray) : (fdR en sh lo h s).2.2.2.1.size ≤ h.size + s.size := by
 have z : (feedR en sh lo h s).2.2.1.size ≤ h.size + s.size := by
  unfold feedR
  by_cases c : en = 4 ∨ en = 5
  ·rw [if_pos c]; simp only []; omega
  ·rw [if_neg c]
   have := feedM_held en (h ++ s).size (h ++ s) [] []
   rw [ByteArray.size_append] at this
   simpa using this
 unfold fdR
 by_cases c : goodDecB en sh lo h = true ∧ s.size ≤ 1000 ∧ (feedR en sh lo h s).2.1 ≤ 1000
 ·rw [if_pos c]; exact z
 ·rw [if_neg c]; exact Nat.zero_le _
theorem cur_decoder {c : List Int} (hc : isBytes c) (at_ s : Int) (h0 : 0 ≤ at_) (h1 : at_ + 20000 ≤ 10000000000000) : ∃ en sh lo h at' s', Ev (fun k => spec_l1Cur_decoder.f k c at_ s) (en, sh, lo, h, at', s') ∧ h.size ≤ 100 ∧ at_ ≤ at' ∧ at' ≤ at_ + 400 := by
 have j1 : ∀ (at1 s1 en sh lo : Int) (h : ByteArray), 0 ≤ at1 → at1 + 100 ≤ 10000000000000 → h.size ≤ 100 → ∃ en' sh' lo' h' at' s', Ev (fun k => spec_l1Cur_decoder.j1 k c at1 s1 en sh lo h) (en', sh', lo', h', at', s') ∧ h'.size ≤ 100 ∧ at1 ≤ at' ∧ at' ≤ at1 + 4 := fun at1 s1 en sh lo h a0 a1 hh => by
  obtain ⟨v, at2, s2, e1, g1, g2, g3, g4⟩ := cur_pick hc at1 s1 40 a0 (by omega) (by omega)
  by_cases c0 : v = 0
  ·exact ⟨en, sh, lo, (⟨#[97]⟩ : ByteArray), at2, s2, Ev.step (fun k => spec_l1Cur_decoder.j1.eq_2 ..) (Ev.bind0 e1 (Ev.pos c0 (Ev.now _))), by decide, by omega, by omega⟩
  by_cases c1 : v = 1
  ·obtain ⟨u, at3, s3, e2, k1, k2, k3, k4⟩ := cur_pick hc at2 s2 3 (by omega) (by omega) (by omega)
   exact ⟨en, u, lo, h, at3, s3, Ev.step (fun k => spec_l1Cur_decoder.j1.eq_2 ..) (Ev.bind0 e1 (Ev.neg c0 (Ev.pos c1 (Ev.bind0 e2 (Ev.now _))))), hh, by omega, by omega⟩
  by_cases c2 : v = 2
  ·obtain ⟨u, at3, s3, e2, k1, k2, k3⟩ := cur_among hc at2 s2 [-1, 3, 1000, 1001] (by decide) (by decide) (by omega) (by omega)
   exact ⟨en, sh, u, h, at3, s3, Ev.step (fun k => spec_l1Cur_decoder.j1.eq_2 ..) (Ev.bind0 e1 (Ev.neg c0 (Ev.neg c1 (Ev.pos c2 (Ev.bind0 e2 (Ev.now _)))))), hh, by omega, by omega⟩
  ·exact ⟨en, sh, lo, h, at2, s2, Ev.step (fun k => spec_l1Cur_decoder.j1.eq_2 ..) (Ev.bind0 e1 (Ev.neg c0 (Ev.neg c1 (Ev.neg c2 (Ev.now _))))), hh, by omega, by omega⟩
 unfold spec_l1Cur_decoder.f
 obtain ⟨v, at1, s1, e1, g1, g2⟩ := cur_en hc at_ s h0 (by omega)
 have hn : ∃ en b, spec_NewDecoder.f v = some (en, 0, 0, (⟨#[]⟩ : ByteArray), b) := by
  unfold spec_NewDecoder.f spec_l2Code.f
  rw [l1In_eq]
  simp only [Option.bind_some]
  split
  ·exact ⟨_, _, rfl⟩
  ·exact ⟨_, _, rfl⟩
 obtain ⟨en, b, hnb⟩ := hn
 obtain ⟨t, at2, s2, e2, z, g3, g4⟩ := cur_coded hc en at1 s1 (by omega) (by omega)
 have e3 := specFeedD en 0 0 (⟨#[]⟩ : ByteArray) t (by decide)
 have z3 := fdR_held en 0 0 (⟨#[]⟩ : ByteArray) t
 rw [show (⟨#[]⟩ : ByteArray).size = 0 from rfl] at z3
 generalize fdR en 0 0 (⟨#[]⟩ : ByteArray) t = R at e3 z3
 have j0 : ∀ q : Bool, ∃ en' sh' lo' h' at' s', Ev (fun k => spec_l1Cur_decoder.j0 k q c at2 s2 en 0 0 (⟨#[]⟩ : ByteArray) R.1 R.2.1 R.2.2.1 R.2.2.2.1) (en', sh', lo', h', at', s') ∧ h'.size ≤ 100 ∧ at2 ≤ at' ∧ at' ≤ at2 + 4 := fun q => by
  cases q
  ·obtain ⟨a1, a2, a3, a4, a5, a6, e, r⟩ := j1 at2 s2 en 0 0 (⟨#[]⟩ : ByteArray) (by omega) (by omega) (by decide)
   exact ⟨a1, a2, a3, a4, a5, a6, Ev.step (fun k => spec_l1Cur_decoder.j0.eq_2 ..) (Ev.neg (by simp) e), r⟩
  ·obtain ⟨a1, a2, a3, a4, a5, a6, e, r⟩ := j1 at2 s2 R.1 R.2.1 R.2.2.1 R.2.2.2.1 (by omega) (by omega) (by omega)
   exact ⟨a1, a2, a3, a4, a5, a6, Ev.step (fun k => spec_l1Cur_decoder.j0.eq_2 ..) (Ev.pos rfl e), r⟩
 cases b
 ·obtain ⟨a1, a2, a3, a4, a5, a6, e, r1, r2, r3⟩ := j0 false
  exact ⟨a1, a2, a3, a4, a5, a6, Ev.bind0 e1 (Ev.bind0 hnb (Ev.bind e2 (Ev.bind e3 (Ev.neg (by simp) e)))), r1, by omega, by omega⟩
 ·obtain ⟨a1, a2, a3, a4, a5, a6, e, r1, r2, r3⟩ := j0 R.2.2.2.2.2.2
  exact ⟨a1, a2, a3, a4, a5, a6, Ev.bind0 e1 (Ev.bind0 hnb (Ev.bind e2 (Ev.bind e3 (Ev.pos rfl e)))), r1, by omega, by omega⟩
theorem drawFeed {c : List Int} (hc : isBytes c) : ∃ en sh lo h t, Ev (fun k => spec_DrawFeedDecoder.f k c) (en, sh, lo, h, t) ∧ h.size ≤ 100 ∧ t.size ≤ 60 := by
 unfold spec_DrawFeedDecoder.f
 obtain ⟨en, sh, lo, h, at1, s1, e1, z, g1, g2⟩ := cur_decoder hc 0 0 (by omega) (by omega)
 obtain ⟨t, at2, s2, e2, z2, g3, g4⟩ := cur_coded hc en at1 s1 (by omega) (by omega)
 exact ⟨en, sh, lo, h, t, Ev.bind e1 (Ev.bind e2 (Ev.now _)), z, z2⟩
theorem drawFlush {c : List Int} (hc : isBytes c) : ∃ en sh lo h, Ev (fun k => spec_DrawFlushDecoder.f k c) (en, sh, lo, h) ∧ h.size ≤ 100 := by
 unfold spec_DrawFlushDecoder.f spec_DrawGoodDecoder.f
 obtain ⟨en, sh, lo, h, at1, s1, e1, z, g1, g2⟩ := cur_decoder hc 0 0 (by omega) (by omega)
 exact ⟨en, sh, lo, h, Ev.bind (Ev.bind e1 (Ev.now _)) (Ev.now _), z⟩
end Go.Proofs.YtliafedmhgkciaaDoor.Pure
