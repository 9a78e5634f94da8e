/- Slices that own a part of an array: append to them. Helper lemmas alone, over any program. -/
import Derived.Test.YtencnfgmgcdiiaaLawB
namespace Go.PM
open Go.RowKit

/-- A slice (address a, n elements of s cells, capacity cap) that alone writes its part of its array, which may be longer. -/
structure Owns (w : World) (T : TypeId) (s : Nat) (a : Option Addr) (n cap : Nat) (xs : List Value) : Prop where
  len : xs.length = n * s
  le : n ≤ cap
  max : cap ≤ maxLen
  row : (a = none ∧ n = 0 ∧ cap = 0) ∨ ∃ g cur, a = some ⟨g, 0, none⟩ ∧ Blk w g T cur ∧ cap * s ≤ cur.length ∧ cur.take (n * s) = xs

section
variable {w w' : World} {T : TypeId} {s : Nat} {a : Option Addr} {n cap : Nat} {xs : List Value}

theorem Own.owns (h : Own w T s a n cap xs) : Owns w T s a n cap xs := ⟨h.len, h.le, h.max, h.row.imp id fun ⟨g, cur, h1, h2, h3, h4⟩ => ⟨g, cur, h1, h2, Nat.le_of_eq h3.symm, h4⟩⟩
theorem Owns.nil (w : World) (T : TypeId) (s : Nat) : Owns w T s none 0 0 [] := (Own.nil w T s).owns
theorem Owns.kept {S : Nat → Prop} (h : Owns w T s a n cap xs) (k : Kept S w w') (hn : ∀ b, At a b → ¬ S b) : Owns w' T s a n cap xs :=
  ⟨h.len, h.le, h.max, h.row.imp id fun ⟨g, cur, ha, hb, hc, ht⟩ => ⟨g, cur, ha, hb.kept k (hn g ⟨g, 0, ha, rfl⟩), hc, ht⟩⟩
theorem Owns.keptNo (h : Owns w T s a n cap xs) (k : Kept No w w') : Owns w' T s a n cap xs := h.kept k fun _ _ h => h
theorem Owns.rd (h : Owns w T s a n cap xs) : Rd w a xs := by
  rcases h.row with ⟨_, hn, _⟩ | ⟨g, cur, rfl, hb, _, ht⟩
  · have := h.len
    have : xs = [] := List.eq_nil_of_length_eq_zero (by rw [this, hn]; simp)
    subst this; exact Rd.nil _ _
  · exact Rd.ofBlk hb fun j x hj => by
      rw [← ht, List.getElem?_take] at hj
      split at hj
      · exact hj
      · exact (nomatch hj)
theorem Owns.lt (h : Owns w T s a n cap xs) : ∀ b, At a b → b < w.heap.size := by
  rintro b ⟨g, o, rfl, rfl⟩
  rcases h.row with ⟨h', _⟩ | ⟨g, cur, h', hb, _⟩
  · cases h'
  · simp only [Option.some.injEq, Addr.mk.injEq] at h'; obtain ⟨rfl, _⟩ := h'; exact hb.lt
/-- Its address: none, or a block's head. -/
theorem Owns.addr (h : Owns w T s a n cap xs) : a = none ∧ n = 0 ∧ cap = 0 ∧ xs = [] ∨ ∃ g, a = some ⟨g, 0, none⟩ ∧ g < w.heap.size := by
  rcases h.row with ⟨h1, h2, h3⟩ | ⟨g, cur, h', hb, _⟩
  · exact .inl ⟨h1, h2, h3, List.eq_nil_of_length_eq_zero (by rw [h.len, h2]; simp)⟩
  · exact .inr ⟨g, h', hb.lt⟩
/-- Cut at its head: fewer elements, and no room behind them. -/
theorem Owns.cut (h : Owns w T s a n cap xs) {m c : Nat} (hm : m ≤ n) (hc : c ≤ cap) (hmc : m ≤ c) : Owns w T s a m c (xs.take (m * s)) := by
  refine ⟨by rw [List.length_take, h.len]; exact Nat.min_eq_left (Nat.mul_le_mul_right _ hm), hmc, by have := h.max; omega, ?_⟩
  rcases h.row with ⟨h1, h2, h3⟩ | ⟨g, cur, h', hb, hl, ht⟩
  · exact .inl ⟨h1, by omega, by omega⟩
  · exact .inr ⟨g, cur, h', hb, Nat.le_trans (Nat.mul_le_mul_right _ hc) hl, by rw [← ht, List.take_take, Nat.min_eq_left (Nat.mul_le_mul_right _ hm)]⟩
end

/-- What an append makes of an owned slice. -/
structure Onto (w w' : World) (T : TypeId) (s : Nat) (a : Option Addr) (a' : Option Addr) (n' cap' : Nat) (ys : List Value) : Prop where
  own : Owns w' T s a' n' cap' ys
  kept : Kept (At a) w w'
  at_ : ∀ k, At a' k → At a k ∨ w.heap.size ≤ k

section
variable {P : Program} (w : World)

theorem owns_grown (e : TypeId) (z : Value) (size : Nat) (hzs : z.cells.size = size) (n m old : Nat) (xs news : List Value) (hx : xs.length = n * size) (hl : news.length = m * size) (h63 : n + m ≤ maxLen) :
    Owns (w.drew.alloc (.cells (xs.toArray ++ news.toArray ++ Builtin.zeroCells z.cells (grownCap w (n + m) old e - (n + m))) e)) e size (some ⟨w.heap.size, 0, none⟩) (n + m) (grownCap w (n + m) old e) (xs ++ news) := by
  have hge := grownCap_ge w (n + m) old e
  have hcm : grownCap w (n + m) old e ≤ maxLen := grownCap_le_maxLen w (n + m) old e h63
  have hlen : (xs ++ news).length = (n + m) * size := by rw [List.length_append, hx, hl, Nat.add_mul]
  refine ⟨hlen, hge, hcm, .inr ⟨w.heap.size, xs ++ news ++ (Builtin.zeroCells z.cells (grownCap w (n + m) old e - (n + m))).toList, rfl, ?_, ?_, ?_⟩⟩
  · have : (xs ++ news ++ (Builtin.zeroCells z.cells (grownCap w (n + m) old e - (n + m))).toList).toArray = xs.toArray ++ news.toArray ++ Builtin.zeroCells z.cells (grownCap w (n + m) old e - (n + m)) := by
      apply Array.ext'; simp
    unfold Blk; rw [this]
    exact heap_alloc_new w.drew _
  · rw [List.length_append, hlen, Array.length_toList, size_zeroCells, hzs, ← Nat.add_mul]
    exact Nat.mul_le_mul_right _ (by omega)
  · rw [← hlen]; exact List.take_left

theorem run_onto (t ty e : TypeId) (i : TypeInfo) (z : Value) (size bytes : Nat) (ht : P.underlying t = some (.slice e)) (hi : P.info? e = some i) (hz : i.zero = some z)
    (hsize : i.size = size) (hby : i.bytes = bytes) (hzs : z.cells.size = size) (hsz : 0 < size)
    (a : Option Addr) (n cap : Nat) (xs : List Value) (hown : Owns w e size a n cap xs)
    (a2 : Option Addr) (m c : Nat) (news : List Value) (hc : a2 = none → c = 0) (hl : news.length = m * size) (hnews : Rd w a2 news) (h1 : ∀ u ∈ news, u.oneCell' = true)
    (h63 : n + m ≤ maxLen) (hbytes : (n + m) * bytes ≤ 140737488355328) :
    ∃ a' cap' w', (Builtin.append_ #[t, t] ty #[.slice a n cap, .slice a2 m c]).run P w = .ok (.slice a' (n + m) cap') w' ∧ Onto w w' e size a a' (n + m) cap' (xs ++ news) := by
  have hle := hown.le
  cases a2 with
  | none =>
    have hm : m = 0 := by
      rcases Nat.eq_zero_or_pos m with h | h
      · exact h
      · have : 0 < news.length := by rw [hl]; exact Nat.mul_pos h hsz
        obtain ⟨b, o, h', _⟩ := hnews.addr this; cases h'
    subst hm
    have hn0 : news = [] := List.eq_nil_of_length_eq_zero (by simpa using hl)
    subst hn0
    have hc0 : c = 0 := hc rfl
    subst hc0
    refine ⟨a, cap, w, ?_, ?_⟩
    · cases a <;> simp [Builtin.append_, run_underlying ht, sizeOf, typeInfo, hi, Builtin.lenOf, Builtin.firstCells, hle, storeCells]
    · simp only [List.append_nil, Nat.add_zero]
      exact ⟨hown, Kept.refl _ _, fun k h => .inl h⟩
  | some ad =>
    have hsrc : ∀ j u, news[j]? = some u → w.cell? (ad.add j) = some u := by
      intro j u hj
      have h0 : 0 < news.length := by have := (List.getElem?_eq_some_iff.1 hj).1; omega
      obtain ⟨ad', e', h'⟩ := hnews.src h0
      cases e'; exact h' j u hj
    have hsmall : n + m ≤ 9223372036854775807 := by simp only [maxLen] at h63; omega
    rcases hown.row with ⟨rfl, rfl, rfl⟩ | ⟨g, cur, rfl, hb, hcl, htk⟩
    · have hx0 : xs = [] := List.eq_nil_of_length_eq_zero (by rw [hown.len]; simp)
      subst hx0
      by_cases hm : m = 0
      · subst hm
        have hn0 : news = [] := List.eq_nil_of_length_eq_zero (by simpa using hl)
        subst hn0
        refine ⟨none, 0, w, ?_, hown, Kept.refl _ _, fun k h => .inl h⟩
        simp [Builtin.append_, run_underlying ht, sizeOf, typeInfo, hi, Builtin.lenOf, Builtin.firstCells, loadCells, loadCellsFrom]
      · have hr := run_append_nil (P := P) w t ty e i z ht hi hz ad m c news (by rw [hsize]; exact hl) hsrc (by omega) (by omega) (by rw [hby]; simp only [Nat.zero_add] at hbytes; omega)
        have ho := owns_grown w e z size hzs 0 m 0 [] news (by simp) hl h63
        simp only [Nat.zero_add, List.nil_append, Array.empty_append] at ho ⊢
        exact ⟨_, _, _, hr, ho, ((Kept.refl _ w).drew).alloc _, fun k ⟨g, o, h, h2⟩ => .inr (by cases h; omega)⟩
    · by_cases hroom : n + m ≤ cap
      · have hfit : n * size + news.length ≤ cur.length := by rw [hl, ← Nat.add_mul]; exact Nat.le_trans (Nat.mul_le_mul_right _ hroom) hcl
        have hr := run_append_room (P := P) w t ty e i ht hi g n cap cur.toArray hb ad m c news (by rw [hsize]; exact hl) hsrc h1 hroom (by rw [hsize]; simpa using hfit)
        refine ⟨_, _, _, hr, ⟨?_, hroom, hown.max, .inr ⟨g, _, rfl, hb.setRow _, ?_, ?_⟩⟩, (Kept.refl _ w).setRow (fun _ => ⟨g, 0, rfl, rfl⟩) _, fun k h => .inl h⟩
        · rw [List.length_append, hown.len, hl, Nat.add_mul]
        · rw [hsize]; simp only [List.length_append, List.length_take, List.length_drop]; omega
        · rw [hsize, htk]
          have : (n + m) * size = (xs ++ news).length := by rw [List.length_append, hown.len, hl, Nat.add_mul]
          rw [this]; exact List.take_left
      · have holds : ∀ j u, xs[j]? = some u → w.cell? ((⟨g, 0, none⟩ : Addr).add j) = some u := by
          intro j u hj
          have h0 : 0 < xs.length := by have := (List.getElem?_eq_some_iff.1 hj).1; omega
          obtain ⟨ad', e', h'⟩ := hown.rd.src h0
          cases e'; exact h' j u hj
        have hr := run_append_grow (P := P) w t ty e i z ht hi hz ⟨g, 0, none⟩ n cap xs (by rw [hsize]; exact hown.len) holds ad m c news (by rw [hsize]; exact hl) hsrc (by omega) (by omega) (by rw [hby]; exact growslice_fits (by omega) hbytes)
        exact ⟨_, _, _, hr, owns_grown w e z size hzs n m cap xs news hown.len hl h63, ((Kept.refl _ w).drew).alloc _, fun k ⟨g', o, h, h2⟩ => .inr (by cases h; omega)⟩

/-- append(nil, make(..)..): a new array. -/
theorem run_onto_zeros (t u ty e : TypeId) (k : IntKind) (i : TypeInfo) (z : Value) (size bytes : Nat) (ht : P.underlying t = some (.slice e)) (hu : P.underlying u = some (.int k)) (hi : P.info? e = some i) (hz : i.zero = some z)
    (hsize : i.size = size) (hby : i.bytes = bytes) (hzs : z.cells.size = size)
    (n : Nat) (h0 : 0 < n * size) (h63 : n ≤ maxLen) (hbytes : n * bytes ≤ 140737488355328) :
    ∃ cap' w', (Builtin.append_ #[t, u] ty #[.slice none 0 0, .int k n]).run P w = .ok (.slice (some ⟨w.heap.size, 0, none⟩) n cap') w' ∧ Owns w' e size (some ⟨w.heap.size, 0, none⟩) n cap' (Builtin.zeroCells z.cells n).toList ∧ Kept No w w' ∧ w.heap.size < w'.heap.size := by
  have hsmall : n ≤ 9223372036854775807 := by simp only [maxLen] at h63; omega
  have hn0 : ¬ n = 0 := by intro h; subst h; simp at h0
  have hw : IntKind.i64.wrap (n : Int) = (n : Int) := by rw [IntKind.wrap_i64]; omega
  have h48 : ¬ (281474976710656 < (n : Int) * (i.bytes : Int)) := by rw [hby, ← Int.natCast_mul]; omega
  have h63' : ¬ (9223372036854775807 < (n : Int)) := by omega
  have h48' : ¬ (281474976710656 < Builtin.nextslicecap n 0 * i.bytes) := by rw [nextslicecap_zero (by omega), hby]; omega
  have hneg : ¬ ((n : Int) < 0) := by omega
  have ho := owns_grown w e z size hzs 0 n 0 [] (Builtin.zeroCells z.cells n).toList (by simp) (by rw [Array.length_toList, size_zeroCells, hzs]) (by simpa using h63)
  simp only [Nat.zero_add, List.nil_append, Array.empty_append] at ho
  refine ⟨_, _, ?_, ho, ((Kept.refl _ w).drew).alloc _, by simp⟩
  simp [Builtin.append_, run_underlying ht, run_underlying hu, sizeOf, typeInfo, zeroValue, hi, hz, hn0, h63', h48, h48', hw, hneg, hsize, asInt, asIntOf, Question.forced, run_firstCells_none, newRow, grownCap]
  intro hzero; omega

section
variable {w}
variable {ops : Array Oper} {rest : List Oper} {o : Oper} {a : Act} {K : Act → World → Prop} {Q : Exit → Act → World → Prop} {E : Prop}

theorem wp_onto (s x : Operand) (t : TypeId)
    (ho : o.op = .call { callee := .builtin .append, args := #[s, x], argTypes := #[t, t] })
    (e : TypeId) (i : TypeInfo) (z : Value) (size bytes : Nat) (ht : P.underlying t = some (.slice e)) (hi : P.info? e = some i) (hz : i.zero = some z)
    (hsize : i.size = size) (hby : i.bytes = bytes) (hzs : z.cells.size = size) (hsz : 0 < size)
    (ad : Option Addr) (n cap : Nat) (xs : List Value) (hs : a.eval s = .slice ad n cap) (hown : Owns w e size ad n cap xs)
    (a2 : Option Addr) (m c : Nat) (news : List Value) (hx : a.eval x = .slice a2 m c) (hc : a2 = none → c = 0) (hl : news.length = m * size) (hnews : Rd w a2 news) (h1 : ∀ u ∈ news, u.oneCell' = true)
    (h63 : n + m ≤ maxLen) (hbytes : (n + m) * bytes ≤ 140737488355328)
    (h : ∀ a' cap' w', Onto w w' e size ad a' (n + m) cap' (xs ++ news) → K (a.put o.dst (.slice a' (n + m) cap')) w') : o.wp P a w K Q := by
  obtain ⟨a', cap', w', hr, hap⟩ := run_onto (P := P) w t o.type e i z size bytes ht hi hz hsize hby hzs hsz ad n cap xs hown a2 m c news hc hl hnews h1 h63 hbytes
  unfold Oper.wp execOp
  simp only [ho, resolve, invoke, builtin, Sem.run_bind, Sem.run_pure, Result.andThen_ok, List.map_toArray, List.map_cons, List.map_nil, hs, hx, hr]
  exact h a' cap' w' hap

theorem wpList_onto (hg : o.guard = none) (s x : Operand) (t : TypeId)
    (ho : o.op = .call { callee := .builtin .append, args := #[s, x], argTypes := #[t, t] })
    (e : TypeId) (i : TypeInfo) (z : Value) (size bytes : Nat) (ht : P.underlying t = some (.slice e)) (hi : P.info? e = some i) (hz : i.zero = some z)
    (hsize : i.size = size) (hby : i.bytes = bytes) (hzs : z.cells.size = size) (hsz : 0 < size)
    (ad : Option Addr) (n cap : Nat) (xs : List Value) (hs : a.eval s = .slice ad n cap) (hown : Owns w e size ad n cap xs)
    (a2 : Option Addr) (m c : Nat) (news : List Value) (hx : a.eval x = .slice a2 m c) (hc : a2 = none → c = 0) (hl : news.length = m * size) (hnews : Rd w a2 news) (h1 : ∀ u ∈ news, u.oneCell' = true)
    (h63 : n + m ≤ maxLen) (hbytes : (n + m) * bytes ≤ 140737488355328)
    (h : ∀ a' cap' w', Onto w w' e size ad a' (n + m) cap' (xs ++ news) → wpList P ops Q rest (a.put o.dst (.slice a' (n + m) cap')) w') : wpList P ops Q (o :: rest) a w :=
  wpList_plain hg fun _ hK => wp_onto s x t ho e i z size bytes ht hi hz hsize hby hzs hsz ad n cap xs hs hown a2 m c news hx hc hl hnews h1 h63 hbytes fun a' c' w' h2 => hK _ _ (h a' c' w' h2)

theorem wpList_zeros (hg : o.guard = none) (s x : Operand) (t u : TypeId)
    (ho : o.op = .call { callee := .builtin .append, args := #[s, x], argTypes := #[t, u] })
    (e : TypeId) (k : IntKind) (i : TypeInfo) (z : Value) (size bytes : Nat) (ht : P.underlying t = some (.slice e)) (hu : P.underlying u = some (.int k)) (hi : P.info? e = some i) (hz : i.zero = some z)
    (hsize : i.size = size) (hby : i.bytes = bytes) (hzs : z.cells.size = size)
    (n : Nat) (hs : a.eval s = .slice none 0 0) (hx : a.eval x = .int k n) (h0 : 0 < n * size) (h63 : n ≤ maxLen) (hbytes : n * bytes ≤ 140737488355328)
    (h : ∀ cap' w', Owns w' e size (some ⟨w.heap.size, 0, none⟩) n cap' (Builtin.zeroCells z.cells n).toList → Kept No w w' → w.heap.size < w'.heap.size → wpList P ops Q rest (a.put o.dst (.slice (some ⟨w.heap.size, 0, none⟩) n cap')) w') : wpList P ops Q (o :: rest) a w := by
  refine wpList_plain hg fun K hK => ?_
  obtain ⟨cap', w', hr, h1, h2, h3⟩ := run_onto_zeros (P := P) w t u o.type e k i z size bytes ht hu hi hz hsize hby hzs n h0 h63 hbytes
  unfold Oper.wp execOp
  simp only [ho, resolve, invoke, builtin, Sem.run_bind, Sem.run_pure, Result.andThen_ok, List.map_toArray, List.map_cons, List.map_nil, hs, hx, hr]
  exact hK _ _ (h cap' w' h1 h2 h3)
end
end
end Go.PM
