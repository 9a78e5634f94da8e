/- Words for memory: what a call keeps, what a slice reads as. No statement of the seat is proved here; helper lemmas alone, under no condition of the program. Laws for operations on slices that a call owns: make, append, copy. Helper lemmas alone, over any program. More laws: conversions between bytes and strings; operations behind a guard. Helper lemmas alone, over any program. Slices that own a part of an array: append to them. Helper lemmas alone, over any program. Loads and stores of whole structs and arrays, each as one step. Helper lemmas alone, over any program. -/
import Derived.WalkKit
import Derived.WalkSpells
import Derived.WalkLawsBesides
import Derived.BigQuiet
import Derived.Deep.QuietTactic
import Derived.Deep.RegionWith
import Derived.Deep.RegionHeld3
import Derived.Deep.RegionLaw
import Derived.Deep.DeepCutAuto
import Derived.Deep.LoopGhost
import Derived.Laws.CopyOwn
import Derived.Laws.ResultCell
import Derived.Lib.Hide
import Derived.Lib.SlBytesConst
namespace Go.PM
open Go.RowKit

/-- All blocks that were there, but those in S, are as they were. -/
structure Kept (S : Nat → Prop) (w w' : World) : Prop where
  os : w'.os = w.os
  tape : w'.tape = w.tape
  output : w'.output = w.output
  size : w.heap.size ≤ w'.heap.size
  block : ∀ k, k < w.heap.size → ¬ S k → w'.heap[k]? = w.heap[k]?

def No : Nat → Prop := fun _ => False

section
variable {S T : Nat → Prop} {w w' w'' : World}

theorem Kept.refl (S : Nat → Prop) (w : World) : Kept S w w := ⟨rfl, rfl, rfl, Nat.le_refl _, fun _ _ _ => rfl⟩
theorem Kept.trans (h : Kept S w w') (k : Kept T w' w'') (hT : ∀ b, b < w.heap.size → T b → S b) : Kept S w w'' :=
  ⟨k.os.trans h.os, k.tape.trans h.tape, k.output.trans h.output, Nat.le_trans h.size k.size,
    fun b hb hn => (k.block b (Nat.lt_of_lt_of_le hb h.size) (fun ht => hn (hT b hb ht))).trans (h.block b hb hn)⟩
theorem Kept.mono (h : Kept S w w') (hS : ∀ b, b < w.heap.size → S b → T b) : Kept T w w' :=
  ⟨h.os, h.tape, h.output, h.size, fun b hb hn => h.block b hb (fun hs => hn (hS b hb hs))⟩
theorem Kept.no (h : Kept No w w') : Kept S w w' := h.mono fun _ _ h => h.elim
theorem Kept.transNo (h : Kept S w w') (k : Kept No w' w'') : Kept S w w'' := h.trans k fun _ _ h => h.elim
theorem Kept.drewN (h : Kept S w w') (n : Nat) : Kept S w (w'.drewN n) := ⟨h.os, h.tape, h.output, h.size, h.block⟩
theorem Kept.drew (h : Kept S w w') : Kept S w w'.drew := ⟨h.os, h.tape, h.output, h.size, h.block⟩
theorem Kept.alloc (h : Kept S w w') (o : Obj) : Kept S w (w'.alloc o) :=
  ⟨h.os, h.tape, h.output, by rw [World.size_alloc]; have := h.size; omega, fun b hb hn => (Below.heap_alloc _ _ _ (Nat.lt_of_lt_of_le hb h.size)).trans (h.block b hb hn)⟩
theorem Kept.setCell (h : Kept S w w') {a : Addr} (ha : a.block < w.heap.size → S a.block) (u : Value) : Kept S w (w'.setCell a u) :=
  ⟨h.os, h.tape, h.output, by rw [World.size_setCell]; exact h.size, fun b hb hn => (Below.heap_setCell _ _ _ _ (fun e => by subst e; exact hn (ha hb))).trans (h.block b hb hn)⟩
theorem Kept.setRow (h : Kept S w w') {g : Nat} (ha : g < w.heap.size → S g) (cs : Array Value) : Kept S w (w'.setRow g cs) :=
  ⟨h.os, h.tape, h.output, by rw [setRow_size]; exact h.size, fun b hb hn => (setRow_other _ _ _ _ (fun e => by subst e; exact hn (ha hb))).trans (h.block b hb hn)⟩
theorem Kept.grown (h : Kept S w w') {row : Option Nat} (hg : w'.grownBy w'' row) (hr : ∀ k, row = some k → k < w.heap.size → S k) : Kept S w w'' :=
  ⟨hg.os.trans h.os, hg.tape.trans h.tape, hg.output.trans h.output, Nat.le_trans h.size hg.size,
    fun b hb hn => (hg.block b (Nat.lt_of_lt_of_le hb h.size) (fun e => hn (hr b e.symm hb))).trans (h.block b hb hn)⟩
theorem Kept.ofGrown {row : Option Nat} (hg : w.grownBy w' row) (hr : ∀ k, row = some k → S k) : Kept S w w' :=
  (Kept.refl S w).grown hg fun k h _ => hr k h
theorem Kept.toBelow (h : Kept No w w') : Below w.heap.size w w' := ⟨h.os, h.tape, h.output, h.size, fun k hk => h.block k hk id⟩
theorem Kept.ofBelow {B : Nat} (h : Below B w w') (hB : w.heap.size ≤ B) : Kept No w w' := ⟨h.os, h.tape, h.output, h.size, fun k hk _ => h.block k (Nat.lt_of_lt_of_le hk hB)⟩
theorem Kept.ofBelow' {B : Nat} (h : Below B w w') (hB : ∀ b, b < w.heap.size → ¬ S b → b < B) : Kept S w w' := ⟨h.os, h.tape, h.output, h.size, fun k hk hn => h.block k (hB k hk hn)⟩
theorem Kept.cell (h : Kept S w w') {b o : Nat} (hb : b < w.heap.size) (hn : ¬ S b) : w'.cell? ⟨b, o, none⟩ = w.cell? ⟨b, o, none⟩ := World.cell?_of_block (w := w) (h.block b hb hn)
theorem Kept.frozen (h : Kept S w w') {b o : Nat} (hb : b < w.heap.size) (hn : ¬ S b) : w'.frozen? ⟨b, o, none⟩ = w.frozen? ⟨b, o, none⟩ := World.frozen?_of_block (w := w) (h.block b hb hn)
theorem Kept.heap (h : Kept S w w') {b : Nat} {o : Obj} (hb : w.heap[b]? = some o) (hn : ¬ S b) : w'.heap[b]? = some o := by
  have hlt : b < w.heap.size := by
    rcases Nat.lt_or_ge b w.heap.size with h | h
    · exact h
    · rw [Array.getElem?_eq_none h] at hb; exact (nomatch hb)
  rw [h.block b hlt hn, hb]
theorem Kept.lt (h : Kept S w w') {b : Nat} (hb : b < w.heap.size) : b < w'.heap.size := Nat.lt_of_lt_of_le hb h.size
end

theorem lt_of_heap {w : World} {b : Nat} {o : Obj} (hb : w.heap[b]? = some o) : b < w.heap.size := by
  rcases Nat.lt_or_ge b w.heap.size with h | h
  · exact h
  · rw [Array.getElem?_eq_none h] at hb; exact (nomatch hb)

/-- A block of cells that nobody froze. -/
def Blk (w : World) (b : Nat) (T : TypeId) (cs : List Value) : Prop := w.heap[b]? = some (.cells cs.toArray T (0, 0))
theorem Blk.lt {w : World} {b : Nat} {T : TypeId} {cs : List Value} (h : Blk w b T cs) : b < w.heap.size := lt_of_heap h
theorem Blk.cell {w : World} {b : Nat} {T : TypeId} {cs : List Value} (h : Blk w b T cs) (j : Nat) : w.cell? ⟨b, j, none⟩ = cs[j]? := by
  rw [cell_of_row w b j _ T _ h]; simp
theorem Blk.frozen {w : World} {b : Nat} {T : TypeId} {cs : List Value} (h : Blk w b T cs) (j : Nat) : w.frozen? ⟨b, j, none⟩ = false := frozen_of_row w b j _ T h
theorem Blk.kept {w w' : World} {b : Nat} {T : TypeId} {cs : List Value} {S : Nat → Prop} (h : Blk w b T cs) (k : Kept S w w') (hn : ¬ S b) : Blk w' b T cs := k.heap h hn
theorem Blk.new (w : World) (T : TypeId) (cs : List Value) : Blk (w.alloc (.cells cs.toArray T)) w.heap.size T cs := heap_alloc_new w _
theorem Blk.new' {w : World} {g : Nat} (hg : g = w.heap.size) (T : TypeId) (cs : List Value) : Blk (w.alloc (.cells cs.toArray T)) g T cs := by subst hg; exact heap_alloc_new w _
theorem Blk.drewN {w : World} {b : Nat} {T : TypeId} {cs : List Value} (h : Blk w b T cs) (n : Nat) : Blk (w.drewN n) b T cs := h
theorem Blk.alloc {w : World} {b : Nat} {T : TypeId} {cs : List Value} (h : Blk w b T cs) (o : Obj) : Blk (w.alloc o) b T cs := (Below.heap_alloc w o b h.lt).trans h
theorem Blk.setOther {w : World} {b : Nat} {T : TypeId} {cs : List Value} (h : Blk w b T cs) {a : Addr} (hne : b ≠ a.block) (u : Value) : Blk (w.setCell a u) b T cs := (heap_setCell_other w a b u hne).trans h
theorem Blk.set {w : World} {b : Nat} {T : TypeId} {cs : List Value} (h : Blk w b T cs) (i : Nat) (u : Value) : Blk (w.setCell ⟨b, i, none⟩ u) b T (cs.set i u) := by
  have := heap_setCell_same w b i cs.toArray T u h
  simpa [Blk] using this
theorem Blk.setRow {w : World} {b : Nat} {T : TypeId} {cs : List Value} (h : Blk w b T cs) (ds : List Value) : Blk (w.setRow b ds.toArray) b T ds := setRow_heap w b _ _ T _ h

/-- What lies at a slice's address reads as xs. -/
def Rd (w : World) (a : Option Addr) (xs : List Value) : Prop := ∀ j x, xs[j]? = some x → ∃ b o, a = some ⟨b, o, none⟩ ∧ w.cell? ⟨b, o + j, none⟩ = some x
/-- The block at which an address points. -/
def At (a : Option Addr) (k : Nat) : Prop := ∃ b o, a = some ⟨b, o, none⟩ ∧ k = b

theorem Rd.nil (w : World) (a : Option Addr) : Rd w a [] := fun _ _ h => by simp at h
theorem Rd.kept {w w' : World} {a : Option Addr} {xs : List Value} {S : Nat → Prop} (h : Rd w a xs) (k : Kept S w w') (hn : ∀ b, At a b → ¬ S b) : Rd w' a xs := fun j x hx => by
  obtain ⟨b, o, rfl, hc⟩ := h j x hx
  exact ⟨b, o, rfl, (k.cell (World.block_lt_of_cell? w _ hc) (hn b ⟨b, o, rfl, rfl⟩)).trans hc⟩
theorem Rd.keptNo {w w' : World} {a : Option Addr} {xs : List Value} (h : Rd w a xs) (k : Kept No w w') : Rd w' a xs := h.kept k fun _ _ h => h
theorem Rd.ofBlk {w : World} {b : Nat} {T : TypeId} {cs xs : List Value} (h : Blk w b T cs) (hx : ∀ (j : Nat) (x : Value), xs[j]? = some x → cs[j]? = some x) : Rd w (some ⟨b, 0, none⟩) xs := fun j x hj => ⟨b, 0, rfl, by rw [Nat.zero_add, h.cell]; exact hx j x hj⟩
theorem Rd.ofBlk' {w : World} {b : Nat} {T : TypeId} {cs : List Value} (h : Blk w b T cs) : Rd w (some ⟨b, 0, none⟩) cs := Rd.ofBlk h fun _ _ h => h
theorem Rd.addr {w : World} {a : Option Addr} {xs : List Value} (h : Rd w a xs) (h0 : 0 < xs.length) : ∃ b o, a = some ⟨b, o, none⟩ ∧ b < w.heap.size := by
  obtain ⟨b, o, e, hc⟩ := h 0 xs[0] (by simp [h0])
  exact ⟨b, o, e, World.block_lt_of_cell? w _ hc⟩
theorem Rd.at {w : World} {b o : Nat} {xs : List Value} (h : Rd w (some ⟨b, o, none⟩) xs) (j : Nat) (hj : j < xs.length) : w.cell? ⟨b, o + j, none⟩ = some xs[j] := by
  obtain ⟨b', o', e, hc⟩ := h j xs[j] (by simp [hj])
  simp only [Option.some.injEq, Addr.mk.injEq, and_true] at e
  obtain ⟨rfl, rfl⟩ := e
  exact hc
theorem Rd.src {w : World} {a : Option Addr} {xs : List Value} (h : Rd w a xs) (h0 : 0 < xs.length) : ∃ ad, a = some ad ∧ ∀ j v, xs[j]? = some v → w.cell? (ad.add j) = some v := by
  obtain ⟨b, o, rfl, _⟩ := h.addr h0
  refine ⟨_, rfl, fun j v hj => ?_⟩
  obtain ⟨b', o', e, hc⟩ := h j v hj
  simp only [Option.some.injEq, Addr.mk.injEq, and_true] at e
  obtain ⟨rfl, rfl⟩ := e
  have : (⟨b, o, none⟩ : Addr).add j = ⟨b, o + j, none⟩ := by
    unfold Addr.add; split
    · subst_vars; rfl
    · rfl
  rw [this]; exact hc
theorem Rd.take {w : World} {a : Option Addr} {xs : List Value} (h : Rd w a xs) (n : Nat) : Rd w a (xs.take n) := fun j x hj => h j x (by
  rw [List.getElem?_take] at hj; split at hj
  · exact hj
  · exact (nomatch hj))

/-- Bytes as cells. -/
def bcells (l : List UInt8) : List Value := l.map fun b => .int .u8 b.toNat
@[simp] theorem bcells_length (l : List UInt8) : (bcells l).length = l.length := by simp [bcells]
theorem bcells_one (l : List UInt8) : ∀ u ∈ bcells l, u.oneCell' = true := by
  intro u hu; simp only [bcells, List.mem_map] at hu; obtain ⟨b, _, rfl⟩ := hu; rfl
theorem bcells_get (l : List UInt8) (j : Nat) (h : j < l.length) : (bcells l)[j]? = some (.int .u8 l[j].toNat) := by simp [bcells, h]

/-- A slice of bytes of which a call has just made the array. -/
def FreshB (w w' : World) (T : TypeId) (v : Value) (l : List UInt8) : Prop :=
  ∃ g, v = .slice (some ⟨g, 0, none⟩) l.length l.length ∧ w.heap.size ≤ g ∧ Blk w' g T (bcells l)

end Go.PM

namespace Go.PM
open Go.RowKit

/-- The call returned, and X holds of the value and the world. -/
def Ret (X : Value → World → Prop) (e : Ending) (w : World) : Prop := ∃ v, e = .returned v ∧ X v w
theorem Ret.mk {X : Value → World → Prop} {v : Value} {w : World} (h : X v w) : Ret X (.returned v) w := ⟨v, rfl, h⟩

/-- A slice (address a, n elements of s cells, capacity cap) that owns its array: nil, or at the head of a block of its own. -/
structure Own (w : World) (T : TypeId) (s : Nat) (a : Option Addr) (n cap : Nat) (xs : List Value) : Prop where
  len : xs.length = n * s
  le : n ≤ cap
  max : cap ≤ maxLen
  row : (a = none ∧ n = 0 ∧ cap = 0) ∨ ∃ g cur, a = some ⟨g, 0, none⟩ ∧ Blk w g T cur ∧ cur.length = cap * s ∧ cur.take (n * s) = xs

section
variable {w w' : World} {T : TypeId} {s : Nat} {a : Option Addr} {n cap : Nat} {xs : List Value}

theorem Own.nil (w : World) (T : TypeId) (s : Nat) : Own w T s none 0 0 [] := ⟨by simp, Nat.le_refl _, by simp [maxLen], .inl ⟨rfl, rfl, rfl⟩⟩
theorem Own.ofBlk {g : Nat} {cur : List Value} (h : Blk w g T cur) (hc : cur.length = cap * s) (hl : n ≤ cap) (hm : cap ≤ maxLen) : Own w T s (some ⟨g, 0, none⟩) n cap (cur.take (n * s)) :=
  ⟨by rw [List.length_take, hc]; exact Nat.min_eq_left (Nat.mul_le_mul_right _ hl), hl, hm, .inr ⟨g, cur, rfl, h, hc, rfl⟩⟩
theorem Own.full {g : Nat} (h : Blk w g T xs) (hc : xs.length = n * s) (hm : n ≤ maxLen) : Own w T s (some ⟨g, 0, none⟩) n n xs :=
  ⟨hc, Nat.le_refl _, hm, .inr ⟨g, xs, rfl, h, hc, List.take_of_length_le (by omega)⟩⟩
theorem Own.kept {S : Nat → Prop} (h : Own w T s a n cap xs) (k : Kept S w w') (hn : ∀ b, At a b → ¬ S b) : Own w' T s a n cap xs :=
  ⟨h.len, h.le, h.max, h.row.imp id fun ⟨g, cur, ha, hb, hc, ht⟩ => ⟨g, cur, ha, hb.kept k (hn g ⟨g, 0, ha, rfl⟩), hc, ht⟩⟩
theorem Own.keptNo (h : Own w T s a n cap xs) (k : Kept No w w') : Own w' T s a n cap xs := h.kept k fun _ _ h => h
theorem Own.rd (h : Own w T s a n cap xs) : Rd w a xs := by
  rcases h.row with ⟨_, hn, _⟩ | ⟨g, cur, rfl, hb, _, ht⟩
  · have := h.len
    have : xs = [] := List.eq_nil_of_length_eq_zero (by rw [this, hn]; simp)
    subst this; exact Rd.nil _ _
  · exact Rd.ofBlk hb fun j x hj => by
      rw [← ht, List.getElem?_take] at hj
      split at hj
      · exact hj
      · exact (nomatch hj)
theorem Own.lt (h : Own w T s a n cap xs) : ∀ b, At a b → b < w.heap.size := by
  rintro b ⟨g, o, rfl, rfl⟩
  rcases h.row with ⟨h', _⟩ | ⟨g, cur, h', hb, _⟩
  · cases h'
  · simp only [Option.some.injEq, Addr.mk.injEq] at h'; obtain ⟨rfl, _⟩ := h'; exact hb.lt
theorem Own.toRow (h : Own w T s a n cap xs) : w.ownsRow 0 T s (.slice a n cap) n xs :=
  ⟨h.len, h.row.imp (fun ⟨h1, h2, h3⟩ => ⟨by rw [h1, h2, h3], h2⟩) fun ⟨g, cur, ha, hb, hc, ht⟩ => ⟨g, cap, cur.toArray, by rw [ha], Nat.zero_le _, hb, h.le, h.max, by simpa using hc, by simpa using ht⟩⟩
theorem Own.ofRow {v : Value} (h : w.ownsRow 0 T s v n xs) : ∃ a cap, v = .slice a n cap ∧ Own w T s a n cap xs := by
  obtain ⟨hl, ⟨rfl, rfl⟩ | ⟨g, cap, cur, rfl, _, hb, hle, hm, hc, ht⟩⟩ := h
  · exact ⟨none, 0, rfl, hl, Nat.le_refl _, by simp [maxLen], .inl ⟨rfl, rfl, rfl⟩⟩
  · exact ⟨_, cap, rfl, hl, hle, hm, .inr ⟨g, cur.toList, rfl, hb, by simpa using hc, ht⟩⟩
theorem Own.block {g : Nat} (h : Own w T s (some ⟨g, 0, none⟩) n cap xs) : ∃ cur, Blk w g T cur ∧ cur.length = cap * s ∧ cur.take (n * s) = xs := by
  rcases h.row with ⟨h', _⟩ | ⟨g, cur, h', r⟩
  · cases h'
  · simp only [Option.some.injEq, Addr.mk.injEq, and_true] at h'; subst h'; exact ⟨cur, r⟩
/-- Its address: none, or a block's head. -/
theorem Own.addr (h : Own w T s a n cap xs) : a = none ∧ n = 0 ∧ cap = 0 ∧ xs = [] ∨ ∃ g, a = some ⟨g, 0, none⟩ ∧ g < w.heap.size := by
  rcases h.row with ⟨h1, h2, h3⟩ | ⟨g, cur, h', hb, _⟩
  · exact .inl ⟨h1, h2, h3, List.eq_nil_of_length_eq_zero (by rw [h.len, h2]; simp)⟩
  · exact .inr ⟨g, h', hb.lt⟩
end

theorem take_splice_at {α : Type} (L : List α) (off : Nat) (cs : List α) (h : off ≤ L.length) : (splice L off cs).take off = L.take off := by
  unfold splice
  rw [List.take_append_of_le_length (by rw [List.length_take]; omega), List.take_take, Nat.min_self]
theorem take_splice_end {α : Type} (L : List α) (off : Nat) (cs : List α) (h : off ≤ L.length) : (splice L off cs).take (off + cs.length) = L.take off ++ cs := by
  unfold splice
  rw [← List.append_assoc]
  have : off + cs.length = (L.take off ++ cs).length := by rw [List.length_append, List.length_take]; omega
  rw [this]; exact List.take_left

/-- What an append makes of an owned slice. -/
structure Appended (w w' : World) (T : TypeId) (s : Nat) (a : Option Addr) (a' : Option Addr) (n' cap' : Nat) (ys : List Value) : Prop where
  own : Own w' T s a' n' cap' ys
  kept : Kept (At a) w w'
  at_ : ∀ k, At a' k → At a k ∨ w.heap.size ≤ k

section
variable {P : Program} (w : World)

theorem run_append (t ty e : TypeId) (i : TypeInfo) (z : Value) (size bytes : Nat) (ht : P.underlying t = some (.slice e)) (hi : P.info? e = some i) (hz : i.zero = some z)
    (hsize : i.size = size) (hby : i.bytes = bytes) (hzs : z.cells.size = size) (hsz : 0 < size)
    (a : Option Addr) (n cap : Nat) (xs : List Value) (hown : Own w e size a n cap xs)
    (a2 : Option Addr) (m c : Nat) (news : List Value) (hc : a2 = none → c = 0) (hl : news.length = m * size) (hnews : Rd w a2 news) (h1 : ∀ u ∈ news, u.oneCell' = true)
    (h63 : n + m ≤ maxLen) (hbytes : (n + m) * bytes ≤ 140737488355328) :
    ∃ a' cap' w', (Builtin.append_ #[t, t] ty #[.slice a n cap, .slice a2 m c]).run P w = .ok (.slice a' (n + m) cap') w' ∧ Appended w w' e size a a' (n + m) cap' (xs ++ news) := by
  cases a2 with
  | none =>
    have hm : m = 0 := by
      rcases Nat.eq_zero_or_pos m with h | h
      · exact h
      · have : 0 < news.length := by rw [hl]; exact Nat.mul_pos h hsz
        obtain ⟨b, o, h', _⟩ := hnews.addr this; cases h'
    subst hm
    have hn0 : news = [] := List.eq_nil_of_length_eq_zero (by simpa using hl)
    subst hn0
    have hc0 : c = 0 := hc rfl
    subst hc0
    refine ⟨a, cap, w, by simpa using run_append_owned_none (P := P) w 0 t ty e i size ht hi _ n xs hown.toRow, ?_⟩
    simp only [List.append_nil, Nat.add_zero]
    exact ⟨hown, Kept.refl _ _, fun k h => .inl h⟩
  | some ad =>
    have hsrc : ∀ j u, news[j]? = some u → w.cell? (ad.add j) = some u := by
      intro j u hj
      have h0 : 0 < news.length := by have := (List.getElem?_eq_some_iff.1 hj).1; omega
      obtain ⟨ad', e', h'⟩ := hnews.src h0
      cases e'; exact h' j u hj
    obtain ⟨v', w', hr, ho, hg, _⟩ := run_append_own (P := P) w 0 t ty e i z size bytes ht hi hz hsize hby hzs hsz _ n xs hown.toRow ad m c news hl hsrc h1 h63 hbytes (Nat.zero_le _)
    obtain ⟨a', cap', rfl, ho'⟩ := Own.ofRow ho
    have hrow : ∀ k, (Value.slice a n cap).ownBlock = some k → At a k := by
      intro k hk
      rcases hown.addr with ⟨rfl, _⟩ | ⟨g, rfl, _⟩
      · simp [Value.ownBlock] at hk
      · simp [Value.ownBlock] at hk; exact ⟨g, 0, rfl, hk.symm⟩
    have hk : Kept (At a) w w' := Kept.ofGrown hg hrow
    refine ⟨a', cap', w', hr, ho', hk, ?_⟩
    rintro k ⟨g, o, rfl, rfl⟩
    -- the new array: the old one, or beyond all
    rcases Nat.lt_or_ge k w.heap.size with hlt | hge
    · left
      rcases hown.addr with ⟨rfl, rfl, rfl, rfl⟩ | ⟨g0, rfl, _⟩
      · rcases ho'.addr with ⟨h', _⟩ | ⟨g1, h', _⟩
        · cases h'
        · simp only [Option.some.injEq, Addr.mk.injEq] at h'; obtain ⟨rfl, _⟩ := h'
          exfalso
          by_cases hm : m = 0
          · subst hm
            have := run_append_owned_none (P := P) w 0 t ty e i size ht hi (.slice none 0 0) 0 [] (Own.nil w e size).toRow
            have hn0 : news = [] := List.eq_nil_of_length_eq_zero (by simpa using hl)
            subst hn0
            have h0 : (Builtin.append_ #[t, t] ty #[.slice none 0 0, .slice (some ad) 0 c]).run P w = .ok (.slice none 0 0) w := by
              simp [Builtin.append_, run_underlying ht, sizeOf, typeInfo, hi, Builtin.lenOf, Builtin.firstCells, loadCells, loadCellsFrom]
            rw [h0] at hr
            simp at hr
          · have hrn := run_append_nil (P := P) w t ty e i z ht hi hz ad m c news (by rw [hsize]; exact hl) hsrc (by omega) (by simp only [maxLen] at h63; omega) (by rw [hby]; simp only [Nat.zero_add] at hbytes; omega)
            rw [hrn] at hr
            simp at hr
            try omega
      · by_cases hroom : n + m ≤ cap
        · obtain ⟨cur, hb, hcl, _⟩ := hown.block
          have hrr := run_append_room (P := P) w t ty e i ht hi g0 n cap cur.toArray hb ad m c news (by rw [hsize]; exact hl) hsrc h1 hroom (by
            rw [hsize, hl, ← Nat.add_mul]; simp only [List.size_toArray, hcl]; exact Nat.mul_le_mul_right _ hroom)
          rw [hrr] at hr
          simp only [Result.ok.injEq, Value.slice.injEq, Option.some.injEq, Addr.mk.injEq] at hr
          exact ⟨g0, 0, rfl, hr.1.1.1.symm⟩
        · exfalso
          have holds : ∀ j u, xs[j]? = some u → w.cell? ((⟨g0, 0, none⟩ : Addr).add j) = some u := by
            intro j u hj
            have h0 : 0 < xs.length := by have := (List.getElem?_eq_some_iff.1 hj).1; omega
            obtain ⟨ad', e', h'⟩ := hown.rd.src h0
            cases e'; exact h' j u hj
          have hrg := run_append_grow (P := P) w t ty e i z ht hi hz ⟨g0, 0, none⟩ n cap xs (by rw [hsize]; exact hown.len) holds ad m c news (by rw [hsize]; exact hl) hsrc (by omega) (by simp only [maxLen] at h63; omega) (by rw [hby]; exact growslice_fits (by omega) hbytes)
          rw [hrg] at hr
          simp only [Result.ok.injEq, Value.slice.injEq, Option.some.injEq, Addr.mk.injEq] at hr
          omega
    · exact .inr hge

section
variable {w}
variable {ops : Array Oper} {rest : List Oper} {o : Oper} {a : Act} {K : Act → World → Prop} {Q : Exit → Act → World → Prop} {E : Prop}

theorem step_wp (hg : o.guard = none) (h : o.wp P a w K Q) : if Region.wanted o (yielded ops a.tmps) = true then Oper.wp P o a w K Q else E := by
  rw [if_pos (by simp [Region.wanted, hg])]; exact h

theorem wp_append (s x : Operand) (t : TypeId)
    (ho : o.op = .call { callee := .builtin .append, args := #[s, x], argTypes := #[t, t] })
    (e : TypeId) (i : TypeInfo) (z : Value) (size bytes : Nat) (ht : P.underlying t = some (.slice e)) (hi : P.info? e = some i) (hz : i.zero = some z)
    (hsize : i.size = size) (hby : i.bytes = bytes) (hzs : z.cells.size = size) (hsz : 0 < size)
    (ad : Option Addr) (n cap : Nat) (xs : List Value) (hs : a.eval s = .slice ad n cap) (hown : Own w e size ad n cap xs)
    (a2 : Option Addr) (m c : Nat) (news : List Value) (hx : a.eval x = .slice a2 m c) (hc : a2 = none → c = 0) (hl : news.length = m * size) (hnews : Rd w a2 news) (h1 : ∀ u ∈ news, u.oneCell' = true)
    (h63 : n + m ≤ maxLen) (hbytes : (n + m) * bytes ≤ 140737488355328)
    (h : ∀ a' cap' w', Appended w w' e size ad a' (n + m) cap' (xs ++ news) → K (a.put o.dst (.slice a' (n + m) cap')) w') : o.wp P a w K Q := by
  obtain ⟨a', cap', w', hr, hap⟩ := run_append (P := P) w t o.type e i z size bytes ht hi hz hsize hby hzs hsz ad n cap xs hown a2 m c news hc hl hnews h1 h63 hbytes
  unfold Oper.wp execOp
  simp only [ho, resolve, invoke, builtin, Sem.run_bind, Sem.run_pure, Result.andThen_ok, List.map_toArray, List.map_cons, List.map_nil, hs, hx, hr]
  exact h a' cap' w' hap

theorem wpList_append (hg : o.guard = none) (s x : Operand) (t : TypeId)
    (ho : o.op = .call { callee := .builtin .append, args := #[s, x], argTypes := #[t, t] })
    (e : TypeId) (i : TypeInfo) (z : Value) (size bytes : Nat) (ht : P.underlying t = some (.slice e)) (hi : P.info? e = some i) (hz : i.zero = some z)
    (hsize : i.size = size) (hby : i.bytes = bytes) (hzs : z.cells.size = size) (hsz : 0 < size)
    (ad : Option Addr) (n cap : Nat) (xs : List Value) (hs : a.eval s = .slice ad n cap) (hown : Own w e size ad n cap xs)
    (a2 : Option Addr) (m c : Nat) (news : List Value) (hx : a.eval x = .slice a2 m c) (hc : a2 = none → c = 0) (hl : news.length = m * size) (hnews : Rd w a2 news) (h1 : ∀ u ∈ news, u.oneCell' = true)
    (h63 : n + m ≤ maxLen) (hbytes : (n + m) * bytes ≤ 140737488355328)
    (h : ∀ a' cap' w', Appended w w' e size ad a' (n + m) cap' (xs ++ news) → wpList P ops Q rest (a.put o.dst (.slice a' (n + m) cap')) w') : wpList P ops Q (o :: rest) a w :=
  wpList_plain hg fun _ hK => wp_append s x t ho e i z size bytes ht hi hz hsize hby hzs hsz ad n cap xs hs hown a2 m c news hx hc hl hnews h1 h63 hbytes fun a' c' w' h2 => hK _ _ (h a' c' w' h2)

theorem wp_copy (d s : Operand) (dT sT : TypeId)
    (ho : o.op = .call { callee := .builtin .copy, args := #[d, s], argTypes := #[dT, sT] }) (elem : TypeId) (hu : P.underlying dT = some (.slice elem)) (hsz : (P.info? elem).map (·.size) = some 1)
    (g off dLen dCap : Nat) (sp : Option Addr) (sLen sCap : Nat) (hd : a.eval d = .slice (some ⟨g, off, none⟩) dLen dCap) (hs : a.eval s = .slice sp sLen sCap)
    (T : TypeId) (cur : List Value) (hb : Blk w g T cur) (cs : List Value) (hn : cs.length = Nat.min sLen dLen) (hsrc : Rd w sp cs)
    (hfit : off + cs.length ≤ cur.length) (h1 : ∀ v ∈ cs, v.oneCell' = true)
    (h : K (a.put o.dst (.int .i64 cs.length)) (w.setRow g (splice cur off cs).toArray)) : o.wp P a w K Q := by
  by_cases h0 : cs.length = 0
  · obtain rfl : cs = [] := List.eq_nil_of_length_eq_zero h0
    have hrun := run_copy_none (P := P) w dT sT o.type elem (some ⟨g, off, none⟩) sp dLen dCap sLen sCap hu hsz (by simpa using hn.symm)
    have hsame : w.setRow g (splice cur off []).toArray = w := by
      have : splice cur off [] = cur := by simp [splice]
      rw [this]; exact setRow_self w g _ T _ hb
    rw [hsame] at h
    unfold Oper.wp
    simp [execOp, ho, resolve, invoke, builtin, hd, hs, hrun, Result.andThen]
    exact h
  · obtain ⟨ad, rfl, hsrc'⟩ := hsrc.src (by omega)
    have hrun := run_copy_row (P := P) w dT sT o.type elem g off dLen dCap ad sLen sCap cur.toArray T cs hu hsz hb hn hsrc' (by simpa using hfit) h1
    unfold Oper.wp
    have hrun' : (Builtin.copy_ #[dT, sT] o.type #[.slice (some ⟨g, off, none⟩) dLen dCap, .slice (some ad) sLen sCap]).run P w = .ok (.int .i64 cs.length) (w.setRow g (splice cur off cs).toArray) := by
      rw [hrun]; simp [splice, goInt]
    simp [execOp, ho, resolve, invoke, builtin, hd, hs, hrun', Result.andThen]
    exact h

theorem wpList_copy (hg : o.guard = none) (d s : Operand) (dT sT : TypeId)
    (ho : o.op = .call { callee := .builtin .copy, args := #[d, s], argTypes := #[dT, sT] }) (elem : TypeId) (hu : P.underlying dT = some (.slice elem)) (hsz : (P.info? elem).map (·.size) = some 1)
    (g off dLen dCap : Nat) (sp : Option Addr) (sLen sCap : Nat) (hd : a.eval d = .slice (some ⟨g, off, none⟩) dLen dCap) (hs : a.eval s = .slice sp sLen sCap)
    (T : TypeId) (cur : List Value) (hb : Blk w g T cur) (cs : List Value) (hn : cs.length = Nat.min sLen dLen) (hsrc : Rd w sp cs)
    (hfit : off + cs.length ≤ cur.length) (h1 : ∀ v ∈ cs, v.oneCell' = true)
    (h : wpList P ops Q rest (a.put o.dst (.int .i64 cs.length)) (w.setRow g (splice cur off cs).toArray)) : wpList P ops Q (o :: rest) a w :=
  wpList_plain hg fun _ hK => wp_copy d s dT sT ho elem hu hsz g off dLen dCap sp sLen sCap hd hs T cur hb cs hn hsrc hfit h1 (hK _ _ h)

/-- A whole fresh array of one-cell elements is copied over: the array lies last. -/
theorem wpList_copy_last {w0 : World} (hg : o.guard = none) (d s : Operand) (dT sT : TypeId)
    (ho : o.op = .call { callee := .builtin .copy, args := #[d, s], argTypes := #[dT, sT] }) (elem : TypeId) (hu : P.underlying dT = some (.slice elem)) (hsz : (P.info? elem).map (·.size) = some 1)
    (g n dCap : Nat) (sp : Option Addr) (sCap : Nat) (hd : a.eval d = .slice (some ⟨g, 0, none⟩) n dCap) (hs : a.eval s = .slice sp n sCap) (hgw : g = w0.heap.size)
    (T : TypeId) (cur : List Value) (hcur : cur.length = n) (cs : List Value) (hn : cs.length = n) (hsrc : Rd w0 sp cs) (h1 : ∀ v ∈ cs, v.oneCell' = true)
    (h : wpList P ops Q rest (a.put o.dst (.int .i64 n)) (w0.alloc (.cells cs.toArray T))) : wpList P ops Q (o :: rest) a (w0.alloc (.cells cur.toArray T)) := by
  subst hgw
  have hb := Blk.new w0 T cur
  refine wpList_copy hg d s dT sT ho elem hu hsz w0.heap.size 0 n dCap sp n sCap hd hs T cur hb cs (by rw [hn]; exact (Nat.min_self n).symm) (hsrc.keptNo ((Kept.refl No w0).alloc _)) (by omega) h1 ?_
  have e1 : splice cur 0 cs = cs := by simp [splice]; omega
  have e2 : (w0.alloc (.cells cur.toArray T)).setRow w0.heap.size cs.toArray = w0.alloc (.cells cs.toArray T) := by
    unfold World.setRow World.alloc
    congr 1
    apply Array.ext_getElem?
    intro k
    rw [Array.getElem?_modify, Array.getElem?_push, Array.getElem?_push]
    by_cases hk : k = w0.heap.size
    · simp [hk]
    · simp [hk, Ne.symm hk]
  rw [e1, e2, hn]
  exact h

/-- append within the capacity of a known block, wherever the source lies. -/
theorem wp_append_room (s x : Operand) (t : TypeId)
    (ho : o.op = .call { callee := .builtin .append, args := #[s, x], argTypes := #[t, t] })
    (e : TypeId) (i : TypeInfo) (size : Nat) (ht : P.underlying t = some (.slice e)) (hi : P.info? e = some i) (hsize : i.size = size) (hsz : 0 < size)
    (g n cap : Nat) (cur : List Value) (hs : a.eval s = .slice (some ⟨g, 0, none⟩) n cap) (hb : Blk w g e cur)
    (a2 : Option Addr) (m c : Nat) (news : List Value) (hx : a.eval x = .slice a2 m c) (hc : a2 = none → c = 0) (hl : news.length = m * size) (hnews : Rd w a2 news) (h1 : ∀ u ∈ news, u.oneCell' = true)
    (hroom : n + m ≤ cap) (hfit : n * size + news.length ≤ cur.length)
    (h : K (a.put o.dst (.slice (some ⟨g, 0, none⟩) (n + m) cap)) (w.setRow g (splice cur (n * size) news).toArray)) : o.wp P a w K Q := by
  subst hsize
  have hrun : (Builtin.append_ #[t, t] o.type #[.slice (some ⟨g, 0, none⟩) n cap, .slice a2 m c]).run P w = .ok (.slice (some ⟨g, 0, none⟩) (n + m) cap) (w.setRow g (splice cur (n * i.size) news).toArray) := by
    cases a2 with
    | none =>
      have hm : m = 0 := by
        rcases Nat.eq_zero_or_pos m with h | h
        · exact h
        · have : 0 < news.length := by rw [hl]; exact Nat.mul_pos h hsz
          obtain ⟨b, o, h', _⟩ := hnews.addr this; cases h'
      subst hm
      have hn0 : news = [] := List.eq_nil_of_length_eq_zero (by simpa using hl)
      subst hn0
      have hc0 : c = 0 := hc rfl
      subst hc0
      have hsame : w.setRow g (splice cur (n * i.size) []).toArray = w := by
        have : splice cur (n * i.size) [] = cur := by simp [splice]
        rw [this]; exact setRow_self w g _ e _ hb
      rw [hsame]
      have hn : n ≤ cap := by omega
      simp [Builtin.append_, run_underlying ht, sizeOf, typeInfo, hi, Builtin.lenOf, Builtin.firstCells, hn, storeCells]
    | some ad =>
      have hsrc : ∀ j u, news[j]? = some u → w.cell? (ad.add j) = some u := by
        intro j u hj
        have h0 : 0 < news.length := by have := (List.getElem?_eq_some_iff.1 hj).1; omega
        obtain ⟨ad', e', h'⟩ := hnews.src h0
        cases e'; exact h' j u hj
      have hr := run_append_room (P := P) w t o.type e i ht hi g n cap cur.toArray hb ad m c news hl hsrc h1 hroom (by simpa using hfit)
      rw [hr]; simp [splice]
  unfold Oper.wp execOp
  simp only [ho, resolve, invoke, builtin, Sem.run_bind, Sem.run_pure, Result.andThen_ok, List.map_toArray, List.map_cons, List.map_nil, hs, hx, hrun]
  exact h

/-- clear of elements of a known block. -/
theorem run_clear (t ty e : TypeId) (i : TypeInfo) (z : Value) (ht : P.underlying t = some (.slice e)) (hi : P.info? e = some i) (hz : i.zero = some z)
    (g off n c : Nat) (cur : List Value) (hb : Blk w g e cur) (h0 : 0 < n) (zs : List Value) (hzs : (Builtin.zeroCells z.cells n).toList = zs) (hfit : off + zs.length ≤ cur.length) (h1 : ∀ u ∈ zs, u.oneCell' = true) :
    (Builtin.clear_ #[t] ty #[.slice (some ⟨g, off, none⟩) n c]).run P w = .ok (.tuple #[]) (w.setRow g (splice cur off zs).toArray) := by
  subst hzs
  have hst := run_storeCells_at P g off e (Builtin.zeroCells z.cells n).toList 0 cur.toArray w hb (by simpa using hfit) h1
  obtain ⟨n, rfl⟩ : ∃ k, n = k + 1 := ⟨n - 1, by omega⟩
  simp only [Nat.add_zero] at hst
  simp [Builtin.clear_, run_underlying ht, zeroValue, typeInfo, hi, hz, hst, splice]

theorem wp_clear (s : Operand) (t : TypeId)
    (ho : o.op = .call { callee := .builtin .clear, args := #[s], argTypes := #[t] })
    (e : TypeId) (i : TypeInfo) (z : Value) (ht : P.underlying t = some (.slice e)) (hi : P.info? e = some i) (hz : i.zero = some z)
    (g off n c : Nat) (cur : List Value) (hs : a.eval s = .slice (some ⟨g, off, none⟩) n c) (hb : Blk w g e cur) (h0 : 0 < n) (zs : List Value) (hzs : (Builtin.zeroCells z.cells n).toList = zs) (hfit : off + zs.length ≤ cur.length) (h1 : ∀ u ∈ zs, u.oneCell' = true)
    (h : K (a.put o.dst (.tuple #[])) (w.setRow g (splice cur off zs).toArray)) : o.wp P a w K Q := by
  have hrun := run_clear (P := P) t o.type e i z ht hi hz g off n c cur hb h0 zs hzs hfit h1
  unfold Oper.wp execOp
  simp only [ho, resolve, invoke, builtin, Sem.run_bind, Sem.run_pure, Result.andThen_ok, List.map_toArray, List.map_cons, List.map_nil, hs, hrun]
  exact h

theorem wpList_clear (hg : o.guard = none) (s : Operand) (t : TypeId)
    (ho : o.op = .call { callee := .builtin .clear, args := #[s], argTypes := #[t] })
    (e : TypeId) (i : TypeInfo) (z : Value) (ht : P.underlying t = some (.slice e)) (hi : P.info? e = some i) (hz : i.zero = some z)
    (g off n c : Nat) (cur : List Value) (hs : a.eval s = .slice (some ⟨g, off, none⟩) n c) (hb : Blk w g e cur) (h0 : 0 < n) (zs : List Value) (hzs : (Builtin.zeroCells z.cells n).toList = zs) (hfit : off + zs.length ≤ cur.length) (h1 : ∀ u ∈ zs, u.oneCell' = true)
    (h : wpList P ops Q rest (a.put o.dst (.tuple #[])) (w.setRow g (splice cur off zs).toArray)) : wpList P ops Q (o :: rest) a w :=
  wpList_plain hg fun _ hK => wp_clear s t ho e i z ht hi hz g off n c cur hs hb h0 zs hzs hfit h1 (hK _ _ h)

/-- The zero cells of n elements. -/
def zrow (z : Value) (n : Nat) : List Value := (madeCells z.cells (n * z.cells.size)).toList
theorem zrow_length (z : Value) (n : Nat) : (zrow z n).length = n * z.cells.size := by simp [zrow, madeCells]
theorem zrow_one (z : Value) (h : z.cells = #[z]) (n : Nat) : zrow z n = List.replicate n z := by
  unfold zrow; rw [h]; simpa using toList_madeCells_one z n

theorem wpList_make (hg : o.guard = none) (l c : Operand) (t : TypeId) (hop : o.op = Op.makeSlice t l c)
    (e : TypeId) (i : TypeInfo) (z : Value) (h1 : P.underlying t = some (.slice e)) (h2 : P.info? e = some i) (h3 : i.zero = some z) (size bytes : Nat) (h4' : i.size = size) (h5 : i.bytes = bytes) (h6 : z.cells.size = size)
    (kl kc : IntKind) (L C : Int) (n m : Nat) (hl : a.eval l = .int kl L) (hc : a.eval c = .int kc C) (hL : L = (n : Int)) (hC : C = (m : Int)) (hnm : n ≤ m) (b2 : bytes * m ≤ 281474976710656) (b3 : m ≤ 9223372036854775807)
    (hK : wpList P ops Q rest (a.put o.dst (.slice (some ⟨w.heap.size, 0, none⟩) n m)) (w.alloc (.cells (zrow z m).toArray e))) :
    wpList P ops Q (o :: rest) a w := by
  refine wpList_plain hg fun K hK' => ?_
  subst h5
  have h4 : i.size = z.cells.size := h4'.trans h6.symm
  have hb2 : (i.bytes : Int) * (m : Int) ≤ 281474976710656 := by
    have h : ((i.bytes * m : Nat) : Int) ≤ 281474976710656 := by omega
    rwa [Int.natCast_mul] at h
  have hrun := run_make (P := P) w t e i z h1 h2 h3 kl kc (n : Int) (m : Int) (by omega) (by omega) hb2 (by omega)
  subst hL
  subst hC
  have hrun' : (Instr.makeSlice t (.int kl (n : Int)) (.int kc (m : Int))).run P w = .ok (.slice (some ⟨w.heap.size, 0, none⟩) n m) (w.alloc (.cells (zrow z m).toArray e)) := by
    rw [hrun]; simp [zrow, h4]
  unfold Oper.wp
  simp [execOp, hop, hl, hc, hrun', Result.andThen]
  exact hK' _ _ hK
end
end
end Go.PM

namespace Go.PM
open Go.RowKit

section
variable {P : Program} {w : World} {ops : Array Oper} {rest : List Oper} {o : Oper} {a : Act} {K : Act → World → Prop} {Q : Exit → Act → World → Prop} {E : Prop}

theorem wpList_go (hw : Region.wanted o (yielded ops a.tmps) = true)
    (h : ∀ K : Act → World → Prop, (∀ a w, wpList P ops Q rest a w → K a w) → o.wp P a w K Q) : wpList P ops Q (o :: rest) a w :=
  wpList_step fun K hK => by rw [if_pos hw]; exact h K hK

theorem step_go (hw : Region.wanted o (yielded ops a.tmps) = true) (h : o.wp P a w K Q) : if Region.wanted o (yielded ops a.tmps) = true then Oper.wp P o a w K Q else E := by
  rw [if_pos hw]; exact h

theorem foldl_bytes (l : List UInt8) (s : ByteArray) : (l.map fun b => (b.toNat : Int)).foldl (fun r n => r.push (UInt8.ofNat n.toNat)) s = ⟨s.data ++ l.toArray⟩ := by
  induction l generalizing s with
  | nil => cases s; simp
  | cons b l ih =>
    rw [List.map_cons, List.foldl_cons, ih]
    congr 1
    cases s
    simp [ByteArray.push]

theorem run_conv_bytes (src dst e : TypeId) (hs : P.underlying src = some (.slice e)) (he : P.underlying e = some (.int .u8)) (hd : P.underlying dst = some .string)
    (ad : Option Addr) (c : Nat) (l : List UInt8) (hr : Rd w ad (bcells l)) : (convert src dst (.slice ad l.length c)).run P w = .ok (.string ⟨l.toArray⟩) w := by
  rw [run_convert_bytes_string w src dst e ad l.length c hs he hd]
  cases ad with
  | none =>
    have : l = [] := by
      cases l with
      | nil => rfl
      | cons b l => obtain ⟨_, _, h, _⟩ := hr.addr (by simp); cases h
    subst this
    rfl
  | some ad =>
    have hsrc : ∀ j u, (bcells l)[j]? = some u → w.cell? (ad.add j) = some u := by
      intro j u hj
      have h0 : 0 < (bcells l).length := by have := (List.getElem?_eq_some_iff.1 hj).1; omega
      obtain ⟨ad', e', h'⟩ := hr.src h0
      cases e'; exact h' j u hj
    have hl := run_loadCells_list (P := P) w ad (bcells l) hsrc
    have e1 : bcells l = (l.map fun b => (b.toNat : Int)).map (Value.int .u8) := by simp [bcells]
    rw [bcells_length, e1] at hl
    rw [run_bytesToString w ad l.length c _ hl, foldl_bytes]
    congr 2
    simp [ByteArray.empty, ByteArray.emptyWithCapacity]
    rfl

theorem wp_conv_bytes (src dst : TypeId) (x : Operand) (hop : o.op = Op.convert src dst x) (e : TypeId) (hs : P.underlying src = some (.slice e)) (he : P.underlying e = some (.int .u8)) (hd : P.underlying dst = some .string)
    (ad : Option Addr) (c : Nat) (l : List UInt8) (hx : a.eval x = .slice ad l.length c) (hr : Rd w ad (bcells l)) (h : K (a.put o.dst (.string ⟨l.toArray⟩)) w) : o.wp P a w K Q := by
  have hrun := run_conv_bytes (P := P) src dst e hs he hd ad c l hr
  unfold Oper.wp
  simp only [execOp, hop, hx, hrun, Sem.run_bind, Result.andThen_ok, Sem.run_pure]
  exact h

theorem wpList_conv_bytes (hw : Region.wanted o (yielded ops a.tmps) = true) (src dst : TypeId) (x : Operand) (hop : o.op = Op.convert src dst x) (e : TypeId) (hs : P.underlying src = some (.slice e)) (he : P.underlying e = some (.int .u8)) (hd : P.underlying dst = some .string)
    (ad : Option Addr) (c : Nat) (l : List UInt8) (hx : a.eval x = .slice ad l.length c) (hr : Rd w ad (bcells l)) (h : wpList P ops Q rest (a.put o.dst (.string ⟨l.toArray⟩)) w) : wpList P ops Q (o :: rest) a w :=
  wpList_go hw fun _ hK => wp_conv_bytes src dst x hop e hs he hd ad c l hx hr (hK _ _ h)

/-- []byte of a constant: the array was laid last. -/
theorem wpList_conv_const {w0 : World} (hw : Region.wanted o (yielded ops a.tmps) = true) (t : TypeId) (x : Operand) (hop : o.op = Op.convert t t x) (e : TypeId) (ht : P.underlying t = some (.slice e)) (he : P.underlying e = some (.int .u8))
    (g n c : Nat) (C : Array Value) (hgw : g = w0.heap.size) (hx : a.eval x = .slice (some ⟨g, 0, none⟩) n c)
    (h : wpList P ops Q rest (a.put o.dst (.slice (some ⟨g, 0, none⟩) n c)) (w0.alloc (.cells C e (C.size, C.size + 1)))) : wpList P ops Q (o :: rest) a (w0.alloc (.cells C e)) := by
  subst hgw
  refine wpList_go hw fun K hK => ?_
  have hrun := Lib.run_convert_bytes_const (P := P) w0 t e C n c ht he
  unfold Oper.wp
  simp only [execOp, hop, hx, hrun, Sem.run_bind, Result.andThen_ok, Sem.run_pure]
  exact hK _ _ h

theorem Rd.marked {w0 : World} {g : Nat} (hg : g = w0.heap.size) (T : TypeId) (cs : List Value) (fr : Nat × Nat) : Rd (w0.alloc (.cells cs.toArray T fr)) (some ⟨g, 0, none⟩) cs := by
  subst hg
  intro j x hj
  refine ⟨_, _, rfl, ?_⟩
  have : (w0.alloc (.cells cs.toArray T fr)).heap[w0.heap.size]? = some (.cells cs.toArray T fr) := heap_alloc_new w0 _
  simp only [World.cell?, this, Nat.zero_add]
  simpa using hj
end
end Go.PM

namespace Go.PM
open Go.RowKit

/-- A slice (address a, n elements of s cells, capacity cap) that alone writes its part of its array, which may be longer. -/
structure Owns (w : World) (T : TypeId) (s : Nat) (a : Option Addr) (n cap : Nat) (xs : List Value) : Prop where
  len : xs.length = n * s
  le : n ≤ cap
  max : cap ≤ maxLen
  row : (a = none ∧ n = 0 ∧ cap = 0) ∨ ∃ g cur, a = some ⟨g, 0, none⟩ ∧ Blk w g T cur ∧ cap * s ≤ cur.length ∧ cur.take (n * s) = xs

section
variable {w w' : World} {T : TypeId} {s : Nat} {a : Option Addr} {n cap : Nat} {xs : List Value}

theorem Own.owns (h : Own w T s a n cap xs) : Owns w T s a n cap xs := ⟨h.len, h.le, h.max, h.row.imp id fun ⟨g, cur, h1, h2, h3, h4⟩ => ⟨g, cur, h1, h2, Nat.le_of_eq h3.symm, h4⟩⟩
theorem Owns.nil (w : World) (T : TypeId) (s : Nat) : Owns w T s none 0 0 [] := (Own.nil w T s).owns
theorem Owns.kept {S : Nat → Prop} (h : Owns w T s a n cap xs) (k : Kept S w w') (hn : ∀ b, At a b → ¬ S b) : Owns w' T s a n cap xs :=
  ⟨h.len, h.le, h.max, h.row.imp id fun ⟨g, cur, ha, hb, hc, ht⟩ => ⟨g, cur, ha, hb.kept k (hn g ⟨g, 0, ha, rfl⟩), hc, ht⟩⟩
theorem Owns.keptNo (h : Owns w T s a n cap xs) (k : Kept No w w') : Owns w' T s a n cap xs := h.kept k fun _ _ h => h
theorem Owns.rd (h : Owns w T s a n cap xs) : Rd w a xs := by
  rcases h.row with ⟨_, hn, _⟩ | ⟨g, cur, rfl, hb, _, ht⟩
  · have := h.len
    have : xs = [] := List.eq_nil_of_length_eq_zero (by rw [this, hn]; simp)
    subst this; exact Rd.nil _ _
  · exact Rd.ofBlk hb fun j x hj => by
      rw [← ht, List.getElem?_take] at hj
      split at hj
      · exact hj
      · exact (nomatch hj)
theorem Owns.lt (h : Owns w T s a n cap xs) : ∀ b, At a b → b < w.heap.size := by
  rintro b ⟨g, o, rfl, rfl⟩
  rcases h.row with ⟨h', _⟩ | ⟨g, cur, h', hb, _⟩
  · cases h'
  · simp only [Option.some.injEq, Addr.mk.injEq] at h'; obtain ⟨rfl, _⟩ := h'; exact hb.lt
/-- Its address: none, or a block's head. -/
theorem Owns.addr (h : Owns w T s a n cap xs) : a = none ∧ n = 0 ∧ cap = 0 ∧ xs = [] ∨ ∃ g, a = some ⟨g, 0, none⟩ ∧ g < w.heap.size := by
  rcases h.row with ⟨h1, h2, h3⟩ | ⟨g, cur, h', hb, _⟩
  · exact .inl ⟨h1, h2, h3, List.eq_nil_of_length_eq_zero (by rw [h.len, h2]; simp)⟩
  · exact .inr ⟨g, h', hb.lt⟩
/-- Cut at its head: fewer elements, and no room behind them. -/
theorem Owns.cut (h : Owns w T s a n cap xs) {m c : Nat} (hm : m ≤ n) (hc : c ≤ cap) (hmc : m ≤ c) : Owns w T s a m c (xs.take (m * s)) := by
  refine ⟨by rw [List.length_take, h.len]; exact Nat.min_eq_left (Nat.mul_le_mul_right _ hm), hmc, by have := h.max; omega, ?_⟩
  rcases h.row with ⟨h1, h2, h3⟩ | ⟨g, cur, h', hb, hl, ht⟩
  · exact .inl ⟨h1, by omega, by omega⟩
  · exact .inr ⟨g, cur, h', hb, Nat.le_trans (Nat.mul_le_mul_right _ hc) hl, by rw [← ht, List.take_take, Nat.min_eq_left (Nat.mul_le_mul_right _ hm)]⟩
end

/-- What an append makes of an owned slice. -/
structure Onto (w w' : World) (T : TypeId) (s : Nat) (a : Option Addr) (a' : Option Addr) (n' cap' : Nat) (ys : List Value) : Prop where
  own : Owns w' T s a' n' cap' ys
  kept : Kept (At a) w w'
  at_ : ∀ k, At a' k → At a k ∨ w.heap.size ≤ k

section
variable {P : Program} (w : World)

theorem owns_grown (e : TypeId) (z : Value) (size : Nat) (hzs : z.cells.size = size) (n m old : Nat) (xs news : List Value) (hx : xs.length = n * size) (hl : news.length = m * size) (h63 : n + m ≤ maxLen) :
    Owns (w.drew.alloc (.cells (xs.toArray ++ news.toArray ++ Builtin.zeroCells z.cells (grownCap w (n + m) old e - (n + m))) e)) e size (some ⟨w.heap.size, 0, none⟩) (n + m) (grownCap w (n + m) old e) (xs ++ news) := by
  have hge := grownCap_ge w (n + m) old e
  have hcm : grownCap w (n + m) old e ≤ maxLen := grownCap_le_maxLen w (n + m) old e h63
  have hlen : (xs ++ news).length = (n + m) * size := by rw [List.length_append, hx, hl, Nat.add_mul]
  refine ⟨hlen, hge, hcm, .inr ⟨w.heap.size, xs ++ news ++ (Builtin.zeroCells z.cells (grownCap w (n + m) old e - (n + m))).toList, rfl, ?_, ?_, ?_⟩⟩
  · have : (xs ++ news ++ (Builtin.zeroCells z.cells (grownCap w (n + m) old e - (n + m))).toList).toArray = xs.toArray ++ news.toArray ++ Builtin.zeroCells z.cells (grownCap w (n + m) old e - (n + m)) := by
      apply Array.ext'; simp
    unfold Blk; rw [this]
    exact heap_alloc_new w.drew _
  · rw [List.length_append, hlen, Array.length_toList, size_zeroCells, hzs, ← Nat.add_mul]
    exact Nat.mul_le_mul_right _ (by omega)
  · rw [← hlen]; exact List.take_left

theorem run_onto (t ty e : TypeId) (i : TypeInfo) (z : Value) (size bytes : Nat) (ht : P.underlying t = some (.slice e)) (hi : P.info? e = some i) (hz : i.zero = some z)
    (hsize : i.size = size) (hby : i.bytes = bytes) (hzs : z.cells.size = size) (hsz : 0 < size)
    (a : Option Addr) (n cap : Nat) (xs : List Value) (hown : Owns w e size a n cap xs)
    (a2 : Option Addr) (m c : Nat) (news : List Value) (hc : a2 = none → c = 0) (hl : news.length = m * size) (hnews : Rd w a2 news) (h1 : ∀ u ∈ news, u.oneCell' = true)
    (h63 : n + m ≤ maxLen) (hbytes : (n + m) * bytes ≤ 140737488355328) :
    ∃ a' cap' w', (Builtin.append_ #[t, t] ty #[.slice a n cap, .slice a2 m c]).run P w = .ok (.slice a' (n + m) cap') w' ∧ Onto w w' e size a a' (n + m) cap' (xs ++ news) := by
  have hle := hown.le
  cases a2 with
  | none =>
    have hm : m = 0 := by
      rcases Nat.eq_zero_or_pos m with h | h
      · exact h
      · have : 0 < news.length := by rw [hl]; exact Nat.mul_pos h hsz
        obtain ⟨b, o, h', _⟩ := hnews.addr this; cases h'
    subst hm
    have hn0 : news = [] := List.eq_nil_of_length_eq_zero (by simpa using hl)
    subst hn0
    have hc0 : c = 0 := hc rfl
    subst hc0
    refine ⟨a, cap, w, ?_, ?_⟩
    · cases a <;> simp [Builtin.append_, run_underlying ht, sizeOf, typeInfo, hi, Builtin.lenOf, Builtin.firstCells, hle, storeCells]
    · simp only [List.append_nil, Nat.add_zero]
      exact ⟨hown, Kept.refl _ _, fun k h => .inl h⟩
  | some ad =>
    have hsrc : ∀ j u, news[j]? = some u → w.cell? (ad.add j) = some u := by
      intro j u hj
      have h0 : 0 < news.length := by have := (List.getElem?_eq_some_iff.1 hj).1; omega
      obtain ⟨ad', e', h'⟩ := hnews.src h0
      cases e'; exact h' j u hj
    have hsmall : n + m ≤ 9223372036854775807 := by simp only [maxLen] at h63; omega
    rcases hown.row with ⟨rfl, rfl, rfl⟩ | ⟨g, cur, rfl, hb, hcl, htk⟩
    · have hx0 : xs = [] := List.eq_nil_of_length_eq_zero (by rw [hown.len]; simp)
      subst hx0
      by_cases hm : m = 0
      · subst hm
        have hn0 : news = [] := List.eq_nil_of_length_eq_zero (by simpa using hl)
        subst hn0
        refine ⟨none, 0, w, ?_, hown, Kept.refl _ _, fun k h => .inl h⟩
        simp [Builtin.append_, run_underlying ht, sizeOf, typeInfo, hi, Builtin.lenOf, Builtin.firstCells, loadCells, loadCellsFrom]
      · have hr := run_append_nil (P := P) w t ty e i z ht hi hz ad m c news (by rw [hsize]; exact hl) hsrc (by omega) (by omega) (by rw [hby]; simp only [Nat.zero_add] at hbytes; omega)
        have ho := owns_grown w e z size hzs 0 m 0 [] news (by simp) hl h63
        simp only [Nat.zero_add, List.nil_append, Array.empty_append] at ho ⊢
        exact ⟨_, _, _, hr, ho, ((Kept.refl _ w).drew).alloc _, fun k ⟨g, o, h, h2⟩ => .inr (by cases h; omega)⟩
    · by_cases hroom : n + m ≤ cap
      · have hfit : n * size + news.length ≤ cur.length := by rw [hl, ← Nat.add_mul]; exact Nat.le_trans (Nat.mul_le_mul_right _ hroom) hcl
        have hr := run_append_room (P := P) w t ty e i ht hi g n cap cur.toArray hb ad m c news (by rw [hsize]; exact hl) hsrc h1 hroom (by rw [hsize]; simpa using hfit)
        refine ⟨_, _, _, hr, ⟨?_, hroom, hown.max, .inr ⟨g, _, rfl, hb.setRow _, ?_, ?_⟩⟩, (Kept.refl _ w).setRow (fun _ => ⟨g, 0, rfl, rfl⟩) _, fun k h => .inl h⟩
        · rw [List.length_append, hown.len, hl, Nat.add_mul]
        · rw [hsize]; simp only [List.length_append, List.length_take, List.length_drop]; omega
        · rw [hsize, htk]
          have : (n + m) * size = (xs ++ news).length := by rw [List.length_append, hown.len, hl, Nat.add_mul]
          rw [this]; exact List.take_left
      · have holds : ∀ j u, xs[j]? = some u → w.cell? ((⟨g, 0, none⟩ : Addr).add j) = some u := by
          intro j u hj
          have h0 : 0 < xs.length := by have := (List.getElem?_eq_some_iff.1 hj).1; omega
          obtain ⟨ad', e', h'⟩ := hown.rd.src h0
          cases e'; exact h' j u hj
        have hr := run_append_grow (P := P) w t ty e i z ht hi hz ⟨g, 0, none⟩ n cap xs (by rw [hsize]; exact hown.len) holds ad m c news (by rw [hsize]; exact hl) hsrc (by omega) (by omega) (by rw [hby]; exact growslice_fits (by omega) hbytes)
        exact ⟨_, _, _, hr, owns_grown w e z size hzs n m cap xs news hown.len hl h63, ((Kept.refl _ w).drew).alloc _, fun k ⟨g', o, h, h2⟩ => .inr (by cases h; omega)⟩

/-- append(nil, make(..)..): a new array. -/
theorem run_onto_zeros (t u ty e : TypeId) (k : IntKind) (i : TypeInfo) (z : Value) (size bytes : Nat) (ht : P.underlying t = some (.slice e)) (hu : P.underlying u = some (.int k)) (hi : P.info? e = some i) (hz : i.zero = some z)
    (hsize : i.size = size) (hby : i.bytes = bytes) (hzs : z.cells.size = size)
    (n : Nat) (h0 : 0 < n * size) (h63 : n ≤ maxLen) (hbytes : n * bytes ≤ 140737488355328) :
    ∃ cap' w', (Builtin.append_ #[t, u] ty #[.slice none 0 0, .int k n]).run P w = .ok (.slice (some ⟨w.heap.size, 0, none⟩) n cap') w' ∧ Owns w' e size (some ⟨w.heap.size, 0, none⟩) n cap' (Builtin.zeroCells z.cells n).toList ∧ Kept No w w' ∧ w.heap.size < w'.heap.size := by
  have hsmall : n ≤ 9223372036854775807 := by simp only [maxLen] at h63; omega
  have hn0 : ¬ n = 0 := by intro h; subst h; simp at h0
  have hw : IntKind.i64.wrap (n : Int) = (n : Int) := by rw [IntKind.wrap_i64]; omega
  have h48 : ¬ (281474976710656 < (n : Int) * (i.bytes : Int)) := by rw [hby, ← Int.natCast_mul]; omega
  have h63' : ¬ (9223372036854775807 < (n : Int)) := by omega
  have h48' : ¬ (281474976710656 < Builtin.nextslicecap n 0 * i.bytes) := by rw [nextslicecap_zero (by omega), hby]; omega
  have hneg : ¬ ((n : Int) < 0) := by omega
  have ho := owns_grown w e z size hzs 0 n 0 [] (Builtin.zeroCells z.cells n).toList (by simp) (by rw [Array.length_toList, size_zeroCells, hzs]) (by simpa using h63)
  simp only [Nat.zero_add, List.nil_append, Array.empty_append] at ho
  refine ⟨_, _, ?_, ho, ((Kept.refl _ w).drew).alloc _, by simp⟩
  simp [Builtin.append_, run_underlying ht, run_underlying hu, sizeOf, typeInfo, zeroValue, hi, hz, hn0, h63', h48, h48', hw, hneg, hsize, asInt, asIntOf, Question.forced, run_firstCells_none, newRow, grownCap]
  intro hzero; omega

section
variable {w}
variable {ops : Array Oper} {rest : List Oper} {o : Oper} {a : Act} {K : Act → World → Prop} {Q : Exit → Act → World → Prop} {E : Prop}

theorem wp_onto (s x : Operand) (t : TypeId)
    (ho : o.op = .call { callee := .builtin .append, args := #[s, x], argTypes := #[t, t] })
    (e : TypeId) (i : TypeInfo) (z : Value) (size bytes : Nat) (ht : P.underlying t = some (.slice e)) (hi : P.info? e = some i) (hz : i.zero = some z)
    (hsize : i.size = size) (hby : i.bytes = bytes) (hzs : z.cells.size = size) (hsz : 0 < size)
    (ad : Option Addr) (n cap : Nat) (xs : List Value) (hs : a.eval s = .slice ad n cap) (hown : Owns w e size ad n cap xs)
    (a2 : Option Addr) (m c : Nat) (news : List Value) (hx : a.eval x = .slice a2 m c) (hc : a2 = none → c = 0) (hl : news.length = m * size) (hnews : Rd w a2 news) (h1 : ∀ u ∈ news, u.oneCell' = true)
    (h63 : n + m ≤ maxLen) (hbytes : (n + m) * bytes ≤ 140737488355328)
    (h : ∀ a' cap' w', Onto w w' e size ad a' (n + m) cap' (xs ++ news) → K (a.put o.dst (.slice a' (n + m) cap')) w') : o.wp P a w K Q := by
  obtain ⟨a', cap', w', hr, hap⟩ := run_onto (P := P) w t o.type e i z size bytes ht hi hz hsize hby hzs hsz ad n cap xs hown a2 m c news hc hl hnews h1 h63 hbytes
  unfold Oper.wp execOp
  simp only [ho, resolve, invoke, builtin, Sem.run_bind, Sem.run_pure, Result.andThen_ok, List.map_toArray, List.map_cons, List.map_nil, hs, hx, hr]
  exact h a' cap' w' hap

theorem wpList_onto (hg : o.guard = none) (s x : Operand) (t : TypeId)
    (ho : o.op = .call { callee := .builtin .append, args := #[s, x], argTypes := #[t, t] })
    (e : TypeId) (i : TypeInfo) (z : Value) (size bytes : Nat) (ht : P.underlying t = some (.slice e)) (hi : P.info? e = some i) (hz : i.zero = some z)
    (hsize : i.size = size) (hby : i.bytes = bytes) (hzs : z.cells.size = size) (hsz : 0 < size)
    (ad : Option Addr) (n cap : Nat) (xs : List Value) (hs : a.eval s = .slice ad n cap) (hown : Owns w e size ad n cap xs)
    (a2 : Option Addr) (m c : Nat) (news : List Value) (hx : a.eval x = .slice a2 m c) (hc : a2 = none → c = 0) (hl : news.length = m * size) (hnews : Rd w a2 news) (h1 : ∀ u ∈ news, u.oneCell' = true)
    (h63 : n + m ≤ maxLen) (hbytes : (n + m) * bytes ≤ 140737488355328)
    (h : ∀ a' cap' w', Onto w w' e size ad a' (n + m) cap' (xs ++ news) → wpList P ops Q rest (a.put o.dst (.slice a' (n + m) cap')) w') : wpList P ops Q (o :: rest) a w :=
  wpList_plain hg fun _ hK => wp_onto s x t ho e i z size bytes ht hi hz hsize hby hzs hsz ad n cap xs hs hown a2 m c news hx hc hl hnews h1 h63 hbytes fun a' c' w' h2 => hK _ _ (h a' c' w' h2)

theorem wpList_zeros (hg : o.guard = none) (s x : Operand) (t u : TypeId)
    (ho : o.op = .call { callee := .builtin .append, args := #[s, x], argTypes := #[t, u] })
    (e : TypeId) (k : IntKind) (i : TypeInfo) (z : Value) (size bytes : Nat) (ht : P.underlying t = some (.slice e)) (hu : P.underlying u = some (.int k)) (hi : P.info? e = some i) (hz : i.zero = some z)
    (hsize : i.size = size) (hby : i.bytes = bytes) (hzs : z.cells.size = size)
    (n : Nat) (hs : a.eval s = .slice none 0 0) (hx : a.eval x = .int k n) (h0 : 0 < n * size) (h63 : n ≤ maxLen) (hbytes : n * bytes ≤ 140737488355328)
    (h : ∀ cap' w', Owns w' e size (some ⟨w.heap.size, 0, none⟩) n cap' (Builtin.zeroCells z.cells n).toList → Kept No w w' → w.heap.size < w'.heap.size → wpList P ops Q rest (a.put o.dst (.slice (some ⟨w.heap.size, 0, none⟩) n cap')) w') : wpList P ops Q (o :: rest) a w := by
  refine wpList_plain hg fun K hK => ?_
  obtain ⟨cap', w', hr, h1, h2, h3⟩ := run_onto_zeros (P := P) w t u o.type e k i z size bytes ht hu hi hz hsize hby hzs n h0 h63 hbytes
  unfold Oper.wp execOp
  simp only [ho, resolve, invoke, builtin, Sem.run_bind, Sem.run_pure, Result.andThen_ok, List.map_toArray, List.map_cons, List.map_nil, hs, hx, hr]
  exact hK _ _ (h cap' w' h1 h2 h3)
end
end
end Go.PM

namespace Go.PM
open Go.RowKit

/-- Cells that lie in a row. -/
def Seg (w : World) (g off : Nat) (xs : List Value) : Prop := ∀ j v, xs[j]? = some v → w.cell? ⟨g, off + j, none⟩ = some v
theorem Blk.seg {w : World} {g : Nat} {T : TypeId} {cs : List Value} (h : Blk w g T cs) (off : Nat) (xs : List Value) (hx : (cs.drop off).take xs.length = xs) : Seg w g off xs := fun j v hj => by
  rw [h.cell]
  have h1 : j < xs.length := (List.getElem?_eq_some_iff.1 hj).1
  rw [← hx, List.getElem?_take, if_pos h1, List.getElem?_drop] at hj
  exact hj
theorem Blk.seg0 {w : World} {g : Nat} {T : TypeId} {cs : List Value} (h : Blk w g T cs) : Seg w g 0 cs := h.seg 0 cs (by simp)
theorem Seg.kept {S : Nat → Prop} {w w' : World} {g off : Nat} {xs : List Value} (h : Seg w g off xs) (k : Kept S w w') (hg : ¬ S g) : Seg w' g off xs := fun j v hj => by
  have := h j v hj
  rw [k.cell (World.block_lt_of_cell? w _ this) hg]; exact this
theorem Seg.ofRd {w : World} {b o : Nat} {xs : List Value} (h : Rd w (some ⟨b, o, none⟩) xs) : Seg w b o xs := fun j v hj => by
  obtain ⟨b', o', e, hc⟩ := h j v hj
  simp only [Option.some.injEq, Addr.mk.injEq, and_true] at e
  obtain ⟨rfl, rfl⟩ := e
  exact hc
theorem Seg.sub {w : World} {g off : Nat} {xs : List Value} (h : Seg w g off xs) (k : Nat) (ys : List Value) (hy : (xs.drop k).take ys.length = ys) : Seg w g (off + k) ys := fun j v hj => by
  have h1 : j < ys.length := (List.getElem?_eq_some_iff.1 hj).1
  rw [← hy, List.getElem?_take, if_pos h1, List.getElem?_drop] at hj
  have := h _ _ hj
  rwa [← Nat.add_assoc] at this
theorem splice_length {α : Type} (L : List α) (off : Nat) (cs : List α) (h : off + cs.length ≤ L.length) : (splice L off cs).length = L.length := by
  simp only [splice, List.length_append, List.length_take, List.length_drop]; omega
theorem splice_all {α : Type} (L cs : List α) (h : cs.length = L.length) : splice L 0 cs = cs := by
  simp [splice, h]

theorem setRow_last (w0 : World) (T : TypeId) (cur cs : List Value) : (w0.alloc (.cells cur.toArray T)).setRow w0.heap.size cs.toArray = w0.alloc (.cells cs.toArray T) := by
  unfold World.setRow World.alloc
  congr 1
  apply Array.ext_getElem?
  intro k
  rw [Array.getElem?_modify, Array.getElem?_push, Array.getElem?_push]
  by_cases hk : k = w0.heap.size
  · simp [hk]
  · simp [hk, Ne.symm hk]
theorem run_storeCells_blk {P : Program} {w : World} {g : Nat} {T : TypeId} {cur : List Value} (hb : Blk w g T cur) (xs : List Value) (hl : xs.length = cur.length) (h1 : ∀ u ∈ xs, u.oneCell' = true) :
    (storeCells ⟨g, 0, none⟩ xs).run P w = .ok () (w.setRow g xs.toArray) := by
  have hst := run_storeCells_at P g 0 T xs 0 cur.toArray w hb (by simp; omega) h1
  simp only [Nat.add_zero] at hst
  rw [hst]
  have : List.drop (0 + xs.length) cur = [] := List.drop_of_length_le (by omega)
  simp [hl]
theorem run_storeCells_new {P : Program} (w : World) (T : TypeId) (cur xs : List Value) (hl : xs.length = cur.length) (h1 : ∀ u ∈ xs, u.oneCell' = true) :
    (storeCells ⟨w.heap.size, 0, none⟩ xs).run P (w.alloc (.cells cur.toArray T)) = .ok () (w.alloc (.cells xs.toArray T)) := by
  rw [run_storeCells_blk (Blk.new w T cur) xs hl h1, setRow_last]

section
variable {P : Program} {w : World} {ops : Array Oper} {rest : List Oper} {o : Oper} {a : Act} {K : Act → World → Prop} {Q : Exit → Act → World → Prop} {E : Prop}

theorem run_loadVar_seg (ty : TypeId) (ha : ∀ w, (isAgg ty).run P w = .ok true w) (n : Nat) (hs : ∀ w, (sizeOf ty).run P w = .ok n w) (g off : Nat) (xs : List Value) (hl : xs.length = n) (hr : Seg w g off xs) :
    (loadVar ty ⟨g, off, none⟩).run P w = .ok (.agg xs.toArray) w := by
  have hld : (loadCells ⟨g, off, none⟩ xs.length).run P w = .ok xs.toArray w :=
    run_loadCells_list (P := P) w ⟨g, off, none⟩ xs (fun j v hv => by
      have hadd : (⟨g, off, none⟩ : Addr).add j = ⟨g, off + j, none⟩ := by
        unfold Addr.add; split
        · subst_vars; rfl
        · rfl
      rw [hadd]; exact hr j v hv)
  simp [loadVar, Sem.run_bind, ha, hs, ← hl, hld]

theorem wp_ld (ty : TypeId) (x : Operand) (ho : o.op = .load ty x) (ha : ∀ w, (isAgg ty).run P w = .ok true w) (n : Nat) (hs : ∀ w, (sizeOf ty).run P w = .ok n w)
    (g off : Nat) (hx : a.eval x = .pointer (some ⟨g, off, none⟩)) (xs : List Value) (hl : xs.length = n) (hr : Seg w g off xs)
    (h : K (a.put o.dst (.agg xs.toArray)) w) : o.wp P a w K Q := by
  unfold Oper.wp execOp
  simp only [ho, hx, Instr.loadAt, Instr.sureAddr, Sem.run_bind, Sem.run_pure, Result.andThen_ok, run_loadVar_seg ty ha n hs g off xs hl hr]
  exact h
theorem wpList_ld (hw : Region.wanted o (yielded ops a.tmps) = true) (ty : TypeId) (x : Operand) (ho : o.op = .load ty x) (ha : ∀ w, (isAgg ty).run P w = .ok true w) (n : Nat) (hs : ∀ w, (sizeOf ty).run P w = .ok n w)
    (g off : Nat) (hx : a.eval x = .pointer (some ⟨g, off, none⟩)) (xs : List Value) (hl : xs.length = n) (hr : Seg w g off xs)
    (h : wpList P ops Q rest (a.put o.dst (.agg xs.toArray)) w) : wpList P ops Q (o :: rest) a w :=
  wpList_go hw fun _ hK => wp_ld ty x ho ha n hs g off hx xs hl hr (hK _ _ h)

theorem run_storeVar_seg (ty : TypeId) (n : Nat) (hs : ∀ w, (sizeOf ty).run P w = .ok n w) (g off : Nat) (xs : List Value) (hl : xs.length = n) (T : TypeId) (cur : List Value) (hb : Blk w g T cur) (hfit : off + n ≤ cur.length) (h1 : ∀ u ∈ xs, u.oneCell' = true) :
    (storeVar ty ⟨g, off, none⟩ (.agg xs.toArray)).run P w = .ok () (w.setRow g (splice cur off xs).toArray) := by
  have hst := run_storeCells_at P g off T xs 0 cur.toArray w hb (by simp; omega) h1
  simp only [Nat.add_zero] at hst
  have : (Value.agg xs.toArray).cells = xs.toArray := rfl
  simp [storeVar, Sem.run_bind, hs, this, hl, hst, splice]
theorem wp_st (ty : TypeId) (x v : Operand) (ho : o.op = .store ty x v) (n : Nat) (hs : ∀ w, (sizeOf ty).run P w = .ok n w)
    (g off : Nat) (hx : a.eval x = .pointer (some ⟨g, off, none⟩)) (xs : List Value) (hv : a.eval v = .agg xs.toArray) (hl : xs.length = n) (T : TypeId) (cur : List Value) (hb : Blk w g T cur) (hfit : off + n ≤ cur.length) (h1 : ∀ u ∈ xs, u.oneCell' = true)
    (h : K (a.put o.dst undef) (w.setRow g (splice cur off xs).toArray)) : o.wp P a w K Q := by
  unfold Oper.wp execOp
  simp only [ho, hx, hv, Instr.storeAt, Instr.sureAddr, Sem.run_bind, Sem.run_pure, Result.andThen_ok, run_storeVar_seg ty n hs g off xs hl T cur hb hfit h1, Oper.upon]
  exact h
theorem wpList_st (hw : Region.wanted o (yielded ops a.tmps) = true) (ty : TypeId) (x v : Operand) (ho : o.op = .store ty x v) (n : Nat) (hs : ∀ w, (sizeOf ty).run P w = .ok n w)
    (g off : Nat) (hx : a.eval x = .pointer (some ⟨g, off, none⟩)) (xs : List Value) (hv : a.eval v = .agg xs.toArray) (hl : xs.length = n) (T : TypeId) (cur : List Value) (hb : Blk w g T cur) (hfit : off + n ≤ cur.length) (h1 : ∀ u ∈ xs, u.oneCell' = true)
    (h : wpList P ops Q rest (a.put o.dst undef) (w.setRow g (splice cur off xs).toArray)) : wpList P ops Q (o :: rest) a w :=
  wpList_go hw fun _ hK => wp_st ty x v ho n hs g off hx xs hv hl T cur hb hfit h1 (hK _ _ h)
/-- Into a whole block that was laid last. -/
theorem wpList_st_last {w0 : World} (hw : Region.wanted o (yielded ops a.tmps) = true) (ty : TypeId) (x v : Operand) (ho : o.op = .store ty x v) (n : Nat) (hs : ∀ w, (sizeOf ty).run P w = .ok n w)
    (g : Nat) (hx : a.eval x = .pointer (some ⟨g, 0, none⟩)) (hgw : g = w0.heap.size) (xs : List Value) (hv : a.eval v = .agg xs.toArray) (hl : xs.length = n) (T : TypeId) (cur : Array Value) (hc : cur.size = n) (h1 : ∀ u ∈ xs, u.oneCell' = true)
    (h : wpList P ops Q rest (a.put o.dst undef) (w0.alloc (.cells xs.toArray T))) : wpList P ops Q (o :: rest) a (w0.alloc (.cells cur T)) := by
  subst hgw
  obtain ⟨cur⟩ := cur
  refine wpList_st hw ty x v ho n hs w0.heap.size 0 hx xs hv hl T cur (Blk.new w0 T cur) (by simp at hc; omega) h1 ?_
  rw [splice_all _ _ (by simp at hc; omega), setRow_last]
  exact h
end

section
variable {P : Program} {w : World} {ops : Array Oper} {rest : List Oper} {o : Oper} {a : Act} {K : Act → World → Prop} {Q : Exit → Act → World → Prop} {E : Prop}
theorem wpList_conv_bytes_n (hw : Region.wanted o (yielded ops a.tmps) = true) (src dst : TypeId) (x : Operand) (hop : o.op = Op.convert src dst x) (e : TypeId) (hs : P.underlying src = some (.slice e)) (he : P.underlying e = some (.int .u8)) (hd : P.underlying dst = some .string)
    (ad : Option Addr) (n c : Nat) (l : List UInt8) (hn : l.length = n) (hx : a.eval x = .slice ad n c) (hr : Rd w ad (bcells l)) (h : wpList P ops Q rest (a.put o.dst (.string ⟨l.toArray⟩)) w) : wpList P ops Q (o :: rest) a w := by
  subst hn
  exact wpList_conv_bytes hw src dst x hop e hs he hd ad c l hx hr h
theorem results_row (fn : Func) {p : Tmp} {ty : TypeId} (h : fn.results = #[.cell p ty]) (tmps : Array Value) (ha : ∀ w, (isAgg ty).run P w = .ok true w) (n : Nat) (hs : ∀ w, (sizeOf ty).run P w = .ok n w) (g : Nat) (hp : tmps.getD p undef = .pointer (some ⟨g, 0, none⟩)) (xs : List Value) (hl : xs.length = n) (hr : Seg w g 0 xs) :
    (results fn tmps).run P w = .ok (.agg xs.toArray) w := by
  have hp' : tmps[p]?.getD undef = .pointer (some ⟨g, 0, none⟩) := by simpa using hp
  simp [results, h, hp', asAddr, run_loadVar_seg ty ha n hs g 0 xs hl hr]
theorem results_row_tmp (fn : Func) {p u : Tmp} {ty : TypeId} (h : fn.results = #[.cell p ty, .tmp u]) (tmps : Array Value) (ha : ∀ w, (isAgg ty).run P w = .ok true w) (n : Nat) (hs : ∀ w, (sizeOf ty).run P w = .ok n w) (g : Nat) (hp : tmps.getD p undef = .pointer (some ⟨g, 0, none⟩)) (xs : List Value) (hl : xs.length = n) (hr : Seg w g 0 xs) :
    (results fn tmps).run P w = .ok (.tuple #[.agg xs.toArray, tmps.getD u undef]) w := by
  have hp' : tmps[p]?.getD undef = .pointer (some ⟨g, 0, none⟩) := by simpa using hp
  rw [results_cell_tmp h]
  simp [hp', asAddr, run_loadVar_seg ty ha n hs g 0 xs hl hr]
theorem results_row_tmp2 (fn : Func) {p u v : Tmp} {ty : TypeId} (h : fn.results = #[.cell p ty, .tmp u, .tmp v]) (tmps : Array Value) (ha : ∀ w, (isAgg ty).run P w = .ok true w) (n : Nat) (hs : ∀ w, (sizeOf ty).run P w = .ok n w) (g : Nat) (hp : tmps.getD p undef = .pointer (some ⟨g, 0, none⟩)) (xs : List Value) (hl : xs.length = n) (hr : Seg w g 0 xs) :
    (results fn tmps).run P w = .ok (.tuple #[.agg xs.toArray, tmps.getD u undef, tmps.getD v undef]) w := by
  have hp' : tmps[p]?.getD undef = .pointer (some ⟨g, 0, none⟩) := by simpa using hp
  simp [results, h, hp', asAddr, run_loadVar_seg ty ha n hs g 0 xs hl hr]
end
section
variable {P : Program} {o : Oper} {a : Act}
theorem ld_val {w : World} (ty : TypeId) (x : Operand) (ho : o.op = .load ty x) (ha : ∀ w, (isAgg ty).run P w = .ok true w) (n : Nat) (hs : ∀ w, (sizeOf ty).run P w = .ok n w)
    (g off : Nat) (hx : a.eval x = .pointer (some ⟨g, off, none⟩)) (xs : List Value) (hl : xs.length = n) (hr : Seg w g off xs) : (execOp a.eval o).run P w = .ok (.value (.agg xs.toArray)) w := by
  unfold execOp
  simp only [ho, hx, Instr.loadAt, Instr.sureAddr, Sem.run_bind, Sem.run_pure, Result.andThen_ok, run_loadVar_seg ty ha n hs g off xs hl hr]
theorem build_val {w : World} (t : TypeId) (parts : Array (Nat × Operand)) (ho : o.op = .build t parts) (vs : Array (Nat × Value)) (hp : (parts.map fun (i, x) => (i, a.eval x)) = vs) (v : Value) (hr : (Instr.build t vs).run P w = .ok v w) : (execOp a.eval o).run P w = .ok (.value v) w := by
  subst hp
  unfold execOp
  simp only [ho, hr, Sem.run_bind, Sem.run_pure, Result.andThen_ok]
theorem wp_buildSlice {w w' : World} {K : Act → World → Prop} {Q : Exit → Act → World → Prop} (t : TypeId) (n : Nat) (parts : Array (Nat × Operand)) (ho : o.op = .buildSlice t n parts) (vs : Array (Nat × Value)) (hp : (parts.map fun (i, x) => (i, a.eval x)) = vs) (v : Value) (hr : (Instr.buildSlice t n vs).run P w = .ok v w') (h : K (a.put o.dst v) w') : o.wp P a w K Q := by
  subst hp
  unfold Oper.wp execOp
  simp only [ho, hr, Sem.run_bind, Sem.run_pure, Result.andThen_ok]
  exact h
theorem wp_build {w : World} {K : Act → World → Prop} {Q : Exit → Act → World → Prop} (t : TypeId) (parts : Array (Nat × Operand)) (ho : o.op = .build t parts) (vs : Array (Nat × Value)) (hp : (parts.map fun (i, x) => (i, a.eval x)) = vs) (v : Value) (hr : (Instr.build t vs).run P w = .ok v w) (h : K (a.put o.dst v) w) : o.wp P a w K Q := by
  subst hp
  unfold Oper.wp execOp
  simp only [ho, hr, Sem.run_bind, Sem.run_pure, Result.andThen_ok]
  exact h
theorem wpList_build {w : World} {ops : Array Oper} {rest : List Oper} {Q : Exit → Act → World → Prop} (hw : Region.wanted o (yielded ops a.tmps) = true) (t : TypeId) (parts : Array (Nat × Operand)) (ho : o.op = .build t parts) (vs : Array (Nat × Value)) (hp : (parts.map fun (i, x) => (i, a.eval x)) = vs) (v : Value) (hr : (Instr.build t vs).run P w = .ok v w) (h : wpList P ops Q rest (a.put o.dst v) w) : wpList P ops Q (o :: rest) a w :=
  wpList_go hw fun _ hK => wp_build t parts ho vs hp v hr (hK _ _ h)
theorem wpList_buildSlice {w w' : World} {ops : Array Oper} {rest : List Oper} {Q : Exit → Act → World → Prop} (hw : Region.wanted o (yielded ops a.tmps) = true) (t : TypeId) (n : Nat) (parts : Array (Nat × Operand)) (ho : o.op = .buildSlice t n parts) (vs : Array (Nat × Value)) (hp : (parts.map fun (i, x) => (i, a.eval x)) = vs) (v : Value) (hr : (Instr.buildSlice t n vs).run P w = .ok v w') (h : wpList P ops Q rest (a.put o.dst v) w') : wpList P ops Q (o :: rest) a w :=
  wpList_go hw fun _ hK => wp_buildSlice t n parts ho vs hp v hr (hK _ _ h)
end
end Go.PM
