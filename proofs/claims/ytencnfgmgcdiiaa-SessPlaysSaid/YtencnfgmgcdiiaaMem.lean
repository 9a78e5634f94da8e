/- Words for memory: what a call keeps, what a slice reads as. No statement of the seat is proved here; helper lemmas alone, under no condition of the program. -/
import Derived.WalkKit
import Derived.WalkSpells
import Derived.WalkLawsBesides
import Derived.BigQuiet
import Derived.Deep.QuietTactic
import Derived.Deep.RegionWith
import Derived.Deep.RegionHeld3
import Derived.Deep.RegionLaw
import Derived.Deep.DeepCutAuto
import Derived.Deep.LoopGhost
import Derived.Laws.CopyOwn
import Derived.Laws.ResultCell
import Derived.Lib.Hide
namespace Go.PM
open Go.RowKit

/-- All blocks that were there, but those in S, are as they were. -/
structure Kept (S : Nat → Prop) (w w' : World) : Prop where
  os : w'.os = w.os
  tape : w'.tape = w.tape
  output : w'.output = w.output
  size : w.heap.size ≤ w'.heap.size
  block : ∀ k, k < w.heap.size → ¬ S k → w'.heap[k]? = w.heap[k]?

def No : Nat → Prop := fun _ => False

section
variable {S T : Nat → Prop} {w w' w'' : World}

theorem Kept.refl (S : Nat → Prop) (w : World) : Kept S w w := ⟨rfl, rfl, rfl, Nat.le_refl _, fun _ _ _ => rfl⟩
theorem Kept.trans (h : Kept S w w') (k : Kept T w' w'') (hT : ∀ b, b < w.heap.size → T b → S b) : Kept S w w'' :=
  ⟨k.os.trans h.os, k.tape.trans h.tape, k.output.trans h.output, Nat.le_trans h.size k.size,
    fun b hb hn => (k.block b (Nat.lt_of_lt_of_le hb h.size) (fun ht => hn (hT b hb ht))).trans (h.block b hb hn)⟩
theorem Kept.mono (h : Kept S w w') (hS : ∀ b, b < w.heap.size → S b → T b) : Kept T w w' :=
  ⟨h.os, h.tape, h.output, h.size, fun b hb hn => h.block b hb (fun hs => hn (hS b hb hs))⟩
theorem Kept.no (h : Kept No w w') : Kept S w w' := h.mono fun _ _ h => h.elim
theorem Kept.transNo (h : Kept S w w') (k : Kept No w' w'') : Kept S w w'' := h.trans k fun _ _ h => h.elim
theorem Kept.drewN (h : Kept S w w') (n : Nat) : Kept S w (w'.drewN n) := ⟨h.os, h.tape, h.output, h.size, h.block⟩
theorem Kept.drew (h : Kept S w w') : Kept S w w'.drew := ⟨h.os, h.tape, h.output, h.size, h.block⟩
theorem Kept.alloc (h : Kept S w w') (o : Obj) : Kept S w (w'.alloc o) :=
  ⟨h.os, h.tape, h.output, by rw [World.size_alloc]; have := h.size; omega, fun b hb hn => (Below.heap_alloc _ _ _ (Nat.lt_of_lt_of_le hb h.size)).trans (h.block b hb hn)⟩
theorem Kept.setCell (h : Kept S w w') {a : Addr} (ha : a.block < w.heap.size → S a.block) (u : Value) : Kept S w (w'.setCell a u) :=
  ⟨h.os, h.tape, h.output, by rw [World.size_setCell]; exact h.size, fun b hb hn => (Below.heap_setCell _ _ _ _ (fun e => by subst e; exact hn (ha hb))).trans (h.block b hb hn)⟩
theorem Kept.setRow (h : Kept S w w') {g : Nat} (ha : g < w.heap.size → S g) (cs : Array Value) : Kept S w (w'.setRow g cs) :=
  ⟨h.os, h.tape, h.output, by rw [setRow_size]; exact h.size, fun b hb hn => (setRow_other _ _ _ _ (fun e => by subst e; exact hn (ha hb))).trans (h.block b hb hn)⟩
theorem Kept.grown (h : Kept S w w') {row : Option Nat} (hg : w'.grownBy w'' row) (hr : ∀ k, row = some k → k < w.heap.size → S k) : Kept S w w'' :=
  ⟨hg.os.trans h.os, hg.tape.trans h.tape, hg.output.trans h.output, Nat.le_trans h.size hg.size,
    fun b hb hn => (hg.block b (Nat.lt_of_lt_of_le hb h.size) (fun e => hn (hr b e.symm hb))).trans (h.block b hb hn)⟩
theorem Kept.ofGrown {row : Option Nat} (hg : w.grownBy w' row) (hr : ∀ k, row = some k → S k) : Kept S w w' :=
  (Kept.refl S w).grown hg fun k h _ => hr k h
theorem Kept.toBelow (h : Kept No w w') : Below w.heap.size w w' := ⟨h.os, h.tape, h.output, h.size, fun k hk => h.block k hk id⟩
theorem Kept.ofBelow {B : Nat} (h : Below B w w') (hB : w.heap.size ≤ B) : Kept No w w' := ⟨h.os, h.tape, h.output, h.size, fun k hk _ => h.block k (Nat.lt_of_lt_of_le hk hB)⟩
theorem Kept.ofBelow' {B : Nat} (h : Below B w w') (hB : ∀ b, b < w.heap.size → ¬ S b → b < B) : Kept S w w' := ⟨h.os, h.tape, h.output, h.size, fun k hk hn => h.block k (hB k hk hn)⟩
theorem Kept.cell (h : Kept S w w') {b o : Nat} (hb : b < w.heap.size) (hn : ¬ S b) : w'.cell? ⟨b, o, none⟩ = w.cell? ⟨b, o, none⟩ := World.cell?_of_block (w := w) (h.block b hb hn)
theorem Kept.frozen (h : Kept S w w') {b o : Nat} (hb : b < w.heap.size) (hn : ¬ S b) : w'.frozen? ⟨b, o, none⟩ = w.frozen? ⟨b, o, none⟩ := World.frozen?_of_block (w := w) (h.block b hb hn)
theorem Kept.heap (h : Kept S w w') {b : Nat} {o : Obj} (hb : w.heap[b]? = some o) (hn : ¬ S b) : w'.heap[b]? = some o := by
  have hlt : b < w.heap.size := by
    rcases Nat.lt_or_ge b w.heap.size with h | h
    · exact h
    · rw [Array.getElem?_eq_none h] at hb; exact (nomatch hb)
  rw [h.block b hlt hn, hb]
theorem Kept.lt (h : Kept S w w') {b : Nat} (hb : b < w.heap.size) : b < w'.heap.size := Nat.lt_of_lt_of_le hb h.size
end

theorem lt_of_heap {w : World} {b : Nat} {o : Obj} (hb : w.heap[b]? = some o) : b < w.heap.size := by
  rcases Nat.lt_or_ge b w.heap.size with h | h
  · exact h
  · rw [Array.getElem?_eq_none h] at hb; exact (nomatch hb)

/-- A block of cells that nobody froze. -/
def Blk (w : World) (b : Nat) (T : TypeId) (cs : List Value) : Prop := w.heap[b]? = some (.cells cs.toArray T (0, 0))
theorem Blk.lt {w : World} {b : Nat} {T : TypeId} {cs : List Value} (h : Blk w b T cs) : b < w.heap.size := lt_of_heap h
theorem Blk.cell {w : World} {b : Nat} {T : TypeId} {cs : List Value} (h : Blk w b T cs) (j : Nat) : w.cell? ⟨b, j, none⟩ = cs[j]? := by
  rw [cell_of_row w b j _ T _ h]; simp
theorem Blk.frozen {w : World} {b : Nat} {T : TypeId} {cs : List Value} (h : Blk w b T cs) (j : Nat) : w.frozen? ⟨b, j, none⟩ = false := frozen_of_row w b j _ T h
theorem Blk.kept {w w' : World} {b : Nat} {T : TypeId} {cs : List Value} {S : Nat → Prop} (h : Blk w b T cs) (k : Kept S w w') (hn : ¬ S b) : Blk w' b T cs := k.heap h hn
theorem Blk.new (w : World) (T : TypeId) (cs : List Value) : Blk (w.alloc (.cells cs.toArray T)) w.heap.size T cs := heap_alloc_new w _
theorem Blk.new' {w : World} {g : Nat} (hg : g = w.heap.size) (T : TypeId) (cs : List Value) : Blk (w.alloc (.cells cs.toArray T)) g T cs := by subst hg; exact heap_alloc_new w _
theorem Blk.drewN {w : World} {b : Nat} {T : TypeId} {cs : List Value} (h : Blk w b T cs) (n : Nat) : Blk (w.drewN n) b T cs := h
theorem Blk.alloc {w : World} {b : Nat} {T : TypeId} {cs : List Value} (h : Blk w b T cs) (o : Obj) : Blk (w.alloc o) b T cs := (Below.heap_alloc w o b h.lt).trans h
theorem Blk.setOther {w : World} {b : Nat} {T : TypeId} {cs : List Value} (h : Blk w b T cs) {a : Addr} (hne : b ≠ a.block) (u : Value) : Blk (w.setCell a u) b T cs := (heap_setCell_other w a b u hne).trans h
theorem Blk.set {w : World} {b : Nat} {T : TypeId} {cs : List Value} (h : Blk w b T cs) (i : Nat) (u : Value) : Blk (w.setCell ⟨b, i, none⟩ u) b T (cs.set i u) := by
  have := heap_setCell_same w b i cs.toArray T u h
  simpa [Blk] using this
theorem Blk.setRow {w : World} {b : Nat} {T : TypeId} {cs : List Value} (h : Blk w b T cs) (ds : List Value) : Blk (w.setRow b ds.toArray) b T ds := setRow_heap w b _ _ T _ h

/-- What lies at a slice's address reads as xs. -/
def Rd (w : World) (a : Option Addr) (xs : List Value) : Prop := ∀ j x, xs[j]? = some x → ∃ b o, a = some ⟨b, o, none⟩ ∧ w.cell? ⟨b, o + j, none⟩ = some x
/-- The block at which an address points. -/
def At (a : Option Addr) (k : Nat) : Prop := ∃ b o, a = some ⟨b, o, none⟩ ∧ k = b

theorem Rd.nil (w : World) (a : Option Addr) : Rd w a [] := fun _ _ h => by simp at h
theorem Rd.kept {w w' : World} {a : Option Addr} {xs : List Value} {S : Nat → Prop} (h : Rd w a xs) (k : Kept S w w') (hn : ∀ b, At a b → ¬ S b) : Rd w' a xs := fun j x hx => by
  obtain ⟨b, o, rfl, hc⟩ := h j x hx
  exact ⟨b, o, rfl, (k.cell (World.block_lt_of_cell? w _ hc) (hn b ⟨b, o, rfl, rfl⟩)).trans hc⟩
theorem Rd.keptNo {w w' : World} {a : Option Addr} {xs : List Value} (h : Rd w a xs) (k : Kept No w w') : Rd w' a xs := h.kept k fun _ _ h => h
theorem Rd.ofBlk {w : World} {b : Nat} {T : TypeId} {cs xs : List Value} (h : Blk w b T cs) (hx : ∀ (j : Nat) (x : Value), xs[j]? = some x → cs[j]? = some x) : Rd w (some ⟨b, 0, none⟩) xs := fun j x hj => ⟨b, 0, rfl, by rw [Nat.zero_add, h.cell]; exact hx j x hj⟩
theorem Rd.ofBlk' {w : World} {b : Nat} {T : TypeId} {cs : List Value} (h : Blk w b T cs) : Rd w (some ⟨b, 0, none⟩) cs := Rd.ofBlk h fun _ _ h => h
theorem Rd.addr {w : World} {a : Option Addr} {xs : List Value} (h : Rd w a xs) (h0 : 0 < xs.length) : ∃ b o, a = some ⟨b, o, none⟩ ∧ b < w.heap.size := by
  obtain ⟨b, o, e, hc⟩ := h 0 xs[0] (by simp [h0])
  exact ⟨b, o, e, World.block_lt_of_cell? w _ hc⟩
theorem Rd.at {w : World} {b o : Nat} {xs : List Value} (h : Rd w (some ⟨b, o, none⟩) xs) (j : Nat) (hj : j < xs.length) : w.cell? ⟨b, o + j, none⟩ = some xs[j] := by
  obtain ⟨b', o', e, hc⟩ := h j xs[j] (by simp [hj])
  simp only [Option.some.injEq, Addr.mk.injEq, and_true] at e
  obtain ⟨rfl, rfl⟩ := e
  exact hc
theorem Rd.src {w : World} {a : Option Addr} {xs : List Value} (h : Rd w a xs) (h0 : 0 < xs.length) : ∃ ad, a = some ad ∧ ∀ j v, xs[j]? = some v → w.cell? (ad.add j) = some v := by
  obtain ⟨b, o, rfl, _⟩ := h.addr h0
  refine ⟨_, rfl, fun j v hj => ?_⟩
  obtain ⟨b', o', e, hc⟩ := h j v hj
  simp only [Option.some.injEq, Addr.mk.injEq, and_true] at e
  obtain ⟨rfl, rfl⟩ := e
  have : (⟨b, o, none⟩ : Addr).add j = ⟨b, o + j, none⟩ := by
    unfold Addr.add; split
    · subst_vars; rfl
    · rfl
  rw [this]; exact hc
theorem Rd.take {w : World} {a : Option Addr} {xs : List Value} (h : Rd w a xs) (n : Nat) : Rd w a (xs.take n) := fun j x hj => h j x (by
  rw [List.getElem?_take] at hj; split at hj
  · exact hj
  · exact (nomatch hj))

/-- Bytes as cells. -/
def bcells (l : List UInt8) : List Value := l.map fun b => .int .u8 b.toNat
@[simp] theorem bcells_length (l : List UInt8) : (bcells l).length = l.length := by simp [bcells]
theorem bcells_one (l : List UInt8) : ∀ u ∈ bcells l, u.oneCell' = true := by
  intro u hu; simp only [bcells, List.mem_map] at hu; obtain ⟨b, _, rfl⟩ := hu; rfl
theorem bcells_get (l : List UInt8) (j : Nat) (h : j < l.length) : (bcells l)[j]? = some (.int .u8 l[j].toNat) := by simp [bcells, h]

/-- A slice of bytes of which a call has just made the array. -/
def FreshB (w w' : World) (T : TypeId) (v : Value) (l : List UInt8) : Prop :=
  ∃ g, v = .slice (some ⟨g, 0, none⟩) l.length l.length ∧ w.heap.size ≤ g ∧ Blk w' g T (bcells l)

end Go.PM
