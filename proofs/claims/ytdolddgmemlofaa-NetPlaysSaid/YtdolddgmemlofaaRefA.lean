/- The document's network: its memory; At, Take. -/
import Derived.Test.YtdolddgmemlofaaNetG
namespace Go.Proofs.Ytdolddgmemlofaa
open Go.RowKit Go.PM

/-- A wire of the document's network. -/
structure RW where
  f : Int
  t : Int
  a : Option Addr
  c : Nat
  b : List UInt8

def RW.w (m : RW) : PW := (m.f, m.t, m.b)
def RW.cells (m : RW) : List Value := [.int .u8 m.f, .int .u8 m.t, .slice m.a m.b.length m.c]
def RW.val (m : RW) : Value := .agg #[.int .u8 m.f, .int .u8 m.t, .slice m.a m.b.length m.c]
def RW.zero : RW := ⟨0, 0, none, 0, []⟩
def rcells (l : List RW) : List Value := l.flatMap RW.cells
theorem rcells_length (l : List RW) : (rcells l).length = l.length * 3 := by
  induction l with
  | nil => rfl
  | cons m l ih => simp only [rcells, List.flatMap_cons, List.length_append, List.length_cons] at *; rw [ih]; simp [RW.cells]; omega
theorem rcells_cons (m : RW) (l : List RW) : rcells (m :: l) = m.cells ++ rcells l := rfl
theorem rcells_append (l l' : List RW) : rcells (l ++ l') = rcells l ++ rcells l' := by simp [rcells]
theorem rcells_one (l : List RW) : ∀ u ∈ rcells l, u.oneCell' = true := by
  intro u hu
  simp only [rcells, List.mem_flatMap] at hu
  obtain ⟨m, _, hm⟩ := hu
  simp only [RW.cells, List.mem_cons, List.not_mem_nil, or_false] at hm
  rcases hm with rfl | rfl | rfl <;> rfl
theorem rcells_drop (l : List RW) (i : Nat) : (rcells l).drop (i * 3) = rcells (l.drop i) := by
  induction i generalizing l with
  | zero => simp
  | succ i ih =>
    cases l with
    | nil => simp [rcells]
    | cons m l =>
      rw [rcells_cons, List.drop_succ_cons, ← ih]
      rw [show (i + 1) * 3 = m.cells.length + i * 3 by simp [RW.cells]; omega, List.drop_length_add_append]
theorem rcells_take (l : List RW) (i : Nat) : (rcells l).take (i * 3) = rcells (l.take i) := by
  induction i generalizing l with
  | zero => simp [rcells]
  | succ i ih =>
    cases l with
    | nil => simp [rcells]
    | cons m l =>
      rw [rcells_cons, List.take_succ_cons, rcells_cons, ← ih]
      rw [show (i + 1) * 3 = m.cells.length + i * 3 by simp [RW.cells]; omega, List.take_length_add_append]
theorem rcells_get (l : List RW) (i : Nat) (m : RW) (h : l[i]? = some m) (j : Nat) (hj : j < 3) : (rcells l)[i * 3 + j]? = m.cells[j]? := by
  have hi : i < l.length := (List.getElem?_eq_some_iff.1 h).1
  rw [← List.getElem?_drop, rcells_drop]
  have : l.drop i = m :: l.drop (i + 1) := by
    rw [List.drop_eq_getElem_cons hi]; congr 1
    rw [List.getElem?_eq_getElem hi] at h; exact Option.some.inj h
  rw [this, rcells_cons, List.getElem?_append_left (by simp [RW.cells]; omega)]

/-- The document's network at p. -/
structure RX (w : World) (p : Nat) (room : Int) (a : Option Addr) (cap : Nat) (lost : Int) (l : List RW) (T : Nat → Prop) : Prop where
  box : Blk w p 47 [.int .i64 room, .slice a l.length cap, .int .i64 lost]
  own : Own w 39 3 a l.length cap (rcells l)
  room1 : 1 ≤ room
  room2 : room ≤ 256
  fits : (l.length : Int) ≤ room
  lost0 : 0 ≤ lost
  lost1 : lost ≤ 2147483647
  sp : T p
  sa : ∀ k, At a k → T k ∧ k ≠ p
  bytes : ∀ m ∈ l, Rd w m.a (bcells m.b) ∧ (m.a = none → m.c = 0) ∧ m.b.length ≤ 4096 ∧ ∀ k, At m.a k → T k ∧ k ≠ p ∧ ¬ At a k
  lt : ∀ k, T k → k < w.heap.size

theorem RX.kept {w w' : World} {p : Nat} {room : Int} {a : Option Addr} {cap : Nat} {lost : Int} {l : List RW} {T S : Nat → Prop} (h : RX w p room a cap lost l T) (k : Kept S w w') (hd : ∀ b, T b → ¬ S b) : RX w' p room a cap lost l T :=
  ⟨h.box.kept k (hd p h.sp), h.own.kept k (fun b hb => hd b (h.sa b hb).1), h.room1, h.room2, h.fits, h.lost0, h.lost1, h.sp, h.sa,
    fun m hm => let ⟨h1, h2, h3, h4⟩ := h.bytes m hm; ⟨h1.kept k (fun b hb => hd b (h4 b hb).1), h2, h3, h4⟩, fun b hb => k.lt (h.lt b hb)⟩
theorem RX.keptNo {w w' : World} {p : Nat} {room : Int} {a : Option Addr} {cap : Nat} {lost : Int} {l : List RW} {T : Nat → Prop} (h : RX w p room a cap lost l T) (k : Kept No w w') : RX w' p room a cap lost l T := h.kept k fun _ _ h => h

/-- A wire whose bytes lie in T, apart from the network's own cells. -/
def ROld (w : World) (p : Nat) (a : Option Addr) (T : Nat → Prop) (m : RW) : Prop := Rd w m.a (bcells m.b) ∧ (m.a = none → m.c = 0) ∧ m.b.length ≤ 4096 ∧ ∀ k, At m.a k → T k ∧ k ≠ p ∧ ¬ At a k

/-- New wires: of those that were there, or with bytes that came since. -/
theorem RX.relist {w w' : World} {p : Nat} {room : Int} {a a' : Option Addr} {cap cap' : Nat} {lost lost' : Int} {l l' : List RW} {T : Nat → Prop} (h : RX w p room a cap lost l T)
    (hsub : ∀ m ∈ l', ROld w p a T m ∨ (Rd w' m.a (bcells m.b) ∧ (m.a = none → m.c = 0) ∧ m.b.length ≤ 4096 ∧ ∀ k, At m.a k → w.heap.size ≤ k ∧ k < w'.heap.size ∧ ¬ At a' k))
    (hb : Blk w' p 47 [.int .i64 room, .slice a' l'.length cap', .int .i64 lost']) (ho : Own w' 39 3 a' l'.length cap' (rcells l')) (hk : Kept (fun k => k = p ∨ At a k) w w')
    (hat : ∀ k, At a' k → At a k ∨ w.heap.size ≤ k) (hfit : (l'.length : Int) ≤ room) (h0 : 0 ≤ lost') (h1 : lost' ≤ 2147483647) :
    ∃ T', RX w' p room a' cap' lost' l' T' ∧ (∀ k, T' k → T k ∨ w.heap.size ≤ k) ∧ ∀ k, T k → T' k := by
  have hp := h.lt p h.sp
  have hpa : ¬ At a p := fun e => (h.sa p e).2 rfl
  have hpa' : ¬ At a' p := fun e => (hat p e).elim hpa (by omega)
  refine ⟨fun k => T k ∨ At a' k ∨ ∃ m ∈ l', At m.a k, ⟨hb, ho, h.room1, h.room2, hfit, h0, h1, .inl h.sp, fun k hk' => ⟨.inr (.inl hk'), fun e => hpa' (e ▸ hk')⟩, ?_, ?_⟩, ?_, fun k hk => .inl hk⟩
  · intro m hm
    rcases hsub m hm with hm' | ⟨r1, r2, r3, r4⟩
    · obtain ⟨b1, b2, b3, b4⟩ := hm'
      refine ⟨b1.kept hk (fun k hk' e => e.elim (b4 k hk').2.1 (b4 k hk').2.2), b2, b3, fun k hk' => ⟨.inl (b4 k hk').1, (b4 k hk').2.1, fun e => ?_⟩⟩
      exact (hat k e).elim (b4 k hk').2.2 (fun h' => by have := h.lt k (b4 k hk').1; omega)
    · refine ⟨r1, r2, r3, fun k hk' => ⟨.inr (.inr ⟨m, hm, hk'⟩), by have := (r4 k hk').1; omega, (r4 k hk').2.2⟩⟩
  · rintro k (h' | h' | ⟨m, hm, hk'⟩)
    · exact hk.lt (h.lt k h')
    · exact ho.lt k h'
    · rcases hsub m hm with hm' | ⟨r1, r2, r3, r4⟩
      · exact hk.lt (h.lt k (hm'.2.2.2 k hk').1)
      · exact (r4 k hk').2.1
  · rintro k (h' | h' | ⟨m, hm, hk'⟩)
    · exact .inl h'
    · exact (hat k h').imp (fun e => (h.sa k e).1) id
    · rcases hsub m hm with hm' | ⟨r1, r2, r3, r4⟩
      · exact .inl (hm'.2.2.2 k hk').1
      · exact .inr (r4 k hk').1

def RWire (w : World) (m : RW) (code : Int) (e : Ending) (w' : World) : Prop :=
  e = .returned (.tuple #[.agg #[.int .u8 m.f, .int .u8 m.t, .slice m.a m.b.length m.c], .int .i64 code]) ∧ Kept No w w'

section
variable {w : World} {p : Nat} {room : Int} {a : Option Addr} {cap : Nat} {lost : Int} {l : List RW} {T : Nat → Prop}

theorem RX.at (h : RX w p room a cap lost l T) {i : Nat} {m : RW} (hm : l[i]? = some m) : ∃ g, a = some ⟨g, 0, none⟩ ∧ g < w.heap.size ∧
    w.cell? ⟨g, i * 3, none⟩ = some (.int .u8 m.f) ∧ w.cell? ⟨g, i * 3 + 1, none⟩ = some (.int .u8 m.t) ∧ w.cell? ⟨g, i * 3 + 2, none⟩ = some (.slice m.a m.b.length m.c) := by
  have hlt : i < l.length := (List.getElem?_eq_some_iff.1 hm).1
  obtain ⟨g, rfl, hg⟩ : ∃ g, a = some ⟨g, 0, none⟩ ∧ g < w.heap.size := by
    rcases h.own.addr with ⟨_, h0, _⟩ | h'
    · omega
    · exact h'
  have hrd := h.own.rd
  have hl := rcells_length l
  refine ⟨g, rfl, hg, ?_, ?_, ?_⟩
  · have := hrd.at (i * 3) (by omega); have e := rcells_get l i m hm 0 (by omega); rw [Nat.add_zero, List.getElem?_eq_getElem (by omega)] at e; rw [Nat.zero_add] at this; rw [this, e]; rfl
  · have := hrd.at (i * 3 + 1) (by omega); have e := rcells_get l i m hm 1 (by omega); rw [List.getElem?_eq_getElem (by omega)] at e; rw [Nat.zero_add] at this; rw [this, e]; rfl
  · have := hrd.at (i * 3 + 2) (by omega); have e := rcells_get l i m hm 2 (by omega); rw [List.getElem?_eq_getElem (by omega)] at e; rw [Nat.zero_add] at this; rw [this, e]; rfl

set_option maxRecDepth 100000 in
set_option maxHeartbeats 400000 in
theorem r_at_ok (h : RX w p room a cap lost l T) (i : Nat) (m : RW) (hm : l[i]? = some m) :
    Calls Try.prog 62 #[.pointer (some ⟨p, 0, none⟩), .int .i64 i] w (RWire w m 0) := by
  have hlt : i < l.length := (List.getElem?_eq_some_iff.1 hm).1
  have hl : l.length ≤ 256 := by have := h.fits; have := h.room2; omega
  have hp := h.lt p h.sp
  have c1 := h.box.cell 1
  obtain ⟨g, rfl, hg, d0, d1, d2⟩ := h.at hm
  have hi0 : (0 : Int) ≤ i := by omega
  have hi1 : (i : Int) < l.length := by omega
  clear hm h
  go_enter Try.func62, Try.ntmps62
  go_wp2
  refine bodyPost_ret (v := .tuple #[.agg #[.int .u8 m.f, .int .u8 m.t, .slice m.a m.b.length m.c], .int .i64 0]) (by simp [results, Try.results62, go_sem]) rfl
    ⟨rfl, (Kept.refl No w).alloc _⟩

set_option maxRecDepth 100000 in
set_option maxHeartbeats 400000 in
theorem r_at_none (h : RX w p room a cap lost l T) (i : Int) (hi : i < 0 ∨ (l.length : Int) ≤ i) :
    Calls Try.prog 62 #[.pointer (some ⟨p, 0, none⟩), .int .i64 i] w (RWire w RW.zero 6) := by
  have hp := h.lt p h.sp
  have c1 := h.box.cell 1
  have hl : l.length ≤ 256 := by have := h.fits; have := h.room2; omega
  have hi' : i < 0 ∨ (0 ≤ i ∧ (l.length : Int) ≤ i) := by omega
  clear hi h
  rcases hi' with hi | ⟨hi0, hi⟩
  all_goals
    go_enter Try.func62, Try.ntmps62
    go_wp2
    refine bodyPost_ret (v := .tuple #[.agg #[.int .u8 0, .int .u8 0, .slice none 0 0], .int .i64 6]) (by simp [results, Try.results62, go_sem]) rfl
      ⟨rfl, (Kept.refl No w).alloc _⟩
end
end Go.Proofs.Ytdolddgmemlofaa
