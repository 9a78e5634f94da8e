/- NetOwn: the walk. -/
import Derived.Test.YtdolddgmemlofaaNetBad
import Derived.Test.YtdolddgmemlofaaNetI
import Derived.Test.YtdolddgmemlofaaNetArgs
namespace Go.Proofs.Ytdolddgmemlofaa
open Go.RowKit Go.PM

/-- All are bytes. -/
def Byt (xs : List Value) : Prop := ∀ j, j < xs.length → ∃ v : Int, 0 ≤ v ∧ v ≤ 255 ∧ xs[j]? = some (.int .u8 v)
theorem byt_bcells (l : List UInt8) : Byt (bcells l) := fun j hj => by
  have hj' : j < l.length := by simpa using hj
  exact ⟨l[j].toNat, by omega, by have := l[j].toNat_lt; omega, bcells_get l j hj'⟩

theorem own_bump {w : World} {T : TypeId} {a : Option Addr} {n cap k : Nat} {xs : List Value} (h : Own w T 1 a n cap xs) (hb : Byt xs) (hk : k < n) :
    ∃ (g : Nat) (v : Int), a = some ⟨g, 0, none⟩ ∧ 0 ≤ v ∧ v ≤ 255 ∧ w.cell? ⟨g, k, none⟩ = some (.int .u8 v) ∧ w.frozen? ⟨g, k, none⟩ = false ∧ g < w.heap.size ∧
      ∀ u : Int, 0 ≤ u → u ≤ 255 → ∃ xs', Own (w.setCell ⟨g, k, none⟩ (.int .u8 u)) T 1 a n cap xs' ∧ Byt xs' := by
  have hlen := h.len
  obtain ⟨v, v0, v1, hv⟩ := hb k (by omega)
  rcases h.row with ⟨_, hn, _⟩ | ⟨g, cur, rfl, hbl, hc, ht⟩
  · omega
  · have hle := h.le
    have hkc : cur[k]? = some (.int .u8 v) := by
      rw [← ht, List.getElem?_take] at hv; split at hv
      · exact hv
      · exact (nomatch hv)
    refine ⟨g, v, rfl, v0, v1, by rw [hbl.cell]; exact hkc, hbl.frozen k, hbl.lt, fun u u0 u1 => ?_⟩
    refine ⟨_, Own.ofBlk (hbl.set k (.int .u8 u)) (by simpa using hc) hle h.max, fun j hj => ?_⟩
    have hj' : j < n := by rw [List.length_take, List.length_set] at hj; omega
    rw [List.getElem?_take, if_pos (by omega)]
    by_cases hjk : j = k
    · subst hjk
      refine ⟨u, u0, u1, ?_⟩
      rw [List.getElem?_set_self (by omega)]
    · obtain ⟨v', a0, a1, hv'⟩ := hb j (by omega)
      refine ⟨v', a0, a1, ?_⟩
      rw [List.getElem?_set_ne (fun e => hjk e.symm)]
      rw [← ht, List.getElem?_take] at hv'; split at hv'
      · exact hv'
      · exact (nomatch hv')

section
variable {w : World} {p : Nat} {s : PN} {S : Nat → Prop}

theorem s_at_in (h : NetS w p s S) (i : Nat) (x : PW) (hx : s.l[i]? = some x) :
    Calls Try.prog 17 #[.pointer (some ⟨p, 0, none⟩), .int .i64 i] w (WirePost w x.1 x.2.1 x.2.2 0) := by
  obtain ⟨a, cap, ml, hN, e⟩ := h
  rw [← e, List.getElem?_map] at hx
  obtain ⟨m, hm, rfl⟩ := Option.map_eq_some_iff.1 hx
  exact at_calls hN i m hm

theorem s_take_in (h : NetS w p s S) (i : Nat) (x : PW) (hx : s.l[i]? = some x) :
    Calls Try.prog 30 #[.pointer (some ⟨p, 0, none⟩), .int .i64 i] w fun e w' =>
      ∃ g, e = .returned (.tuple #[.agg #[.int .u8 x.1, .int .u8 x.2.1, .slice (some ⟨g, 0, none⟩) x.2.2.length x.2.2.length], .int .i64 0]) ∧ w.heap.size ≤ g ∧ Blk w' g 5 (bcells x.2.2) ∧
        NetS w' p { s with l := s.l.eraseIdx i } S ∧ Kept S w w' := by
  obtain ⟨a, cap, ml, hN, e⟩ := h
  rw [← e, List.getElem?_map] at hx
  obtain ⟨m, hm, rfl⟩ := Option.map_eq_some_iff.1 hx
  refine (take_calls hN i m hm).mono ?_
  rintro e1 w1 ⟨g, rfl, hge, hb, hN1, hk⟩
  exact ⟨g, rfl, hge, hb, ⟨a, cap, _, hN1, by rw [← e]; simp [List.eraseIdx_eq_take_drop_succ, List.map_take, List.map_drop]⟩, hk⟩

theorem s_at0 (h : NetS w p s S) (x : PW) (r : List PW) (hx : s.l = x :: r) :
    Calls Try.prog 17 #[.pointer (some ⟨p, 0, none⟩), .int .i64 0] w (WirePost w x.1 x.2.1 x.2.2 0) := by
  simpa using s_at_in h 0 x (by rw [hx]; rfl)

def Took (w : World) (p : Nat) (S : Nat → Prop) (x : PW) (s : PN) (e : Ending) (w' : World) : Prop :=
  ∃ g, e = .returned (.tuple #[.agg #[.int .u8 x.1, .int .u8 x.2.1, .slice (some ⟨g, 0, none⟩) x.2.2.length x.2.2.length], .int .i64 0]) ∧ w.heap.size ≤ g ∧ Blk w' g 5 (bcells x.2.2) ∧ NetS w' p s S ∧ Kept S w w'

theorem s_take0 (h : NetS w p s S) (x : PW) (r : List PW) (hx : s.l = x :: r) :
    Calls Try.prog 30 #[.pointer (some ⟨p, 0, none⟩), .int .i64 0] w (Took w p S x { s with l := r }) := by
  have h0 := s_take_in h 0 x (by rw [hx]; rfl)
  rw [hx] at h0
  exact h0
end

/-- Between two writes: the network at p is s, the box of the act, a slice of bytes of our own, all else as it was. -/
structure WSt (w : World) (p : Nat) (s : PN) (S : Nat → Prop) (act : List Value) (a : Option Addr) (n : Nat) (wr : World) : Prop where
  net : NetS wr p s S
  new : New w S
  kept : Kept No w wr
  act : Blk wr w.heap.size 34 act
  own : ∃ cap xs, Own wr 5 1 a n cap xs ∧ Byt xs
  nat : ∀ b, At a b → w.heap.size < b ∧ ¬ S b

def OwnRel1 (w : World) (p : Nat) (s : PN) (S : Nat → Prop) (act : List Value) (a : Option Addr) (n : Nat) (i : Value) (wr : World) : Prop :=
  ∃ k : Nat, k ≤ n ∧ i = .int .i64 k ∧ WSt w p s S act a n wr
def OwnRel2 (w : World) (p : Nat) (s : PN) (S : Nat → Prop) (act : List Value) (g n bx : Nat) (i : Value) (wr : World) : Prop :=
  ∃ k : Nat, k ≤ n ∧ i = .int .i64 k ∧ WSt w p s S act (some ⟨g, 0, none⟩) n wr ∧ Blk wr bx 36 [.int .u8 0, .int .u8 0, .slice (some ⟨g, 0, none⟩) n n] ∧ g ≠ bx

theorem WSt.bump {w wr : World} {p : Nat} {s : PN} {S : Nat → Prop} {act : List Value} {a : Option Addr} {n k : Nat} (h : WSt w p s S act a n wr) (hk : k < n) :
    ∃ (g : Nat) (v : Int), a = some ⟨g, 0, none⟩ ∧ 0 ≤ v ∧ v ≤ 255 ∧ wr.cell? ⟨g, k, none⟩ = some (.int .u8 v) ∧ wr.frozen? ⟨g, k, none⟩ = false ∧ g < wr.heap.size ∧
      ∀ u : Int, 0 ≤ u → u ≤ 255 → WSt w p s S act a n (wr.setCell ⟨g, k, none⟩ (.int .u8 u)) := by
  obtain ⟨cap, xs, hO, hb⟩ := h.own
  obtain ⟨g, v, rfl, h0, h1, h2, h3, h4, h5⟩ := own_bump hO hb hk
  obtain ⟨n1, n2⟩ := h.nat g ⟨g, 0, rfl, rfl⟩
  refine ⟨g, v, rfl, h0, h1, h2, h3, h4, fun u u0 u1 => ?_⟩
  obtain ⟨xs', hO', hb'⟩ := h5 u u0 u1
  exact ⟨h.net.kept (Kept.setCell (S := (· = g)) (Kept.refl _ wr) (a := ⟨g, k, none⟩) (fun _ => rfl) _) (fun b hb e => n2 (e ▸ hb)), h.new,
    h.kept.setCell (a := ⟨g, k, none⟩) (fun h => by simp at h; omega) _, h.act.setOther (a := ⟨g, k, none⟩) (by simp; omega) _, ⟨cap, xs', hO', hb'⟩, h.nat⟩

theorem WSt.next {w wr w5 : World} {p : Nat} {s : PN} {S : Nat → Prop} {act : List Value} {a : Option Addr} {n g : Nat} {b : List UInt8} (h : WSt w p s S act a n wr) (k : Kept No wr w5) (hge : wr.heap.size ≤ g)
    (hb : Blk w5 g 5 (bcells b)) (hl : b.length ≤ maxLen) (X : Obj) : WSt w p s S act (some ⟨g, 0, none⟩) b.length (w5.alloc X) := by
  have hk := k.alloc X
  refine ⟨h.net.keptNo hk, h.new, h.kept.transNo hk, h.act.kept hk id, ⟨_, _, Own.full (hb.alloc X) (by simp) hl, byt_bcells b⟩, ?_⟩
  rintro b' ⟨_, _, e, rfl⟩
  simp only [Option.some.injEq, Addr.mk.injEq, and_true] at e
  obtain ⟨rfl, rfl⟩ := e
  exact ⟨by have := h.act.lt; omega, fun e => by have := h.net.lt _ e; omega⟩

theorem WSt.took {w wr w5 : World} {p : Nat} {s s' : PN} {S : Nat → Prop} {act : List Value} {a : Option Addr} {n g : Nat} {b : List UInt8} (h : WSt w p s S act a n wr) (k : Kept S wr w5) (hS : NetS w5 p s' S) (hge : wr.heap.size ≤ g)
    (hb : Blk w5 g 5 (bcells b)) (hl : b.length ≤ maxLen) (hns : ¬ S w.heap.size) (X : Obj) : WSt w p s' S act (some ⟨g, 0, none⟩) b.length (w5.alloc X) := by
  have hk := k.alloc X
  refine ⟨hS.keptNo ((Kept.refl No w5).alloc X), h.new, (h.kept.trans k fun b hb hb' => absurd (h.new b hb') (by omega)).alloc X, h.act.kept hk hns, ⟨_, _, Own.full (hb.alloc X) (by simp) hl, byt_bcells b⟩, ?_⟩
  rintro b' ⟨_, _, e, rfl⟩
  simp only [Option.some.injEq, Addr.mk.injEq, and_true] at e
  obtain ⟨rfl, rfl⟩ := e
  exact ⟨by have := h.act.lt; omega, fun e => by have := h.net.lt _ e; omega⟩
end Go.Proofs.Ytdolddgmemlofaa
