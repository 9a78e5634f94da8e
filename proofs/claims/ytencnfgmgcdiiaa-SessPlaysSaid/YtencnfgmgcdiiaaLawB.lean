/- More laws: conversions between bytes and strings; operations behind a guard. Helper lemmas alone, over any program. -/
import Derived.Test.YtencnfgmgcdiiaaLaw
import Derived.Lib.SlBytesConst
namespace Go.PM
open Go.RowKit

section
variable {P : Program} {w : World} {ops : Array Oper} {rest : List Oper} {o : Oper} {a : Act} {K : Act → World → Prop} {Q : Exit → Act → World → Prop} {E : Prop}

theorem wpList_go (hw : Region.wanted o (yielded ops a.tmps) = true)
    (h : ∀ K : Act → World → Prop, (∀ a w, wpList P ops Q rest a w → K a w) → o.wp P a w K Q) : wpList P ops Q (o :: rest) a w :=
  wpList_step fun K hK => by rw [if_pos hw]; exact h K hK

theorem step_go (hw : Region.wanted o (yielded ops a.tmps) = true) (h : o.wp P a w K Q) : if Region.wanted o (yielded ops a.tmps) = true then Oper.wp P o a w K Q else E := by
  rw [if_pos hw]; exact h

theorem foldl_bytes (l : List UInt8) (s : ByteArray) : (l.map fun b => (b.toNat : Int)).foldl (fun r n => r.push (UInt8.ofNat n.toNat)) s = ⟨s.data ++ l.toArray⟩ := by
  induction l generalizing s with
  | nil => cases s; simp
  | cons b l ih =>
    rw [List.map_cons, List.foldl_cons, ih]
    congr 1
    cases s
    simp [ByteArray.push]

theorem run_conv_bytes (src dst e : TypeId) (hs : P.underlying src = some (.slice e)) (he : P.underlying e = some (.int .u8)) (hd : P.underlying dst = some .string)
    (ad : Option Addr) (c : Nat) (l : List UInt8) (hr : Rd w ad (bcells l)) : (convert src dst (.slice ad l.length c)).run P w = .ok (.string ⟨l.toArray⟩) w := by
  rw [run_convert_bytes_string w src dst e ad l.length c hs he hd]
  cases ad with
  | none =>
    have : l = [] := by
      cases l with
      | nil => rfl
      | cons b l => obtain ⟨_, _, h, _⟩ := hr.addr (by simp); cases h
    subst this
    rfl
  | some ad =>
    have hsrc : ∀ j u, (bcells l)[j]? = some u → w.cell? (ad.add j) = some u := by
      intro j u hj
      have h0 : 0 < (bcells l).length := by have := (List.getElem?_eq_some_iff.1 hj).1; omega
      obtain ⟨ad', e', h'⟩ := hr.src h0
      cases e'; exact h' j u hj
    have hl := run_loadCells_list (P := P) w ad (bcells l) hsrc
    have e1 : bcells l = (l.map fun b => (b.toNat : Int)).map (Value.int .u8) := by simp [bcells]
    rw [bcells_length, e1] at hl
    rw [run_bytesToString w ad l.length c _ hl, foldl_bytes]
    congr 2
    simp [ByteArray.empty, ByteArray.emptyWithCapacity]
    rfl

theorem wp_conv_bytes (src dst : TypeId) (x : Operand) (hop : o.op = Op.convert src dst x) (e : TypeId) (hs : P.underlying src = some (.slice e)) (he : P.underlying e = some (.int .u8)) (hd : P.underlying dst = some .string)
    (ad : Option Addr) (c : Nat) (l : List UInt8) (hx : a.eval x = .slice ad l.length c) (hr : Rd w ad (bcells l)) (h : K (a.put o.dst (.string ⟨l.toArray⟩)) w) : o.wp P a w K Q := by
  have hrun := run_conv_bytes (P := P) src dst e hs he hd ad c l hr
  unfold Oper.wp
  simp only [execOp, hop, hx, hrun, Sem.run_bind, Result.andThen_ok, Sem.run_pure]
  exact h

theorem wpList_conv_bytes (hw : Region.wanted o (yielded ops a.tmps) = true) (src dst : TypeId) (x : Operand) (hop : o.op = Op.convert src dst x) (e : TypeId) (hs : P.underlying src = some (.slice e)) (he : P.underlying e = some (.int .u8)) (hd : P.underlying dst = some .string)
    (ad : Option Addr) (c : Nat) (l : List UInt8) (hx : a.eval x = .slice ad l.length c) (hr : Rd w ad (bcells l)) (h : wpList P ops Q rest (a.put o.dst (.string ⟨l.toArray⟩)) w) : wpList P ops Q (o :: rest) a w :=
  wpList_go hw fun _ hK => wp_conv_bytes src dst x hop e hs he hd ad c l hx hr (hK _ _ h)

/-- []byte of a constant: the array was laid last. -/
theorem wpList_conv_const {w0 : World} (hw : Region.wanted o (yielded ops a.tmps) = true) (t : TypeId) (x : Operand) (hop : o.op = Op.convert t t x) (e : TypeId) (ht : P.underlying t = some (.slice e)) (he : P.underlying e = some (.int .u8))
    (g n c : Nat) (C : Array Value) (hgw : g = w0.heap.size) (hx : a.eval x = .slice (some ⟨g, 0, none⟩) n c)
    (h : wpList P ops Q rest (a.put o.dst (.slice (some ⟨g, 0, none⟩) n c)) (w0.alloc (.cells C e (C.size, C.size + 1)))) : wpList P ops Q (o :: rest) a (w0.alloc (.cells C e)) := by
  subst hgw
  refine wpList_go hw fun K hK => ?_
  have hrun := Lib.run_convert_bytes_const (P := P) w0 t e C n c ht he
  unfold Oper.wp
  simp only [execOp, hop, hx, hrun, Sem.run_bind, Result.andThen_ok, Sem.run_pure]
  exact hK _ _ h

theorem Rd.marked {w0 : World} {g : Nat} (hg : g = w0.heap.size) (T : TypeId) (cs : List Value) (fr : Nat × Nat) : Rd (w0.alloc (.cells cs.toArray T fr)) (some ⟨g, 0, none⟩) cs := by
  subst hg
  intro j x hj
  refine ⟨_, _, rfl, ?_⟩
  have : (w0.alloc (.cells cs.toArray T fr)).heap[w0.heap.size]? = some (.cells cs.toArray T fr) := heap_alloc_new w0 _
  simp only [World.cell?, this, Nat.zero_add]
  simpa using hj
end
end Go.PM
