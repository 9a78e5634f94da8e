/- NetOnce: the walk. -/
import Derived.Test.YtdolddgmemlofaaNetOwn
import Derived.Test.YtdolddgmemlofaaNetShort
import Derived.Test.YtdolddgmemlofaaNetOnP
import Derived.Test.YtdolddgmemlofaaMaps
namespace Go.Proofs.Ytdolddgmemlofaa
open Go.RowKit Go.PM

theorem Try.u_mapB : Try.prog.underlying 29 = some (.map 5 4) := by kernel_rfl
theorem Try.u_mapI : Try.prog.underlying 30 = some (.map 5 3) := by kernel_rfl
theorem Try.u_bool : Try.prog.underlying 4 = some .bool := by kernel_rfl
theorem Try.u_int : Try.prog.underlying 3 = some (.int .i64) := by kernel_rfl
theorem Try.z_bool (w : World) : (zeroValue 4).run Try.prog w = .ok (.bool false) w := by kernel_rfl
theorem Try.z_int (w : World) : (zeroValue 3).run Try.prog w = .ok (.int .i64 0) w := by kernel_rfl

/-- Where the walk stands: the network, the three maps, the books; all else as it was. -/
structure OnSt (w : World) (p b5 b6 b7 : Nat) (s : PN) (c : Nat) (sent dbl : UInt8 → Bool) (tak : UInt8 → Int) (S : Nat → Prop) (wr : World) : Prop where
  net : NetS wr p s S
  new : New w S
  kept : Kept No w wr
  m5 : MapB wr Try.prog 5 4 b5 c sent
  m6 : MapB wr Try.prog 5 4 b6 c dbl
  m7 : MapI wr Try.prog 5 3 b7 c tak
  n5 : w.heap.size ≤ b5 ∧ ¬ S b5
  n6 : w.heap.size ≤ b6 ∧ ¬ S b6
  n7 : w.heap.size ≤ b7 ∧ ¬ S b7
  d56 : b5 ≠ b6
  d57 : b5 ≠ b7
  d67 : b6 ≠ b7

section
variable {w wr w' : World} {p b5 b6 b7 c : Nat} {s s' : PN} {sent dbl : UInt8 → Bool} {tak : UInt8 → Int} {S S' : Nat → Prop}
theorem OnSt.no (h : OnSt w p b5 b6 b7 s c sent dbl tak S wr) (q : Kept No wr w') : OnSt w p b5 b6 b7 s c sent dbl tak S w' :=
  { h with net := h.net.keptNo q, kept := h.kept.transNo q, m5 := h.m5.kept q id, m6 := h.m6.kept q id, m7 := h.m7.kept q id }
theorem OnSt.step (h : OnSt w p b5 b6 b7 s c sent dbl tak S wr) (g : Grows S S' wr w') (hN : NetS w' p s' S') : OnSt w p b5 b6 b7 s' c sent dbl tak S' w' := by
  obtain ⟨hk, hn⟩ := g.new h.kept h.new
  have l5 := h.m5.lt; have l6 := h.m6.lt; have l7 := h.m7.lt
  exact ⟨hN, hn, hk, h.m5.kept g.kept h.n5.2, h.m6.kept g.kept h.n6.2, h.m7.kept g.kept h.n7.2, ⟨h.n5.1, fun e => (g.grow _ e).elim h.n5.2 (by omega)⟩, ⟨h.n6.1, fun e => (g.grow _ e).elim h.n6.2 (by omega)⟩, ⟨h.n7.1, fun e => (g.grow _ e).elim h.n7.2 (by omega)⟩, h.d56, h.d57, h.d67⟩
theorem _root_.Go.PM.MapB.mono {P : Program} {kt et : TypeId} {b n : Nat} {f : UInt8 → Bool} (h : MapB wr P kt et b n f) : MapB wr P kt et b (n + 1) f := let ⟨D, h1, h2, h3⟩ := h; ⟨D, h1.mono (Nat.le_succ n), h2, h3⟩
theorem _root_.Go.PM.MapI.mono {P : Program} {kt et : TypeId} {b n : Nat} {f : UInt8 → Int} (h : MapI wr P kt et b n f) : MapI wr P kt et b (n + 1) f := let ⟨D, h1, h2, h3⟩ := h; ⟨D, h1.mono (Nat.le_succ n), h2, h3⟩

theorem OnSt.sentM (h : OnSt w p b5 b6 b7 s c sent dbl tak S wr) (hc : c < maxLen) (k : UInt8) :
    ∃ w', (Instr.mapUpdate 29 (.map (some b5)) (.int .u8 k.toNat) (.bool true)).run Try.prog wr = .ok () w' ∧ OnSt w p b5 b6 b7 s (c + 1) (fun j => if j = k then true else sent j) dbl tak S w' ∧ Kept (· = b5) wr w' := by
  obtain ⟨w', hrun, hm, hk⟩ := h.m5.put Try.u_byte Try.u_bool Try.u_mapB hc k true
  exact ⟨w', hrun, { h with net := h.net.kept hk (fun b hb (e : b = b5) => h.n5.2 (e ▸ hb)), kept := h.kept.trans hk (fun b hb (e : b = b5) => by have := h.n5.1; omega), m5 := hm, m6 := (h.m6.kept hk (fun e => h.d56 e.symm)).mono, m7 := (h.m7.kept hk (fun e => h.d57 e.symm)).mono }, hk⟩

theorem OnSt.dblM (h : OnSt w p b5 b6 b7 s c sent dbl tak S wr) (hc : c < maxLen) (k : UInt8) :
    ∃ w', (Instr.mapUpdate 29 (.map (some b6)) (.int .u8 k.toNat) (.bool true)).run Try.prog wr = .ok () w' ∧ OnSt w p b5 b6 b7 s (c + 1) sent (fun j => if j = k then true else dbl j) tak S w' ∧ Kept (· = b6) wr w' := by
  obtain ⟨w', hrun, hm, hk⟩ := h.m6.put Try.u_byte Try.u_bool Try.u_mapB hc k true
  exact ⟨w', hrun, { h with net := h.net.kept hk (fun b hb (e : b = b6) => h.n6.2 (e ▸ hb)), kept := h.kept.trans hk (fun b hb (e : b = b6) => by have := h.n6.1; omega), m6 := hm, m5 := (h.m5.kept hk (fun e => h.d56 e)).mono, m7 := (h.m7.kept hk (fun e => h.d67 e.symm)).mono }, hk⟩

theorem OnSt.takM (h : OnSt w p b5 b6 b7 s c sent dbl tak S wr) (hc : c < maxLen) (k : UInt8) (v : Int) (hv : (Lit.int .i64 v).wf = true) :
    ∃ w', (Instr.mapUpdate 30 (.map (some b7)) (.int .u8 k.toNat) (.int .i64 v)).run Try.prog wr = .ok () w' ∧ OnSt w p b5 b6 b7 s (c + 1) sent dbl (fun j => if j = k then v else tak j) S w' ∧ Kept (· = b7) wr w' := by
  obtain ⟨w', hrun, hm, hk⟩ := h.m7.put Try.u_byte Try.u_int Try.u_mapI hc k v hv
  exact ⟨w', hrun, { h with net := h.net.kept hk (fun b hb (e : b = b7) => h.n7.2 (e ▸ hb)), kept := h.kept.trans hk (fun b hb (e : b = b7) => by have := h.n7.1; omega), m7 := hm, m5 := (h.m5.kept hk (fun e => h.d57 e)).mono, m6 := (h.m6.kept hk (fun e => h.d67 e)).mono }, hk⟩

end
end Go.Proofs.Ytdolddgmemlofaa
