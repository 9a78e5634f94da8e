/- An act of a script: its cells; the desk's calls, spelled for the laws. -/
import Derived.Test.YtencnfgmgcdiiaaSeK
import Derived.Test.YtencnfgmgcdiiaaSeP
namespace Go.Proofs.Ytencnfgmgcdiiaa
open Go.RowKit Go.PM
set_option maxRecDepth 100000

theorem InSA.at {W : World} {a : Option Addr} {c : Nat} {l : List SA} (h : InSA W a c l) {i : Nat} {x : SA} (hm : l[i]? = some x) : ∃ b o, a = some ⟨b, o, none⟩ ∧ b < W.heap.size ∧
    W.cell? ⟨b, o + i * 9, none⟩ = some (.int .u8 x.kind.toNat) ∧ W.cell? ⟨b, o + i * 9 + 1, none⟩ = some (.int .u8 x.client.toNat) ∧ W.cell? ⟨b, o + i * 9 + 2, none⟩ = some (.int .u32 x.seq) ∧
    W.cell? ⟨b, o + i * 9 + 3, none⟩ = some (.int .i64 x.a.why) ∧ W.cell? ⟨b, o + i * 9 + 4, none⟩ = some (.int .u8 x.a.node) ∧ W.cell? ⟨b, o + i * 9 + 5, none⟩ = some (.int .u32 x.a.boot) ∧ W.cell? ⟨b, o + i * 9 + 6, none⟩ = some (.int .u32 x.a.num) ∧
    W.cell? ⟨b, o + i * 9 + 7, none⟩ = some (.string x.a.val) ∧ W.cell? ⟨b, o + i * 9 + 8, none⟩ = some (.int .u32 x.a.ver) := by
  obtain ⟨b, o, e, hc⟩ := InS.rd h i x hm
  have h0 := hc 0 _ rfl
  exact ⟨b, o, e, World.block_lt_of_cell? W _ h0, h0, hc 1 _ rfl, hc 2 _ rfl, hc 3 _ rfl, hc 4 _ rfl, hc 5 _ rfl, hc 6 _ rfl, hc 7 _ rfl, hc 8 _ rfl⟩

theorem SA.num_in (x : SA) (h : x.In) {last : Int} (h0 : 0 ≤ last) (h1 : last ≤ 2147483647) : 0 ≤ x.num last ∧ x.num last < 4294967296 := by
  have := h.q0
  have := h.q1
  unfold SA.num
  split
  · omega
  · split <;> omega

section
variable {w : World} {p b : Nat} {D D' : List (UInt8 × PC)} {c : UInt8} {q : Int}
theorem come_eq (h : DeskB w p b D) (ok : DOk D) (h0 : 0 ≤ q) (h1 : q < 4294967296) {x er : Int} {a : PA} (e : pCome D c q = (x, a, er, D')) :
    Calls Try.prog 19 #[.pointer (some ⟨p, 0, none⟩), .agg #[.int .u8 c.toNat, .int .u32 q]] w fun e w' =>
      e = .returned (.tuple #[.int .i64 x, .agg #[.int .i64 a.why, .int .u8 a.node, .int .u32 a.boot, .int .u32 a.num, .string a.val, .int .u32 a.ver], .int .i64 er]) ∧ DeskB w' p b D' ∧ Kept (· = b) w w' := by
  have := se_Come h c q h0 h1 ok.len (ok.bd c).1 (ok.bd c).2
  rw [e] at this
  exact this
theorem tell_eq (h : DeskB w p b D) {a : PA} {er : Int} (e : pTell D c q a = (er, D')) :
    Calls Try.prog 18 #[.pointer (some ⟨p, 0, none⟩), .agg #[.int .u8 c.toNat, .int .u32 q], .agg #[.int .i64 a.why, .int .u8 a.node, .int .u32 a.boot, .int .u32 a.num, .string a.val, .int .u32 a.ver]] w
      fun e w' => e = .returned (.int .i64 er) ∧ DeskB w' p b D' ∧ Kept (· = b) w w' := by
  have := se_Tell h c q a
  rw [e] at this
  exact this
theorem last_eq (h : DeskB w p b D) {n : Int} (e : (lk D c).last = n) :
    Calls Try.prog 17 #[.pointer (some ⟨p, 0, none⟩), .int .u8 c.toNat] w fun e w' => e = .returned (.int .u32 n) ∧ w = w' := by
  subst e; exact se_Last h c
theorem seq_eq {m : SA} (h : m.In) {last n : Int} (h0 : 0 ≤ last) (h1 : last ≤ 2147483647) (e : m.num last = n) (w : World) :
    Calls Try.prog 16 #[.agg #[.int .u8 m.kind.toNat, .int .u8 m.client.toNat, .int .u32 m.seq, .int .i64 m.a.why, .int .u8 m.a.node, .int .u32 m.a.boot, .int .u32 m.a.num, .string m.a.val, .int .u32 m.a.ver], .int .u32 last] w
      fun e w' => e = .returned (.int .u32 n) ∧ Kept No w w' := by
  subst e; exact sseq_calls m last w h h0 h1
end
end Go.Proofs.Ytencnfgmgcdiiaa
