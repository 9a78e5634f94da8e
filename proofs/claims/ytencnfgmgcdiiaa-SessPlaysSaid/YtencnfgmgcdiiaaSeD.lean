/- Package sess: a desk that nobody made: nil, or with a nil map. -/
import Derived.Test.YtencnfgmgcdiiaaSeC
namespace Go.Proofs.Ytencnfgmgcdiiaa
open Go.RowKit Go.PM

/-- Pointers to no desk: nil, or to a desk with a nil map. -/
def NoDesk (w : World) (q : Value) : Prop := q = .pointer none ∨ ∃ p, q = .pointer (some ⟨p, 0, none⟩) ∧ Blk w p 79 [.map none]
theorem NoDesk.kept {S : Nat → Prop} {w w' : World} {q : Value} (h : NoDesk w q) (k : Kept S w w') (hn : ∀ p, ¬ S p) : NoDesk w' q := by
  rcases h with h | ⟨p, h1, h2⟩
  · exact .inl h
  · exact .inr ⟨p, h1, h2.kept k (hn p)⟩

section
variable {w : World} {q : Value}

set_option maxRecDepth 100000 in
set_option maxHeartbeats 400000 in
theorem no_ok (h : NoDesk w q) : Calls Try.prog 43 #[q] w fun e w' => e = .returned (.bool false) ∧ w = w' := by
  rcases h with rfl | ⟨p, rfl, hb⟩
  · go_enter Try.func43, Try.ntmps43
    go_wp2
    go_ret
    exact ⟨rfl, rfl⟩
  · have c0 : w.cell? ⟨p, 0, none⟩ = some (.map none) := hb.cell 0
    have hn : (binOp .neq 77 (.map none) (.map none)).run Try.prog w = .ok (.bool false) w := by kernel_rfl
    clear hb
    go_enter Try.func43, Try.ntmps43
    go_wp2
    go_ret
    exact ⟨rfl, rfl⟩

set_option maxRecDepth 100000 in
set_option maxHeartbeats 400000 in
theorem no_Last (h : NoDesk w q) (c : UInt8) : Calls Try.prog 17 #[q, .int .u8 c.toNat] w fun e w' => e = .returned (.int .u32 0) ∧ w = w' := by
  have ho := no_ok h
  clear h
  go_enter Try.func17, Try.ntmps17
  go_wp2_with (go_at_call 43; refine ho.mono ?_; rintro _ _ ⟨rfl, rfl⟩)
  go_ret
  exact ⟨rfl, rfl⟩

set_option maxRecDepth 100000 in
set_option maxHeartbeats 400000 in
theorem no_Leave (h : NoDesk w q) (c : UInt8) : Calls Try.prog 29 #[q, .int .u8 c.toNat] w fun e w' => e = .returned (.bool false) ∧ w = w' := by
  have ho := no_ok h
  clear h
  go_enter Try.func29, Try.ntmps29
  go_wp2_with (go_at_call 43; refine ho.mono ?_; rintro _ _ ⟨rfl, rfl⟩)
  go_ret
  exact ⟨rfl, rfl⟩

set_option maxRecDepth 100000 in
set_option maxHeartbeats 400000 in
theorem no_All (h : NoDesk w q) : Calls Try.prog 33 #[q] w fun e w' => e = .returned (.slice none 0 0) ∧ w = w' := by
  have ho := no_ok h
  clear h
  go_enter Try.func33, Try.ntmps33
  go_wp2_with (go_at_call 43; refine ho.mono ?_; rintro _ _ ⟨rfl, rfl⟩)
  go_ret
  exact ⟨rfl, rfl⟩

set_option maxRecDepth 100000 in
set_option maxHeartbeats 400000 in
theorem no_Tell (h : NoDesk w q) (c : UInt8) (s : Int) (a : PA) :
    Calls Try.prog 18 #[q, .agg #[.int .u8 c.toNat, .int .u32 s], .agg #[.int .i64 a.why, .int .u8 a.node, .int .u32 a.boot, .int .u32 a.num, .string a.val, .int .u32 a.ver]] w
      fun e w' => e = .returned (.int .i64 2) ∧ Kept No w w' := by
  have K1 := (Kept.refl No w).alloc (.cells #[.int .u8 c.toNat, .int .u32 s] 39)
  have K2 := K1.alloc (.cells #[.int .i64 a.why, .int .u8 a.node, .int .u32 a.boot, .int .u32 a.num, .string a.val, .int .u32 a.ver] 40)
  have ho := no_ok (h.kept K2 (fun _ => id))
  clear h
  go_enter Try.func18, Try.ntmps18
  go_wp2_with (go_at_call 43; refine ho.mono ?_; rintro _ _ ⟨rfl, rfl⟩)
  go_ret
  exact ⟨rfl, K2⟩

set_option maxRecDepth 100000 in
set_option maxHeartbeats 800000 in
theorem no_Come (h : NoDesk w q) (c : UInt8) (s : Int) :
    Calls Try.prog 19 #[q, .agg #[.int .u8 c.toNat, .int .u32 s]] w
      fun e w' => e = .returned (.tuple #[.int .i64 0, .agg #[.int .i64 0, .int .u8 0, .int .u32 0, .int .u32 0, .string ⟨#[]⟩, .int .u32 0], .int .i64 2]) ∧ Kept No w w' := by
  have K1 := (Kept.refl No w).alloc (.cells #[.int .u8 c.toNat, .int .u32 s] 39)
  have s1 : (w.alloc (.cells #[.int .u8 c.toNat, .int .u32 s] 39)).heap.size = w.heap.size + 1 := World.size_alloc _ _
  have ho : ∀ w', Kept No w w' → _ := fun w' (k : Kept No w w') => no_ok (h.kept k (fun _ => id))
  clear h
  go_enter Try.func19, Try.ntmps19
  go_wp2_with fail
  rw [← s1]
  generalize w.alloc (.cells #[.int .u8 c.toNat, .int .u32 s] 39) = w1 at *
  have B5 := Blk.new w1 40 PA.zero.cells
  have K5 := (Kept.refl No w1).alloc (.cells PA.zero.cells.toArray 40)
  change Calls _ _ _ (w1.alloc (.cells PA.zero.cells.toArray 40)) _
  generalize w1.alloc (.cells PA.zero.cells.toArray 40) = w2 at *
  have K2 := K1.transNo K5
  refine (ho _ K2).mono ?_
  rintro _ _ ⟨rfl, rfl⟩
  generalize hg : w1.heap.size = g5 at *
  clear K1 K5 ho
  obtain ⟨a0, a1, a2, a3, a4, a5⟩ := get6 B5
  have hf := fun j => B5.frozen j
  have S5 := set6 B5 rfl (.int .i64 0) (.int .u8 0) (.int .u32 0) (.int .u32 0) (.string ⟨#[]⟩) (.int .u32 0)
  have HK := Lib.hid (kept6 K2 g5 (fun h => by omega) (.int .i64 0) (.int .u8 0) (.int .u32 0) (.int .u32 0) (.string ⟨#[]⟩) (.int .u32 0))
  clear K2 s1
  go_wp2
  clear a0 a1 a2 a3 a4 a5 hf B5
  obtain ⟨x0, x1, x2, x3, x4, x5⟩ := get6 S5
  exact bodyPost_ret (v := .tuple #[.int .i64 0, .agg #[.int .i64 0, .int .u8 0, .int .u32 0, .int .u32 0, .string ⟨#[]⟩, .int .u32 0], .int .i64 2]) (by simp [results, Try.results19, go_sem, x0, x1, x2, x3, x4, x5]) rfl ⟨rfl, HK.out⟩
end
end Go.Proofs.Ytencnfgmgcdiiaa
