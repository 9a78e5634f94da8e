/- Package sess: New, Leave. -/
import Derived.Test.YtencnfgmgcdiiaaSeA
namespace Go.Proofs.Ytencnfgmgcdiiaa
open Go.RowKit Go.PM

section
variable {w : World} {p b : Nat} {D : List (UInt8 × PC)}

theorem DeskB.kept {S : Nat → Prop} {w' : World} (h : DeskB w p b D) (k : Kept S w w') (hp : ¬ S p) (hb : ¬ S b) : DeskB w' p b D := ⟨h.st.kept k hp, h.mp.kept k hb, h.ne⟩

set_option maxRecDepth 100000 in
set_option maxHeartbeats 400000 in
theorem se_New (w : World) :
    Calls Try.prog 14 #[] w fun e w' => ∃ p b, e = .returned (.pointer (some ⟨p, 0, none⟩)) ∧ DeskB w' p b [] ∧ Kept No w w' ∧ w.heap.size ≤ p ∧ w.heap.size ≤ b := by
  have hmm := @run_makeMap Try.prog
  go_enter Try.func14, Try.ntmps14
  go_wp2
  go_ret
  have M := MapR.new w ekb PC.e
  have K := (Kept.refl No w).alloc (.map #[] 0)
  have B := Blk.new (w.alloc (.map #[] 0)) 79 [.map (some w.heap.size)]
  have K' := (Kept.refl No (w.alloc (.map #[] 0))).alloc (.cells #[.map (some w.heap.size)] 79)
  have hs : (w.alloc (.map #[] 0)).heap.size = w.heap.size + 1 := World.size_alloc _ _
  rw [hs] at B
  refine ⟨_, _, rfl, ⟨B, M.kept K' id, by omega⟩, K.transNo K', by omega, by omega⟩

set_option maxRecDepth 100000 in
set_option maxHeartbeats 800000 in
theorem se_Leave (h : DeskB w p b D) (c : UInt8) :
    Calls Try.prog 29 #[.pointer (some ⟨p, 0, none⟩), .int .u8 c.toNat] w
      fun e w' => e = .returned (.bool (getK D c).isSome) ∧ DeskB w' p b (delK D c) ∧ Kept (· = b) w w' := by
  have c0 := h.c0
  have ho := se_ok h
  have hl := h.mp.look_ok Try.skey Try.su_map (Try.sz_client w) c
  have F : ∀ w', Kept No w w' → ∃ w'', (Builtin.delete_ #[77, 5] 0 #[.map (some b), .int .u8 c.toNat]).run Try.prog w' = .ok (.tuple #[]) w'' ∧ DeskB w'' p b (delK D c) ∧ Kept (· = b) w w'' ∧ w'.cell? ⟨p, 0, none⟩ = some (.map (some b)) := by
    intro w' k
    have hD := h.kept k id id
    obtain ⟨w'', h1, h2, h3⟩ := hD.mp.delete Try.skey Try.su_map 0 c
    exact ⟨w'', h1, ⟨hD.st.kept h3 hD.ne, h2, h.ne⟩, k.no.trans h3 fun _ _ h => h, hD.c0⟩
  generalize (getK D c).getD .zero = x at *
  generalize (getK D c).isSome = is at *
  clear h
  unfold PC.e ekb at hl
  obtain ⟨w2, f1, f2, f3, f4⟩ := F (w.alloc (.cells #[.int .u32 x.last, .bool x.opn, .int .i64 x.a.why, .int .u8 x.a.node, .int .u32 x.a.boot, .int .u32 x.a.num, .string x.a.val, .int .u32 x.a.ver] 98)) ((Kept.refl No w).alloc _)
  have HF := Lib.hid f2
  clear f2 F
  go_enter Try.func29, Try.ntmps29
  go_wp2_with (go_at_call 43; refine ho.mono ?_; rintro _ _ ⟨rfl, rfl⟩)
  go_ret
  exact ⟨rfl, HF, f3⟩
end
end Go.Proofs.Ytencnfgmgcdiiaa
