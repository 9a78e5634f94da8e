/- The law's helpers: ours, does, short. -/
import Derived.Test.YtdolddgmemlofaaNetG
import Derived.Test.YtdolddgmemlofaaRef01
namespace Go.Proofs.Ytdolddgmemlofaa
open Go.RowKit Go.PM

section
variable {w : World} {p : Nat} {s : PN} {S : Nat → Prop}

set_option maxHeartbeats 400000 in
theorem ours_calls (f t : Int) (a : Option Addr) (n c : Nat) (w : World) :
    Calls Try.prog 28 #[.agg #[.int .u8 f, .int .u8 t, .slice a n c]] w fun e w' => e = .returned (.agg #[.int .u8 f, .int .u8 t, .slice a n c]) ∧ Kept No w w' := by
  go_enter Try.func28, Try.ntmps28
  go_wp2
  exact bodyPost_ret (v := .agg #[.int .u8 f, .int .u8 t, .slice a n c]) (by simp [results, Try.results28, go_sem]) rfl
    ⟨rfl, ((Kept.refl No w).alloc _).alloc _⟩

/-- Behind a call: the answer is stored into its box. -/
theorem got_end {wb w1 w2 : World} {B : Nat} {S1 : Nat → Prop} {s1 : PN} {x : PW} {code : Int} {a2 : Option Addr} {c2 : Nat} {v0 v1 v2 : Value}
    (h : NetS w p s S) (hwb : Kept No w wb) (hB : w.heap.size ≤ B) (_hB1 : B < wb.heap.size) (hg : Grows S S1 wb w1) (hS1 : NetS w1 p s1 S1) (hk2 : Kept (fun k => k = B + 1) w1 w2) (hB2 : B + 1 < wb.heap.size)
    (hc : a2 = none → c2 = 0) (hr : Rd w1 a2 (bcells x.2.2)) (ha : ∀ k, At a2 k → wb.heap.size ≤ k ∧ k < w1.heap.size ∧ ¬ S1 k) :
    GotPost w p S x code s1 (.returned (.tuple #[.agg #[.int .u8 x.1, .int .u8 x.2.1, .slice a2 x.2.2.length c2], .int .i64 code])) (((w2.setCell ⟨B, 0, none⟩ v0).setCell ⟨B, 1, none⟩ v1).setCell ⟨B, 2, none⟩ v2) := by
  have hlt := h.lt
  have hk3 : Kept (fun k => k = B ∨ k = B + 1) w1 (((w2.setCell ⟨B, 0, none⟩ v0).setCell ⟨B, 1, none⟩ v1).setCell ⟨B, 2, none⟩ v2) :=
    (((hk2.mono (fun _ _ h => .inr h)).setCell (a := ⟨B, 0, none⟩) (fun _ => .inl rfl) _).setCell (a := ⟨B, 1, none⟩) (fun _ => .inl rfl) _).setCell (a := ⟨B, 2, none⟩) (fun _ => .inl rfl) _
  have hnS : ∀ b, S1 b → ¬ (b = B ∨ b = B + 1) := by
    intro b hb hh
    rcases hg.grow b hb with h' | h'
    · have := hlt b h'; omega
    · omega
  refine ⟨a2, c2, S1, rfl, hc, hr.kept hk3 (fun b hb hh => by have := (ha b hb).1; omega), fun k hk => ?_, hS1.kept hk3 hnS, ⟨?_, ?_⟩⟩
  · obtain ⟨h1, h2, h3⟩ := ha k hk
    have := hwb.size
    exact ⟨by omega, hk3.lt h2, h3⟩
  · refine (hwb.no.trans hg.kept (fun _ _ h => h)).trans hk3 (fun b hb hh => ?_)
    omega
  · intro k hk
    have := hwb.size
    exact (hg.grow k hk).imp id (by omega)

set_option maxRecDepth 100000 in
set_option maxHeartbeats 400000 in
theorem does_send (h : NetS w p s S) (a : PAct) (ad : Option Addr) (c : Nat) (hr : Rd w ad (bcells a.b)) (hk0 : 0 ≤ a.kind) (hk : a.kind % 6 = 0) :
    Calls Try.prog 18 #[.pointer (some ⟨p, 0, none⟩), .agg #[.int .u8 a.kind, .int .u8 a.f, .int .u8 a.t, .int .i64 a.i, .slice ad a.b.length c]] w (GotPost w p S (s.does a).1 (s.does a).2.1 (s.does a).2.2) := by
  have hlt := h.lt
  have hwb := (((Kept.refl No w).alloc (.cells #[.int .u8 a.kind, .int .u8 a.f, .int .u8 a.t, .int .i64 a.i, .slice ad a.b.length c] 34)).alloc (.cells #[.int .u8 0, .int .u8 0, .slice none 0 0] 39)).alloc (.cells #[.int .u8 0, .int .u8 0, .slice none 0 0] 36)
  have hd : s.does a = ((0, 0, []), s.send (a.f, a.t, a.b)) := by unfold PN.does; simp [hk]
  rw [hd]
  go_enter Try.func18, Try.ntmps18
  go_wp2_with (go_at_call 19; go_must (refine (s_send (h.keptNo hwb) (a.f, a.t, a.b) ad c (hr.keptNo hwb)).mono ?_))
  rintro e w1 ⟨S1, rfl, hS1, hg⟩
  have hn4 : ¬ S (w.heap.size + 1) := fun h' => by have := hlt _ h'; omega
  have hn6 : ¬ S (w.heap.size + 1 + 1) := fun h' => by have := hlt _ h'; omega
  have b4 := (Blk.alloc (Blk.new' (w := w.alloc (.cells #[.int .u8 a.kind, .int .u8 a.f, .int .u8 a.t, .int .i64 a.i, .slice ad a.b.length c] 34)) (g := w.heap.size + 1) (by simp) 39 [.int .u8 0, .int .u8 0, .slice none 0 0]) (.cells #[.int .u8 0, .int .u8 0, .slice none 0 0] 36)).kept hg.kept hn4
  have b6 := (Blk.new' (w := (w.alloc (.cells #[.int .u8 a.kind, .int .u8 a.f, .int .u8 a.t, .int .i64 a.i, .slice ad a.b.length c] 34)).alloc (.cells #[.int .u8 0, .int .u8 0, .slice none 0 0] 39)) (g := w.heap.size + 1 + 1) (by simp) 36 [.int .u8 0, .int .u8 0, .slice none 0 0]).kept hg.kept hn6
  have x0 := b6.cell 0
  have x1 := b6.cell 1
  have x2 := b6.cell 2
  go_wp2_with (go_at_call 28; go_must (refine (ours_calls _ _ _ _ _ _).mono ?_))
  rintro e w2 ⟨rfl, hk2⟩
  have b4' := b4.kept hk2 id
  have y0 := b4'.cell 0
  have y1 := b4'.cell 1
  have y2 := b4'.cell 2
  have z0 := b4'.frozen 0
  have z1 := b4'.frozen 1
  have z2 := b4'.frozen 2
  clear x0 x1 x2
  go_wp2
  refine bodyPost_ret (v := .tuple #[.agg #[.int .u8 0, .int .u8 0, .slice none 0 0], .int .i64 (s.send (a.f, a.t, a.b)).1]) (by simp [results, Try.results18, go_sem, y0, y1, y2]) rfl ?_
  exact got_end (x := (0, 0, [])) h hwb (by omega) (by simp) hg hS1 hk2.no (by simp) (fun _ => rfl) (Rd.nil _ _) (fun k ⟨_, _, h, _⟩ => nomatch h)

set_option maxRecDepth 100000 in
set_option maxHeartbeats 400000 in
theorem does_drop (h : NetS w p s S) (a : PAct) (ad : Option Addr) (c : Nat) (_hr : Rd w ad (bcells a.b)) (hk0 : 0 ≤ a.kind) (hk : a.kind % 6 = 3) :
    Calls Try.prog 18 #[.pointer (some ⟨p, 0, none⟩), .agg #[.int .u8 a.kind, .int .u8 a.f, .int .u8 a.t, .int .i64 a.i, .slice ad a.b.length c]] w (GotPost w p S (s.does a).1 (s.does a).2.1 (s.does a).2.2) := by
  have hlt := h.lt
  have hwb := (((Kept.refl No w).alloc (.cells #[.int .u8 a.kind, .int .u8 a.f, .int .u8 a.t, .int .i64 a.i, .slice ad a.b.length c] 34)).alloc (.cells #[.int .u8 0, .int .u8 0, .slice none 0 0] 39)).alloc (.cells #[.int .u8 0, .int .u8 0, .slice none 0 0] 36)
  have hd : s.does a = ((0, 0, []), s.drop a.i) := by unfold PN.does; simp [hk]
  rw [hd]
  go_enter Try.func18, Try.ntmps18
  go_wp2_with (go_at_call 58; go_must (refine (s_drop (h.keptNo hwb) a.i).mono ?_))
  rintro e w1 ⟨S1, rfl, hS1, hg⟩
  have hn4 : ¬ S (w.heap.size + 1) := fun h' => by have := hlt _ h'; omega
  have hn6 : ¬ S (w.heap.size + 1 + 1) := fun h' => by have := hlt _ h'; omega
  have b4 := (Blk.alloc (Blk.new' (w := w.alloc (.cells #[.int .u8 a.kind, .int .u8 a.f, .int .u8 a.t, .int .i64 a.i, .slice ad a.b.length c] 34)) (g := w.heap.size + 1) (by simp) 39 [.int .u8 0, .int .u8 0, .slice none 0 0]) (.cells #[.int .u8 0, .int .u8 0, .slice none 0 0] 36)).kept hg.kept hn4
  have b6 := (Blk.new' (w := (w.alloc (.cells #[.int .u8 a.kind, .int .u8 a.f, .int .u8 a.t, .int .i64 a.i, .slice ad a.b.length c] 34)).alloc (.cells #[.int .u8 0, .int .u8 0, .slice none 0 0] 39)) (g := w.heap.size + 1 + 1) (by simp) 36 [.int .u8 0, .int .u8 0, .slice none 0 0]).kept hg.kept hn6
  have x0 := b6.cell 0
  have x1 := b6.cell 1
  have x2 := b6.cell 2
  go_wp2_with (go_at_call 28; go_must (refine (ours_calls _ _ _ _ _ _).mono ?_))
  rintro e w2 ⟨rfl, hk2⟩
  have b4' := b4.kept hk2 id
  have y0 := b4'.cell 0
  have y1 := b4'.cell 1
  have y2 := b4'.cell 2
  have z0 := b4'.frozen 0
  have z1 := b4'.frozen 1
  have z2 := b4'.frozen 2
  clear x0 x1 x2
  go_wp2
  refine bodyPost_ret (v := .tuple #[.agg #[.int .u8 0, .int .u8 0, .slice none 0 0], .int .i64 (s.drop a.i).1]) (by simp [results, Try.results18, go_sem, y0, y1, y2]) rfl ?_
  exact got_end (x := (0, 0, [])) h hwb (by omega) (by simp) hg hS1 hk2.no (by simp) (fun _ => rfl) (Rd.nil _ _) (fun k ⟨_, _, h, _⟩ => nomatch h)

set_option maxRecDepth 100000 in
set_option maxHeartbeats 400000 in
theorem does_twice (h : NetS w p s S) (a : PAct) (ad : Option Addr) (c : Nat) (_hr : Rd w ad (bcells a.b)) (hk0 : 0 ≤ a.kind) (hk : a.kind % 6 = 4) :
    Calls Try.prog 18 #[.pointer (some ⟨p, 0, none⟩), .agg #[.int .u8 a.kind, .int .u8 a.f, .int .u8 a.t, .int .i64 a.i, .slice ad a.b.length c]] w (GotPost w p S (s.does a).1 (s.does a).2.1 (s.does a).2.2) := by
  have hlt := h.lt
  have hwb := (((Kept.refl No w).alloc (.cells #[.int .u8 a.kind, .int .u8 a.f, .int .u8 a.t, .int .i64 a.i, .slice ad a.b.length c] 34)).alloc (.cells #[.int .u8 0, .int .u8 0, .slice none 0 0] 39)).alloc (.cells #[.int .u8 0, .int .u8 0, .slice none 0 0] 36)
  have hd : s.does a = ((0, 0, []), s.twice a.i) := by unfold PN.does; simp [hk]
  rw [hd]
  go_enter Try.func18, Try.ntmps18
  go_wp2_with (go_at_call 29; go_must (refine (s_twice (h.keptNo hwb) a.i).mono ?_))
  rintro e w1 ⟨S1, rfl, hS1, hg⟩
  have hn4 : ¬ S (w.heap.size + 1) := fun h' => by have := hlt _ h'; omega
  have hn6 : ¬ S (w.heap.size + 1 + 1) := fun h' => by have := hlt _ h'; omega
  have b4 := (Blk.alloc (Blk.new' (w := w.alloc (.cells #[.int .u8 a.kind, .int .u8 a.f, .int .u8 a.t, .int .i64 a.i, .slice ad a.b.length c] 34)) (g := w.heap.size + 1) (by simp) 39 [.int .u8 0, .int .u8 0, .slice none 0 0]) (.cells #[.int .u8 0, .int .u8 0, .slice none 0 0] 36)).kept hg.kept hn4
  have b6 := (Blk.new' (w := (w.alloc (.cells #[.int .u8 a.kind, .int .u8 a.f, .int .u8 a.t, .int .i64 a.i, .slice ad a.b.length c] 34)).alloc (.cells #[.int .u8 0, .int .u8 0, .slice none 0 0] 39)) (g := w.heap.size + 1 + 1) (by simp) 36 [.int .u8 0, .int .u8 0, .slice none 0 0]).kept hg.kept hn6
  have x0 := b6.cell 0
  have x1 := b6.cell 1
  have x2 := b6.cell 2
  go_wp2_with (go_at_call 28; go_must (refine (ours_calls _ _ _ _ _ _).mono ?_))
  rintro e w2 ⟨rfl, hk2⟩
  have b4' := b4.kept hk2 id
  have y0 := b4'.cell 0
  have y1 := b4'.cell 1
  have y2 := b4'.cell 2
  have z0 := b4'.frozen 0
  have z1 := b4'.frozen 1
  have z2 := b4'.frozen 2
  clear x0 x1 x2
  go_wp2
  refine bodyPost_ret (v := .tuple #[.agg #[.int .u8 0, .int .u8 0, .slice none 0 0], .int .i64 (s.twice a.i).1]) (by simp [results, Try.results18, go_sem, y0, y1, y2]) rfl ?_
  exact got_end (x := (0, 0, [])) h hwb (by omega) (by simp) hg hS1 hk2.no (by simp) (fun _ => rfl) (Rd.nil _ _) (fun k ⟨_, _, h, _⟩ => nomatch h)

set_option maxRecDepth 100000 in
set_option maxHeartbeats 400000 in
theorem does_late (h : NetS w p s S) (a : PAct) (ad : Option Addr) (c : Nat) (_hr : Rd w ad (bcells a.b)) (hk0 : 0 ≤ a.kind) (hk : a.kind % 6 = 5) :
    Calls Try.prog 18 #[.pointer (some ⟨p, 0, none⟩), .agg #[.int .u8 a.kind, .int .u8 a.f, .int .u8 a.t, .int .i64 a.i, .slice ad a.b.length c]] w (GotPost w p S (s.does a).1 (s.does a).2.1 (s.does a).2.2) := by
  have hlt := h.lt
  have hwb := (((Kept.refl No w).alloc (.cells #[.int .u8 a.kind, .int .u8 a.f, .int .u8 a.t, .int .i64 a.i, .slice ad a.b.length c] 34)).alloc (.cells #[.int .u8 0, .int .u8 0, .slice none 0 0] 39)).alloc (.cells #[.int .u8 0, .int .u8 0, .slice none 0 0] 36)
  have hd : s.does a = ((0, 0, []), s.late a.i) := by unfold PN.does; simp [hk]
  rw [hd]
  go_enter Try.func18, Try.ntmps18
  go_wp2_with (go_at_call 55; go_must (refine (s_late (h.keptNo hwb) a.i).mono ?_))
  rintro e w1 ⟨S1, rfl, hS1, hg⟩
  have hn4 : ¬ S (w.heap.size + 1) := fun h' => by have := hlt _ h'; omega
  have hn6 : ¬ S (w.heap.size + 1 + 1) := fun h' => by have := hlt _ h'; omega
  have b4 := (Blk.alloc (Blk.new' (w := w.alloc (.cells #[.int .u8 a.kind, .int .u8 a.f, .int .u8 a.t, .int .i64 a.i, .slice ad a.b.length c] 34)) (g := w.heap.size + 1) (by simp) 39 [.int .u8 0, .int .u8 0, .slice none 0 0]) (.cells #[.int .u8 0, .int .u8 0, .slice none 0 0] 36)).kept hg.kept hn4
  have b6 := (Blk.new' (w := (w.alloc (.cells #[.int .u8 a.kind, .int .u8 a.f, .int .u8 a.t, .int .i64 a.i, .slice ad a.b.length c] 34)).alloc (.cells #[.int .u8 0, .int .u8 0, .slice none 0 0] 39)) (g := w.heap.size + 1 + 1) (by simp) 36 [.int .u8 0, .int .u8 0, .slice none 0 0]).kept hg.kept hn6
  have x0 := b6.cell 0
  have x1 := b6.cell 1
  have x2 := b6.cell 2
  go_wp2_with (go_at_call 28; go_must (refine (ours_calls _ _ _ _ _ _).mono ?_))
  rintro e w2 ⟨rfl, hk2⟩
  have b4' := b4.kept hk2 id
  have y0 := b4'.cell 0
  have y1 := b4'.cell 1
  have y2 := b4'.cell 2
  have z0 := b4'.frozen 0
  have z1 := b4'.frozen 1
  have z2 := b4'.frozen 2
  clear x0 x1 x2
  go_wp2
  refine bodyPost_ret (v := .tuple #[.agg #[.int .u8 0, .int .u8 0, .slice none 0 0], .int .i64 (s.late a.i).1]) (by simp [results, Try.results18, go_sem, y0, y1, y2]) rfl ?_
  exact got_end (x := (0, 0, [])) h hwb (by omega) (by simp) hg hS1 hk2.no (by simp) (fun _ => rfl) (Rd.nil _ _) (fun k ⟨_, _, h, _⟩ => nomatch h)

set_option maxRecDepth 100000 in
set_option maxHeartbeats 400000 in
theorem does_take (h : NetS w p s S) (a : PAct) (ad : Option Addr) (c : Nat) (_hr : Rd w ad (bcells a.b)) (hk0 : 0 ≤ a.kind) (hk : a.kind % 6 = 1) :
    Calls Try.prog 18 #[.pointer (some ⟨p, 0, none⟩), .agg #[.int .u8 a.kind, .int .u8 a.f, .int .u8 a.t, .int .i64 a.i, .slice ad a.b.length c]] w (GotPost w p S (s.does a).1 (s.does a).2.1 (s.does a).2.2) := by
  have hlt := h.lt
  have hwb := (((Kept.refl No w).alloc (.cells #[.int .u8 a.kind, .int .u8 a.f, .int .u8 a.t, .int .i64 a.i, .slice ad a.b.length c] 34)).alloc (.cells #[.int .u8 0, .int .u8 0, .slice none 0 0] 39)).alloc (.cells #[.int .u8 0, .int .u8 0, .slice none 0 0] 36)
  have hd : s.does a = s.take a.i := by unfold PN.does; simp [hk]
  rw [hd]
  go_enter Try.func18, Try.ntmps18
  go_wp2_with (go_at_call 30; go_must (refine (s_take (h.keptNo hwb) a.i).mono ?_))
  rintro e w1 ⟨a2, c2, S1, rfl, hc2, hr2, ha2, hS1, hg⟩
  have hn4 : ¬ S (w.heap.size + 1) := fun h' => by have := hlt _ h'; omega
  have hn6 : ¬ S (w.heap.size + 1 + 1) := fun h' => by have := hlt _ h'; omega
  have b4 := (Blk.alloc (Blk.new' (w := w.alloc (.cells #[.int .u8 a.kind, .int .u8 a.f, .int .u8 a.t, .int .i64 a.i, .slice ad a.b.length c] 34)) (g := w.heap.size + 1) (by simp) 39 [.int .u8 0, .int .u8 0, .slice none 0 0]) (.cells #[.int .u8 0, .int .u8 0, .slice none 0 0] 36)).kept hg.kept hn4
  have b6 := (Blk.new' (w := (w.alloc (.cells #[.int .u8 a.kind, .int .u8 a.f, .int .u8 a.t, .int .i64 a.i, .slice ad a.b.length c] 34)).alloc (.cells #[.int .u8 0, .int .u8 0, .slice none 0 0] 39)) (g := w.heap.size + 1 + 1) (by simp) 36 [.int .u8 0, .int .u8 0, .slice none 0 0]).kept hg.kept hn6
  have x0 := b6.cell 0
  have x1 := b6.cell 1
  have x2 := b6.cell 2
  have u0 := b6.frozen 0
  have u1 := b6.frozen 1
  have u2 := b6.frozen 2
  go_wp2_with (go_at_call 28; go_must (refine (ours_calls _ _ _ _ _ _).mono ?_))
  rintro e w2 ⟨rfl, hk2⟩
  have hne : w.heap.size + 1 ≠ w.heap.size + 1 + 1 := by omega
  have b4' := (((b4.setOther (a := ⟨w.heap.size + 1 + 1, 0, none⟩) hne _).setOther (a := ⟨w.heap.size + 1 + 1, 1, none⟩) hne _).setOther (a := ⟨w.heap.size + 1 + 1, 2, none⟩) hne _).kept hk2 id
  have hk1 := ((Kept.setCell (S := fun k => k = w.heap.size + 1 + 1) (Kept.refl _ w1) (a := ⟨w.heap.size + 1 + 1, 0, none⟩) (fun _ => rfl) _).setCell (a := ⟨w.heap.size + 1 + 1, 1, none⟩) (fun _ => rfl) _).setCell (a := ⟨w.heap.size + 1 + 1, 2, none⟩) (fun _ => rfl) _ |>.transNo hk2
  have y0 := b4'.cell 0
  have y1 := b4'.cell 1
  have y2 := b4'.cell 2
  have z0 := b4'.frozen 0
  have z1 := b4'.frozen 1
  have z2 := b4'.frozen 2
  clear x0 x1 x2 u0 u1 u2
  go_wp2
  refine bodyPost_ret (v := .tuple #[.agg #[.int .u8 (s.take a.i).1.1, .int .u8 (s.take a.i).1.2.1, .slice a2 (s.take a.i).1.2.2.length c2], .int .i64 (s.take a.i).2.1]) (by simp [results, Try.results18, go_sem, y0, y1, y2]) rfl ?_
  exact got_end h hwb (by omega) (by simp) hg hS1 hk1 (by simp) hc2 hr2 ha2

set_option maxRecDepth 100000 in
set_option maxHeartbeats 400000 in
theorem does_at (h : NetS w p s S) (a : PAct) (ad : Option Addr) (c : Nat) (_hr : Rd w ad (bcells a.b)) (hk0 : 0 ≤ a.kind) (hk : a.kind % 6 = 2) :
    Calls Try.prog 18 #[.pointer (some ⟨p, 0, none⟩), .agg #[.int .u8 a.kind, .int .u8 a.f, .int .u8 a.t, .int .i64 a.i, .slice ad a.b.length c]] w (GotPost w p S (s.does a).1 (s.does a).2.1 (s.does a).2.2) := by
  have hlt := h.lt
  have hwb := (((Kept.refl No w).alloc (.cells #[.int .u8 a.kind, .int .u8 a.f, .int .u8 a.t, .int .i64 a.i, .slice ad a.b.length c] 34)).alloc (.cells #[.int .u8 0, .int .u8 0, .slice none 0 0] 39)).alloc (.cells #[.int .u8 0, .int .u8 0, .slice none 0 0] 36)
  have hd : s.does a = ((s.at a.i).1, (s.at a.i).2, s) := by unfold PN.does; simp [hk]
  rw [hd]
  go_enter Try.func18, Try.ntmps18
  go_wp2_with (go_at_call 17; go_must (refine (s_at (h.keptNo hwb) a.i).mono ?_))
  rintro e w1 ⟨a2, c2, S1, rfl, hc2, hr2, ha2, hS1, hg⟩
  have hn4 : ¬ S (w.heap.size + 1) := fun h' => by have := hlt _ h'; omega
  have hn6 : ¬ S (w.heap.size + 1 + 1) := fun h' => by have := hlt _ h'; omega
  have b4 := (Blk.alloc (Blk.new' (w := w.alloc (.cells #[.int .u8 a.kind, .int .u8 a.f, .int .u8 a.t, .int .i64 a.i, .slice ad a.b.length c] 34)) (g := w.heap.size + 1) (by simp) 39 [.int .u8 0, .int .u8 0, .slice none 0 0]) (.cells #[.int .u8 0, .int .u8 0, .slice none 0 0] 36)).kept hg.kept hn4
  have b6 := (Blk.new' (w := (w.alloc (.cells #[.int .u8 a.kind, .int .u8 a.f, .int .u8 a.t, .int .i64 a.i, .slice ad a.b.length c] 34)).alloc (.cells #[.int .u8 0, .int .u8 0, .slice none 0 0] 39)) (g := w.heap.size + 1 + 1) (by simp) 36 [.int .u8 0, .int .u8 0, .slice none 0 0]).kept hg.kept hn6
  have x0 := b6.cell 0
  have x1 := b6.cell 1
  have x2 := b6.cell 2
  have u0 := b6.frozen 0
  have u1 := b6.frozen 1
  have u2 := b6.frozen 2
  go_wp2_with (go_at_call 28; go_must (refine (ours_calls _ _ _ _ _ _).mono ?_))
  rintro e w2 ⟨rfl, hk2⟩
  have hne : w.heap.size + 1 ≠ w.heap.size + 1 + 1 := by omega
  have b4' := (((b4.setOther (a := ⟨w.heap.size + 1 + 1, 0, none⟩) hne _).setOther (a := ⟨w.heap.size + 1 + 1, 1, none⟩) hne _).setOther (a := ⟨w.heap.size + 1 + 1, 2, none⟩) hne _).kept hk2 id
  have hk1 := ((Kept.setCell (S := fun k => k = w.heap.size + 1 + 1) (Kept.refl _ w1) (a := ⟨w.heap.size + 1 + 1, 0, none⟩) (fun _ => rfl) _).setCell (a := ⟨w.heap.size + 1 + 1, 1, none⟩) (fun _ => rfl) _).setCell (a := ⟨w.heap.size + 1 + 1, 2, none⟩) (fun _ => rfl) _ |>.transNo hk2
  have y0 := b4'.cell 0
  have y1 := b4'.cell 1
  have y2 := b4'.cell 2
  have z0 := b4'.frozen 0
  have z1 := b4'.frozen 1
  have z2 := b4'.frozen 2
  clear x0 x1 x2 u0 u1 u2
  go_wp2
  refine bodyPost_ret (v := .tuple #[.agg #[.int .u8 (s.at a.i).1.1, .int .u8 (s.at a.i).1.2.1, .slice a2 (s.at a.i).1.2.2.length c2], .int .i64 (s.at a.i).2]) (by simp [results, Try.results18, go_sem, y0, y1, y2]) rfl ?_
  exact got_end h hwb (by omega) (by simp) hg hS1 hk1 (by simp) hc2 hr2 ha2

theorem does_calls (h : NetS w p s S) (a : PAct) (ad : Option Addr) (c : Nat) (hr : Rd w ad (bcells a.b)) (hk0 : 0 ≤ a.kind) :
    Calls Try.prog 18 #[.pointer (some ⟨p, 0, none⟩), .agg #[.int .u8 a.kind, .int .u8 a.f, .int .u8 a.t, .int .i64 a.i, .slice ad a.b.length c]] w (GotPost w p S (s.does a).1 (s.does a).2.1 (s.does a).2.2) := by
  have h6 : a.kind % 6 = 0 ∨ a.kind % 6 = 1 ∨ a.kind % 6 = 2 ∨ a.kind % 6 = 3 ∨ a.kind % 6 = 4 ∨ a.kind % 6 = 5 := by omega
  rcases h6 with h' | h' | h' | h' | h' | h'
  · exact does_send h a ad c hr hk0 h'
  · exact does_take h a ad c hr hk0 h'
  · exact does_at h a ad c hr hk0 h'
  · exact does_drop h a ad c hr hk0 h'
  · exact does_twice h a ad c hr hk0 h'
  · exact does_late h a ad c hr hk0 h'
end
end Go.Proofs.Ytdolddgmemlofaa
