/- The law's helpers: does. -/
import Derived.Test.YtdolddgmemlofaaDiskG
namespace Go.Proofs.Ytdolddgmemlofaa
open Go.RowKit Go.PM
set_option maxRecDepth 100000

section
variable {w : World} {p : Nat} {s : PD} {S : Nat → Prop}

theorem DGrows.from {S S' : Nat → Prop} {w wb w' : World} (h : DGrows S S' wb w') (hb : Kept No w wb) : DGrows S S' w w' :=
  ⟨hb.no.trans h.kept (fun _ _ h => h), fun k hk => (h.grow k hk).imp id (fun h' => Nat.le_trans hb.size h')⟩

def mcell (m : DAct) (ad : Option Addr) (c : Nat) : Value := .agg #[.int .u8 m.kind, .int .i64 m.n, .slice ad m.b.length c, .bool m.cut]

set_option maxHeartbeats 400000 in
theorem does_force (h : DS w p s S) (hlo : s.fr ≤ 4611686018427387904) (m : DAct) (ad : Option Addr) (c : Nat) (_hr : Rd w ad (bcells m.b)) (_hc : ad = none → c = 0) (hk0 : 0 ≤ m.kind) (_hn0 : -9223372036854775808 ≤ m.n) (_hn1 : m.n ≤ 9223372036854775807) (hk : m.kind % 8 = 1) :
    Calls Try.prog 44 #[.pointer (some ⟨p, 0, none⟩), .agg #[.int .u8 m.kind, .int .i64 m.n, .slice ad m.b.length c, .bool m.cut]] w (DTwo w p S (s.does m)) := by
  have hd : s.does m = (0, s.force) := by unfold PD.does; simp [hk]
  rw [hd]
  obtain ⟨a, cap, hX⟩ := h
  have hb := (Kept.refl No w).alloc (.cells #[.int .u8 m.kind, .int .i64 m.n, .slice ad m.b.length c, .bool m.cut] 83)
  have hB := hX.keptNo hb
  have C := Lib.hid (d_force hB hlo)
  clear hd hX
  go_enter Try.func44, Try.ntmps44
  go_wp2_with (go_at_call 37; refine C.out.mono ?_; rintro e w1 ⟨S1, rfl, h1, hg⟩)
  go_ret2
  exact ⟨S1, rfl, h1, hg.from hb⟩

set_option maxHeartbeats 400000 in
theorem does_cut (h : DS w p s S) (hlo : s.fr ≤ 4611686018427387904) (m : DAct) (ad : Option Addr) (c : Nat) (_hr : Rd w ad (bcells m.b)) (_hc : ad = none → c = 0) (hk0 : 0 ≤ m.kind) (_hn0 : -9223372036854775808 ≤ m.n) (_hn1 : m.n ≤ 9223372036854775807) (hk : m.kind % 8 = 2) :
    Calls Try.prog 44 #[.pointer (some ⟨p, 0, none⟩), .agg #[.int .u8 m.kind, .int .i64 m.n, .slice ad m.b.length c, .bool m.cut]] w (DTwo w p S (s.does m)) := by
  have hd : s.does m = (0, s.cut m.n) := by unfold PD.does; simp [hk]
  rw [hd]
  obtain ⟨a, cap, hX⟩ := h
  have hb := (Kept.refl No w).alloc (.cells #[.int .u8 m.kind, .int .i64 m.n, .slice ad m.b.length c, .bool m.cut] 83)
  have hB := hX.keptNo hb
  have C := Lib.hid (d_cut hB hlo m.n)
  clear hd hX
  go_enter Try.func44, Try.ntmps44
  go_wp2_with (go_at_call 36; refine C.out.mono ?_; rintro e w1 ⟨S1, rfl, h1, hg⟩)
  go_ret2
  exact ⟨S1, rfl, h1, hg.from hb⟩

set_option maxHeartbeats 400000 in
theorem does_trim (h : DS w p s S) (hlo : s.fr ≤ 4611686018427387904) (m : DAct) (ad : Option Addr) (c : Nat) (_hr : Rd w ad (bcells m.b)) (_hc : ad = none → c = 0) (hk0 : 0 ≤ m.kind) (_hn0 : -9223372036854775808 ≤ m.n) (_hn1 : m.n ≤ 9223372036854775807) (hk : m.kind % 8 = 7) :
    Calls Try.prog 44 #[.pointer (some ⟨p, 0, none⟩), .agg #[.int .u8 m.kind, .int .i64 m.n, .slice ad m.b.length c, .bool m.cut]] w (DTwo w p S (s.does m)) := by
  have hd : s.does m = (0, s.trim m.n) := by unfold PD.does; simp [hk]
  rw [hd]
  obtain ⟨a, cap, hX⟩ := h
  have hb := (Kept.refl No w).alloc (.cells #[.int .u8 m.kind, .int .i64 m.n, .slice ad m.b.length c, .bool m.cut] 83)
  have hB := hX.keptNo hb
  have C := Lib.hid (d_trim hB hlo m.n)
  clear hd hX
  go_enter Try.func44, Try.ntmps44
  go_wp2_with (go_at_call 54; refine C.out.mono ?_; rintro e w1 ⟨S1, rfl, h1, hg⟩)
  go_ret2
  exact ⟨S1, rfl, h1, hg.from hb⟩

set_option maxHeartbeats 400000 in
theorem does_arm (h : DS w p s S) (_hlo : s.fr ≤ 4611686018427387904) (m : DAct) (ad : Option Addr) (c : Nat) (_hr : Rd w ad (bcells m.b)) (_hc : ad = none → c = 0) (hk0 : 0 ≤ m.kind) (_hn0 : -9223372036854775808 ≤ m.n) (hn1 : m.n ≤ 9223372036854775807) (hk : m.kind % 8 = 3) :
    Calls Try.prog 44 #[.pointer (some ⟨p, 0, none⟩), .agg #[.int .u8 m.kind, .int .i64 m.n, .slice ad m.b.length c, .bool m.cut]] w (DTwo w p S (s.does m)) := by
  have hd : s.does m = (0, 0, s.arm m.n) := by unfold PD.does; simp [hk]
  rw [hd]
  obtain ⟨a, cap, hX⟩ := h
  have hb := (Kept.refl No w).alloc (.cells #[.int .u8 m.kind, .int .i64 m.n, .slice ad m.b.length c, .bool m.cut] 83)
  have hB := hX.keptNo hb
  have C := Lib.hid (d_arm hB m.n hn1)
  clear hd hX
  go_enter Try.func44, Try.ntmps44
  go_wp2_with (go_at_call 46; refine C.out.mono ?_; rintro e w1 ⟨S1, rfl, h1, hg⟩)
  go_ret2
  exact ⟨S1, rfl, h1, hg.from hb⟩

set_option maxHeartbeats 400000 in
theorem does_fail (h : DS w p s S) (_hlo : s.fr ≤ 4611686018427387904) (m : DAct) (ad : Option Addr) (c : Nat) (_hr : Rd w ad (bcells m.b)) (_hc : ad = none → c = 0) (hk0 : 0 ≤ m.kind) (_hn0 : -9223372036854775808 ≤ m.n) (_hn1 : m.n ≤ 9223372036854775807) (hk : m.kind % 8 = 4) :
    Calls Try.prog 44 #[.pointer (some ⟨p, 0, none⟩), .agg #[.int .u8 m.kind, .int .i64 m.n, .slice ad m.b.length c, .bool m.cut]] w (DTwo w p S (s.does m)) := by
  have hd : s.does m = (0, s.fail) := by unfold PD.does; simp [hk]
  rw [hd]
  obtain ⟨a, cap, hX⟩ := h
  have hb := (Kept.refl No w).alloc (.cells #[.int .u8 m.kind, .int .i64 m.n, .slice ad m.b.length c, .bool m.cut] 83)
  have hB := hX.keptNo hb
  have C := Lib.hid (d_fail hB)
  clear hd hX
  go_enter Try.func44, Try.ntmps44
  go_wp2_with (go_at_call 48; refine C.out.mono ?_; rintro e w1 ⟨S1, rfl, h1, hg⟩)
  go_ret2
  exact ⟨S1, rfl, h1, hg.from hb⟩

set_option maxHeartbeats 400000 in
theorem does_start (h : DS w p s S) (hlo : s.fr ≤ 4611686018427387904) (m : DAct) (ad : Option Addr) (c : Nat) (hr : Rd w ad (bcells m.b)) (hc : ad = none → c = 0) (hk0 : 0 ≤ m.kind) (hn0 : -9223372036854775808 ≤ m.n) (hn1 : m.n ≤ 9223372036854775807) (hk : m.kind % 8 = 5) :
    Calls Try.prog 44 #[.pointer (some ⟨p, 0, none⟩), .agg #[.int .u8 m.kind, .int .i64 m.n, .slice ad m.b.length c, .bool m.cut]] w (DTwo w p S (s.does m)) := by
  have hd : s.does m = (0, s.start m.n m.cut m.b) := by unfold PD.does; simp [hk]
  rw [hd]
  obtain ⟨a, cap, hX⟩ := h
  have hb := (Kept.refl No w).alloc (.cells #[.int .u8 m.kind, .int .i64 m.n, .slice ad m.b.length c, .bool m.cut] 83)
  have hB := hX.keptNo hb
  have C := Lib.hid (d_start hB hlo m.n hn0 hn1 m.cut m.b ad c (hr.keptNo hb) hc)
  clear hd hX
  go_enter Try.func44, Try.ntmps44
  go_wp2_with (go_at_call 45; refine C.out.mono ?_; rintro e w1 ⟨S1, rfl, h1, hg⟩)
  go_ret2
  exact ⟨S1, rfl, h1, hg.from hb⟩

set_option maxHeartbeats 400000 in
theorem does_append (h : DS w p s S) (hlo : s.fr ≤ 4611686018427387904) (m : DAct) (ad : Option Addr) (c : Nat) (hr : Rd w ad (bcells m.b)) (hc : ad = none → c = 0) (hk0 : 0 ≤ m.kind) (hk : m.kind % 8 = 0 ∨ m.kind % 8 = 6) :
    Calls Try.prog 44 #[.pointer (some ⟨p, 0, none⟩), .agg #[.int .u8 m.kind, .int .i64 m.n, .slice ad m.b.length c, .bool m.cut]] w (DTwo w p S (s.does m)) := by
  have hd : s.does m = s.append m.b := by unfold PD.does; rcases hk with hk | hk <;> simp [hk]
  rw [hd]
  obtain ⟨a, cap, hX⟩ := h
  have hb := (Kept.refl No w).alloc (.cells #[.int .u8 m.kind, .int .i64 m.n, .slice ad m.b.length c, .bool m.cut] 83)
  have hB := hX.keptNo hb
  have C := Lib.hid (d_append hB hlo m.b ad c (hr.keptNo hb) hc)
  clear hd hX
  rcases hk with hk | hk
  all_goals
    go_enter Try.func44, Try.ntmps44
    go_wp2_with (go_at_call 33; refine C.out.mono ?_; rintro e w1 ⟨S1, rfl, h1, hg⟩)
    go_ret2
    exact ⟨S1, rfl, h1, hg.from hb⟩

theorem does_calls (h : DS w p s S) (hlo : s.fr ≤ 4611686018427387904) (m : DAct) (ad : Option Addr) (c : Nat) (hr : Rd w ad (bcells m.b)) (hc : ad = none → c = 0) (hk0 : 0 ≤ m.kind) (hn0 : -9223372036854775808 ≤ m.n) (hn1 : m.n ≤ 9223372036854775807) :
    Calls Try.prog 44 #[.pointer (some ⟨p, 0, none⟩), .agg #[.int .u8 m.kind, .int .i64 m.n, .slice ad m.b.length c, .bool m.cut]] w (DTwo w p S (s.does m)) := by
  have h8 : m.kind % 8 = 1 ∨ m.kind % 8 = 2 ∨ m.kind % 8 = 7 ∨ m.kind % 8 = 3 ∨ m.kind % 8 = 4 ∨ m.kind % 8 = 5 ∨ (m.kind % 8 = 0 ∨ m.kind % 8 = 6) := by omega
  rcases h8 with hk | hk | hk | hk | hk | hk | hk
  · exact does_force h hlo m ad c hr hc hk0 hn0 hn1 hk
  · exact does_cut h hlo m ad c hr hc hk0 hn0 hn1 hk
  · exact does_trim h hlo m ad c hr hc hk0 hn0 hn1 hk
  · exact does_arm h hlo m ad c hr hc hk0 hn0 hn1 hk
  · exact does_fail h hlo m ad c hr hc hk0 hn0 hn1 hk
  · exact does_start h hlo m ad c hr hc hk0 hn0 hn1 hk
  · exact does_append h hlo m ad c hr hc hk0 hk
end
end Go.Proofs.Ytdolddgmemlofaa
