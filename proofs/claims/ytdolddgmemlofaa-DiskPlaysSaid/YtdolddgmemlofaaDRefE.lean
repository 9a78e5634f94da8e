/- The law's helper would. -/
import Derived.Test.YtdolddgmemlofaaDRefD
namespace Go.Proofs.Ytdolddgmemlofaa
open Go.RowKit Go.PM
set_option maxRecDepth 100000

section
variable {w : World} {q : Nat} {s : PD} {B : List UInt8} {n : Nat} {a : Option Addr} {cap : Nat} {T : Nat → Prop}

set_option maxHeartbeats 400000 in
theorem would_force (hX : RX w q s B n a cap T) (_hlo2 : n ≤ 1099511627776) (m : DAct) (ad : Option Addr) (c : Nat) (_hr : Rd w ad (bcells m.b)) (_hc : ad = none → c = 0) (hk0 : 0 ≤ m.kind) (_hn0 : -9223372036854775808 ≤ m.n) (_hn1 : m.n ≤ 9223372036854775807) (hk : m.kind % 8 = 1) :
    Calls Try.prog 50 #[.pointer (some ⟨q, 0, none⟩), .agg #[.int .u8 m.kind, .int .i64 m.n, .slice ad m.b.length c, .bool m.cut]] w (RTwo w q T (s.does m)) := by
  have hd : s.does m = (0, s.force) := by unfold PD.does; simp [hk]
  rw [hd]
  have hb := (Kept.refl No w).alloc (.cells #[.int .u8 m.kind, .int .i64 m.n, .slice ad m.b.length c, .bool m.cut] 83)
  have hB := hX.keptNo hb
  have C := Lib.hid (r_force hB)
  clear hd hX
  go_enter Try.func50, Try.ntmps50
  go_wp2_with (go_at_call 75; refine C.out.mono ?_; rintro e w1 ⟨T1, rfl, h1, hg⟩)
  go_ret2
  exact ⟨T1, rfl, h1, hg.from hb⟩

set_option maxHeartbeats 400000 in
theorem would_cut (hX : RX w q s B n a cap T) (_hlo2 : n ≤ 1099511627776) (m : DAct) (ad : Option Addr) (c : Nat) (_hr : Rd w ad (bcells m.b)) (_hc : ad = none → c = 0) (hk0 : 0 ≤ m.kind) (_hn0 : -9223372036854775808 ≤ m.n) (_hn1 : m.n ≤ 9223372036854775807) (hk : m.kind % 8 = 2) :
    Calls Try.prog 50 #[.pointer (some ⟨q, 0, none⟩), .agg #[.int .u8 m.kind, .int .i64 m.n, .slice ad m.b.length c, .bool m.cut]] w (RTwo w q T (s.does m)) := by
  have hd : s.does m = (0, s.cut m.n) := by unfold PD.does; simp [hk]
  rw [hd]
  have hb := (Kept.refl No w).alloc (.cells #[.int .u8 m.kind, .int .i64 m.n, .slice ad m.b.length c, .bool m.cut] 83)
  have hB := hX.keptNo hb
  have C := Lib.hid (r_cut hB m.n)
  clear hd hX
  go_enter Try.func50, Try.ntmps50
  go_wp2_with (go_at_call 76; refine C.out.mono ?_; rintro e w1 ⟨T1, rfl, h1, hg⟩)
  go_ret2
  exact ⟨T1, rfl, h1, hg.from hb⟩

set_option maxHeartbeats 400000 in
theorem would_trim (hX : RX w q s B n a cap T) (hlo2 : n ≤ 1099511627776) (m : DAct) (ad : Option Addr) (c : Nat) (_hr : Rd w ad (bcells m.b)) (_hc : ad = none → c = 0) (hk0 : 0 ≤ m.kind) (_hn0 : -9223372036854775808 ≤ m.n) (_hn1 : m.n ≤ 9223372036854775807) (hk : m.kind % 8 = 7) :
    Calls Try.prog 50 #[.pointer (some ⟨q, 0, none⟩), .agg #[.int .u8 m.kind, .int .i64 m.n, .slice ad m.b.length c, .bool m.cut]] w (RTwo w q T (s.does m)) := by
  have hd : s.does m = (0, s.trim m.n) := by unfold PD.does; simp [hk]
  rw [hd]
  have hb := (Kept.refl No w).alloc (.cells #[.int .u8 m.kind, .int .i64 m.n, .slice ad m.b.length c, .bool m.cut] 83)
  have hB := hX.keptNo hb
  have C := Lib.hid (r_trim hB hlo2 m.n)
  clear hd hX
  go_enter Try.func50, Try.ntmps50
  go_wp2_with (go_at_call 77; refine C.out.mono ?_; rintro e w1 ⟨T1, rfl, h1, hg⟩)
  go_ret2
  exact ⟨T1, rfl, h1, hg.from hb⟩

set_option maxHeartbeats 400000 in
theorem would_arm (hX : RX w q s B n a cap T) (_hlo2 : n ≤ 1099511627776) (m : DAct) (ad : Option Addr) (c : Nat) (_hr : Rd w ad (bcells m.b)) (_hc : ad = none → c = 0) (hk0 : 0 ≤ m.kind) (_hn0 : -9223372036854775808 ≤ m.n) (hn1 : m.n ≤ 9223372036854775807) (hk : m.kind % 8 = 3) :
    Calls Try.prog 50 #[.pointer (some ⟨q, 0, none⟩), .agg #[.int .u8 m.kind, .int .i64 m.n, .slice ad m.b.length c, .bool m.cut]] w (RTwo w q T (s.does m)) := by
  have hd : s.does m = (0, 0, s.arm m.n) := by unfold PD.does; simp [hk]
  rw [hd]
  have hb := (Kept.refl No w).alloc (.cells #[.int .u8 m.kind, .int .i64 m.n, .slice ad m.b.length c, .bool m.cut] 83)
  have hB := hX.keptNo hb
  have C := Lib.hid (r_arm hB m.n hn1)
  clear hd hX
  go_enter Try.func50, Try.ntmps50
  go_wp2_with (go_at_call 78; refine C.out.mono ?_; rintro e w1 ⟨T1, rfl, h1, hg⟩)
  go_ret2
  exact ⟨T1, rfl, h1, hg.from hb⟩

set_option maxHeartbeats 400000 in
theorem would_fail (hX : RX w q s B n a cap T) (_hlo2 : n ≤ 1099511627776) (m : DAct) (ad : Option Addr) (c : Nat) (_hr : Rd w ad (bcells m.b)) (_hc : ad = none → c = 0) (hk0 : 0 ≤ m.kind) (_hn0 : -9223372036854775808 ≤ m.n) (_hn1 : m.n ≤ 9223372036854775807) (hk : m.kind % 8 = 4) :
    Calls Try.prog 50 #[.pointer (some ⟨q, 0, none⟩), .agg #[.int .u8 m.kind, .int .i64 m.n, .slice ad m.b.length c, .bool m.cut]] w (RTwo w q T (s.does m)) := by
  have hd : s.does m = (0, s.fail) := by unfold PD.does; simp [hk]
  rw [hd]
  have hb := (Kept.refl No w).alloc (.cells #[.int .u8 m.kind, .int .i64 m.n, .slice ad m.b.length c, .bool m.cut] 83)
  have hB := hX.keptNo hb
  have C := Lib.hid (r_fail hB)
  clear hd hX
  go_enter Try.func50, Try.ntmps50
  go_wp2_with (go_at_call 79; refine C.out.mono ?_; rintro e w1 ⟨T1, rfl, h1, hg⟩)
  go_ret2
  exact ⟨T1, rfl, h1, hg.from hb⟩

set_option maxHeartbeats 400000 in
theorem would_start (hX : RX w q s B n a cap T) (hlo2 : n ≤ 1099511627776) (m : DAct) (ad : Option Addr) (c : Nat) (hr : Rd w ad (bcells m.b)) (hc : ad = none → c = 0) (hk0 : 0 ≤ m.kind) (hn0 : -9223372036854775808 ≤ m.n) (hn1 : m.n ≤ 9223372036854775807) (hk : m.kind % 8 = 5) :
    Calls Try.prog 50 #[.pointer (some ⟨q, 0, none⟩), .agg #[.int .u8 m.kind, .int .i64 m.n, .slice ad m.b.length c, .bool m.cut]] w (RTwo w q T (s.does m)) := by
  have hd : s.does m = (0, s.start m.n m.cut m.b) := by unfold PD.does; simp [hk]
  rw [hd]
  have hb := (Kept.refl No w).alloc (.cells #[.int .u8 m.kind, .int .i64 m.n, .slice ad m.b.length c, .bool m.cut] 83)
  have hB := hX.keptNo hb
  have C := Lib.hid (r_start hB hlo2 m.n hn0 hn1 m.cut m.b ad c (hr.keptNo hb) hc)
  clear hd hX
  go_enter Try.func50, Try.ntmps50
  go_wp2_with (go_at_call 80; refine C.out.mono ?_; rintro e w1 ⟨T1, rfl, h1, hg⟩)
  go_ret2
  exact ⟨T1, rfl, h1, hg.from hb⟩

set_option maxHeartbeats 400000 in
theorem would_append (hX : RX w q s B n a cap T) (hlo : s.fr ≤ 4611686018427387904) (hlo2 : n ≤ 1099511627776) (m : DAct) (ad : Option Addr) (c : Nat) (hr : Rd w ad (bcells m.b)) (hc : ad = none → c = 0) (hk0 : 0 ≤ m.kind) (hk : m.kind % 8 = 0 ∨ m.kind % 8 = 6) :
    Calls Try.prog 50 #[.pointer (some ⟨q, 0, none⟩), .agg #[.int .u8 m.kind, .int .i64 m.n, .slice ad m.b.length c, .bool m.cut]] w (RTwo w q T (s.does m)) := by
  have hd : s.does m = s.append m.b := by unfold PD.does; rcases hk with hk | hk <;> simp [hk]
  rw [hd]
  have hb := (Kept.refl No w).alloc (.cells #[.int .u8 m.kind, .int .i64 m.n, .slice ad m.b.length c, .bool m.cut] 83)
  have hB := hX.keptNo hb
  have C := Lib.hid (r_append hB hlo hlo2 m.b ad c (hr.keptNo hb) hc)
  clear hd hX
  rcases hk with hk | hk
  all_goals
    go_enter Try.func50, Try.ntmps50
    go_wp2_with (go_at_call 81; refine C.out.mono ?_; rintro e w1 ⟨T1, rfl, h1, hg⟩)
    go_ret2
    exact ⟨T1, rfl, h1, hg.from hb⟩

theorem would_eq (h : RX w q s B n a cap T) (hlo : s.fr ≤ 4611686018427387904) (hlo2 : n ≤ 1099511627776) (m : DAct) (ad : Option Addr) (c : Nat) (hr : Rd w ad (bcells m.b)) (hc : ad = none → c = 0) (hk0 : 0 ≤ m.kind) (hn0 : -9223372036854775808 ≤ m.n) (hn1 : m.n ≤ 9223372036854775807) {x g : Int} {t : PD} (e : s.does m = (x, g, t)) :
    Calls Try.prog 50 #[.pointer (some ⟨q, 0, none⟩), .agg #[.int .u8 m.kind, .int .i64 m.n, .slice ad m.b.length c, .bool m.cut]] w (RTwo w q T (x, g, t)) := by
  rw [← e]
  have h8 : m.kind % 8 = 1 ∨ m.kind % 8 = 2 ∨ m.kind % 8 = 7 ∨ m.kind % 8 = 3 ∨ m.kind % 8 = 4 ∨ m.kind % 8 = 5 ∨ (m.kind % 8 = 0 ∨ m.kind % 8 = 6) := by omega
  rcases h8 with hk | hk | hk | hk | hk | hk | hk
  · exact would_force h hlo2 m ad c hr hc hk0 hn0 hn1 hk
  · exact would_cut h hlo2 m ad c hr hc hk0 hn0 hn1 hk
  · exact would_trim h hlo2 m ad c hr hc hk0 hn0 hn1 hk
  · exact would_arm h hlo2 m ad c hr hc hk0 hn0 hn1 hk
  · exact would_fail h hlo2 m ad c hr hc hk0 hn0 hn1 hk
  · exact would_start h hlo2 m ad c hr hc hk0 hn0 hn1 hk
  · exact would_append h hlo hlo2 m ad c hr hc hk0 hk

set_option maxHeartbeats 400000 in
theorem r_new (room : Int) (w : World) (h0 : 1 ≤ room) (h1 : room ≤ 65536) :
    Calls Try.prog 49 #[.int .i64 room] w fun e w' => e = .returned (.tuple #[.agg #[.int .i64 room, .slice none 0 0, .int .i64 0, .int .i64 0, .int .i64 0, .bool false, .bool false, .int .i64 0], .int .i64 0]) ∧ Kept No w w' := by
  go_enter Try.func49, Try.ntmps49
  go_wp2
  exact bodyPost_ret (v := .tuple #[.agg #[.int .i64 room, .slice none 0 0, .int .i64 0, .int .i64 0, .int .i64 0, .bool false, .bool false, .int .i64 0], .int .i64 0]) (by simp [results, Try.results49, go_sem]) rfl ⟨rfl, (Kept.refl _ _).alloc _⟩

set_option maxHeartbeats 400000 in
theorem r_new_no (room : Int) (w : World) (h : ¬ (1 ≤ room ∧ room ≤ 65536)) :
    Calls Try.prog 49 #[.int .i64 room] w fun e w' => e = .returned (.tuple #[.agg #[.int .i64 0, .slice none 0 0, .int .i64 0, .int .i64 0, .int .i64 0, .bool false, .bool false, .int .i64 0], .int .i64 1]) ∧ Kept No w w' := by
  have h' : room < 1 ∨ (1 ≤ room ∧ 65536 < room) := by omega
  clear h
  rcases h' with h0 | ⟨h0, h1⟩
  all_goals
    go_enter Try.func49, Try.ntmps49
    go_wp2
    exact bodyPost_ret (v := .tuple #[.agg #[.int .i64 0, .slice none 0 0, .int .i64 0, .int .i64 0, .int .i64 0, .bool false, .bool false, .int .i64 0], .int .i64 1]) (by simp [results, Try.results49, go_sem]) rfl ⟨rfl, (Kept.refl _ _).alloc _⟩
end
end Go.Proofs.Ytdolddgmemlofaa
