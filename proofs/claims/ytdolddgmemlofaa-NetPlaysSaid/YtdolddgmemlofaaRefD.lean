/- The document's network: Send, To, New. -/
import Derived.Test.YtdolddgmemlofaaRefC
namespace Go.Proofs.Ytdolddgmemlofaa
open Go.RowKit Go.PM

section
variable {w : World} {p : Nat} {room : Int} {a : Option Addr} {cap : Nat} {lost : Int} {l : List RW} {T : Nat → Prop}

set_option maxRecDepth 100000 in
set_option maxHeartbeats 1000000 in
theorem r_send_arg (h : RX w p room a cap lost l T) (f t : Int) (ad : Option Addr) (c n : Nat) (hf : ¬ max f t < 8) :
    Calls Try.prog 66 #[.pointer (some ⟨p, 0, none⟩), .agg #[.int .u8 f, .int .u8 t, .slice ad n c]] w (RCode w p room lost l T 1) := by
  have hf' : 8 ≤ f ∨ (f < 8 ∧ 8 ≤ t) := by omega
  clear hf
  rcases hf' with h8 | ⟨h8, h8'⟩
  all_goals
    go_enter Try.func66, Try.ntmps66
    go_wp2
    go_ret
    exact ⟨a, cap, T, rfl, h.keptNo ((Kept.refl No w).alloc _), ((Kept.refl No w).alloc _).no, fun _ h => .inl h⟩

set_option maxRecDepth 100000 in
set_option maxHeartbeats 1000000 in
theorem r_send_many (h : RX w p room a cap lost l T) (f t : Int) (ad : Option Addr) (c n : Nat) (hf : max f t < 8) (hn : 4096 < n) :
    Calls Try.prog 66 #[.pointer (some ⟨p, 0, none⟩), .agg #[.int .u8 f, .int .u8 t, .slice ad n c]] w (RCode w p room lost l T 5) := by
  have hf0 : f < 8 := by omega
  have hf1 : t < 8 := by omega
  clear hf
  go_enter Try.func66, Try.ntmps66
  go_wp2
  go_ret
  exact ⟨a, cap, T, rfl, h.keptNo ((Kept.refl No w).alloc _), ((Kept.refl No w).alloc _).no, fun _ h => .inl h⟩

set_option maxRecDepth 100000 in
set_option maxHeartbeats 1000000 in
theorem r_send_full (h : RX w p room a cap lost l T) (f t : Int) (ad : Option Addr) (c n : Nat) (hf : max f t < 8) (hn : n ≤ 4096) (hfull : (l.length : Int) = room) (hl1 : lost < 2147483647) :
    Calls Try.prog 66 #[.pointer (some ⟨p, 0, none⟩), .agg #[.int .u8 f, .int .u8 t, .slice ad n c]] w (RCode w p room (lost + 1) l T 9) := by
  have hf0 : f < 8 := by omega
  have hf1 : t < 8 := by omega
  have hge : room ≤ l.length := by omega
  have hl0 := h.lost0
  clear hf hfull
  have hR := h.keptNo (((Kept.refl No w).alloc (.cells #[.int .u8 f, .int .u8 t, .slice ad n c] 39)))
  have c0 := h.box.cell 0
  have c1 := h.box.cell 1
  have c2 := h.box.cell 2
  have f2 := h.box.frozen 2
  have hp1 := h.box.lt
  go_enter Try.func66, Try.ntmps66
  go_wp2_with fail
  go_quiet (fail)
  go_wp2
  go_ret
  exact ⟨a, cap, T, rfl, (hR.keptNo ((Kept.refl No _).drewN nq)).lose hl1, (((Kept.refl T w).alloc _).drewN _).setCell (a := ⟨p, 2, none⟩) (fun _ => h.sp) _, fun _ h => .inl h⟩

end
end Go.Proofs.Ytdolddgmemlofaa
