/- The document's network: Send and would, by the pure network. Printed by wip/tools/gen_reff.py. -/
import Derived.Test.YtdolddgmemlofaaRefF
import Derived.Test.YtdolddgmemlofaaRefS
namespace Go.Proofs.Ytdolddgmemlofaa
open Go.RowKit Go.PM

section
variable {w : World} {p : Nat} {s : PN} {T : Nat → Prop}

theorem rs_send (h : RS w p s T) (x : PW) (ad : Option Addr) (c : Nat) (hr : Rd w ad (bcells x.2.2)) (hc : ad = none → c = 0) (hl : s.lost < 2147483647) :
    Calls Try.prog 66 #[.pointer (some ⟨p, 0, none⟩), .agg #[.int .u8 x.1, .int .u8 x.2.1, .slice ad x.2.2.length c]] w (RCd w p T (s.send x)) := by
  obtain ⟨a, cap, ml, hN, e⟩ := h
  have hlen : s.l.length = ml.length := by rw [← e]; simp
  unfold PN.send
  by_cases h1 : max x.1 x.2.1 < 8
  · by_cases h2 : x.2.2.length ≤ 4096
    · by_cases h3 : (s.l.length : Int) < s.room
      · rw [if_pos h1, if_pos h2, if_pos h3, ← e]
        refine (r_send_ok hN x.1 x.2.1 ad c x.2.2 hr hc h1 h2 (by omega)).mono ?_
        rintro e1 w1 ⟨m, hm, h⟩
        have := h.cd
        rw [List.map_append, List.map_singleton, hm] at this; exact this
      · rw [if_pos h1, if_pos h2, if_neg h3]
        have := (r_send_full hN x.1 x.2.1 ad c x.2.2.length h1 h2 (by have := hN.fits; omega) hl).mono fun _ _ h => h.cd
        rw [e, lmore_eq hl] at this; exact this
    · rw [if_pos h1, if_neg h2]
      have := (r_send_many hN x.1 x.2.1 ad c x.2.2.length h1 (by omega)).mono fun _ _ h => h.cd
      rw [e] at this; exact this
  · rw [if_neg h1]
    have := (r_send_arg hN x.1 x.2.1 ad c x.2.2.length h1).mono fun _ _ h => h.cd
    rw [e] at this; exact this

set_option maxRecDepth 100000 in
set_option maxHeartbeats 400000 in
theorem would_send (h : RS w p s T) (a : PAct) (ad : Option Addr) (c : Nat) (hr : Rd w ad (bcells a.b)) (hc : ad = none → c = 0) (hl : s.lost < 2147483647) (hk0 : 0 ≤ a.kind) (hk : a.kind % 6 = 0) :
    Calls Try.prog 22 #[.pointer (some ⟨p, 0, none⟩), .agg #[.int .u8 a.kind, .int .u8 a.f, .int .u8 a.t, .int .i64 a.i, .slice ad a.b.length c]] w (RGot w p T (s.does a).1 (s.does a).2.1 (s.does a).2.2) := by
  have hlt := h.lt
  have hwb := ((Kept.refl No w).alloc (.cells #[.int .u8 a.kind, .int .u8 a.f, .int .u8 a.t, .int .i64 a.i, .slice ad a.b.length c] 34)).alloc (.cells #[.int .u8 0, .int .u8 0, .slice none 0 0] 39)
  have hd : s.does a = ((0, 0, []), s.send (a.f, a.t, a.b)) := by unfold PN.does; simp [hk]
  rw [hd]
  go_enter Try.func22, Try.ntmps22
  go_wp2_with (go_at_call 66; go_must (refine (rs_send (h.keptNo hwb) (a.f, a.t, a.b) ad c (hr.keptNo hwb) hc hl).mono ?_))
  rintro e w1 ⟨T1, rfl, hS1, hg, hT⟩
  have hn4 : ¬ T (w.heap.size + 1) := fun h' => by have := hlt _ h'; omega
  have b4 := (Blk.new' (w := (w.alloc (.cells #[.int .u8 a.kind, .int .u8 a.f, .int .u8 a.t, .int .i64 a.i, .slice ad a.b.length c] 34))) (g := w.heap.size + 1) (by simp) 39 [.int .u8 0, .int .u8 0, .slice none 0 0]).kept hg hn4
  have y0 := b4.cell 0
  have y1 := b4.cell 1
  have y2 := b4.cell 2
  have z0 := b4.frozen 0
  have z1 := b4.frozen 1
  have z2 := b4.frozen 2
  have zl := b4.lt
  go_wp2
  refine bodyPost_ret (v := .tuple #[.agg #[.int .u8 0, .int .u8 0, .slice none 0 0], .int .i64 (s.send (a.f, a.t, a.b)).1]) (by simp [results, Try.results22, go_sem, y0, y1, y2]) rfl ?_
  exact would_end (m := RW.zero) h hwb (by omega) (by simp) hg hT hS1 (Rd.nil _ _) (fun k h => at_none_no h)

theorem would_calls (h : RS w p s T) (a : PAct) (ad : Option Addr) (c : Nat) (hr : Rd w ad (bcells a.b)) (hc : ad = none → c = 0) (hl : s.lost < 2147483647) (hk0 : 0 ≤ a.kind) :
    Calls Try.prog 22 #[.pointer (some ⟨p, 0, none⟩), .agg #[.int .u8 a.kind, .int .u8 a.f, .int .u8 a.t, .int .i64 a.i, .slice ad a.b.length c]] w (RGot w p T (s.does a).1 (s.does a).2.1 (s.does a).2.2) := by
  have h6 : a.kind % 6 = 0 ∨ a.kind % 6 = 1 ∨ a.kind % 6 = 2 ∨ a.kind % 6 = 3 ∨ a.kind % 6 = 4 ∨ a.kind % 6 = 5 := by omega
  rcases h6 with h' | h' | h' | h' | h' | h'
  · exact would_send h a ad c hr hc hl hk0 h'
  · exact would_take h a ad c hr hc hl hk0 h'
  · exact would_at h a ad c hr hc hl hk0 h'
  · exact would_drop h a ad c hr hc hl hk0 h'
  · exact would_twice h a ad c hr hc hl hk0 h'
  · exact would_late h a ad c hr hc hl hk0 h'
end
end Go.Proofs.Ytdolddgmemlofaa
