/- NetPlays: the walk. -/
import Derived.Test.YtdolddgmemlofaaRefF
import Derived.Test.YtdolddgmemlofaaNetOwn
import Derived.Test.YtdolddgmemlofaaNetShort
import Derived.Test.YtdolddgmemlofaaNetCP
namespace Go.Proofs.Ytdolddgmemlofaa
open Go.RowKit Go.PM

def WouldOK : Prop := ∀ (w : World) (q : Nat) (s : PN) (T : Nat → Prop), RS w q s T → ∀ (a : PAct) (ad : Option Addr) (c : Nat), Rd w ad (bcells a.b) → (ad = none → c = 0) → s.lost < 2147483647 → 0 ≤ a.kind →
  Calls Try.prog 22 #[.pointer (some ⟨q, 0, none⟩), .agg #[.int .u8 a.kind, .int .u8 a.f, .int .u8 a.t, .int .i64 a.i, .slice ad a.b.length c]] w (RGot w q T (s.does a).1 (s.does a).2.1 (s.does a).2.2)

/-- Both networks are s. -/
structure Two (w : World) (p q : Nat) (s : PN) (S T : Nat → Prop) (wr : World) : Prop where
  net : NetS wr p s S
  ref : RS wr q s T
  newS : New w S
  newT : New w T
  apart : ∀ b, S b → ¬ T b
  kept : Kept No w wr

theorem Two.no {w wr w' : World} {p q : Nat} {s : PN} {S T : Nat → Prop} (h : Two w p q s S T wr) (k : Kept No wr w') : Two w p q s S T w' := ⟨h.net.keptNo k, h.ref.keptNo k, h.newS, h.newT, h.apart, h.kept.transNo k⟩

def PlRel (w : World) (p q : Nat) (room : Int) (n : Nat) (i : Value) (wr : World) : Prop :=
  ∃ (k : Nat) (s : PN) (S T : Nat → Prop), k ≤ n ∧ i = .int .i64 k ∧ s.room = room ∧ s.lost ≤ 2 * k ∧ Two w p q s S T wr
def PlRel2 (w : World) (p q : Nat) (s : PN) (S T : Nat → Prop) (i : Value) (wr : World) : Prop :=
  ∃ k : Nat, k ≤ s.l.length ∧ i = .int .i64 k ∧ Two w p q s S T wr

theorem two_step {w wr w4 w5 : World} {p q : Nat} {s s2 : PN} {S S4 T T5 : Nat → Prop} (hT : Two w p q s S T wr) (X : Obj) (hg : Grows S S4 (wr.alloc X) w4) (hS : NetS w4 p s2 S4) (Y : Obj)
    (hk : Kept T (w4.alloc Y) w5) (hg5 : ∀ k, T5 k → T k ∨ (w4.alloc Y).heap.size ≤ k) (hR : RS w5 q s2 T5) : Two w p q s2 S4 T5 w5 := by
  obtain ⟨hk4, hn4⟩ := hg.new (hT.kept.alloc X) hT.newS
  have hap : ∀ b, S4 b → ¬ T b := fun b hb ht => by
    rcases hg.grow b hb with h | h
    · exact hT.apart b h ht
    · have := hT.ref.lt b ht; rw [World.size_alloc] at h; omega
  refine ⟨(hS.keptNo ((Kept.refl No w4).alloc Y)).kept hk hap, hR, hn4, fun b hb => ?_, fun b hb hb5 => ?_, (hk4.alloc Y).trans hk (fun b hb hb' => by have := hT.newT b hb'; omega)⟩
  · rcases hg5 b hb with h | h
    · exact hT.newT b h
    · have := hk4.size; rw [World.size_alloc] at h; omega
  · rcases hg5 b hb5 with h | h
    · exact hap b hb h
    · have := hS.lt b hb; rw [World.size_alloc] at h; omega

theorem ints_places {w : World} (L : List Nat) (a1 a2 : Option Addr) (c1 c2 : Nat) (h1 : Rd w a1 (icells L)) (h2 : Rd w a2 (icells L)) (hm : L.length ≤ 9223372036854775807) :
    Calls Try.prog 25 #[.slice a1 L.length c1, .slice a2 L.length c2] w fun e w' => e = .returned (.bool true) ∧ ∃ d, w' = w.drewN d := by
  rw [icells_intc] at h1 h2
  have := ints_calls a1 a2 c1 c2 (L.map fun (n : Nat) => (n : Int)) (L.map fun (n : Nat) => (n : Int)) h1 h2 (by simpa using hm)
  simpa using this

theorem plays_held {w : World} {bx bm ba bq : Nat} {v0 v1 v2 u0 u1 u2 a0 a1 a2 a3 a4 q0 q1 q2 : Value} (hx : Blk w bx 39 [v0, v1, v2]) (hy : Blk w bm 39 [u0, u1, u2]) (hz : Blk w ba 34 [a0, a1, a2, a3, a4]) (hq : Blk w bq 47 [q0, q1, q2]) :
    w.cell? ⟨bx, 0, none⟩ = some v0 ∧ w.cell? ⟨bx, 1, none⟩ = some v1 ∧ w.cell? ⟨bx, 2, none⟩ = some v2 ∧ w.cell? ⟨bm, 0, none⟩ = some u0 ∧ w.cell? ⟨bm, 1, none⟩ = some u1 ∧ w.cell? ⟨bm, 2, none⟩ = some u2 ∧
      w.cell? ⟨ba, 2, none⟩ = some a2 ∧ w.cell? ⟨bq, 1, none⟩ = some q1 ∧ w.cell? ⟨bq, 2, none⟩ = some q2 :=
  ⟨hx.cell 0, hx.cell 1, hx.cell 2, hy.cell 0, hy.cell 1, hy.cell 2, hz.cell 2, hq.cell 1, hq.cell 2⟩

theorem plays_held2 {w : World} {bx q g cap k : Nat} {room lost : Int} {l : List RW} {T : Nat → Prop} {m : RW} {v0 v1 v2 : Value} (hx : Blk w bx 36 [v0, v1, v2]) (hX : RX w q room (some ⟨g, 0, none⟩) cap lost l T) (hm : l[k]? = some m) :
    w.cell? ⟨bx, 0, none⟩ = some v0 ∧ w.cell? ⟨bx, 1, none⟩ = some v1 ∧ w.cell? ⟨bx, 2, none⟩ = some v2 ∧ w.cell? ⟨q, 1, none⟩ = some (.slice (some ⟨g, 0, none⟩) l.length cap) ∧
      w.cell? ⟨g, k * 3, none⟩ = some (.int .u8 m.f) ∧ w.cell? ⟨g, k * 3 + 1, none⟩ = some (.int .u8 m.t) ∧ w.cell? ⟨g, k * 3 + 2, none⟩ = some (.slice m.a m.b.length m.c) := by
  obtain ⟨g', e, _, d0, d1, d2⟩ := hX.at hm
  simp only [Option.some.injEq, Addr.mk.injEq, and_true] at e
  subst e
  exact ⟨hx.cell 0, hx.cell 1, hx.cell 2, hX.box.cell 1, d0, d1, d2⟩

theorem cnt_le (q cd : Int) : cntG q cd + cntF q cd ≤ 2 := by
  unfold cntG cntF; split <;> split <;> omega

set_option maxRecDepth 100000 in
set_option maxHeartbeats 1000000 in
theorem plays_bad (room : Int) (a : Option Addr) (c : Nat) (l : List AM) (w : World) (h : InA w a c l) (hr : ¬ (1 ≤ room ∧ room ≤ 256)) :
    Calls Try.prog 5 #[.int .i64 room, .slice a l.length c] w fun e w' => e = .returned (.bool true) ∧ Kept No w w' := by
  have HR := Lib.hid hr
  clear hr
  go_enter Try.func5, Try.ntmps5
  go_wp2_with fail
  refine (long_calls a c l w h).mono ?_
  rintro e w1 ⟨⟨b, rfl⟩, hk1⟩
  cases b with
  | true =>
    go_wp2_with fail
    refine (net_alive _).mono ?_
    rintro e w2 ⟨rfl, hk2⟩
    go_wp2
    go_ret
    exact ⟨rfl, hk1.transNo hk2⟩
  | false =>
    go_wp2_with fail
    refine (new_no room w1 HR.out).mono ?_
    rintro e w2 ⟨rfl, rfl⟩
    go_wp2_with fail
    refine (r_new_bad room w1 (by have := HR.out; omega)).mono ?_
    rintro e w2 ⟨rfl, hk2⟩
    go_wp2_with fail
    refine (net_alive _).mono ?_
    rintro e w3 ⟨rfl, hk3⟩
    go_wp2
    go_ret
    exact ⟨rfl, hk1.transNo ((hk2.alloc _).transNo hk3)⟩

set_option maxRecDepth 100000 in
set_option maxHeartbeats 4000000 in
theorem plays_calls (hW : WouldOK) (room : Int) (a : Option Addr) (c : Nat) (l : List AM) (w : World) (h : InA w a c l) (hr1 : 1 ≤ room) (hr2 : room ≤ 256) :
    Calls Try.prog 5 #[.int .i64 room, .slice a l.length c] w fun e w' => e = .returned (.bool true) ∧ Kept No w w' := by
  have hle := h.le
  have hmx := h.max
  obtain ⟨n, hn⟩ : ∃ n, n = min l.length 100 := ⟨_, rfl⟩
  have hn1 : n ≤ l.length := by omega
  have hn2 : n ≤ 100 := by omega
  have HN := Lib.hid hn
  clear hn
  go_enter Try.func5, Try.ntmps5
  go_wp2_with fail
  refine (long_calls a c l w h).mono ?_
  rintro e w1 ⟨⟨b, rfl⟩, hk1⟩
  cases b with
  | true =>
    go_wp2_with fail
    refine (net_alive _).mono ?_
    rintro e w2 ⟨rfl, hk2⟩
    go_wp2
    go_ret
    exact ⟨rfl, hk1.transNo hk2⟩
  | false =>
    go_wp2_with fail
    refine (new_calls room w1 hr1 hr2).mono ?_
    rintro e w2 ⟨rfl, hb, hk2⟩
    have hS0 := s_new hr1 hr2 hb hk2
    clear hb
    go_wp2_with fail
    refine (r_new_ok room w2 hr1 hr2).mono ?_
    rintro e w3 ⟨rfl, hk3⟩
    have hq := Blk.new' (w := w3) rfl 47 [.int .i64 room, .slice none 0 0, .int .i64 0]
    have hR0 : RS (w3.alloc (.cells #[.int .i64 room, .slice none 0 0, .int .i64 0] 47)) w3.heap.size ⟨room, 0, []⟩ (· = w3.heap.size) :=
      ⟨none, 0, [], ⟨hq, Own.nil _ _ _, hr1, hr2, by simp; omega, Int.le_refl 0, (show (0 : Int) ≤ 2147483647 by omega), rfl, (fun k h => at_none_no h), (fun m hm => by simp at hm), (fun k hk' => by subst hk'; exact hq.lt)⟩, rfl⟩
    have hp1 := hS0.lt _ hS0.sp
    have hs1 := hk1.size
    have hs2 := hk2.size
    have hs3 := hk3.size
    have hT0 : Two w w1.heap.size w3.heap.size ⟨room, 0, []⟩ (· = w1.heap.size) (· = w3.heap.size) (w3.alloc (.cells #[.int .i64 room, .slice none 0 0, .int .i64 0] 47)) :=
      ⟨hS0.keptNo (hk3.alloc _), hR0, fun b (e : b = w1.heap.size) => by omega, fun b (e : b = w3.heap.size) => by omega, fun b (e : b = w1.heap.size) (e' : b = w3.heap.size) => by omega, hk1.transNo (hk2.transNo (hk3.alloc _))⟩
    clear hq hR0 hS0 hp1
    go_wp2_with (go_at_call 16; go_must (refine (short_calls a l.length c _ hle hmx).mono ?_; rw [← HN.out]; rintro e w' ⟨rfl, rfl⟩))
    clear hmx hle
    go_loopw [47] (fun i wr => PlRel w w1.heap.size w3.heap.size room n i wr) (fun i _ => n - (intOf i).toNat)
    case atStart => exact ⟨0, _, _, _, Nat.zero_le _, rfl, rfl, by simp, hT0⟩
    case round =>
      clear hT0
      obtain ⟨k, s, S, T, hk, rfl, hsr, hlost, hT⟩ := hrel
      have hkept := hT.kept
      by_cases hlt : k < n
      · obtain ⟨m, hm⟩ : ∃ m, l[k]? = some m := ⟨_, List.getElem?_eq_getElem (by omega)⟩
        have hin := (h.kept hkept).each m (List.mem_of_getElem? hm)
        have hinw := h.each m (List.mem_of_getElem? hm)
        obtain ⟨b, o, rfl, hb, d0, d1, d2, d3, d4⟩ := (h.kept hkept).at hm
        clear hm
        have hi0 : (0 : Int) ≤ k := by omega
        have hi1 : (k : Int) < n := by omega
        have hok := cnt_does s ⟨m.k, m.f, m.t, m.i, m.b⟩ hin.k0 (by have := hT.net.room; omega)
        have hcl := cnt_le (m.k % 6) (s.does ⟨m.k, m.f, m.t, m.i, m.b⟩).2.1
        have hlost2 : (s.does ⟨m.k, m.f, m.t, m.i, m.b⟩).2.2.lost ≤ 2 * (k + 1) := by
          have h1 : _ ≤ s.lost + cntG (m.k % 6) _ + cntF (m.k % 6) _ := hok.lost
          omega
        have hroom2 := hok.room
        have hact0 := Blk.new' (w := wr) rfl 34 [.int .u8 m.k, .int .u8 m.f, .int .u8 m.t, .int .i64 m.i, .slice m.a m.b.length m.c]
        clear hok hcl
        go_wp2_with fail
        refine (does_calls (hT.net.keptNo ((Kept.refl No wr).alloc _)) ⟨m.k, m.f, m.t, m.i, m.b⟩ m.a m.c (hin.b.rd.keptNo ((Kept.refl No wr).alloc _)) hin.k0).mono ?_
        have hwd := fun w' T' h => hW w' w3.heap.size s T' h ⟨m.k, m.f, m.t, m.i, m.b⟩ m.a m.c
        generalize (s.does ⟨m.k, m.f, m.t, m.i, m.b⟩).1 = x at *
        generalize (s.does ⟨m.k, m.f, m.t, m.i, m.b⟩).2.1 = cd at *
        generalize (s.does ⟨m.k, m.f, m.t, m.i, m.b⟩).2.2 = s2 at *
        rintro e w4 ⟨a4, c4, S4, rfl, _, hr4, hat4, hS4, hg4⟩
        obtain ⟨hk4, hn4⟩ := hg4.new (hkept.alloc _) hT.newS
        have hact4 := hact0.kept hg4.kept (fun h' => by have := hT.net.lt _ h'; omega)
        have a0 := hact4.cell 0
        have a1 := hact4.cell 1
        have a2 := hact4.cell 2
        have a3 := hact4.cell 3
        have a4' := hact4.cell 4
        have alt := hact4.lt
        have hR4 : RS w4 w3.heap.size s T := (hT.ref.keptNo ((Kept.refl No wr).alloc _)).kept hg4.kept (fun b hb hb' => hT.apart b hb' hb)
        have hx4 := Blk.new' (w := w4) rfl 39 [.int .u8 x.1, .int .u8 x.2.1, .slice a4 x.2.2.length c4]
        go_wp2_with fail
        refine (hwd _ T (hR4.keptNo ((Kept.refl No w4).alloc _)) (hinw.b.rd.keptNo (hk4.alloc _)) hin.b.nil (by omega) hin.k0).mono ?_
        rintro e w5 ⟨m5, T5, hm5, rfl, hr5, ht5, hR5, hk5, hg5⟩
        have hT5 := two_step hT _ hg4 hS4 _ hk5 hg5 hR5
        obtain ⟨aq, cq, hq5⟩ := hR5.box
        have hTlt := hT.ref.lt
        have hs4 := hg4.kept.size
        have hs5 := hk5.size
        rw [World.size_alloc] at hs4 hs5
        have hx5 := hx4.kept hk5 (fun h' => by have := hTlt _ h'; omega)
        have hz5 := (hact4.alloc (.cells #[.int .u8 x.1, .int .u8 x.2.1, .slice a4 x.2.2.length c4] 39)).kept hk5 (fun h' => by have := hTlt _ h'; omega)
        have hr45 := (hr4.keptNo ((Kept.refl No w4).alloc (.cells #[.int .u8 x.1, .int .u8 x.2.1, .slice a4 x.2.2.length c4] 39))).kept hk5 (fun b hb h' => by have := hTlt _ h'; have := (hat4 b hb).1; rw [World.size_alloc] at this; omega)
        have kB := ((Kept.refl No w5).alloc (.cells #[.int .u8 m5.f, .int .u8 m5.t, .slice m5.a m5.b.length m5.c] 39)).drew
        have hTB := hT5.no kB
        have hxB := hx5.kept kB id
        have hzB := hz5.kept kB id
        have hqB := hq5.kept kB id
        have hyB : Blk (w5.alloc (.cells #[.int .u8 m5.f, .int .u8 m5.t, .slice m5.a m5.b.length m5.c] 39)).drew w5.heap.size 39 [.int .u8 m5.f, .int .u8 m5.t, .slice m5.a m5.b.length m5.c] := Blk.new' (w := w5) rfl 39 [.int .u8 m5.f, .int .u8 m5.t, .slice m5.a m5.b.length m5.c]
        have hrxB := hr45.keptNo kB
        have hryB := hr5.keptNo kB
        have HM5 := Lib.hid hm5
        have hpl := placesTo_le (s2.l.map fun x => x.2.1) m.t s2.l.length
        have hl2 := hT5.net.room
        have hpm : (placesTo (s2.l.map fun x => x.2.1) m.t s2.l.length).length ≤ 9223372036854775807 := by omega
        clear hm5 a0 a1 a2 a3 a4' d0 d1 d2 d3 d4 hx4 hx5 hz5 hr45 hr4 hr5 hq5 hS4 hR4 hR5 hT hwd
        go_wp2_with fail
        go_region_held3 (fun w' => w'.cell? ⟨w4.heap.size, 0, none⟩ = some (.int .u8 x.1) ∧ w'.cell? ⟨w4.heap.size, 1, none⟩ = some (.int .u8 x.2.1) ∧ w'.cell? ⟨w4.heap.size, 2, none⟩ = some (.slice a4 x.2.2.length c4) ∧
          w'.cell? ⟨w5.heap.size, 0, none⟩ = some (.int .u8 m5.f) ∧ w'.cell? ⟨w5.heap.size, 1, none⟩ = some (.int .u8 m5.t) ∧ w'.cell? ⟨w5.heap.size, 2, none⟩ = some (.slice m5.a m5.b.length m5.c) ∧
          w'.cell? ⟨wr.heap.size, 2, none⟩ = some (.int .u8 m.t) ∧ w'.cell? ⟨w3.heap.size, 1, none⟩ = some (.slice aq s2.l.length cq) ∧ w'.cell? ⟨w3.heap.size, 2, none⟩ = some (.int .i64 s2.lost))
          (first | (with_reducible exact plays_held hxB hyB hzB hqB) | (with_reducible exact plays_held x9 y9 z9 q9) | (with_reducible exact plays_held x8 y8 z8 q8) | (with_reducible exact plays_held x7 y7 z7 q7) | (with_reducible exact plays_held x6 y6 z6 q6) | go_keep)
          (first
            | (go_at_call 23; refine (wire_same x m5.w a4 m5.a c4 m5.c _ hrxB hryB HM5.out.symm).mono ?_; rintro e w6 ⟨rfl, k6⟩; have x6 := hxB.kept k6 id; have y6 := hyB.kept k6 id; have z6 := hzB.kept k6 id; have q6 := hqB.kept k6 id)
            | (go_at_call 20; refine (s_len (hTB.no k6).net).mono ?_; rintro e w11 ⟨rfl, rfl⟩)
            | (go_at_call 24; refine (s_lost (hTB.no k6).net).mono ?_; rintro e w11 ⟨rfl, rfl⟩)
            | (go_at_call 26; refine (s_to (hTB.no k6).net m.t).mono ?_; rintro e w7 ⟨a7, c7, rfl, ho7, hk7, hat7⟩; have k7 := k6.transNo hk7; have x7 := hxB.kept k7 id; have y7 := hyB.kept k7 id; have z7 := hzB.kept k7 id; have q7 := hqB.kept k7 id)
            | (go_at_call 27; refine (rs_to (hTB.no k7).ref m.t).mono ?_; rintro e w8 ⟨a8, c8, rfl, ho8, hk8, hat8⟩; have k8 := k7.transNo hk8; have x8 := hxB.kept k8 id; have y8 := hyB.kept k8 id; have z8 := hzB.kept k8 id; have q8 := hqB.kept k8 id; have hI9 := ints_places (placesTo (s2.l.map fun x => x.2.1) m.t s2.l.length) a7 a8 c7 c8 (ho7.rd.keptNo hk8) ho8.rd hpm)
            | (go_at_call 25; refine hI9.mono ?_; clear hI9; rintro e w9 ⟨rfl, d9, rfl⟩; have x9 := x8.drewN d9; have y9 := y8.drewN d9; have z9 := z8.drewN d9; have q9 := q8.drewN d9)
            | fail)
        go_wp2
        go_roundw
        case rel => exact ⟨k + 1, s2, S4, T5, by omega, by go_num, hroom2.trans hsr, by omega, hTB.no (k8.drewN _)⟩
        case measure => simp [intOf]; omega
      · obtain ⟨aq, cq, hq0⟩ := hT.ref.box
        have c1 := hq0.cell 1
        have hlr := hT.net.room
        clear hlost
        go_wp2_with fail
        go_loopw [101] (fun i wr => PlRel2 w w1.heap.size w3.heap.size s S T i wr) (fun i _ => s.l.length - (intOf i).toNat)
        case atStart => exact ⟨0, Nat.zero_le _, rfl, hT⟩
        case round =>
          clear hT c1 hq0 hkept hlt
          obtain ⟨k2, hkl, rfl, hT⟩ := hrel
          by_cases hlt2 : k2 < s.l.length
          · obtain ⟨aX, cap, ml, hX, hml⟩ := hT.ref
            have hmll : ml.length = s.l.length := by rw [← hml]; simp
            obtain ⟨m5, hm5⟩ : ∃ m5, ml[k2]? = some m5 := ⟨_, List.getElem?_eq_getElem (by omega)⟩
            obtain ⟨x, hx⟩ : ∃ x, x = m5.w := ⟨_, rfl⟩
            have hsx : s.l[k2]? = some x := by rw [← hml, List.getElem?_map, hm5, hx]; rfl
            obtain ⟨g, rfl, _, _, _, _⟩ := hX.at hm5
            have hr5 := (hX.bytes m5 (List.mem_of_getElem? hm5)).1
            have hi0 : (0 : Int) ≤ k2 := by omega
            have hi1 : (k2 : Int) < ml.length := by omega
            have hi2 : ml.length ≤ 256 := by omega
            have HX := Lib.hid hx; have HM5 := Lib.hid hm5; have HSX := Lib.hid hsx; have HML := Lib.hid hml; have HMLL := Lib.hid hmll
            clear hx hm5 hsx hml hmll
            go_wp2_with fail
            refine (s_at_in hT.net k2 x HSX.out).mono ?_
            rintro e w4 ⟨g4, rfl, hge, hb4, hk4⟩
            have kB := (hk4.alloc (.cells #[.int .u8 x.1, .int .u8 x.2.1, .slice (some ⟨g4, 0, none⟩) x.2.2.length x.2.2.length] 36)).drew
            have hXB := hX.keptNo kB
            have hxB : Blk (w4.alloc (.cells #[.int .u8 x.1, .int .u8 x.2.1, .slice (some ⟨g4, 0, none⟩) x.2.2.length x.2.2.length] 36)).drew w4.heap.size 36 [.int .u8 x.1, .int .u8 x.2.1, .slice (some ⟨g4, 0, none⟩) x.2.2.length x.2.2.length] := Blk.new' (w := w4) rfl 36 [.int .u8 x.1, .int .u8 x.2.1, .slice (some ⟨g4, 0, none⟩) x.2.2.length x.2.2.length]
            have hr4B : Rd (w4.alloc (.cells #[.int .u8 x.1, .int .u8 x.2.1, .slice (some ⟨g4, 0, none⟩) x.2.2.length x.2.2.length] 36)).drew (some ⟨g4, 0, none⟩) (bcells x.2.2) := Rd.ofBlk' (hb4.alloc (.cells #[.int .u8 x.1, .int .u8 x.2.1, .slice (some ⟨g4, 0, none⟩) x.2.2.length x.2.2.length] 36))
            have hr5B := hr5.keptNo kB
            have hI6 := ours_calls x.1 x.2.1 (some ⟨g4, 0, none⟩) x.2.2.length x.2.2.length (w4.alloc (.cells #[.int .u8 x.1, .int .u8 x.2.1, .slice (some ⟨g4, 0, none⟩) x.2.2.length x.2.2.length] 36)).drew
            clear hX hb4
            go_wp2_with fail
            go_region_held3 (fun w' => w'.cell? ⟨w4.heap.size, 0, none⟩ = some (.int .u8 x.1) ∧ w'.cell? ⟨w4.heap.size, 1, none⟩ = some (.int .u8 x.2.1) ∧ w'.cell? ⟨w4.heap.size, 2, none⟩ = some (.slice (some ⟨g4, 0, none⟩) x.2.2.length x.2.2.length) ∧
              w'.cell? ⟨w3.heap.size, 1, none⟩ = some (.slice (some ⟨g, 0, none⟩) ml.length cap) ∧ w'.cell? ⟨g, k2 * 3, none⟩ = some (.int .u8 m5.f) ∧ w'.cell? ⟨g, k2 * 3 + 1, none⟩ = some (.int .u8 m5.t) ∧ w'.cell? ⟨g, k2 * 3 + 2, none⟩ = some (.slice m5.a m5.b.length m5.c))
              (first | (with_reducible exact plays_held2 hxB hXB HM5.out) | (with_reducible exact plays_held2 x7 y7 HM5.out) | (with_reducible exact plays_held2 x6 y6 HM5.out) | go_keep)
              (first
                | (go_at_call 28; refine hI6.mono ?_; rintro e w6 ⟨rfl, k6⟩; have x6 := hxB.kept k6 id; have y6 := hXB.keptNo k6; have hI7 := wire_same x m5.w (some ⟨g4, 0, none⟩) m5.a x.2.2.length m5.c w6 (hr4B.keptNo k6) (hr5B.keptNo k6) HX.out)
                | (go_at_call 23; refine hI7.mono ?_; clear hI7; rintro e w7 ⟨rfl, k67⟩; have k7 := k6.transNo k67; have x7 := hxB.kept k7 id; have y7 := hXB.keptNo k7)
                | fail)
            go_wp2
            go_roundw
            case rel => exact ⟨k2 + 1, by omega, by go_num, hT.no (kB.transNo k7)⟩
            case measure => simp [intOf]; omega
          · go_wp2_with fail
            refine (net_alive _).mono ?_
            rintro e w5 ⟨rfl, hk5⟩
            go_wp2
            go_ret
            exact ⟨rfl, hT.kept.transNo hk5⟩
end Go.Proofs.Ytdolddgmemlofaa
