/- DiskPlays: the walk. -/
import Derived.Test.YtdolddgmemlofaaDRefE
namespace Go.Proofs.Ytdolddgmemlofaa
open Go.RowKit Go.PM
set_option maxRecDepth 100000

/-- Both disks are s. -/
structure Pair (w : World) (p q : Nat) (s : PD) (S T : Nat → Prop) (wr : World) : Prop where
  disk : DS wr p s S
  ref : RS wr q s T
  newS : DNew w S
  newT : DNew w T
  apart : ∀ b, S b → ¬ T b
  kept : Kept No w wr
def DPlRel (w : World) (p q : Nat) (room : Int) (cnt : Nat) (i : Value) (wr : World) : Prop :=
  ∃ (k : Nat) (s : PD) (S T : Nat → Prop), k ≤ cnt ∧ i = .int .i64 k ∧ s.room = room ∧ s.fr ≤ 65536 * (k : Int) ∧ Pair w p q s S T wr

theorem Pair.no {w wr w' : World} {p q : Nat} {s : PD} {S T : Nat → Prop} (h : Pair w p q s S T wr) (k : Kept No wr w') : Pair w p q s S T w' :=
  ⟨h.disk.keptNo k, h.ref.keptNo k, h.newS, h.newT, h.apart, h.kept.transNo k⟩

theorem Pair.step {w wr wb w1 w2 : World} {p q : Nat} {s t : PD} {S S1 T T1 : Nat → Prop} (h : Pair w p q s S T wr) (kb : Kept No wr wb) (h1 : DS w1 p t S1) (g1 : DGrows S S1 wb w1) (h2 : RS w2 q t T1) (g2 : DGrows T T1 w1 w2) : Pair w p q t S1 T1 w2 := by
  obtain ⟨k1, n1⟩ := g1.new (h.kept.transNo kb) h.newS
  obtain ⟨k2, n2⟩ := g2.new k1 h.newT
  obtain ⟨_, _, _, _, hR⟩ := h.ref
  have hTlt : ∀ b, T b → b < wr.heap.size := hR.lt
  have ap1 : ∀ b, S1 b → ¬ T b := fun b hs ht => by
    rcases g1.grow b hs with h' | h'
    · exact h.apart b h' ht
    · have := hTlt b ht; have := kb.size; omega
  refine ⟨h1.kept g2.kept (fun b hb => ap1 b hb), h2, n1, n2, fun b hs ht => ?_, k2⟩
  rcases g2.grow b ht with h' | h'
  · exact ap1 b hs h'
  · have := h1.lt b hs; omega

theorem rcells {w : World} {q : Nat} {s : PD} {B : List UInt8} {n : Nat} {a : Option Addr} {cap : Nat} {T : Nat → Prop} {b : Bool} (h : RX w q s B n a cap T) (hb : s.on = b) :
    w.cell? ⟨q, 1, none⟩ = some (.slice a n cap) ∧ w.cell? ⟨q, 2, none⟩ = some (.int .i64 s.base) ∧ w.cell? ⟨q, 5, none⟩ = some (.bool (!b)) := by
  subst hb; exact ⟨Blk.cell h.box 1, Blk.cell h.box 2, Blk.cell h.box 5⟩
theorem d_room_eq {w : World} {p : Nat} {s : PD} {a : Option Addr} {cap : Nat} {S : Nat → Prop} {L : Int} (h : DX w p s a cap S) (hL : s.room = L) :
    Calls Try.prog 53 #[.pointer (some ⟨p, 0, none⟩)] w fun e w' => e = .returned (.int .i64 L) ∧ w = w' := by subst hL; exact d_room h
theorem r_read_eq {w : World} {q : Nat} {s : PD} {B : List UInt8} {n : Nat} {a : Option Addr} {cap : Nat} {T : Nat → Prop} (h : RX w q s B n a cap T) (hlo2 : n ≤ 1099511627776) {code : Int} {x : List UInt8} (e : s.read = (x, code)) :
    Calls Try.prog 51 #[.pointer (some ⟨q, 0, none⟩)] w (DRead w (x, code)) := by rw [← e]; exact r_read h hlo2

set_option maxHeartbeats 1000000 in
theorem dplays_bad (room : Int) (a : Option Addr) (c : Nat) (l : List DM) (w : World) (h : InD w a c l) (hr : ¬ (1 ≤ room ∧ room ≤ 65536)) :
    Calls Try.prog 11 #[.int .i64 room, .slice a l.length c] w fun e w' => e = .returned (.bool true) ∧ Kept No w w' := by
  have HR := Lib.hid hr
  clear hr
  go_enter Try.func11, Try.ntmps11
  go_wp2_with fail
  refine (dlong_calls a c l w h).mono ?_
  rintro e w1 ⟨⟨b, rfl⟩, hk1⟩
  cases b with
  | true =>
    go_wp2_with (go_at_call 40; refine (disk_alive _).mono ?_; rintro e w2 ⟨rfl, hk2⟩)
    go_ret
    exact ⟨rfl, hk1.transNo hk2⟩
  | false =>
    go_wp2_with (first
      | (go_at_call 32; refine (d_new_no room _ HR.out).mono ?_; rintro e w2 ⟨rfl, rfl⟩)
      | (go_at_call 49; refine (r_new_no room _ HR.out).mono ?_; rintro e w3 ⟨rfl, hk3⟩)
      | (go_at_call 40; refine (disk_alive _).mono ?_; rintro e w4 ⟨rfl, hk4⟩))
    go_ret
    exact ⟨rfl, (hk1.transNo (hk3.alloc _)).transNo hk4⟩

set_option maxHeartbeats 16000000 in
theorem dplays_calls (room : Int) (a : Option Addr) (c : Nat) (l : List DM) (w : World) (h : InD w a c l) (hr1 : 1 ≤ room) (hr2 : room ≤ 65536) :
    Calls Try.prog 11 #[.int .i64 room, .slice a l.length c] w fun e w' => e = .returned (.bool true) ∧ Kept No w w' := by
  have hle := InS.le h
  have hmx := InS.max h
  obtain ⟨n, hn⟩ : ∃ n, n = min l.length 100 := ⟨_, rfl⟩
  have hn1 : n ≤ l.length := by omega
  have hn2 : n ≤ 100 := by omega
  have HN := Lib.hid hn
  clear hn
  go_enter Try.func11, Try.ntmps11
  go_wp2_with fail
  refine (dlong_calls a c l w h).mono ?_
  rintro e w1 ⟨⟨b, rfl⟩, hk1⟩
  cases b with
  | true =>
    go_wp2_with (go_at_call 40; refine (disk_alive _).mono ?_; rintro e w2 ⟨rfl, hk2⟩)
    go_ret
    exact ⟨rfl, hk1.transNo hk2⟩
  | false =>
    go_wp2_with (first
      | (go_at_call 32; refine (d_new room _ hr1 hr2).mono ?_; rintro e w2 ⟨rfl, hS2, hk2⟩)
      | (go_at_call 49; refine (r_new room _ hr1 hr2).mono ?_; rintro e w3 ⟨rfl, hk3⟩)
      | (go_at_call 42; refine (dshort_calls a l.length c _ hle hmx).mono ?_; rw [← HN.out]; rintro e w' ⟨rfl, rfl⟩))
    have hs1 := hk1.size
    have hs2 := hk2.size
    have hs3 := hk3.size
    have hplt := hS2.lt _ hS2.sp
    have hq := Blk.new' (w := w3) rfl 92 [.int .i64 room, .slice none 0 0, .int .i64 0, .int .i64 0, .int .i64 0, .bool false, .bool false, .int .i64 0]
    have hR0 : RX (w3.alloc (.cells #[.int .i64 room, .slice none 0 0, .int .i64 0, .int .i64 0, .int .i64 0, .bool false, .bool false, .int .i64 0] 92)) w3.heap.size (PD.new room) [] 0 none 0 (· = w3.heap.size) :=
      ⟨hq, Owns.nil _ _ _, PD.Ok.new hr1 hr2, rfl, by simp [PD.new, PD.fin], by simp [PD.new], rfl, (fun k ⟨_, _, h, _⟩ => nomatch h), (fun k hk' => by rw [hk']; exact hq.lt)⟩
    have hP0 : Pair w w1.heap.size w3.heap.size (PD.new room) (· = w1.heap.size) (· = w3.heap.size) (w3.alloc (.cells #[.int .i64 room, .slice none 0 0, .int .i64 0, .int .i64 0, .int .i64 0, .bool false, .bool false, .int .i64 0] 92)) :=
      ⟨hS2.keptNo (hk3.alloc _), ⟨_, _, _, _, hR0⟩, fun b (e : b = w1.heap.size) => by omega, fun b (e : b = w3.heap.size) => by omega, fun b (e : b = w1.heap.size) (e' : b = w3.heap.size) => by omega, hk1.transNo (hk2.transNo (hk3.alloc _))⟩
    clear hq hR0 hS2 hplt hle hmx
    go_loopw [50] (fun i wr => DPlRel w w1.heap.size w3.heap.size room n i wr) (fun i _ => n - (intOf i).toNat)
    case atStart => exact ⟨0, _, _, _, Nat.zero_le _, rfl, rfl, by simp [PD.new], hP0⟩
    case round =>
      clear hP0
      obtain ⟨k, s, S, T, hk, rfl, hroom, hfr, hP⟩ := hrel
      have hkept := hP.kept
      by_cases hlt : k < n
      · obtain ⟨m, hm⟩ : ∃ m, l[k]? = some m := ⟨_, List.getElem?_eq_getElem (by omega)⟩
        have hin := InS.each (h.kept hkept) m (List.mem_of_getElem? hm)
        have hinw := InS.each h m (List.mem_of_getElem? hm)
        obtain ⟨b, o, rfl, hb, d0, d1, d2, d3⟩ := (h.kept hkept).at hm
        clear hm
        have hi0 : (0 : Int) ≤ k := by omega
        have hi1 : (k : Int) < n := by omega
        obtain ⟨a0, cap0, hX⟩ := hP.disk
        obtain ⟨B0, n0, ar0, capr0, hR⟩ := hP.ref
        have hlo : s.fr ≤ 4611686018427387904 := by omega
        have hlo2 : n0 ≤ 1099511627776 := by
          have h1 := hR.fin
          have h2 : s.fin = s.fr + (s.b.length : Int) := rfl
          have h3 := hX.len
          omega
        have hfar := PD.far hX.ok m.m
        have hok := PD.Ok.does hX.ok m.m hin.n1
        obtain ⟨⟨x, g, t⟩, hd⟩ : ∃ x, s.does m.m = x := ⟨_, rfl⟩
        rw [hd] at hfar hok
        simp only at hfar hok
        have hfr2 : t.fr ≤ s.fr + 65536 := hfar.1
        have hroom2 : t.room = room := by rw [hfar.2]; exact hroom
        have hl2 : (t.b.length : Int) ≤ 65536 := by have := hok.fits; have := hok.room2; omega
        obtain ⟨⟨y, cd⟩, hrd⟩ : ∃ x, t.read = x := ⟨_, rfl⟩
        have HD := Lib.hid hd
        have HRD := Lib.hid hrd
        have HROOM := Lib.hid hroom2
        have HRM := Lib.hid hroom
        clear hd hrd hfar hroom2 hroom
        have hbx := Blk.new wr 83 [.int .u8 m.m.kind, .int .i64 m.m.n, .slice m.a m.m.b.length m.c, .bool m.m.cut]
        have kb := (Kept.refl No wr).alloc (.cells #[.int .u8 m.m.kind, .int .i64 m.m.n, .slice m.a m.m.b.length m.c, .bool m.m.cut] 83)
        have hSlt : ∀ b, S b → b < wr.heap.size := hX.lt
        go_wp2_with (first
          | (go_at_call 44; refine (does_eq (hX.keptNo kb) hlo m.m m.a m.c (hin.b.rd.keptNo kb) hin.b.nil hin.k0 hin.n0 hin.n1 HD.out).mono ?_; rintro e w4 ⟨S4, rfl, hS4, hg4⟩; have b4 := hbx.kept hg4.kept (fun h' => by have := hSlt _ h'; omega); have a0' := b4.cell 0; have a1' := b4.cell 1; have a2' := b4.cell 2; have a3' := b4.cell 3; have k4 := (hg4.new (hkept.transNo kb) hP.newS).1; have R4 := (hR.keptNo kb).kept hg4.kept (fun b hb hb' => hP.apart b hb' hb))
          | (go_at_call 50; refine (would_eq R4 hlo hlo2 m.m m.a m.c (hinw.b.rd.keptNo k4) hin.b.nil hin.k0 hin.n0 hin.n1 HD.out).mono ?_; rintro e w5 ⟨T5, rfl, hT5, hg5⟩; have P5 := hP.step kb hS4 hg4 hT5 hg5; clear a0' a1' a2' a3'))
        obtain ⟨a5, cap5, X5⟩ := P5.disk
        obtain ⟨B5, n5, ar5, capr5, R5⟩ := P5.ref
        have hlot : t.fr ≤ 4611686018427387904 := by omega
        have hfin5 : t.fin = (n5 : Int) := R5.fin.symm
        have hlo5 : n5 ≤ 1099511627776 := by
          have h2 : t.fin = t.fr + (t.b.length : Int) := rfl
          omega
        have HFIN := Lib.hid hfin5
        clear hfin5 hX hR hS4 R4 hT5 hbx b4
        cases hton : t.on
        all_goals
          have HTON := Lib.hid hton
          clear hton
          go_wp2_with (first
            | (go_at_call 38; refine (d_read_eq X5 hlot HRD.out).mono ?_; rintro e w6 ⟨a6, c6, rfl, ho6, hk6, hat6⟩)
            | (go_at_call 51; refine (r_read_eq (R5.keptNo hk6) hlo5 HRD.out).mono ?_; rintro e w7 ⟨a7, c7, rfl, ho7, hk7, hat7⟩)
            | (go_at_call 47; refine (d_forced_eq (X5.keptNo (hk6.transNo hk7)) rfl rfl).mono ?_; rintro e w8 ⟨rfl, d8, rfl⟩; have k8 : Kept No w5 (w7.drewN d8) := (hk6.transNo hk7).drewN d8; have q3 := Blk.cell (R5.keptNo k8).box 3; have q4 := Blk.cell (R5.keptNo k8).box 4)
            | (go_at_call 31; refine (same_two a6 a7 _ _ c6 c7 y rfl rfl (ho6.rd.keptNo (hk7.drewN d8)) (ho7.rd.keptNo ((Kept.refl No w7).drewN d8))).mono ?_; rintro e w9 ⟨rfl, rfl⟩))
          have X9 := X5.keptNo k8.drew
          have R9 := R5.keptNo k8.drew
          have R8 := R5.keptNo ((hk6.transNo hk7).drewN (d8 + 1))
          clear q3 q4
          go_region_held3 (fun w' => w'.cell? ⟨w3.heap.size, 1, none⟩ = some (.slice ar5 n5 capr5) ∧ w'.cell? ⟨w3.heap.size, 2, none⟩ = some (.int .i64 t.base) ∧ w'.cell? ⟨w3.heap.size, 5, none⟩ = some (.bool (!t.on)))
            (first | (with_reducible exact rcells R12 rfl) | (with_reducible exact rcells R11 rfl) | (with_reducible exact rcells R10 rfl) | (with_reducible exact rcells R8 rfl) | (with_reducible exact rcells R9 rfl) | go_keep)
            (first
              | (go_at_call 39; refine (d_base X9).mono ?_; rintro e w9 ⟨rfl, rfl⟩)
              | (go_at_call 35; refine (d_end_eq X9 hlot HFIN.out).mono ?_; rintro e w10 ⟨rfl, hk10⟩; have k10 := k8.drew.transNo hk10; have X10 := X5.keptNo k10; have R10 := R5.keptNo k10)
              | (go_at_call 34; refine (d_left_eq X10 rfl).mono ?_; rintro e w11 ⟨rfl, d11, rfl⟩; have k11 := k10.drewN d11; have R11 := R5.keptNo k11)
              | (go_at_call 52; refine (r_left R11 hlot rfl).mono ?_; rintro e w12 ⟨rfl, d12, rfl⟩; have k12 := k10.drewN (d11 + d12); have R12 := R5.keptNo k12; have X12 := X5.keptNo k12)
              | (go_at_call 53; refine (d_room_eq X12 HROOM.out).mono ?_; rintro e w13 ⟨rfl, rfl⟩)
              | (go_at_call 43; refine (d_on X12).mono ?_; rintro e w14 ⟨rfl, rfl⟩)
              | fail)
          go_wp2
          all_goals
            go_roundw
            case rel => exact ⟨k + 1, t, S4, T5, by omega, by go_num, HROOM.out, by omega, P5.no k12⟩
            case measure => simp [intOf]; omega
      · go_wp2_with (go_at_call 40; refine (disk_alive _).mono ?_; rintro e w9 ⟨rfl, hk9⟩)
        go_ret
        exact ⟨rfl, hkept.transNo hk9⟩

theorem dplays_all (room : Int) (a : Option Addr) (c : Nat) (l : List DM) (w : World) (h : InD w a c l) :
    Calls Try.prog 11 #[.int .i64 room, .slice a l.length c] w fun e w' => e = .returned (.bool true) ∧ Kept No w w' := by
  by_cases hr : 1 ≤ room ∧ room ≤ 65536
  · exact dplays_calls room a c l w h hr.1 hr.2
  · exact dplays_bad room a c l w h hr
end Go.Proofs.Ytdolddgmemlofaa
