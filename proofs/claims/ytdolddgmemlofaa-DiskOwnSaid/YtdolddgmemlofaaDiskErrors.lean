/- DiskErrors: the walk. -/
import Derived.Test.YtdolddgmemlofaaDiskI
import Derived.Test.YtdolddgmemlofaaDiskEP
import Derived.Test.YtdolddgmemlofaaDiskFull
import Derived.Test.YtdolddgmemlofaaRef01
namespace Go.Proofs.Ytdolddgmemlofaa
open Go.RowKit Go.PM
set_option maxRecDepth 100000

section
variable {w : World} {p : Nat} {s : PD} {a : Option Addr} {cap : Nat} {S : Nat → Prop}
theorem d_end_eq {L : Int} (h : DX w p s a cap S) (hlo : s.fr ≤ 4611686018427387904) (hL : s.fin = L) :
    Calls Try.prog 35 #[.pointer (some ⟨p, 0, none⟩)] w fun e w' => e = .returned (.int .i64 L) ∧ Kept No w w' := by subst hL; exact d_end h hlo
theorem d_on_eq {b : Bool} (h : DX w p s a cap S) (hb : s.on = b) :
    Calls Try.prog 43 #[.pointer (some ⟨p, 0, none⟩)] w fun e w' => e = .returned (.bool b) ∧ w = w' := by subst hb; exact d_on h
theorem does_eq (h : DX w p s a cap S) (hlo : s.fr ≤ 4611686018427387904) (m : DAct) (ad : Option Addr) (c : Nat) (hr : Rd w ad (bcells m.b)) (hc : ad = none → c = 0) (hk0 : 0 ≤ m.kind) (hn0 : -9223372036854775808 ≤ m.n) (hn1 : m.n ≤ 9223372036854775807) {n g : Int} {t : PD} (e : s.does m = (n, g, t)) :
    Calls Try.prog 44 #[.pointer (some ⟨p, 0, none⟩), .agg #[.int .u8 m.kind, .int .i64 m.n, .slice ad m.b.length c, .bool m.cut]] w (DTwo w p S (n, g, t)) := by
  rw [← e]; exact does_calls ⟨a, cap, h⟩ hlo m ad c hr hc hk0 hn0 hn1
theorem same_true (a1 a2 : Option Addr) (n c1 c2 : Nat) (l : List UInt8) (hn : l.length = n) (h1 : Rd w a1 (bcells l)) (h2 : Rd w a2 (bcells l)) :
    Calls Try.prog 31 #[.slice a1 n c1, .slice a2 n c2] w fun e w' => e = .returned (.bool true) ∧ w = w' := by
  subst hn
  have := same_calls a1 a2 c1 c2 l l h1 h2
  simpa using this
end

def ErrRel (w : World) (p : Nat) (cnt : Nat) (i : Value) (wr : World) : Prop :=
  ∃ (k : Nat) (s : PD) (S : Nat → Prop), k ≤ cnt ∧ i = .int .i64 k ∧ DS wr p s S ∧ s.fr ≤ 65536 * (k : Int) ∧ DNew w S ∧ Kept No w wr

set_option maxHeartbeats 1000000 in
theorem errors_bad (room : Int) (a : Option Addr) (c : Nat) (l : List DM) (w : World) (h : InD w a c l) (hr : ¬ (1 ≤ room ∧ room ≤ 65536)) :
    Calls Try.prog 9 #[.int .i64 room, .slice a l.length c] w fun e w' => e = .returned (.bool true) ∧ Kept No w w' := by
  have HR := Lib.hid hr
  clear hr
  go_enter Try.func9, Try.ntmps9
  go_wp2_with fail
  refine (dlong_calls a c l w h).mono ?_
  rintro e w1 ⟨⟨b, rfl⟩, hk1⟩
  cases b with
  | true =>
    go_wp2_with (go_at_call 40; refine (disk_alive _).mono ?_; rintro e w2 ⟨rfl, hk2⟩)
    go_ret
    exact ⟨rfl, hk1.transNo hk2⟩
  | false =>
    go_wp2_with (first
      | (go_at_call 32; refine (d_new_no room _ HR.out).mono ?_; rintro e w2 ⟨rfl, rfl⟩)
      | (go_at_call 40; refine (disk_alive _).mono ?_; rintro e w2 ⟨rfl, hk2⟩))
    go_ret
    exact ⟨rfl, hk1.transNo hk2⟩

set_option maxHeartbeats 8000000 in
theorem errors_calls (room : Int) (a : Option Addr) (c : Nat) (l : List DM) (w : World) (h : InD w a c l) (hr1 : 1 ≤ room) (hr2 : room ≤ 65536) :
    Calls Try.prog 9 #[.int .i64 room, .slice a l.length c] w fun e w' => e = .returned (.bool true) ∧ Kept No w w' := by
  have hle := InS.le h
  have hmx := InS.max h
  obtain ⟨n, hn⟩ : ∃ n, n = min l.length 100 := ⟨_, rfl⟩
  have hn1 : n ≤ l.length := by omega
  have hn2 : n ≤ 100 := by omega
  have HN := Lib.hid hn
  clear hn
  go_enter Try.func9, Try.ntmps9
  go_wp2_with fail
  refine (dlong_calls a c l w h).mono ?_
  rintro e w1 ⟨⟨b, rfl⟩, hk1⟩
  cases b with
  | true =>
    go_wp2_with (go_at_call 40; refine (disk_alive _).mono ?_; rintro e w2 ⟨rfl, hk2⟩)
    go_ret
    exact ⟨rfl, hk1.transNo hk2⟩
  | false =>
    go_wp2_with (first
      | (go_at_call 32; refine (d_new room _ hr1 hr2).mono ?_; rintro e w2 ⟨rfl, hS2, hk2⟩)
      | (go_at_call 42; refine (dshort_calls a l.length c _ hle hmx).mono ?_; rw [← HN.out]; rintro e w' ⟨rfl, rfl⟩))
    have hk12 := hk1.transNo hk2
    have hnew : DNew w (· = w1.heap.size) := fun b (hb : b = w1.heap.size) => by have := hk1.size; omega
    clear hmx hle
    go_loopw [44] (fun i wr => ErrRel w w1.heap.size n i wr) (fun i _ => n - (intOf i).toNat)
    case atStart => exact ⟨0, _, _, Nat.zero_le _, rfl, hS2, by simp [PD.new], hnew, hk12⟩
    case round =>
      clear hS2 hnew hk12 hk2
      obtain ⟨k, s, S, hk, rfl, ⟨a0, cap0, hX⟩, hfr, hnew, hkept⟩ := hrel
      by_cases hlt : k < n
      · obtain ⟨m, hm⟩ : ∃ m, l[k]? = some m := ⟨_, List.getElem?_eq_getElem (by omega)⟩
        have hin := InS.each (h.kept hkept) m (List.mem_of_getElem? hm)
        obtain ⟨b, o, rfl, hb, d0, d1, d2, d3⟩ := (h.kept hkept).at hm
        clear hm
        have hi0 : (0 : Int) ≤ k := by omega
        have hi1 : (k : Int) < n := by omega
        have hlo : s.fr ≤ 4611686018427387904 := by omega
        have hfar := (PD.far hX.ok m.m).1
        have hok := PD.Ok.does hX.ok m.m hin.n1
        have hsame := PD.same (s := s) m.m
        obtain ⟨⟨nn, g, t⟩, hd⟩ : ∃ x, s.does m.m = x := ⟨_, rfl⟩
        rw [hd] at hfar hok hsame
        simp only at hfar hok hsame
        have HD := Lib.hid hd
        have HSAME := Lib.hid hsame
        clear hd hsame
        have hbx := Blk.new wr 83 [.int .u8 m.m.kind, .int .i64 m.m.n, .slice m.a m.m.b.length m.c, .bool m.m.cut]
        have kb := (Kept.refl No wr).alloc (.cells #[.int .u8 m.m.kind, .int .i64 m.m.n, .slice m.a m.m.b.length m.c, .bool m.m.cut] 83)
        by_cases hg : g = 0
        · subst hg
          go_wp2_with (first
            | (go_at_call 38; refine (d_read (hX.keptNo kb) hlo).mono ?_; rintro e w3 ⟨a3, c3, rfl, ho3, hk3, hat3⟩; have k3 := kb.transNo hk3)
            | (go_at_call 39; refine (d_base (hX.keptNo k3)).mono ?_; rintro e w3' ⟨rfl, rfl⟩)
            | (go_at_call 35; refine (d_end (hX.keptNo k3) hlo).mono ?_; rintro e w4 ⟨rfl, hk4⟩; have k4 := k3.transNo hk4; have X4 := hX.keptNo k4)
            | (go_at_call 34; refine (d_left X4.box X4.ok.room1 X4.ok.room2 X4.ok.fits).mono ?_; rintro e w5' ⟨rfl, d5, rfl⟩; have k5 := k4.drewN d5; have bx5 := ((hbx.kept hk3 id).kept hk4 id).drewN d5; have g0 := bx5.cell 0; have g1 := bx5.cell 1; have g2 := bx5.cell 2; have g3 := bx5.cell 3)
            | (go_at_call 43; refine (d_on (hX.keptNo k5)).mono ?_; rintro e w5' ⟨rfl, rfl⟩)
            | (go_at_call 44; refine (does_eq (hX.keptNo k5) hlo m.m m.a m.c (hin.b.rd.keptNo k5) hin.b.nil hin.k0 hin.n0 hin.n1 HD.out).mono ?_; rintro e w6 ⟨S6, rfl, hS6, hg6⟩))
          go_roundw
          case rel =>
            obtain ⟨k6, n6⟩ := hg6.new (hkept.transNo k5) hnew
            exact ⟨k + 1, t, S6, by omega, by go_num, hS6, by omega, n6, k6⟩
          case measure => simp [intOf]; omega
        · have hs := HSAME.out hg
          have hgb : (g == 0) = false := beq_eq_false_iff_ne.2 hg
          have hlo6 : t.fr ≤ 4611686018427387904 := by omega
          have HSB := Lib.hid hs.base
          have HSF := Lib.hid hs.fin
          have HSL := Lib.hid hs.left
          cases hon : s.on with
          | false =>
            have ht : t.on = false := by
              cases h' : t.on with
              | false => rfl
              | true => have := hs.on h'; rw [hon] at this; exact absurd this (by decide)
            have R1 := Lib.hid (PD.read_off hon)
            have R2 := Lib.hid (PD.read_off ht)
            have HON := Lib.hid hon
            have HT := Lib.hid ht
            clear hon ht hs hg HSAME
            go_wp2_with (first
              | (go_at_call 38; refine (d_read_eq X6 hlo6 R2.out).mono ?_; rintro e w7 ⟨a7, c7, rfl, ho7, hk7, hat7⟩; have X7 := X6.keptNo hk7; clear R2)
              | (go_at_call 38; refine (d_read_eq (hX.keptNo kb) hlo R1.out).mono ?_; rintro e w3 ⟨a3, c3, rfl, ho3, hk3, hat3⟩; have k3 := kb.transNo hk3)
              | (go_at_call 39; refine (d_base_eq X7 HSB.out).mono ?_; rintro e w3' ⟨rfl, rfl⟩)
              | (go_at_call 39; refine (d_base (hX.keptNo k3)).mono ?_; rintro e w3' ⟨rfl, rfl⟩)
              | (go_at_call 35; refine (d_end_eq X7 hlo6 HSF.out).mono ?_; rintro e w8 ⟨rfl, hk8⟩; have X8 := X7.keptNo hk8)
              | (go_at_call 35; refine (d_end (hX.keptNo k3) hlo).mono ?_; rintro e w4 ⟨rfl, hk4⟩; have k4 := k3.transNo hk4; have X4 := hX.keptNo k4)
              | (go_at_call 34; refine (d_left_eq X8 HSL.out).mono ?_; rintro e w9' ⟨rfl, d9, rfl⟩; have X9 := X8.keptNo ((Kept.refl No _).drewN d9))
              | (go_at_call 34; refine (d_left X4.box X4.ok.room1 X4.ok.room2 X4.ok.fits).mono ?_; rintro e w5' ⟨rfl, d5, rfl⟩; have k5 := k4.drewN d5; have bx5 := ((hbx.kept hk3 id).kept hk4 id).drewN d5; have g0 := bx5.cell 0; have g1 := bx5.cell 1; have g2 := bx5.cell 2; have g3 := bx5.cell 3)
              | (go_at_call 43; refine (d_on_eq X9 HT.out).mono ?_; rintro e w5' ⟨rfl, rfl⟩)
              | (go_at_call 43; refine (d_on_eq (hX.keptNo k5) HON.out).mono ?_; rintro e w5' ⟨rfl, rfl⟩)
              | (go_at_call 44; refine (does_eq (hX.keptNo k5) hlo m.m m.a m.c (hin.b.rd.keptNo k5) hin.b.nil hin.k0 hin.n0 hin.n1 HD.out).mono ?_; rintro e w6 ⟨S6, rfl, ⟨a6, cap6, X6⟩, hg6⟩))
            all_goals
              go_roundw
              case rel =>
                obtain ⟨k6, n6⟩ := hg6.new (hkept.transNo k5) hnew
                exact ⟨k + 1, t, S6, by omega, by go_num, ⟨_, _, X9⟩, by omega, n6, ((k6.transNo hk7).transNo hk8).drewN d9⟩
              case measure => simp [intOf]; omega
          | true =>
            cases ht : t.on with
            | false =>
              obtain rfl : g = 10 := by
                rcases Decidable.em (g = 10) with h' | h'
                · exact h'
                · have := hs.else_ h'; rw [hon, ht] at this; exact absurd this (by decide)
              obtain ⟨x, hx⟩ : ∃ x, s.read = (x, 0) := ⟨_, PD.read_on hon⟩
              have R1 := Lib.hid hx
              have R2 := Lib.hid (PD.read_off ht)
              have HON := Lib.hid hon
              have HT := Lib.hid ht
              clear hon ht hs hg HSAME hx
              go_wp2_with (first
                | (go_at_call 38; refine (d_read_eq X6 hlo6 R2.out).mono ?_; rintro e w7 ⟨a7, c7, rfl, ho7, hk7, hat7⟩; have X7 := X6.keptNo hk7; clear R2)
                | (go_at_call 38; refine (d_read_eq (hX.keptNo kb) hlo R1.out).mono ?_; rintro e w3 ⟨a3, c3, rfl, ho3, hk3, hat3⟩; have k3 := kb.transNo hk3)
                | (go_at_call 39; refine (d_base_eq X7 HSB.out).mono ?_; rintro e w3' ⟨rfl, rfl⟩)
                | (go_at_call 39; refine (d_base (hX.keptNo k3)).mono ?_; rintro e w3' ⟨rfl, rfl⟩)
                | (go_at_call 35; refine (d_end_eq X7 hlo6 HSF.out).mono ?_; rintro e w8 ⟨rfl, hk8⟩; have X8 := X7.keptNo hk8)
                | (go_at_call 35; refine (d_end (hX.keptNo k3) hlo).mono ?_; rintro e w4 ⟨rfl, hk4⟩; have k4 := k3.transNo hk4; have X4 := hX.keptNo k4)
                | (go_at_call 34; refine (d_left_eq X8 HSL.out).mono ?_; rintro e w9' ⟨rfl, d9, rfl⟩; have X9 := X8.keptNo ((Kept.refl No _).drewN d9))
                | (go_at_call 34; refine (d_left X4.box X4.ok.room1 X4.ok.room2 X4.ok.fits).mono ?_; rintro e w5' ⟨rfl, d5, rfl⟩; have k5 := k4.drewN d5; have bx5 := ((hbx.kept hk3 id).kept hk4 id).drewN d5; have g0 := bx5.cell 0; have g1 := bx5.cell 1; have g2 := bx5.cell 2; have g3 := bx5.cell 3)
                | (go_at_call 43; refine (d_on_eq X9 HT.out).mono ?_; rintro e w5' ⟨rfl, rfl⟩)
                | (go_at_call 43; refine (d_on_eq (hX.keptNo k5) HON.out).mono ?_; rintro e w5' ⟨rfl, rfl⟩)
                | (go_at_call 44; refine (does_eq (hX.keptNo k5) hlo m.m m.a m.c (hin.b.rd.keptNo k5) hin.b.nil hin.k0 hin.n0 hin.n1 HD.out).mono ?_; rintro e w6 ⟨S6, rfl, ⟨a6, cap6, X6⟩, hg6⟩))
              all_goals
                go_roundw
                case rel =>
                  obtain ⟨k6, n6⟩ := hg6.new (hkept.transNo k5) hnew
                  exact ⟨k + 1, t, S6, by omega, by go_num, ⟨_, _, X9⟩, by omega, n6, ((k6.transNo hk7).transNo hk8).drewN d9⟩
                case measure => simp [intOf]; omega
            | true =>
              have hg10 : g ≠ 10 := fun h' => by have := hs.down h'; rw [ht] at this; exact absurd this (by decide)
              have hgc : (g == 10) = false := beq_eq_false_iff_ne.2 hg10
              have hgd : (g != 10) = true := bne_iff_ne.2 hg10
              obtain ⟨x, hx⟩ : ∃ x, s.read = (x, 0) := ⟨_, PD.read_on hon⟩
              have hx2 : t.read = (x, 0) := by
                have h1 := hs.read (by rw [hx]) (by rw [PD.read_on ht])
                rw [hx] at h1
                rw [PD.read_on ht] at h1 ⊢
                have h2 : t.part t.base t.fin = x := h1
                rw [h2]
              have R1 := Lib.hid hx
              have R2 := Lib.hid hx2
              have HON := Lib.hid hon
              have HT := Lib.hid ht
              clear hon ht hs hg HSAME hx hx2 hg10
              go_wp2_with (first
                | (go_at_call 38; refine (d_read_eq X6 hlo6 R2.out).mono ?_; rintro e w7 ⟨a7, c7, rfl, ho7, hk7, hat7⟩; have X7 := X6.keptNo hk7; clear R2)
                | (go_at_call 38; refine (d_read_eq (hX.keptNo kb) hlo R1.out).mono ?_; rintro e w3 ⟨a3, c3, rfl, ho3, hk3, hat3⟩; have k3 := kb.transNo hk3)
                | (go_at_call 39; refine (d_base_eq X7 HSB.out).mono ?_; rintro e w3' ⟨rfl, rfl⟩)
                | (go_at_call 39; refine (d_base (hX.keptNo k3)).mono ?_; rintro e w3' ⟨rfl, rfl⟩)
                | (go_at_call 35; refine (d_end_eq X7 hlo6 HSF.out).mono ?_; rintro e w8 ⟨rfl, hk8⟩; have X8 := X7.keptNo hk8)
                | (go_at_call 35; refine (d_end (hX.keptNo k3) hlo).mono ?_; rintro e w4 ⟨rfl, hk4⟩; have k4 := k3.transNo hk4; have X4 := hX.keptNo k4)
                | (go_at_call 34; refine (d_left_eq X8 HSL.out).mono ?_; rintro e w9' ⟨rfl, d9, rfl⟩; have X9 := X8.keptNo ((Kept.refl No _).drewN d9))
                | (go_at_call 34; refine (d_left X4.box X4.ok.room1 X4.ok.room2 X4.ok.fits).mono ?_; rintro e w5' ⟨rfl, d5, rfl⟩; have k5 := k4.drewN d5; have bx5 := ((hbx.kept hk3 id).kept hk4 id).drewN d5; have g0 := bx5.cell 0; have g1 := bx5.cell 1; have g2 := bx5.cell 2; have g3 := bx5.cell 3)
                | (go_at_call 43; refine (d_on_eq X9 HT.out).mono ?_; rintro e w5' ⟨rfl, rfl⟩)
                | (go_at_call 43; refine (d_on_eq (hX.keptNo k5) HON.out).mono ?_; rintro e w5' ⟨rfl, rfl⟩)
                | (go_at_call 31; have K39 : Kept S w3 (w8.drewN d9) := ((((hk4.drewN d5).no.trans hg6.kept (fun _ _ h => h)).transNo hk7).transNo hk8).drewN d9; have r3 := ho3.rd.kept K39 (fun b hb h' => by have h1 := hat3 b hb; have h2 := hX.lt b h'; rw [World.size_alloc] at h1; omega); have r7 := ho7.rd.keptNo (hk8.drewN d9); refine (same_true a3 a7 _ c3 c7 x rfl r3 r7).mono ?_; rintro e w5' ⟨rfl, rfl⟩)
                | (go_at_call 44; refine (does_eq (hX.keptNo k5) hlo m.m m.a m.c (hin.b.rd.keptNo k5) hin.b.nil hin.k0 hin.n0 hin.n1 HD.out).mono ?_; rintro e w6 ⟨S6, rfl, ⟨a6, cap6, X6⟩, hg6⟩))
              all_goals
                go_roundw
                case rel =>
                  obtain ⟨k6, n6⟩ := hg6.new (hkept.transNo k5) hnew
                  exact ⟨k + 1, t, S6, by omega, by go_num, ⟨_, _, X9⟩, by omega, n6, ((k6.transNo hk7).transNo hk8).drewN d9⟩
                case measure => simp [intOf]; omega
      · go_wp2_with (go_at_call 40; refine (disk_alive _).mono ?_; rintro e w9 ⟨rfl, hk9⟩)
        go_ret
        exact ⟨rfl, hkept.transNo hk9⟩

theorem errors_all (room : Int) (a : Option Addr) (c : Nat) (l : List DM) (w : World) (h : InD w a c l) :
    Calls Try.prog 9 #[.int .i64 room, .slice a l.length c] w fun e w' => e = .returned (.bool true) ∧ Kept No w w' := by
  by_cases hr : 1 ≤ room ∧ room ≤ 65536
  · exact errors_calls room a c l w h hr.1 hr.2
  · exact errors_bad room a c l w h hr
end Go.Proofs.Ytdolddgmemlofaa
