/- DiskForced: the walk. -/
import Derived.Test.YtdolddgmemlofaaDiskErrors
import Derived.Test.YtdolddgmemlofaaDiskFP
namespace Go.Proofs.Ytdolddgmemlofaa
open Go.RowKit Go.PM
set_option maxRecDepth 100000

section
variable {w : World} {p : Nat} {s : PD} {a : Option Addr} {cap : Nat} {S : Nat → Prop}
theorem d_append_eq (h : DX w p s a cap S) (hlo : s.fr ≤ 4611686018427387904) (x : List UInt8) (a2 : Option Addr) (c2 : Nat) (hr : Rd w a2 (bcells x)) (hc2 : a2 = none → c2 = 0) {n g : Int} {t : PD} (e : s.append x = (n, g, t)) :
    Calls Try.prog 33 #[.pointer (some ⟨p, 0, none⟩), .slice a2 x.length c2] w (DTwo w p S (n, g, t)) := by rw [← e]; exact d_append h hlo x a2 c2 hr hc2
theorem d_fail_eq (h : DX w p s a cap S) {g : Int} {t : PD} (e : s.fail = (g, t)) :
    Calls Try.prog 48 #[.pointer (some ⟨p, 0, none⟩)] w (DCode w p S (g, t)) := by rw [← e]; exact d_fail h
theorem d_forced_eq (h : DX w p s a cap S) {F E : Int} (hF : s.fr = F) (hE : s.se = E) :
    Calls Try.prog 47 #[.pointer (some ⟨p, 0, none⟩)] w fun e w' => e = .returned (.tuple #[.int .i64 F, .int .i64 E]) ∧ ∃ k, w' = w.drewN k := by subst hF; subst hE; exact d_forced h
theorem d_start_none (h : DX w p s a cap S) (hlo : s.fr ≤ 4611686018427387904) (keep : Int) (hk0 : -9223372036854775808 ≤ keep) (hk1 : keep ≤ 9223372036854775807) (cut : Bool) {g : Int} {t : PD} (e : s.start keep cut [] = (g, t)) :
    Calls Try.prog 45 #[.pointer (some ⟨p, 0, none⟩), .int .i64 keep, .bool cut, .slice none 0 0] w (DCode w p S (g, t)) := by
  rw [← e]; exact d_start h hlo keep hk0 hk1 cut [] none 0 (Rd.nil _ _) (fun _ => rfl)
end

theorem mid_rd {w : World} {a : Option Addr} {xs : List UInt8} (h : Rd w a (bcells xs)) (k m : Nat) : Rd w (a.map fun x => x.add k) (bcells ((xs.drop k).take m)) := by
  by_cases hm : m = 0
  · subst hm; simp [bcells]; exact Rd.nil _ _
  · have := part_rd h k m
    unfold partAddr at this; rw [if_neg hm] at this; exact this

theorem want_rd0 {w : World} {a : Option Addr} {b xs : List UInt8} {m : Nat} (h : Rd w a (bcells b)) (e : xs = (b.drop 0).take m) : Rd w a (bcells xs) := by
  subst e
  have := h.take m
  simpa [bcells, List.map_take] using this
theorem want_rdk {w : World} {a : Option Addr} {b xs : List UInt8} {k m j : Nat} (h : Rd w a (bcells b)) (e : xs = (b.drop k).take m) (hj : j = k) : Rd w (a.map fun x => x.add j) (bcells xs) := by
  subst e; subst hj; exact mid_rd h j m
theorem want_rd1 {w : World} {a : Option Addr} {xs : List UInt8} (h : xs.length = 0) : Rd w a (bcells xs) := by
  obtain rfl : xs = [] := List.eq_nil_of_length_eq_zero h
  exact Rd.nil _ _
theorem same_two {w : World} (a1 a2 : Option Addr) (n1 n2 c1 c2 : Nat) (l : List UInt8) (hn1 : l.length = n1) (hn2 : l.length = n2) (h1 : Rd w a1 (bcells l)) (h2 : Rd w a2 (bcells l)) :
    Calls Try.prog 31 #[.slice a1 n1 c1, .slice a2 n2 c2] w fun e w' => e = .returned (.bool true) ∧ w = w' := by
  subst hn2; subst hn1
  have := same_calls a1 a2 c1 c2 l l h1 h2
  simpa using this

/-- Long rows of acts, or a long tail: the probe alone. -/
def ForRel1 (w : World) (p : Nat) (cnt : Nat) (i : Value) (wr : World) : Prop :=
  ∃ (k : Nat) (s : PD) (S : Nat → Prop), k ≤ cnt ∧ i = .int .i64 k ∧ DS wr p s S ∧ s.fr ≤ 65536 * (k : Int) ∧ DNew w S ∧ Kept No w wr

/-- What was forced, and what came then. -/
structure ForSt (w : World) (p : Nat) (F E : Int) (t : PD) (S : Nat → Prop) (a : Option Addr) (c : Nat) (wr : World) : Prop where
  disk : DS wr p t S
  on : t.on = true
  fr : t.fr = F
  se : t.se = E
  own : Owns wr 5 1 a t.b.length c (bcells t.b)
  far : ∀ b, At a b → w.heap.size ≤ b ∧ ¬ S b
  new : DNew w S
  kept : Kept No w wr
def ForRel2 (w : World) (p : Nat) (F E : Int) (cnt : Nat) (v cut i : Value) (wr : World) : Prop :=
  ∃ (k : Nat) (t : PD) (S : Nat → Prop) (a : Option Addr) (c : Nat), k ≤ cnt ∧ i = .int .i64 k ∧ v = .slice a t.b.length c ∧ cut = .int .i64 t.base ∧ ForSt w p F E t S a c wr

theorem ForSt.no {w wr w' : World} {p : Nat} {F E : Int} {t : PD} {S : Nat → Prop} {a : Option Addr} {c : Nat} (h : ForSt w p F E t S a c wr) (k : Kept No wr w') : ForSt w p F E t S a c w' :=
  ⟨h.disk.keptNo k, h.on, h.fr, h.se, h.own.keptNo k, h.far, h.new, h.kept.transNo k⟩
/-- Behind a call on the disk. -/
theorem ForSt.call {w wr wb w' : World} {p : Nat} {F E : Int} {t : PD} {S S' : Nat → Prop} {a : Option Addr} {c : Nat} (h : ForSt w p F E t S a c wr) (kb : Kept No wr wb) (hg : DGrows S S' wb w') : DNew w S' ∧ Kept No w w' ∧ Owns w' 5 1 a t.b.length c (bcells t.b) ∧ (∀ b, At a b → w.heap.size ≤ b ∧ ¬ S' b) := by
  obtain ⟨k2, n2⟩ := hg.new (h.kept.transNo kb) h.new
  refine ⟨n2, k2, (h.own.keptNo kb).kept hg.kept (fun b hb => (h.far b hb).2), fun b hb => ⟨(h.far b hb).1, fun hs => ?_⟩⟩
  have := kb.lt (h.own.lt b hb)
  rcases hg.grow b hs with h' | h'
  · exact (h.far b hb).2 h'
  · omega
/-- Behind an append, to the disk and to what is wanted. -/
theorem ForSt.more {w w2 w3 : World} {p : Nat} {F E : Int} {t : PD} {S2 : Nat → Prop} {a a3 : Option Addr} {c3 n : Nat} {x : List UInt8} (hx : x.length = n) (hd : DS w2 p { t with b := t.b ++ x } S2) (hon : t.on = true) (hfr : t.fr = F) (hse : t.se = E) (hn : DNew w S2) (hk : Kept No w w2) (hfar : ∀ b, At a b → w.heap.size ≤ b ∧ ¬ S2 b)
    (hap : Onto w2 w3 5 1 a a3 (t.b.length + n) c3 (bcells t.b ++ bcells x)) : ForSt w p F E { t with b := t.b ++ x } S2 a3 c3 w3 := by
  subst hx
  have hl : (t.b ++ x).length = t.b.length + x.length := List.length_append
  have hc : bcells (t.b ++ x) = bcells t.b ++ bcells x := by simp [bcells]
  refine ⟨hd.kept hap.kept (fun b hb hat => (hfar b hat).2 hb), hon, hfr, hse, ?_, fun b hb => ?_, hn, hk.trans hap.kept (fun b hb hat => absurd (hfar b hat).1 (by omega))⟩
  · show Owns _ _ 1 _ (t.b ++ x).length _ (bcells (t.b ++ x)); rw [hl, hc]; exact hap.own
  · rcases hap.at_ b hb with h' | h'
    · exact hfar b h'
    · exact ⟨Nat.le_trans hk.size h', fun hs => by have := hd.lt b hs; omega⟩

set_option maxHeartbeats 1000000 in
theorem forced_long (a1 a2 : Option Addr) (c1 c2 : Nat) (l1 l2 : List DM) (x : DM) (w : World) (h1 : InD w a1 c1 l1) (h2 : InD w a2 c2 l2) (hb : 32768 < x.m.b.length) :
    Calls Try.prog 10 #[.slice a1 l1.length c1, .slice a2 l2.length c2, .agg #[.int .u8 x.m.kind, .int .i64 x.m.n, .slice x.a x.m.b.length x.c, .bool x.m.cut]] w fun e w' => e = .returned (.bool true) ∧ Kept No w w' := by
  have k0 := (Kept.refl No w).alloc (.cells #[.int .u8 x.m.kind, .int .i64 x.m.n, .slice x.a x.m.b.length x.c, .bool x.m.cut] 83)
  have hbx := Blk.new w 83 [.int .u8 x.m.kind, .int .i64 x.m.n, .slice x.a x.m.b.length x.c, .bool x.m.cut]
  go_enter Try.func10, Try.ntmps10
  go_wp2_with fail
  refine (dlong_calls a1 c1 l1 _ (h1.kept k0)).mono ?_
  rintro e w1 ⟨⟨b, rfl⟩, hk1⟩
  cases b with
  | true =>
    go_wp2_with (go_at_call 40; refine (disk_alive _).mono ?_; rintro e w3 ⟨rfl, hk3⟩)
    go_ret
    exact ⟨rfl, (k0.transNo hk1).transNo hk3⟩
  | false =>
    go_wp2_with fail
    refine (dlong_calls a2 c2 l2 _ (h2.kept (k0.transNo hk1))).mono ?_
    rintro e w2 ⟨⟨b, rfl⟩, hk2⟩
    have g2 := ((hbx.kept hk1 id).kept hk2 id).cell 2
    cases b with
    | true =>
      go_wp2_with (go_at_call 40; refine (disk_alive _).mono ?_; rintro e w3 ⟨rfl, hk3⟩)
      go_ret
      exact ⟨rfl, ((k0.transNo hk1).transNo hk2).transNo hk3⟩
    | false =>
      go_wp2_with (go_at_call 40; refine (disk_alive _).mono ?_; rintro e w3 ⟨rfl, hk3⟩)
      go_ret
      exact ⟨rfl, ((k0.transNo hk1).transNo hk2).transNo hk3⟩

set_option maxHeartbeats 16000000 in
theorem forced_calls (a1 a2 : Option Addr) (c1 c2 : Nat) (l1 l2 : List DM) (x : DM) (w : World) (h1 : InD w a1 c1 l1) (h2 : InD w a2 c2 l2) (hx : x.In w) (hb : x.m.b.length ≤ 32768) :
    Calls Try.prog 10 #[.slice a1 l1.length c1, .slice a2 l2.length c2, .agg #[.int .u8 x.m.kind, .int .i64 x.m.n, .slice x.a x.m.b.length x.c, .bool x.m.cut]] w fun e w' => e = .returned (.bool true) ∧ Kept No w w' := by
  obtain ⟨i0, hi0, hz0, hz1, hz2⟩ := info_parts Try.dinf_byte
  have k0 := (Kept.refl No w).alloc (.cells #[.int .u8 x.m.kind, .int .i64 x.m.n, .slice x.a x.m.b.length x.c, .bool x.m.cut] 83)
  have hbx := Blk.new w 83 [.int .u8 x.m.kind, .int .i64 x.m.n, .slice x.a x.m.b.length x.c, .bool x.m.cut]
  have hle1 := InS.le h1
  have hmx1 := InS.max h1
  have hle2 := InS.le h2
  have hmx2 := InS.max h2
  obtain ⟨n1, hn1⟩ : ∃ n, n = min l1.length 100 := ⟨_, rfl⟩
  have hn1a : n1 ≤ l1.length := by omega
  have hn1b : n1 ≤ 100 := by omega
  have HN1 := Lib.hid hn1
  obtain ⟨n2, hn2⟩ : ∃ n, n = min l2.length 100 := ⟨_, rfl⟩
  have hn2a : n2 ≤ l2.length := by omega
  have hn2b : n2 ≤ 100 := by omega
  have HN2 := Lib.hid hn2
  clear hn1 hn2
  go_enter Try.func10, Try.ntmps10
  obtain ⟨w0, hw0⟩ : ∃ w0, w0 = w.alloc (.cells #[.int .u8 x.m.kind, .int .i64 x.m.n, .slice x.a x.m.b.length x.c, .bool x.m.cut] 83) := ⟨_, rfl⟩
  rw [← hw0] at k0 hbx
  have HW0 := Lib.hid hw0
  clear hw0
  go_wp2_with fail
  rw [← HW0.out]
  refine (dlong_calls a1 c1 l1 _ (h1.kept k0)).mono ?_
  rintro e w1 ⟨⟨b, rfl⟩, hk1⟩
  cases b with
  | true =>
    go_wp2_with (go_at_call 40; refine (disk_alive _).mono ?_; rintro e w3 ⟨rfl, hk3⟩)
    go_ret
    exact ⟨rfl, (k0.transNo hk1).transNo hk3⟩
  | false =>
    go_wp2_with fail
    refine (dlong_calls a2 c2 l2 _ (h2.kept (k0.transNo hk1))).mono ?_
    rintro e w2 ⟨⟨b, rfl⟩, hk2⟩
    have g2 := ((hbx.kept hk1 id).kept hk2 id).cell 2
    cases b with
    | true =>
      go_wp2_with (go_at_call 40; refine (disk_alive _).mono ?_; rintro e w3 ⟨rfl, hk3⟩)
      go_ret
      exact ⟨rfl, ((k0.transNo hk1).transNo hk2).transNo hk3⟩
    | false =>
      go_wp2_with (first
        | (go_at_call 32; refine (d_new 65536 _ (by omega) (by omega)).mono ?_; rintro e w3 ⟨rfl, hS3, hk3⟩)
        | (go_at_call 42; refine (dshort_calls a1 l1.length c1 _ hle1 hmx1).mono ?_; rw [← HN1.out]; rintro e w' ⟨rfl, rfl⟩))
      have hk03 : Kept No w0 w3 := (hk1.transNo hk2).transNo hk3
      have hnew : DNew w0 (· = w2.heap.size) := fun b (hb : b = w2.heap.size) => by have := (hk1.transNo hk2).size; omega
      clear g2
      go_loopw [49] (fun i wr => ForRel1 w0 w2.heap.size n1 i wr) (fun i _ => n1 - (intOf i).toNat)
      case atStart => exact ⟨0, _, _, Nat.zero_le _, rfl, hS3, by simp [PD.new], hnew, hk03⟩
      case round =>
        clear hS3 hnew hk03 hk3
        obtain ⟨k, s, S, hk, rfl, ⟨a0, cap0, hX⟩, hfr, hnew, hkept⟩ := hrel
        by_cases hlt : k < n1
        · obtain ⟨m, hm⟩ : ∃ m, l1[k]? = some m := ⟨_, List.getElem?_eq_getElem (by omega)⟩
          have hkw := k0.transNo hkept
          have hin := InS.each (h1.kept hkw) m (List.mem_of_getElem? hm)
          obtain ⟨b, o, rfl, hb, d0, d1, d2, d3⟩ := (h1.kept hkw).at hm
          clear hm
          have hi0' : (0 : Int) ≤ k := by omega
          have hi1' : (k : Int) < n1 := by omega
          have hlo : s.fr ≤ 4611686018427387904 := by omega
          have hfar := (PD.far hX.ok m.m).1
          have kb := (Kept.refl No wr).alloc (.cells #[.int .u8 m.m.kind, .int .i64 m.m.n, .slice m.a m.m.b.length m.c, .bool m.m.cut] 83)
          obtain ⟨⟨nn, g, t⟩, hd⟩ : ∃ x, s.does m.m = x := ⟨_, rfl⟩
          rw [hd] at hfar
          simp only at hfar
          have HD := Lib.hid hd
          clear hd
          go_wp2_with (go_at_call 44; refine (does_eq (hX.keptNo kb) hlo m.m m.a m.c (hin.b.rd.keptNo kb) hin.b.nil hin.k0 hin.n0 hin.n1 HD.out).mono ?_; rintro e w6 ⟨S6, rfl, hS6, hg6⟩)
          go_roundw
          case rel =>
            obtain ⟨k6, n6⟩ := hg6.new (hkept.transNo kb) hnew
            exact ⟨k + 1, t, S6, by omega, by go_num, hS6, by omega, n6, k6⟩
          case measure => simp [intOf]; omega
        · have hlo : s.fr ≤ 4611686018427387904 := by omega
          have hon4 := PD.start_nil hX.ok 0 false
          have hfr4 := PD.start_fr hX.ok 0 false []
          obtain ⟨⟨g4, s4⟩, hd4⟩ : ∃ x, s.start 0 false [] = x := ⟨_, rfl⟩
          rw [hd4] at hon4 hfr4
          simp only at hon4 hfr4
          have HD4 := Lib.hid hd4
          clear hd4
          go_wp2_with fail
          refine (d_start_none hX hlo 0 (by omega) (by omega) false HD4.out).mono ?_
          rintro e w4 ⟨S4, rfl, ⟨a4, cp4, X4⟩, hg4⟩
          obtain ⟨k4, m4⟩ := hg4.new hkept hnew
          have hok4 := X4.ok
          have hlo4 : s4.fr ≤ 4611686018427387904 := by omega
          have hb4a : s4.fr ≤ s4.base := X4.ok.base0
          have hb4b : s4.base ≤ s4.fin := X4.ok.base1
          have hl4 : s4.b.length ≤ 65536 := X4.len
          have hf4 : s4.fin = s4.fr + (s4.b.length : Int) := rfl
          obtain ⟨s6, hs6⟩ : ∃ s6, (s4.arm (-1)).settle s4.base = s6 := ⟨_, rfl⟩
          have e6 : (s4.arm (-1)).force = (0, s6) := by rw [PD.force_none (s := s4.arm (-1)) hon4 (by simp [PD.arm])]; rw [← hs6]; rfl
          have hp1 : s6.on = true := by rw [← hs6]; exact hon4
          have hp2 : s6.base = s6.fr := by rw [← hs6]; rfl
          have hp3 : s6.se = s6.fin := by rw [← hs6]; exact ((s4.arm (-1)).settle_fin hb4a hb4b).symm
          have hp4 : s6.fr ≤ 65536 * 103 := by rw [← hs6]; show s4.base ≤ _; omega
          have hp5 : s6.read = (s6.b, 0) := by
            rw [PD.read_on hp1]
            congr 1
            unfold PD.part
            rw [hp2, show (s6.fr - s6.fr).toNat = 0 by omega, List.drop_zero]
            have : s6.fin = s6.fr + (s6.b.length : Int) := rfl
            rw [List.take_of_length_le (by omega)]
          have E6 := Lib.hid e6
          have HP2 := Lib.hid hp2
          have HP3 := Lib.hid hp3
          have HP5 := Lib.hid hp5
          clear e6 hs6 hp2 hp3 hp5 hon4 hok4 hf4 hb4a hb4b
          go_wp2_with (first
            | (go_at_call 46; refine (d_arm X4 (-1) (by omega)).mono ?_; rintro e w5 ⟨S5, rfl, ⟨a5, cp5, X5⟩, hg5⟩; obtain ⟨k5, m5⟩ := hg5.new k4 m4)
            | (go_at_call 37; refine (d_force_eq X5 hlo4 E6.out).mono ?_; rintro e w6 ⟨S6, rfl, ⟨a6, cp6, X6⟩, hg6⟩; obtain ⟨k6, m6⟩ := hg6.new k5 m5)
            | (go_at_call 39; refine (d_base_eq X6 HP2.out).mono ?_; rintro e w6' ⟨rfl, rfl⟩)
            | (go_at_call 38; refine (d_read_eq X6 (by omega) HP5.out).mono ?_; rintro e w7 ⟨a7, c7, rfl, ho7, hk7, hat7⟩)
            | (go_at_call 42; refine (dshort_calls a2 l2.length c2 _ hle2 hmx2).mono ?_; rw [← HN2.out]; rintro e w' ⟨rfl, rfl⟩))
          have X7 := X6.keptNo hk7
          have k7 := k6.transNo hk7
          have st7 : ForSt w0 w2.heap.size s6.fr s6.se s6 S6 a7 c7 w7 := ⟨⟨_, _, X7⟩, hp1, rfl, rfl, ho7, fun b hb => ⟨Nat.le_trans k6.size (hat7 b hb), fun hs => by have := hat7 b hb; have := X6.lt b hs; omega⟩, m6, k7⟩
          have hF0 := X6.ok.fr0
          have hSE := X6.ok.se1
          have hSE0 := X6.ok.se0
          have hbe : Value.int .i64 s6.fr = Value.int .i64 s6.base := by rw [HP2.out]
          have HBASE := Lib.hid hbe
          clear hbe
          go_loopw [12, 14, 75] (fun v ct i wr => ForRel2 w0 w2.heap.size s6.fr s6.se n2 v ct i wr) (fun _ _ i _ => n2 - (intOf i).toNat)
          case atStart => exact ⟨0, s6, S6, a7, c7, Nat.zero_le _, rfl, rfl, HBASE.out, st7⟩
          case round =>
            clear st7 X7 k7 X6 X5 X4 hat7 ho7 hk7
            generalize s6.fr = F at *
            generalize s6.se = E at *
            obtain ⟨j, t, T, aw, cw, hj, rfl, rfl, rfl, hst⟩ := hrel
            obtain ⟨at_, cpt, hX⟩ := hst.disk
            have hfrF := hst.fr
            have hlot : t.fr ≤ 4611686018427387904 := by rw [hst.fr]; omega
            by_cases hlt2 : j < n2
            · obtain ⟨m, hm⟩ : ∃ m, l2[j]? = some m := ⟨_, List.getElem?_eq_getElem (by omega)⟩
              have hkw := k0.transNo hst.kept
              have hmem := List.mem_of_getElem? hm
              have hin := InS.each (h2.kept hkw) m hmem
              obtain ⟨b, o, rfl, hb, d0, d1, d2, d3⟩ := (h2.kept hkw).at hm
              clear hm
              have hi0' : (0 : Int) ≤ j := by omega
              have hi1' : (j : Int) < n2 := by omega
              have kb := (Kept.refl No wr).alloc (.cells #[.int .u8 m.m.kind, .int .i64 m.m.n, .slice m.a m.m.b.length m.c, .bool m.m.cut] 83)
              have hbm := Blk.new wr 83 [.int .u8 m.m.kind, .int .i64 m.m.n, .slice m.a m.m.b.length m.c, .bool m.m.cut]
              have hxw : ∀ b, T b → b < wr.heap.size := hX.lt
              have hkk := hin.k0
              have HFR := Lib.hid hfrF
              clear hfrF
              have h8 : m.m.kind % 8 = 0 ∨ m.m.kind % 8 = 1 ∨ m.m.kind % 8 = 2 ∨ m.m.kind % 8 = 3 ∨ m.m.kind % 8 = 4 ∨ m.m.kind % 8 = 5 ∨ m.m.kind % 8 = 6 ∨ m.m.kind % 8 = 7 := by omega
              rcases h8 with hk8 | hk8 | hk8 | hk8 | hk8 | hk8 | hk8 | hk8
              · by_cases hfit : (m.m.b.length : Int) ≤ t.left
                · have HA := Lib.hid (PD.append_ok (s := t) (x := m.m.b) hst.on hfit)
                  have hsum : t.b.length + m.m.b.length ≤ 65536 := by have := hX.ok.room2; unfold PD.left at hfit; omega
                  have hmx : t.b.length + m.m.b.length ≤ maxLen := by unfold maxLen; omega
                  have hone := bcells_one m.m.b
                  have hinw := InS.each h2 m hmem
                  clear hfit
                  go_wp2_with (first
                    | (go_at_call 33; refine (d_append_eq (hX.keptNo kb) hlot m.m.b m.a m.c (hin.b.rd.keptNo kb) hin.b.nil HA.out).mono ?_; rintro e w6 ⟨S6', rfl, hS6, hg6⟩; have q := hst.call kb hg6; have g2 := (hbm.kept hg6.kept (fun h' => by have := hxw _ h'; omega)).cell 2)
                    | (at_builtin; go_must (refine wpList_onto rfl (.tmp 94) (.tmp 96) 32 rfl 5 i0 _ 1 1 Try.du_bytes hi0 hz0 hz1 hz2 rfl (by decide) aw t.b.length cw (bcells t.b) rfl q.2.2.1 m.a m.m.b.length m.c (bcells m.m.b) rfl hin.b.nil (by simp) (hinw.b.rd.keptNo (k0.transNo q.2.1)) hone hmx (by omega) ?_; intro a9 c9 w9 hap)))
                  go_roundw
                  case rel => exact ⟨j + 1, { t with b := t.b ++ m.m.b }, S6', a9, c9, by omega, by go_num, by simp [List.length_append], rfl, ForSt.more rfl hS6 hst.on hst.fr hst.se q.1 q.2.1 q.2.2.2 hap⟩
                  case measure => simp [intOf]; omega
                · have HA := Lib.hid (PD.append_full (s := t) (x := m.m.b) hst.on (by omega))
                  clear hfit
                  go_wp2_with (go_at_call 33; refine (d_append_eq (hX.keptNo kb) hlot m.m.b m.a m.c (hin.b.rd.keptNo kb) hin.b.nil HA.out).mono ?_; rintro e w6 ⟨S6', rfl, hS6, hg6⟩)
                  go_roundw
                  case rel =>
                    have q := hst.call kb hg6
                    exact ⟨j + 1, t, S6', aw, cw, by omega, by go_num, rfl, rfl, ⟨hS6, hst.on, hst.fr, hst.se, q.2.2.1, q.2.2.2, q.1, q.2.1⟩⟩
                  case measure => simp [intOf]; omega
              · go_wp2
                go_roundw
                case rel => exact ⟨j + 1, t, T, aw, cw, by omega, by go_num, rfl, rfl, hst.no kb⟩
                case measure => simp [intOf]; omega
              · by_cases hi : t.inside m.m.n
                · have HA := Lib.hid (PD.cut_in (s := t) hst.on hi)
                  clear hi
                  go_wp2_with (go_at_call 36; refine (d_cut_eq (hX.keptNo kb) hlot HA.out).mono ?_; rintro e w6 ⟨S6', rfl, hS6, hg6⟩; have g1 := (hbm.kept hg6.kept (fun h' => by have := hxw _ h'; omega)).cell 1)
                  go_roundw
                  case rel =>
                    have q := hst.call kb hg6
                    exact ⟨j + 1, { t with base := m.m.n }, S6', aw, cw, by omega, by go_num, rfl, rfl, ⟨hS6, hst.on, hst.fr, hst.se, q.2.2.1, q.2.2.2, q.1, q.2.1⟩⟩
                  case measure => simp [intOf]; omega
                · have HA := Lib.hid (PD.cut_out (s := t) hst.on hi)
                  clear hi
                  go_wp2_with (go_at_call 36; refine (d_cut_eq (hX.keptNo kb) hlot HA.out).mono ?_; rintro e w6 ⟨S6', rfl, hS6, hg6⟩)
                  go_roundw
                  case rel =>
                    have q := hst.call kb hg6
                    exact ⟨j + 1, t, S6', aw, cw, by omega, by go_num, rfl, rfl, ⟨hS6, hst.on, hst.fr, hst.se, q.2.2.1, q.2.2.2, q.1, q.2.1⟩⟩
                  case measure => simp [intOf]; omega
              · go_wp2
                go_roundw
                case rel => exact ⟨j + 1, t, T, aw, cw, by omega, by go_num, rfl, rfl, hst.no kb⟩
                case measure => simp [intOf]; omega
              · go_wp2
                go_roundw
                case rel => exact ⟨j + 1, t, T, aw, cw, by omega, by go_num, rfl, rfl, hst.no kb⟩
                case measure => simp [intOf]; omega
              · go_wp2
                go_roundw
                case rel => exact ⟨j + 1, t, T, aw, cw, by omega, by go_num, rfl, rfl, hst.no kb⟩
                case measure => simp [intOf]; omega
              · by_cases hfit : (m.m.b.length : Int) ≤ t.left
                · have HA := Lib.hid (PD.append_ok (s := t) (x := m.m.b) hst.on hfit)
                  have hsum : t.b.length + m.m.b.length ≤ 65536 := by have := hX.ok.room2; unfold PD.left at hfit; omega
                  have hmx : t.b.length + m.m.b.length ≤ maxLen := by unfold maxLen; omega
                  have hone := bcells_one m.m.b
                  have hinw := InS.each h2 m hmem
                  clear hfit
                  go_wp2_with (first
                    | (go_at_call 33; refine (d_append_eq (hX.keptNo kb) hlot m.m.b m.a m.c (hin.b.rd.keptNo kb) hin.b.nil HA.out).mono ?_; rintro e w6 ⟨S6', rfl, hS6, hg6⟩; have q := hst.call kb hg6; have g2 := (hbm.kept hg6.kept (fun h' => by have := hxw _ h'; omega)).cell 2)
                    | (at_builtin; go_must (refine wpList_onto rfl (.tmp 94) (.tmp 96) 32 rfl 5 i0 _ 1 1 Try.du_bytes hi0 hz0 hz1 hz2 rfl (by decide) aw t.b.length cw (bcells t.b) rfl q.2.2.1 m.a m.m.b.length m.c (bcells m.m.b) rfl hin.b.nil (by simp) (hinw.b.rd.keptNo (k0.transNo q.2.1)) hone hmx (by omega) ?_; intro a9 c9 w9 hap)))
                  go_roundw
                  case rel => exact ⟨j + 1, { t with b := t.b ++ m.m.b }, S6', a9, c9, by omega, by go_num, by simp [List.length_append], rfl, ForSt.more rfl hS6 hst.on hst.fr hst.se q.1 q.2.1 q.2.2.2 hap⟩
                  case measure => simp [intOf]; omega
                · have HA := Lib.hid (PD.append_full (s := t) (x := m.m.b) hst.on (by omega))
                  clear hfit
                  go_wp2_with (go_at_call 33; refine (d_append_eq (hX.keptNo kb) hlot m.m.b m.a m.c (hin.b.rd.keptNo kb) hin.b.nil HA.out).mono ?_; rintro e w6 ⟨S6', rfl, hS6, hg6⟩)
                  go_roundw
                  case rel =>
                    have q := hst.call kb hg6
                    exact ⟨j + 1, t, S6', aw, cw, by omega, by go_num, rfl, rfl, ⟨hS6, hst.on, hst.fr, hst.se, q.2.2.1, q.2.2.2, q.1, q.2.1⟩⟩
                  case measure => simp [intOf]; omega
              · go_wp2
                go_roundw
                case rel => exact ⟨j + 1, t, T, aw, cw, by omega, by go_num, rfl, rfl, hst.no kb⟩
                case measure => simp [intOf]; omega
            · have hC0 := PD.came hX.ok x.m.n x.m.cut
              obtain ⟨u, xs, hu, hC⟩ := hC0
              have hcb := hC.base0
              have hcb1 := hC.base1
              have hcf := hC.fin1
              have hcs := hC.fin0
              have hcB := hC.base
              have hcbytes := hC.bytes
              have hclen := hC.len
              have hcfr := hC.fr
              rw [hst.fr] at hcb hcf hcB hcbytes hcfr
              rw [hst.se] at hcs
              obtain ⟨kk, hkk⟩ : ∃ kk : Nat, u.base = F + (kk : Int) := ⟨(u.base - F).toNat, by omega⟩
              obtain ⟨mm, hmm⟩ : ∃ mm : Nat, u.fin = F + (kk : Int) + (mm : Int) := ⟨(u.fin - u.base).toNat, by omega⟩
              have hlen : kk + mm ≤ t.b.length := by omega
              have hxs : xs = (t.b.drop kk).take mm := by
                rw [hcbytes, hkk, hmm, show (F + (kk : Int) - F).toNat = kk by omega, show (F + (kk : Int) + (mm : Int) - (F + (kk : Int))).toNat = mm by omega]
              have hxl : xs.length = mm := by omega
              have hse : E ≤ F + (kk : Int) + (mm : Int) := by omega
              have htl := hX.len
              have hcw := hst.own.le
              have hcm := hst.own.max
              unfold maxLen at hcm
              have hlou : u.fr ≤ 4611686018427387904 := by omega
              have HU := Lib.hid hu
              have HR := Lib.hid hC.read
              have HE := Lib.hid hmm
              have HXS := Lib.hid hxs
              have HXL := Lib.hid hxl
              have HFAIL := Lib.hid (PD.fail_on hst.on)
              have hrw := hst.own.rd
              have hu2 := hC.on
              clear hu hmm hxs hxl hcbytes hclen hcs hcf hcb1 hu2 hC
              by_cases hk0 : kk = 0
              · subst hk0
                have hkk' : u.base = F := by rw [hkk]; simp
                have HB := Lib.hid hkk'
                clear hkk hkk' hcB
                simp only [Int.natCast_zero, Int.add_zero, Nat.zero_add] at *
                go_wp2_with (first
                  | (go_at_call 47; refine (d_forced_eq hX hst.fr hst.se).mono ?_; rintro e w1' ⟨rfl, dd, rfl⟩; have X1 := hX.keptNo ((Kept.refl _ _).drewN dd))
                  | (go_at_call 48; refine (d_fail_eq X1 HFAIL.out).mono ?_; rintro e w2' ⟨S2', rfl, ⟨a2', cp2', X2⟩, hg2'⟩; have q2 := hst.call ((Kept.refl No wr).drewN dd) hg2'; have bx2 := hbx.kept q2.2.1 id; have g1 := bx2.cell 1; have g3 := bx2.cell 3)
                  | (go_at_call 45; refine (d_start_none X2 hlot x.m.n hx.n0 hx.n1 x.m.cut HU.out).mono ?_; rintro e w3' ⟨S3', rfl, ⟨a3', cp3', X3⟩, hg3'⟩; have k3' := (hg3'.new q2.2.1 q2.1).1; have ow3 := q2.2.2.1.kept hg3'.kept (fun b hb => (q2.2.2.2 b hb).2))
                  | (go_at_call 38; refine (d_read_eq X3 hlou HR.out).mono ?_; rintro e w8 ⟨ab, cb, rfl, hob, hkb, hatb⟩; have X4 := X3.keptNo hkb; have K9 := Kept.refl No w8; have g3b := (hbx.kept (k3'.transNo hkb) id).cell 3)
                  | (go_at_call 39; refine (d_base_eq X4 HB.out).mono ?_; rintro e w9' ⟨rfl, rfl⟩)
                  | (go_at_call 35; refine (d_end_eq X4 hlou HE.out).mono ?_; rintro e w9 ⟨rfl, hk9⟩; have X4 := X4.keptNo hk9; have K9 := K9.transNo hk9))
                · refine (same_two ab _ _ _ cb _ xs rfl (by have := HXL.out; omega) (hob.rd.keptNo K9) (want_rd0 ((ow3.keptNo hkb).keptNo K9).rd HXS.out)).mono ?_
                  rintro e w10 ⟨rfl, rfl⟩
                  go_wp2_with (go_at_call 40; refine (disk_alive _).mono ?_; rintro e w11 ⟨rfl, hk11⟩)
                  go_ret
                  exact ⟨rfl, k0.transNo (((k3'.transNo hkb).transNo K9).transNo hk11)⟩
              · have hcut : x.m.cut = true ∧ u.base = t.base := by
                  rcases hcB with h' | h'
                  · omega
                  · exact h'
                obtain ⟨hct, hcu⟩ := hcut
                have hne : (F + (kk : Int) != F) = true := bne_iff_ne.2 (by omega)
                have hteq : t.base = F + (kk : Int) := by rw [← hcu, hkk]
                have HB := Lib.hid hkk
                have hu2 := HU.out
                rw [hct] at hu2
                have HU := Lib.hid hu2
                clear hkk hcB hcu hu2
                go_wp2_with (first
                  | (go_at_call 47; refine (d_forced_eq hX hst.fr hst.se).mono ?_; rintro e w1' ⟨rfl, dd, rfl⟩; have X1 := hX.keptNo ((Kept.refl _ _).drewN dd))
                  | (go_at_call 48; refine (d_fail_eq X1 HFAIL.out).mono ?_; rintro e w2' ⟨S2', rfl, ⟨a2', cp2', X2⟩, hg2'⟩; have q2 := hst.call ((Kept.refl No wr).drewN dd) hg2'; have bx2 := hbx.kept q2.2.1 id; have g1 := bx2.cell 1; have g3 := bx2.cell 3)
                  | (go_at_call 45; refine (d_start_none X2 hlot x.m.n hx.n0 hx.n1 true HU.out).mono ?_; rintro e w3' ⟨S3', rfl, ⟨a3', cp3', X3⟩, hg3'⟩; have k3' := (hg3'.new q2.2.1 q2.1).1; have ow3 := q2.2.2.1.kept hg3'.kept (fun b hb => (q2.2.2.2 b hb).2))
                  | (go_at_call 38; refine (d_read_eq X3 hlou HR.out).mono ?_; rintro e w8 ⟨ab, cb, rfl, hob, hkb, hatb⟩; have X4 := X3.keptNo hkb; have K9 := Kept.refl No w8; have g3b := (hbx.kept (k3'.transNo hkb) id).cell 3)
                  | (go_at_call 39; refine (d_base_eq X4 HB.out).mono ?_; rintro e w9' ⟨rfl, rfl⟩)
                  | (go_at_call 35; refine (d_end_eq X4 hlou HE.out).mono ?_; rintro e w9 ⟨rfl, hk9⟩; have X4 := X4.keptNo hk9; have K9 := K9.transNo hk9))
                · refine (same_two ab _ _ _ cb _ xs rfl (by have := HXL.out; omega) (hob.rd.keptNo K9) (want_rd1 (by have := HXL.out; omega))).mono ?_
                  rintro e w10 ⟨rfl, rfl⟩
                  go_wp2_with (go_at_call 40; refine (disk_alive _).mono ?_; rintro e w11 ⟨rfl, hk11⟩)
                  go_ret
                  exact ⟨rfl, k0.transNo (((k3'.transNo hkb).transNo K9).transNo hk11)⟩
                · refine (same_two ab _ _ _ cb _ xs rfl (by have := HXL.out; omega) (hob.rd.keptNo K9) (want_rdk ((ow3.keptNo hkb).keptNo K9).rd HXS.out (by omega))).mono ?_
                  rintro e w10 ⟨rfl, rfl⟩
                  go_wp2_with (go_at_call 40; refine (disk_alive _).mono ?_; rintro e w11 ⟨rfl, hk11⟩)
                  go_ret
                  exact ⟨rfl, k0.transNo (((k3'.transNo hkb).transNo K9).transNo hk11)⟩


theorem forced_all (a1 a2 : Option Addr) (c1 c2 : Nat) (l1 l2 : List DM) (x : DM) (w : World) (h1 : InD w a1 c1 l1) (h2 : InD w a2 c2 l2) (hx : x.In w) :
    Calls Try.prog 10 #[.slice a1 l1.length c1, .slice a2 l2.length c2, .agg x.cells.toArray] w fun e w' => e = .returned (.bool true) ∧ Kept No w w' := by
  by_cases hb : x.m.b.length ≤ 32768
  · exact forced_calls a1 a2 c1 c2 l1 l2 x w h1 h2 hx hb
  · exact forced_long a1 a2 c1 c2 l1 l2 x w h1 h2 (by omega)
end Go.Proofs.Ytdolddgmemlofaa
