/- DiskFull: the walk. -/
import Derived.Test.YtdolddgmemlofaaDiskI
namespace Go.Proofs.Ytdolddgmemlofaa
open Go.RowKit Go.PM
set_option maxRecDepth 100000

/-- A disk of n bytes' room with so many zeros. -/
def fullSt (n : Int) (have_ : Nat) : PD := ⟨0, List.replicate have_ 0, n, 0, 0, true, -1⟩

theorem full_append {n : Int} {h k : Nat} : (fullSt n h).append (List.replicate k 0) = if ((h + k : Nat) : Int) ≤ n then ((h : Int), 0, fullSt n (h + k)) else (0, 9, fullSt n h) := by
  unfold PD.append PD.left
  rw [if_pos (show (fullSt n h).on = true from rfl)]
  have e1 : ((List.replicate k (0 : UInt8)).length : Int) = k := by simp
  have e2 : (fullSt n h).room - ((fullSt n h).b.length : Int) = n - (h : Int) := by simp [fullSt]
  rw [e1, e2]
  by_cases hc : ((h + k : Nat) : Int) ≤ n
  · rw [if_pos (by omega), if_pos hc]
    have e3 : (fullSt n h).fin = (h : Int) := by simp [fullSt, PD.fin]
    rw [e3]
    have e4 : (fullSt n h).b ++ List.replicate k 0 = List.replicate (h + k) 0 := by simp [fullSt]
    rw [e4]; rfl
  · rw [if_neg (by omega), if_neg hc]

theorem full_end {n : Int} {h : Nat} {T : Int} (ht0 : 0 ≤ T) (ht : T ≤ h) :
    (fullSt n h).cut T = (0, { fullSt n h with base := T }) ∧ ({ fullSt n h with base := T } : PD).left = n - (h : Int) ∧
    ∃ s2 : PD, ({ fullSt n h with base := T } : PD).force = (0, s2) ∧ s2.left = n - (h : Int) + T ∧ s2.base = T ∧ s2.fr ≤ h ∧ ∃ x, s2.read = (x, 0) ∧ (x.length : Int) = h - T := by
  have hl : (fullSt n h).b.length = h := by simp [fullSt]
  have hfin : (fullSt n h).fin = h := by simp [fullSt, PD.fin]
  have hp : ((({ fullSt n h with base := T } : PD).part T h).length : Int) = h - T := by
    apply PD.part_length
    · show (0 : Int) ≤ T; omega
    · omega
    · show (h : Int) ≤ 0 + ((fullSt n h).b.length : Int); rw [hl]; omega
  refine ⟨PD.cut_in rfl ⟨by show (0 : Int) ≤ T; omega, by rw [hfin]; omega⟩, by show n - ((fullSt n h).b.length : Int) = _; rw [hl], _, PD.force_none rfl rfl, ?_, rfl, ?_, ?_⟩
  · show n - ((({ fullSt n h with base := T } : PD).part T (fullSt n h).fin).length : Int) = _
    rw [hfin, hp]; omega
  · show T ≤ h; omega
  · refine ⟨_, PD.read_on rfl, ?_⟩
    have h1 : (((({ fullSt n h with base := T } : PD).settle T).part T (({ fullSt n h with base := T } : PD).settle T).fin).length : Int) = (h : Int) - T := by
      have hf2 : (({ fullSt n h with base := T } : PD).settle T).fin = h := by
        show T + ((({ fullSt n h with base := T } : PD).part T (fullSt n h).fin).length : Int) = h
        rw [hfin, hp]; omega
      have h2 := PD.part_length (({ fullSt n h with base := T } : PD).settle T) (i := T) (j := h) (by show T ≤ T; omega) (by omega) (by rw [hf2]; omega)
      rw [hf2]; exact h2
    exact h1

theorem d_left_eq {w : World} {p : Nat} {s : PD} {a : Option Addr} {cap : Nat} {S : Nat → Prop} {L : Int} (h : DX w p s a cap S) (hL : s.left = L) :
    Calls Try.prog 34 #[.pointer (some ⟨p, 0, none⟩)] w fun e w' => e = .returned (.int .i64 L) ∧ ∃ k, w' = w.drewN k := by
  subst hL; exact d_left h.box h.ok.room1 h.ok.room2 h.ok.fits
theorem d_base_eq {w : World} {p : Nat} {s : PD} {a : Option Addr} {cap : Nat} {S : Nat → Prop} {L : Int} (h : DX w p s a cap S) (hL : s.base = L) :
    Calls Try.prog 39 #[.pointer (some ⟨p, 0, none⟩)] w fun e w' => e = .returned (.int .i64 L) ∧ w = w' := by
  subst hL; exact d_base h
theorem d_cut_eq {w : World} {p : Nat} {s : PD} {a : Option Addr} {cap : Nat} {S : Nat → Prop} (h : DX w p s a cap S) (hlo : s.fr ≤ 4611686018427387904) {n code : Int} {s' : PD} (e : s.cut n = (code, s')) :
    Calls Try.prog 36 #[.pointer (some ⟨p, 0, none⟩), .int .i64 n] w (DCode w p S (code, s')) := by rw [← e]; exact d_cut h hlo n
theorem d_force_eq {w : World} {p : Nat} {s : PD} {a : Option Addr} {cap : Nat} {S : Nat → Prop} (h : DX w p s a cap S) (hlo : s.fr ≤ 4611686018427387904) {code : Int} {s' : PD} (e : s.force = (code, s')) :
    Calls Try.prog 37 #[.pointer (some ⟨p, 0, none⟩)] w (DCode w p S (code, s')) := by rw [← e]; exact d_force h hlo
theorem d_read_eq {w : World} {p : Nat} {s : PD} {a : Option Addr} {cap : Nat} {S : Nat → Prop} (h : DX w p s a cap S) (hlo : s.fr ≤ 4611686018427387904) {code : Int} {x : List UInt8} (e : s.read = (x, code)) :
    Calls Try.prog 38 #[.pointer (some ⟨p, 0, none⟩)] w (DRead w (x, code)) := by rw [← e]; exact d_read h hlo

theorem d_append_n {w : World} {p : Nat} {s : PD} {a : Option Addr} {cap : Nat} {S : Nat → Prop} (h : DX w p s a cap S) (hlo : s.fr ≤ 4611686018427387904) (x : List UInt8) (n : Nat) (hn : x.length = n) (a2 : Option Addr) (c2 : Nat) (hr : Rd w a2 (bcells x)) (hc2 : a2 = none → c2 = 0) :
    Calls Try.prog 33 #[.pointer (some ⟨p, 0, none⟩), .slice a2 n c2] w (DTwo w p S (s.append x)) := by
  subst hn; exact d_append h hlo x a2 c2 hr hc2

theorem full_left {w : World} {p : Nat} {n : Int} {h : Nat} {L : Int} (hL : L = (h : Int)) {a : Option Addr} {cap : Nat} {S : Nat → Prop} (hX : DX w p (fullSt n h) a cap S) :
    Calls Try.prog 34 #[.pointer (some ⟨p, 0, none⟩)] w fun e w' => e = .returned (.int .i64 (n - L)) ∧ ∃ k, w' = w.drewN k := by
  have := d_left hX.box hX.ok.room1 hX.ok.room2 hX.ok.fits
  have e : (fullSt n h).left = n - L := by rw [hL]; simp [fullSt, PD.left]
  rw [e] at this; exact this

theorem full_fin {w : World} {p : Nat} {n : Int} {h : Nat} {L : Int} (hL : L = (h : Int)) {a : Option Addr} {cap : Nat} {S : Nat → Prop} (hX : DX w p (fullSt n h) a cap S) :
    Calls Try.prog 35 #[.pointer (some ⟨p, 0, none⟩)] w fun e w' => e = .returned (.int .i64 L) ∧ Kept No w w' := by
  have := d_end hX (by simp [fullSt])
  have e : (fullSt n h).fin = L := by rw [hL]; simp [fullSt, PD.fin]
  rw [e] at this; exact this

theorem zeros_cells (m : Nat) : zrow (.int .u8 0) m = bcells (List.replicate m 0) := by
  rw [zrow_one _ rfl]; simp [bcells]

def FullRel (w : World) (p : Nat) (n : Int) (cnt : Nat) (hv i : Value) (wr : World) : Prop :=
  ∃ (k h : Nat) (S : Nat → Prop), k ≤ cnt ∧ i = .int .i64 k ∧ hv = .int .i64 h ∧ (h : Int) ≤ n ∧ DS wr p (fullSt n h) S ∧ DNew w S ∧ Kept No w wr

set_option maxHeartbeats 4000000 in
theorem full_calls (room cut : Int) (a : Option Addr) (c : Nat) (l : List Int) (w : World) (h : InI .u16 w a c l) (h0 : 0 ≤ room) (h1 : room ≤ 65535) (hc0 : 0 ≤ cut) (hc1 : cut ≤ 65535) :
    Calls Try.prog 8 #[.int .u16 room, .slice a l.length c, .int .u16 cut] w fun e w' => e = .returned (.bool true) ∧ Kept No w w' := by
  obtain ⟨i0, hi0, hz0, hz1, hz2⟩ := info_parts Try.dinf_byte
  have hle := h.le
  have hmx := h.max
  obtain ⟨n, hn⟩ : ∃ n, n = room % 2000 + 1 := ⟨_, rfl⟩
  have hn1 : 1 ≤ n := by omega
  have hn2 : n ≤ 2000 := by omega
  have HN := Lib.hid hn
  obtain ⟨cnt, hcnt⟩ : ∃ cnt, cnt = min l.length 50 := ⟨_, rfl⟩
  have hcn : cnt ≤ l.length := by omega
  have hcn2 : cnt ≤ 50 := by omega
  have HCNT := Lib.hid hcnt
  clear hn hcnt
  go_enter Try.func8, Try.ntmps8
  go_wp2_with fail
  rw [← HN.out]
  refine (d_new n w hn1 (by omega)).mono ?_
  rintro e w1 ⟨rfl, hS1, hk1⟩
  have n1 : DNew w (· = w.heap.size) := fun b hb => by subst hb; exact Nat.le_refl _
  go_upto_region 6 with (fail)
  go_cut [38, 39, 40] (fun s38 s39 s40 wx => s38 = .slice a cnt c ∧ s39 = .int .i64 cnt ∧ s40 = .int .i64 0 ∧ wx = w1)
  case first =>
    unfold maxLen at hmx
    by_cases hb : l.length ≤ 50
    · obtain rfl : cnt = l.length := by rw [HCNT.out]; omega
      go_wp2
      all_goals (go_meet; exact ⟨rfl, rfl, rfl, rfl⟩)
    · obtain rfl : cnt = 50 := by rw [HCNT.out]; omega
      go_wp2
      all_goals (go_meet; exact ⟨rfl, rfl, rfl, rfl⟩)
  case rest =>
    obtain ⟨rfl, rfl, rfl, hwc⟩ := hcut
    subst hwc
    go_wp2
    go_loopw [10, 40] (fun hv i wr => FullRel w w.heap.size n cnt hv i wr) (fun _ i _ => cnt - (intOf i).toNat)
    case atStart => exact ⟨0, 0, _, Nat.zero_le _, rfl, rfl, by omega, hS1, n1, hk1⟩
    case round =>
      clear hS1 n1 hk1
      obtain ⟨k, hv, S, hk, rfl, rfl, hvn, ⟨a1, cap1, hX⟩, hnew, hkept⟩ := hrel
      by_cases hlt : k < cnt
      · obtain ⟨x, hx⟩ : ∃ x, l[k]? = some x := ⟨_, List.getElem?_eq_getElem (by omega)⟩
        obtain ⟨b, o, rfl, hc, hwf⟩ := (h.kept hkept).at hx
        have hx0 := bounds_u16 hwf
        obtain ⟨m, hm⟩ : ∃ m : Nat, (m : Int) = x % 700 := ⟨(x % 700).toNat, by omega⟩
        have hm2 : m < 700 := by omega
        have HM : Hid (x % 700 = (m : Int)) := hm.symm
        clear hm hx hwf
        have hj0 : (0 : Int) ≤ k := by omega
        have hj1 : (k : Int) < cnt := by omega
        have hkb := (Kept.refl No wr).alloc (.cells (zrow (.int .u8 0) m).toArray 5)
        have C := d_append_n (hX.keptNo hkb) (by simp [fullSt]) (List.replicate m 0) m (by simp) (some ⟨wr.heap.size, 0, none⟩) m (Rd.ofBlk' (by rw [← zeros_cells]; exact Blk.new _ _ _)) (fun h => nomatch h)
        rw [full_append] at C
        by_cases hfull : ((hv + m : Nat) : Int) ≤ n
        · rw [if_pos hfull] at C
          have C := Lib.hid C
          have hf2 : (hv : Int) + x % 700 ≤ n := by have := HM.out; omega
          go_wp2_with (first
            | (at_make; go_must (refine wpList_make rfl (.tmp 49) (.tmp 49) _ rfl _ i0 _ Try.du_bytes hi0 hz0 _ _ hz1 hz2 rfl .i64 .i64 _ _ m m rfl rfl HM.out HM.out (Nat.le_refl _) (by omega) (by omega) ?_))
            | (go_at_call 33; refine C.out.mono ?_; rintro e w2 ⟨S2, rfl, ⟨a2, cap2, hX2⟩, hg2⟩)
            | (go_at_call 34; refine (full_left (L := (hv : Int) + x % 700) (by have := HM.out; omega) hX2).mono ?_; rintro e w3 ⟨rfl, d3, rfl⟩; have hX3 := hX2.keptNo ((Kept.refl _ _).drewN d3))
            | (go_at_call 35; refine (full_fin (L := (hv : Int) + x % 700) (by have := HM.out; omega) hX3).mono ?_; rintro e w4 ⟨rfl, hk4⟩; have hX4 := hX3.keptNo hk4))
          go_roundw
          case rel =>
            obtain ⟨k2, n2⟩ := hg2.new (hkept.alloc _) hnew
            exact ⟨k + 1, hv + m, S2, by omega, by go_num, by rw [HM.out]; go_num, hfull, ⟨_, _, hX4⟩, n2, (k2.drewN d3).transNo hk4⟩
          case measure => simp [intOf]; omega
        · rw [if_neg hfull] at C
          have C := Lib.hid C
          have hf2 : n < (hv : Int) + x % 700 := by have := HM.out; omega
          go_wp2_with (first
            | (at_make; go_must (refine wpList_make rfl (.tmp 49) (.tmp 49) _ rfl _ i0 _ Try.du_bytes hi0 hz0 _ _ hz1 hz2 rfl .i64 .i64 _ _ m m rfl rfl HM.out HM.out (Nat.le_refl _) (by omega) (by omega) ?_))
            | (go_at_call 33; refine C.out.mono ?_; rintro e w2 ⟨S2, rfl, ⟨a2, cap2, hX2⟩, hg2⟩)
            | (go_at_call 34; refine (full_left (L := (hv : Int)) rfl hX2).mono ?_; rintro e w3 ⟨rfl, d3, rfl⟩; have hX3 := hX2.keptNo ((Kept.refl _ _).drewN d3))
            | (go_at_call 35; refine (full_fin (L := (hv : Int)) rfl hX3).mono ?_; rintro e w4 ⟨rfl, hk4⟩; have hX4 := hX3.keptNo hk4))
          go_roundw
          case rel =>
            obtain ⟨k2, n2⟩ := hg2.new (hkept.alloc _) hnew
            exact ⟨k + 1, hv, S2, by omega, by go_num, rfl, hvn, ⟨_, _, hX4⟩, n2, (k2.drewN d3).transNo hk4⟩
          case measure => simp [intOf]; omega
      · have hz : ((hv : Int) + 1 == 0) = false := beq_eq_false_iff_ne.2 (by omega)
        have hp0 : (0 : Int) < (hv : Int) + 1 := by omega
        have ht0 := Int.emod_nonneg cut (show (hv : Int) + 1 ≠ 0 by omega)
        have ht1 := Int.emod_lt_of_pos cut hp0
        obtain ⟨e1, e2, s2, e3, e4, e5, e6, x, e7, e8⟩ := full_end (n := n) (h := hv) (T := cut % ((hv : Int) + 1)) ht0 (by omega)
        obtain ⟨T, hT⟩ : ∃ T, cut % ((hv : Int) + 1) = T := ⟨_, rfl⟩
        have E1 := Lib.hid e1; have E2 := Lib.hid e2; have E3 := Lib.hid e3; have E4 := Lib.hid e4; have E5 := Lib.hid e5; have E7 := Lib.hid e7; have E8 := Lib.hid e8
        clear e1 e2 e3 e4 e5 e7 e8 hT
        go_wp2_with (first
          | (go_at_call 36; refine (d_cut_eq hX (by simp [fullSt]) E1.out).mono ?_; rintro e w1 ⟨S1, rfl, ⟨b1, cp1, hX1⟩, hg1⟩)
          | (go_at_call 34; refine (d_left_eq hX3 E4.out).mono ?_; rintro e w4 ⟨rfl, d4, rfl⟩; have hX4 := hX3.keptNo ((Kept.refl _ _).drewN d4))
          | (go_at_call 34; refine (d_left_eq hX1 E2.out).mono ?_; rintro e w2 ⟨rfl, d2, rfl⟩; have hX2 := hX1.keptNo ((Kept.refl _ _).drewN d2))
          | (go_at_call 37; refine (d_force_eq hX2 (by simp [fullSt]) E3.out).mono ?_; rintro e w3 ⟨S3, rfl, ⟨b3, cp3, hX3⟩, hg3⟩)
          | (go_at_call 38; refine (d_read_eq hX4 (by omega) E7.out).mono ?_; rintro e w5 ⟨a5, c5, rfl, ho5, hk5, hat5⟩; have hX5 := hX4.keptNo hk5)
          | (go_at_call 39; refine (d_base_eq hX5 E5.out).mono ?_; rintro e w6 ⟨rfl, rfl⟩)
          | (go_at_call 40; refine (disk_alive _).mono ?_; rintro e w7 ⟨rfl, hk7⟩))
        go_ret
        obtain ⟨k1, n1⟩ := hg1.new hkept hnew
        obtain ⟨k3, n3⟩ := hg3.new (k1.drewN d2) n1
        exact ⟨rfl, ((k3.drewN d4).transNo hk5).transNo hk7⟩
end Go.Proofs.Ytdolddgmemlofaa
