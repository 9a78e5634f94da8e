/- Append, Trim, Read, settle, Force. -/
import Derived.Test.YtdolddgmemlofaaDiskC
namespace Go.Proofs.Ytdolddgmemlofaa
open Go.RowKit Go.PM
set_option maxRecDepth 100000

section
variable {w : World} {p : Nat} {s : PD} {a : Option Addr} {cap : Nat} {S : Nat → Prop}

theorem DX.spot (h : DX w p s a cap S) : ∀ ad, a = some ad → ad.spot = none := fun ad ha => by
  rcases h.own.row with ⟨h', _⟩ | ⟨g, _, h', _⟩
  · rw [h'] at ha; cases ha
  · rw [h'] at ha; cases ha; rfl

/-- Behind an append to its bytes, stored. -/
theorem DX.more (h : DX w p s a cap S) {w2 : World} {a2 : Option Addr} {cap2 : Nat} {x : List UInt8} (hap : Onto w w2 5 1 a a2 (s.b.length + x.length) cap2 (bcells s.b ++ bcells x)) (hl : (x.length : Int) ≤ s.left) :
    DX (w2.setCell ⟨p, 1, none⟩ (.slice a2 (s.b.length + x.length) cap2)) p { s with b := s.b ++ x } a2 cap2 (fun k => S k ∨ At a2 k) ∧ Kept S w (w2.setCell ⟨p, 1, none⟩ (.slice a2 (s.b.length + x.length) cap2)) ∧ ∀ k, (S k ∨ At a2 k) → S k ∨ w.heap.size ≤ k := by
  have hp := h.lt p h.sp
  have hpa : ∀ k, At a2 k → k ≠ p := fun k hk => by
    rcases hap.at_ k hk with h' | h'
    · exact (h.sa k h').2
    · omega
  have hb2 : DiskB w2 p s a cap := Blk.kept h.box hap.kept (fun h' => (h.sa p h').2 rfl)
  have hkS : Kept S w w2 := hap.kept.mono fun b _ hb => (h.sa b hb).1
  have hk2 : Kept (· = p) w2 (w2.setCell ⟨p, 1, none⟩ (.slice a2 (s.b.length + x.length) cap2)) := (Kept.refl (· = p) w2).setCell (a := ⟨p, 1, none⟩) (fun _ => rfl) _
  have hlen : (s.b ++ x).length = s.b.length + x.length := List.length_append
  have hcell : bcells (s.b ++ x) = bcells s.b ++ bcells x := by simp [bcells]
  refine ⟨⟨?_, ?_, ?_, .inl h.sp, fun k hk => ⟨.inr hk, hpa k hk⟩, fun k hk => ?_⟩, hkS.trans hk2 (fun b _ e => e ▸ h.sp), fun k hk => ?_⟩
  · have := Blk.set hb2 1 (.slice a2 (s.b.length + x.length) cap2)
    unfold DiskB
    show Blk _ p _ [_, .slice a2 (s.b ++ x).length cap2, _, _, _, _, _, _]
    rw [hlen]; exact this
  · show Owns _ _ 1 a2 (s.b ++ x).length cap2 (bcells (s.b ++ x))
    rw [hlen, hcell]
    exact hap.own.kept hk2 (fun b hb e => hpa b hb e)
  · have hok := h.ok.append x
    have hfit := h.ok.fits
    have := h.ok.base1
    have := h.ok.se1
    have hfin : s.fin = s.fr + (s.b.length : Int) := rfl
    unfold PD.left at hl
    have hll : ((s.b ++ x).length : Int) = s.b.length + x.length := by rw [hlen]; omega
    refine ⟨h.ok.room1, h.ok.room2, ?_, h.ok.fr0, h.ok.base0, ?_, h.ok.se0, ?_, h.ok.fuse0, h.ok.fuse1⟩
    · show ((s.b ++ x).length : Int) ≤ s.room; omega
    · show s.base ≤ s.fr + ((s.b ++ x).length : Int); omega
    · show s.se ≤ s.fr + ((s.b ++ x).length : Int); omega
  · rw [World.size_setCell]
    rcases hk with hk | hk
    · exact hkS.lt (h.lt k hk)
    · exact hap.own.lt k hk
  · rcases hk with hk | hk
    · exact .inl hk
    · exact (hap.at_ k hk).imp (fun h' => (h.sa k h').1) id

set_option maxHeartbeats 400000 in
theorem d_append (h : DX w p s a cap S) (hlo : s.fr ≤ 4611686018427387904) (x : List UInt8) (a2 : Option Addr) (c2 : Nat) (hr : Rd w a2 (bcells x)) (hc2 : a2 = none → c2 = 0) :
    Calls Try.prog 33 #[.pointer (some ⟨p, 0, none⟩), .slice a2 x.length c2] w (DTwo w p S (s.append x)) := by
  obtain ⟨i0, hi0, hz0, hz1, hz2⟩ := info_parts Try.dinf_byte
  have c0 := h.box.c0
  have c1 := h.box.c1
  have f1 := h.box.frozen 1
  have hl := h.len
  have hf0 := h.ok.fr0
  have hone := bcells_one x
  have hX := h
  clear h
  cases hon : s.on
  · have HON := Lib.hid hon
    clear hon
    go_enter Try.func33, Try.ntmps33
    go_wp2_with (go_at_call 68; refine (d_ready hX.box hX.ok.room1).mono ?_; rw [HON.out]; rintro e w' ⟨rfl, rfl⟩)
    go_ret2
    rw [PD.append_off HON.out]
    exact ⟨S, rfl, ⟨a, cap, hX⟩, DGrows.same (Kept.refl _ _)⟩
  · have HON := Lib.hid hon
    clear hon
    obtain ⟨L, hL⟩ : ∃ L, s.left = L := ⟨_, rfl⟩
    have HL := Lib.hid hL
    have hLe : s.left = s.room - (s.b.length : Int) := rfl
    have hfit := hX.ok.fits
    have hroom := hX.ok.room2
    have hL1 : L ≤ 65536 := by omega
    clear hL hLe
    by_cases hfull : L < x.length
    · go_enter Try.func33, Try.ntmps33
      go_wp2_with (first
        | (go_at_call 68; refine (d_ready hX.box hX.ok.room1).mono ?_; rw [HON.out]; rintro e w' ⟨rfl, rfl⟩)
        | (go_at_call 34; refine (d_left hX.box hX.ok.room1 hX.ok.room2 hX.ok.fits).mono ?_; rw [HL.out]; rintro e w' ⟨rfl, k, rfl⟩))
      go_ret2
      rw [PD.append_full HON.out (by rw [HL.out]; exact hfull)]
      exact ⟨S, rfl, ⟨a, cap, hX.keptNo ((Kept.refl _ _).drewN k)⟩, DGrows.same ((Kept.refl _ _).drewN k)⟩
    · have hle : (x.length : Int) ≤ L := by omega
      have hmx : s.b.length + x.length ≤ maxLen := by unfold maxLen; omega
      have hby : (s.b.length + x.length) * 1 ≤ 140737488355328 := by omega
      go_enter Try.func33, Try.ntmps33
      go_wp2_with (first
        | (go_at_call 68; refine (d_ready hX.box hX.ok.room1).mono ?_; rw [HON.out]; rintro e w' ⟨rfl, rfl⟩)
        | (go_at_call 34; refine (d_left hX.box hX.ok.room1 hX.ok.room2 hX.ok.fits).mono ?_; rw [HL.out]; rintro e w' ⟨rfl, k, rfl⟩)
        | (go_at_call 69; refine (row_end s.fr a s.b.length cap _ hf0 (by omega) (by omega)).mono ?_; rintro e w' ⟨rfl, hk⟩; have hk' := ((Kept.refl No w).drewN k).transNo hk; have c1' := (hX.keptNo hk').box.c1)
        | (at_builtin; go_must (refine wpList_onto rfl (.tmp 28) (.tmp 29) 32 rfl 5 i0 _ 1 1 Try.du_bytes hi0 hz0 hz1 hz2 rfl (by decide) a s.b.length cap (bcells s.b) rfl (hX.keptNo hk').own a2 x.length c2 (bcells x) rfl hc2 (by simp) (hr.keptNo hk') hone hmx hby ?_; intro a3 cap3 w3 hap; have hb' := Blk.kept (hX.keptNo hk').box hap.kept (fun h' => ((hX.keptNo hk').sa p h').2 rfl); have f1' := hb'.frozen 1; have d1' := hb'.cell 1)))
      have hX' := hX.keptNo hk'
      go_ret2
      obtain ⟨h1, h2, h3⟩ := hX'.more hap (by rw [HL.out]; exact hle)
      rw [PD.append_ok HON.out (by rw [HL.out]; exact hle)]
      exact ⟨_, rfl, ⟨_, _, h1⟩, (hk'.no).trans h2 (fun _ _ h => h), fun k hk0 => (h3 k hk0).imp id (fun h => Nat.le_trans hk'.size h)⟩

theorem DX.cutAt (h : DX w p s a cap S) {w2 : World} {n : Int} {v : Value} (hk : Kept No w w2) (hn0 : s.fr ≤ n) (hn1 : n ≤ s.fin) (hbn : s.base ≤ n) (hv : v = .slice (partAddr a 0 (n - s.fr).toNat) (n - s.fr).toNat (n - s.fr).toNat) (u : Value) (hu : u = .int .i64 (min s.se n)) :
    DX ((w2.setCell ⟨p, 1, none⟩ v).setCell ⟨p, 5, none⟩ u) p { s with b := s.part s.fr n, se := min s.se n } a (n - s.fr).toNat S ∧ Kept (· = p) w ((w2.setCell ⟨p, 1, none⟩ v).setCell ⟨p, 5, none⟩ u) := by
  have h2 := h.keptNo hk
  have hpl := s.part_length (Int.le_refl s.fr) hn0 hn1
  have hfin : s.fin = s.fr + (s.b.length : Int) := rfl
  have hm : (n - s.fr).toNat ≤ s.b.length := by omega
  have hlen : (s.part s.fr n).length = (n - s.fr).toNat := by omega
  have hb : s.part s.fr n = s.b.take (n - s.fr).toNat := by unfold PD.part; rw [show (s.fr - s.fr).toNat = 0 by omega, List.drop_zero]
  have haddr : partAddr a 0 (n - s.fr).toNat = a := by
    unfold partAddr; split
    · rfl
    · cases a with
      | none => rfl
      | some ad => simp [Addr.add]
  have hk2 : Kept (· = p) w2 ((w2.setCell ⟨p, 1, none⟩ v).setCell ⟨p, 5, none⟩ u) := ((Kept.refl (· = p) w2).setCell (a := ⟨p, 1, none⟩) (fun _ => rfl) _).setCell (a := ⟨p, 5, none⟩) (fun _ => rfl) _
  subst hv
  subst hu
  have hok : ({ s with b := s.part s.fr n, se := min s.se n } : PD).Ok := by
    have hon : ({ s with on := true } : PD).Ok := h.ok.off true
    have := hon.trim n
    rw [PD.trim_in (s := { s with on := true }) rfl ⟨hbn, hn1⟩] at this
    exact ⟨this.room1, this.room2, this.fits, this.fr0, this.base0, this.base1, this.se0, this.se1, this.fuse0, this.fuse1⟩
  refine ⟨⟨?_, ?_, hok, h.sp, h.sa, fun k hk' => hk2.lt (h2.lt k hk')⟩, (Kept.no hk).trans hk2 (fun _ _ h => h)⟩
  · have := Blk.set (Blk.set h2.box 1 (.slice (partAddr a 0 (n - s.fr).toNat) (n - s.fr).toNat (n - s.fr).toNat)) 5 (.int .i64 (min s.se n))
    unfold DiskB
    show Blk _ p _ [_, .slice a (s.part s.fr n).length (n - s.fr).toNat, _, _, _, _, _, _]
    rw [hlen]
    rw [haddr] at this ⊢
    exact this
  · show Owns _ _ 1 a (s.part s.fr n).length (n - s.fr).toNat (bcells (s.part s.fr n))
    rw [hlen]
    have h3 := (h2.own.kept hk2 (fun b hb' e => (h2.sa b hb').2 e)).cut (m := (n - s.fr).toNat) (c := (n - s.fr).toNat) hm (Nat.le_trans hm h2.own.le) (Nat.le_refl _)
    have he : bcells (s.part s.fr n) = (bcells s.b).take ((n - s.fr).toNat * 1) := by rw [hb]; simp [bcells, List.map_take]
    rw [he]; exact h3

set_option maxHeartbeats 1000000 in
theorem d_trim (h : DX w p s a cap S) (hlo : s.fr ≤ 4611686018427387904) (n : Int) :
    Calls Try.prog 54 #[.pointer (some ⟨p, 0, none⟩), .int .i64 n] w (DCode w p S (s.trim n)) := by
  have c0 := h.box.c0
  have c1 := h.box.c1
  have c3 := h.box.c3
  have hl := h.len
  have hf0 := h.ok.fr0
  have hbase := h.ok.base0
  have hse := h.ok.se0
  have hse1 := h.ok.se1
  have hbase1 := h.ok.base1
  have hfin : s.fin = s.fr + (s.b.length : Int) := rfl
  rw [hfin] at hbase1 hse1
  clear hfin
  cases hon : s.on
  · have HON := Lib.hid hon
    clear hon
    go_enter Try.func54, Try.ntmps54
    go_wp2_with (go_at_call 68; refine (d_ready h.box h.ok.room1).mono ?_; rw [HON.out]; rintro e w' ⟨rfl, rfl⟩)
    go_ret
    have e : s.trim n = (10, s) := PD.trim_off HON.out
    rw [e]; exact h.sameCode (Kept.refl _ _) 10
  · have HON := Lib.hid hon
    clear hon
    by_cases hi : s.base ≤ n
    · by_cases hi2 : n ≤ s.fr + (s.b.length : Int)
      · obtain ⟨m, hm⟩ : ∃ m, (n - s.fr).toNat = m := ⟨_, rfl⟩
        obtain rfl : n = s.fr + (m : Int) := by omega
        have HM := Lib.hid hm
        have hmn : m ≤ s.b.length := by omega
        clear hm
        have hle := h.own.le
        have hmx := h.own.max
        have hrd := h.own.rd
        have hfin : s.fin = s.fr + (s.b.length : Int) := rfl
        have key : ∀ w2 u, Kept No w w2 → u = .int .i64 (min s.se (s.fr + (m : Int))) → DCode w p S (s.trim (s.fr + (m : Int))) (.returned (.int .i64 0)) ((w2.setCell ⟨p, 1, none⟩ (.slice (partAddr a 0 m) m m)).setCell ⟨p, 5, none⟩ u) := by
          intro w2 u hk hu
          obtain ⟨h1, h2⟩ := h.cutAt (n := s.fr + (m : Int)) hk (by omega) (by omega) hi (v := .slice (partAddr a 0 m) m m) (by rw [HM.out]) u hu
          rw [PD.trim_in HON.out ⟨hi, hi2⟩]
          exact ⟨S, rfl, ⟨a, _, h1⟩, DGrows.same (h2.mono fun b _ e => e ▸ h.sp)⟩
        clear hfin
        by_cases hms : s.se ≤ s.fr + (m : Int)
        all_goals
          have hmin : ∀ w2, Kept No w w2 → _ := fun w2 hk => key w2 _ hk rfl
          first | rw [Int.min_eq_left (by omega)] at hmin | rw [Int.min_eq_right (by omega)] at hmin
          have HMIN := Lib.hid hmin
          clear hmin key
          go_enter Try.func54, Try.ntmps54
          go_wp2_with (first
            | (go_at_call 68; refine (d_ready h.box h.ok.room1).mono ?_; rw [HON.out]; rintro e w' ⟨rfl, rfl⟩)
            | (go_at_call 69; refine (row_end s.fr a s.b.length cap _ hf0 (by omega) (by omega)).mono ?_; rintro e w' ⟨rfl, hk⟩))
          have hkd : Kept No w w'.drew := hk.drew
          have c0d := (h.keptNo hkd).box.c0
          have c1d := (h.keptNo hkd).box.c1
          go_region_with ((go_at_call 73; refine (part_calls s.fr s.fr (s.fr + (m : Int)) a s.b.length cap 0 m s.b _ (hrd.keptNo hkd) (by omega) (by omega) hle hmx hf0 hlo (by omega) (by omega)).mono ?_; rintro e w2 ⟨rfl, _, hk2⟩; have hX2 := h.keptNo (hkd.transNo hk2); have c1e := hX2.box.c1; have f1e := hX2.box.frozen 1))
          all_goals
            have c5e := hX2.box.c5
            have f5e := hX2.box.frozen 5
            go_wp2
            go_ret
            exact HMIN.out _ (hkd.transNo hk2)
      · go_enter Try.func54, Try.ntmps54
        go_wp2_with (first
          | (go_at_call 68; refine (d_ready h.box h.ok.room1).mono ?_; rw [HON.out]; rintro e w' ⟨rfl, rfl⟩)
          | (go_at_call 69; refine (row_end s.fr a s.b.length cap _ hf0 (by omega) (by omega)).mono ?_; rintro e w' ⟨rfl, hk⟩))
        go_ret
        have e : s.trim n = (1, s) := PD.trim_out HON.out (fun h => absurd h.2 (Int.not_le.2 hi2))
        rw [e]; exact h.sameCode hk 1
    · go_enter Try.func54, Try.ntmps54
      go_wp2_with (go_at_call 68; refine (d_ready h.box h.ok.room1).mono ?_; rw [HON.out]; rintro e w' ⟨rfl, rfl⟩)
      go_ret
      have e : s.trim n = (1, s) := PD.trim_out HON.out (fun h => absurd h.1 (Int.not_le.2 hi))
      rw [e]; exact h.sameCode (Kept.refl _ _) 1
end
end Go.Proofs.Ytdolddgmemlofaa
