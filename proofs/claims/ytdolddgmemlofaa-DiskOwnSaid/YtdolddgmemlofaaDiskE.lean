/- Read, settle, Force. -/
import Derived.Test.YtdolddgmemlofaaDiskD
namespace Go.Proofs.Ytdolddgmemlofaa
open Go.RowKit Go.PM
set_option maxRecDepth 100000

/-- What Read answers: bytes of the caller's own, and a code. -/
def DRead (w : World) (r : List UInt8 × Int) (e : Ending) (w' : World) : Prop :=
  ∃ a cap, e = .returned (.tuple #[.slice a r.1.length cap, .int .i64 r.2]) ∧ Owns w' 5 1 a r.1.length cap (bcells r.1) ∧ Kept No w w' ∧ ∀ b, At a b → w.heap.size ≤ b

/-- A part's clone. -/
theorem part_nat {s : PD} {i j : Int} (h0 : s.fr ≤ i) (h1 : i ≤ j) (h2 : j ≤ s.fin) :
    ∃ k m : Nat, i = s.fr + (k : Int) ∧ j = s.fr + (k : Int) + (m : Int) ∧ k + m ≤ s.b.length ∧ s.part i j = (s.b.drop k).take m ∧ (s.part i j).length = m := by
  have hfin : s.fin = s.fr + (s.b.length : Int) := rfl
  have hl := s.part_length h0 h1 h2
  exact ⟨(i - s.fr).toNat, (j - i).toNat, by omega, by omega, by omega, rfl, by omega⟩

section
variable {w : World} {p : Nat} {s : PD} {a : Option Addr} {cap : Nat} {S : Nat → Prop}

theorem drop_take_length {xs : List UInt8} {k m : Nat} (h : k + m ≤ xs.length) : ((xs.drop k).take m).length = m := by
  rw [List.length_take, List.length_drop]; omega

def ClonedPost (w : World) (n : Nat) (xs : List UInt8) (e : Ending) (w' : World) : Prop :=
  ∃ a cap, e = .returned (.slice a n cap) ∧ Owns w' 5 1 a n cap (bcells xs) ∧ Kept No w w' ∧ ∀ b, At a b → w.heap.size ≤ b

theorem clone_n (a : Option Addr) (c n : Nat) (xs : List UInt8) (hx : xs.length = n) (w : World) (hr : Rd w a (bcells xs)) (hn : n ≤ 1099511627776) (hc : a = none → c = 0) :
    Calls Try.prog 72 #[.slice a n c] w (ClonedPost w n xs) := by
  subst hx; exact clone_calls a c xs w hr hn hc

set_option maxHeartbeats 1000000 in
theorem d_read (h : DX w p s a cap S) (hlo : s.fr ≤ 4611686018427387904) :
    Calls Try.prog 38 #[.pointer (some ⟨p, 0, none⟩)] w (DRead w s.read) := by
  have hX := h
  have hl := h.len
  have hf0 := h.ok.fr0
  clear h
  cases hon : s.on
  · have HON := Lib.hid hon
    clear hon
    go_enter Try.func38, Try.ntmps38
    go_wp2_with (go_at_call 68; refine (d_ready hX.box hX.ok.room1).mono ?_; rw [HON.out]; rintro e w' ⟨rfl, rfl⟩)
    go_ret2
    rw [PD.read_off HON.out]
    exact ⟨none, 0, rfl, Owns.nil _ _ _, Kept.refl _ _, fun b ⟨_, _, h, _⟩ => nomatch h⟩
  · have HON := Lib.hid hon
    clear hon
    obtain ⟨k, m, hk, hm, hkm, hpart, hplen⟩ := part_nat hX.ok.base0 hX.ok.base1 (Int.le_refl _)
    have hrd := hX.own.rd
    have hnil := hX.nil
    have hcle := hX.own.le
    have hmx := hX.own.max
    have hdl := drop_take_length hkm
    have HK := Lib.hid hk
    have hm2 : s.fr + (s.b.length : Int) = s.fr + (k : Int) + (m : Int) := hm
    have HM := Lib.hid hm2
    have HP := Lib.hid hpart
    have HDL := Lib.hid hdl
    clear hk hm hm2 hpart hplen hdl
    have hkd : Kept No w w.drew := (Kept.refl No w).drew
    have c0d := (hX.keptNo hkd).box.c0
    have c1d := (hX.keptNo hkd).box.c1
    have c3d := (hX.keptNo hkd).box.c3
    have hpn : partAddr a k m = none → m = 0 := fun h => by have := hnil (part_none h); omega
    go_enter Try.func38, Try.ntmps38
    go_wp2_with (go_at_call 68; refine (d_ready hX.box hX.ok.room1).mono ?_; rw [HON.out]; rintro e w' ⟨rfl, rfl⟩)
    go_region_held3 (fun w' => w'.cell? ⟨p, 0, none⟩ = some (.int .i64 s.fr) ∧ w'.cell? ⟨p, 1, none⟩ = some (.slice a s.b.length cap) ∧ w'.cell? ⟨p, 3, none⟩ = some (.int .i64 s.base))
      (first | (with_reducible exact ⟨c0d, c1d, c3d⟩) | (with_reducible exact ⟨(hX.keptNo k4).box.c0, (hX.keptNo k4).box.c1, (hX.keptNo k4).box.c3⟩) | (with_reducible exact ⟨(hX.keptNo k3).box.c0, (hX.keptNo k3).box.c1, (hX.keptNo k3).box.c3⟩) | (with_reducible exact ⟨(hX.keptNo k2).box.c0, (hX.keptNo k2).box.c1, (hX.keptNo k2).box.c3⟩) | go_keep)
      (first
        | (go_at_call 69; refine (row_end s.fr a s.b.length cap _ hf0 (by omega) (by omega)).mono ?_; rintro e w2 ⟨rfl, hk2⟩; have k2 := hkd.transNo hk2)
        | (go_at_call 73; refine (part_calls s.fr s.base (s.fr + (s.b.length : Int)) a s.b.length cap k m s.b _ (hrd.keptNo k2) hkm (by omega) hcle hmx hf0 hlo HK.out HM.out).mono ?_; rintro e w3 ⟨rfl, hrd3, hk3⟩; have k3 := k2.transNo hk3)
        | (go_at_call 72; refine (clone_n (partAddr a k m) m m _ HDL.out w3 hrd3 (by omega) hpn).mono ?_; rintro e w4 ⟨a4, cap4, rfl, ho4, hk4, hat4⟩; have k4 := k3.transNo hk4)
        | fail)
    go_wp2
    go_ret2
    rw [PD.read_on HON.out]
    have hlen : (s.part s.base s.fin).length = m := by rw [HP.out, HDL.out]
    have hsz := (hkd.transNo (hk2.transNo hk3)).size
    exact ⟨a4, cap4, by rw [hlen]; rfl, by rw [hlen, HP.out]; exact ho4, k4, fun b hb => Nat.le_trans hsz (hat4 b hb)⟩

/-- A disk whose base and forced end may be wrong. -/
structure DH (w : World) (p : Nat) (s : PD) (a : Option Addr) (cap : Nat) (S : Nat → Prop) : Prop where
  box : DiskB w p s a cap
  own : Owns w 5 1 a s.b.length cap (bcells s.b)
  half : s.Half
  sp : S p
  sa : ∀ k, At a k → S k ∧ k ≠ p
  lt : ∀ k, S k → k < w.heap.size
theorem DX.half (h : DX w p s a cap S) : DH w p s a cap S := ⟨h.box, h.own, h.ok.half, h.sp, h.sa, h.lt⟩
theorem DH.keptNo {w' : World} (h : DH w p s a cap S) (k : Kept No w w') : DH w' p s a cap S :=
  ⟨Blk.kept h.box k id, h.own.keptNo k, h.half, h.sp, h.sa, fun b hb => k.lt (h.lt b hb)⟩
theorem DH.len (h : DH w p s a cap S) : s.b.length ≤ 65536 := by have := h.half.fits; have := h.half.room2; omega
theorem DH.nil (h : DH w p s a cap S) : a = none → cap = 0 := fun ha => by
  rcases h.own.row with ⟨_, _, hc⟩ | ⟨g, _, h', _⟩
  · exact hc
  · rw [ha] at h'; cases h'

/-- Behind settle: new bytes, and the struct written. -/
theorem DH.settled (h : DH w p s a cap S) {w4 : World} {base : Int} (h0 : s.fr ≤ base) (h1 : base ≤ s.fin) {a4 : Option Addr} {cap4 m : Nat} (hm : (s.part base s.fin).length = m) (k4 : Kept No w w4) (ho : Owns w4 5 1 a4 m cap4 (bcells (s.part base s.fin))) (hat : ∀ b, At a4 b → w.heap.size ≤ b)
    {w5 : World} (hb : DiskB w5 p (s.settle base) a4 cap4) (hk : Kept (· = p) w4 w5) : DX w5 p (s.settle base) a4 cap4 (fun k => S k ∨ At a4 k) ∧ DGrows S (fun k => S k ∨ At a4 k) w w5 := by
  subst hm
  have hp := h.lt p h.sp
  have hne : ∀ b, At a4 b → b ≠ p := fun b hb => by have := hat b hb; omega
  exact ⟨⟨hb, ho.kept hk (fun b hb e => hne b hb e), h.half.settle h0 h1, .inl h.sp, fun k hk => ⟨.inr hk, hne k hk⟩, fun k hk' => hk'.elim (fun h' => hk.lt (k4.lt (h.lt k h'))) (fun h' => hk.lt (ho.lt k h'))⟩,
    (Kept.no k4).trans hk (fun b _ e => e ▸ h.sp), fun k hk => hk.imp id (hat k)⟩

set_option maxHeartbeats 1000000 in
theorem d_settle (h : DH w p s a cap S) (hlo : s.fr ≤ 4611686018427387904) (base : Int) (h0 : s.fr ≤ base) (h1 : base ≤ s.fin) :
    Calls Try.prog 71 #[.pointer (some ⟨p, 0, none⟩), .int .i64 base] w (DUnit w p S (s.settle base)) := by
  have hX := h
  have hl := h.len
  have hf0 := h.half.fr0
  clear h
  obtain ⟨k, m, hk, hm, hkm, hpart, hplen⟩ := part_nat h0 h1 (Int.le_refl _)
  have hbk : base ≤ 4611686018427387904 + 65536 := by have : s.fin = s.fr + (s.b.length : Int) := rfl; omega
  have hb0 : 0 ≤ base := by omega
  have hrd := hX.own.rd
  have hnil := hX.nil
  have hcle := hX.own.le
  have hmx := hX.own.max
  have hdl := drop_take_length hkm
  have hm2 : s.fr + (s.b.length : Int) = s.fr + (k : Int) + (m : Int) := hm
  have hfs : base + (m : Int) = s.fin := by rw [hm, hk]
  have HK := Lib.hid hk
  have HM := Lib.hid hm2
  have HP := Lib.hid hpart
  have HPL := Lib.hid hplen
  have HDL := Lib.hid hdl
  have HFS := Lib.hid hfs
  clear hk hm hm2 hpart hplen hdl hfs
  have hkd : Kept No w w.drew := (Kept.refl No w).drew
  have c0d := (hX.keptNo hkd).box.c0
  have c1d := (hX.keptNo hkd).box.c1
  have hpn : partAddr a k m = none → m = 0 := fun h => by have := hnil (part_none h); omega
  go_enter Try.func71, Try.ntmps71
  go_wp2_with fail
  go_region_with (first
    | (go_at_call 69; refine (row_end s.fr a s.b.length cap _ hf0 (by omega) (by omega)).mono ?_; rintro e w2 ⟨rfl, hk2⟩; have k2 := hkd.transNo hk2; have c0e := (hX.keptNo k2).box.c0; have c1e := (hX.keptNo k2).box.c1)
    | (go_at_call 73; refine (part_calls s.fr base (s.fr + (s.b.length : Int)) a s.b.length cap k m s.b _ (hrd.keptNo k2) hkm (by omega) hcle hmx hf0 hlo HK.out HM.out).mono ?_; rintro e w3 ⟨rfl, hrd3, hk3⟩; have k3 := k2.transNo hk3)
    | (go_at_call 72; refine (clone_n (partAddr a k m) m m _ HDL.out w3 hrd3 (by omega) hpn).mono ?_; rintro e w4 ⟨a4, cap4, rfl, ho4, hk4, hat4⟩; have k4 := k3.transNo hk4; have hb4 := (hX.keptNo k4).box; have d0 := hb4.c0; have d1 := hb4.c1; have e0 := hb4.frozen 0; have e1 := hb4.frozen 1))
  all_goals
    have d3 := hb4.c3
    have e3 := hb4.frozen 3
    have B3 := Blk.set (Blk.set (Blk.set hb4 0 (.int .i64 base)) 1 (.slice a4 m cap4)) 3 (.int .i64 base)
    have K3 := (((Kept.refl (· = p) w4).setCell (a := ⟨p, 0, none⟩) (fun _ => rfl) (.int .i64 base)).setCell (a := ⟨p, 1, none⟩) (fun _ => rfl) (.slice a4 m cap4)).setCell (a := ⟨p, 3, none⟩) (fun _ => rfl) (.int .i64 base)
    go_wp2_with (go_at_call 69; refine (row_end base a4 m cap4 _ hb0 (by omega) (by omega)).mono ?_; rintro e w5 ⟨rfl, hk5⟩; have B5 := B3.kept hk5 id; have g4 := B5.cell 4; have g5 := B5.cell 5; have h4 := B5.frozen 4; have h5 := B5.frozen 5)
    go_end0
    have B6 := Blk.set (Blk.set B5 4 (.int .i64 base)) 5 (.int .i64 (base + (m : Int)))
    have K6 := ((K3.transNo hk5).setCell (a := ⟨p, 4, none⟩) (fun _ => rfl) (.int .i64 base)).setCell (a := ⟨p, 5, none⟩) (fun _ => rfl) (.int .i64 (base + (m : Int)))
    have hsz := (hkd.transNo (hk2.transNo hk3)).size
    obtain ⟨r1, r2⟩ := hX.settled (w4 := w4) h0 h1 (a4 := a4) (cap4 := cap4) HPL.out k4 (by rw [HP.out]; exact ho4) (fun b hb => Nat.le_trans hsz (hat4 b hb)) (w5 := _) (by
      unfold DiskB
      show Blk _ p _ [_, .slice a4 (s.part base s.fin).length cap4, _, _, _, .int .i64 s.fin, _, _]
      rw [HPL.out, ← HFS.out]; exact B6) K6
    exact ⟨_, rfl, ⟨_, _, r1⟩, r2⟩
end
end Go.Proofs.Ytdolddgmemlofaa
