/- Package code's reading of keys, as walks. Printed by gen_cdk.py. Package code's reading of keys: field, as a walk. -/
import Derived.Test.YtjfmidcaekhhgaaGreatDoorCdFH
import Derived.Test.YtjfmidcaekhhgaaGreatDoorBase
import Derived.Deep.CutBlock
namespace Go.Proofs.YtjfmidcaekhhgaaGreatDoor
open Go.RowKit Go.PM

/-- What key answers. -/
def keyGet (l : List UInt8) : List UInt8 × Nat × Nat := if 8 ≤ l.length then (l.take 8, 8, 0) else (zeros8, 0, 4)
theorem keyGet_length (l : List UInt8) : (keyGet l).1.length = 8 := by
  unfold keyGet; split
  · simp; omega
  · rfl
section
variable {w : World}
set_option maxRecDepth 100000 in
set_option maxHeartbeats 1000000 in
theorem key_calls (a : Option Addr) (c n : Nat) (l : List UInt8) (hn : l.length = n) (hr : Rd w a (bcells l)) (hl : n ≤ 1099511627776) :
    Calls Tryz.prog 130 #[.slice a n c] w fun e w' => e = .returned (.tuple #[.agg (bcells (keyGet l).1).toArray, .int .i64 (keyGet l).2.1, .int .i64 (keyGet l).2.2]) ∧ Kept No w w' := by
  have B1 := (Blk.new w 28 [.int .u8 0, .int .u8 0, .int .u8 0, .int .u8 0, .int .u8 0, .int .u8 0, .int .u8 0, .int .u8 0]).alloc (.cells #[.int .u8 0, .int .u8 0, .int .u8 0, .int .u8 0, .int .u8 0, .int .u8 0, .int .u8 0, .int .u8 0] 28)
  have B2 := Blk.new' (w := w.alloc (.cells #[.int .u8 0, .int .u8 0, .int .u8 0, .int .u8 0, .int .u8 0, .int .u8 0, .int .u8 0, .int .u8 0] 28)) (g := w.heap.size + 1) (by rw [World.size_alloc]) 28 [.int .u8 0, .int .u8 0, .int .u8 0, .int .u8 0, .int .u8 0, .int .u8 0, .int .u8 0, .int .u8 0]
  have KK := ((Kept.refl No w).alloc (.cells #[.int .u8 0, .int .u8 0, .int .u8 0, .int .u8 0, .int .u8 0, .int .u8 0, .int .u8 0, .int .u8 0] 28)).alloc (.cells #[.int .u8 0, .int .u8 0, .int .u8 0, .int .u8 0, .int .u8 0, .int .u8 0, .int .u8 0, .int .u8 0] 28)
  have R2 := hr.keptNo KK
  have hn' : (n : Int) ≤ 1099511627776 := by omega
  by_cases h8 : 8 ≤ n
  · have h8' := decide_eq_false (show ¬ (n : Int) < 8 by omega)
    have HE := Lib.hid (show keyGet l = (l.take 8, 8, 0) by unfold keyGet; rw [if_pos (by omega)])
    rw [HE.out]
    have lt8 : (l.take 8).length = 8 := by simp; omega
    have hmin : Nat.min n 8 = 8 := Nat.min_eq_right h8
    have R3 : Rd ((w.alloc (.cells #[.int .u8 0, .int .u8 0, .int .u8 0, .int .u8 0, .int .u8 0, .int .u8 0, .int .u8 0, .int .u8 0] 28)).alloc (.cells #[.int .u8 0, .int .u8 0, .int .u8 0, .int .u8 0, .int .u8 0, .int .u8 0, .int .u8 0, .int .u8 0] 28)) a (bcells (l.take 8)) := by
      have := R2.take 8
      simpa [bcells, List.map_take] using this
    have hl8 : (bcells (l.take 8)).length = Nat.min n 8 := by rw [bcells_length, lt8, hmin]
    have hone := bcells_one (l.take 8)
    have l8 : (bcells (l.take 8)).length = 8 := by rw [bcells_length, lt8]
    have hsp : splice [.int .u8 0, .int .u8 0, .int .u8 0, .int .u8 0, .int .u8 0, .int .u8 0, .int .u8 0, .int .u8 0] 0 (bcells (l.take 8)) = bcells (l.take 8) := splice_all _ _ l8
    have B3 := B2.setRow (splice [.int .u8 0, .int .u8 0, .int .u8 0, .int .u8 0, .int .u8 0, .int .u8 0, .int .u8 0, .int .u8 0] 0 (bcells (l.take 8)))
    rw [hsp] at B3
    have S3 := B3.seg0
    have P1 := B1.kept ((Kept.refl (· = w.heap.size + 1) _).setRow (fun _ => rfl) (bcells (l.take 8)).toArray) (by omega)
    have P2 := P1.setRow (bcells (l.take 8))
    have S4 := P2.seg0
    have hsp1 : splice [.int .u8 0, .int .u8 0, .int .u8 0, .int .u8 0, .int .u8 0, .int .u8 0, .int .u8 0, .int .u8 0] 0 (bcells (l.take 8)) = bcells (l.take 8) := hsp
    obtain ⟨i0, hi0, hz0, hz1, hz2⟩ := info_parts Tryz.cinf_byte
    have hsize : (Tryz.prog.info? 5).map (·.size) = some 1 := by rw [hi0]; simp [hz1]
    have hfit : 0 + (bcells (l.take 8)).length ≤ ([.int .u8 0, .int .u8 0, .int .u8 0, .int .u8 0, .int .u8 0, .int .u8 0, .int .u8 0, .int .u8 0] : List Value).length := by rw [l8]; decide
    clear hi0 hz0 hz1 hz2 i0 hn hr R2 h8
    generalize l.take 8 = k at *
    go_enter Tryz.func130, Tryz.ntmps130
    go_wp2_with (first
      | (with_reducible refine wpList_copy rfl _ _ 38 38 rfl 5 Tryz.cu_bytes hsize (w.heap.size + 1) 0 8 8 a n c rfl rfl 28 [.int .u8 0, .int .u8 0, .int .u8 0, .int .u8 0, .int .u8 0, .int .u8 0, .int .u8 0, .int .u8 0] B2 (bcells k) hl8 R3 hfit hone ?_; rw [hsp, l8])
      | (with_reducible refine wpList_ld rfl 28 _ rfl Tryz.isAgg28 8 Tryz.sizeOf28 (w.heap.size + 1) 0 rfl (bcells k) l8 S3 ?_)
      | (with_reducible refine wpList_st rfl 28 _ _ rfl 8 Tryz.sizeOf28 w.heap.size 0 rfl (bcells k) rfl l8 _ _ P1 (by decide) hone ?_; rw [hsp]))
    refine bodyPost_ret (v := .tuple #[.agg (bcells k).toArray, .int .i64 8, .int .i64 0]) (by rw [results_row_tmp2 _ Tryz.results130 _ Tryz.isAgg28 8 Tryz.sizeOf28 w.heap.size rfl _ l8 S4]; rfl) rfl ?_
    exact ⟨rfl, ((((Kept.refl No w).alloc _).alloc _).setRow (fun h => absurd h (by omega)) _).setRow (fun h => absurd h (by omega)) _⟩
  · have h8' : (n : Int) < 8 := by omega
    have HE := Lib.hid (show keyGet l = (zeros8, 0, 4) by unfold keyGet; rw [if_neg (by omega)])
    rw [HE.out]
    have S1 := B1.seg0
    clear hn hr R2 h8
    go_enter Tryz.func130, Tryz.ntmps130
    go_wp2
    refine bodyPost_ret (v := .tuple #[.agg #[.int .u8 0, .int .u8 0, .int .u8 0, .int .u8 0, .int .u8 0, .int .u8 0, .int .u8 0, .int .u8 0], .int .i64 0, .int .i64 4]) (by rw [results_row_tmp2 _ Tryz.results130 _ Tryz.isAgg28 8 Tryz.sizeOf28 w.heap.size rfl [.int .u8 0, .int .u8 0, .int .u8 0, .int .u8 0, .int .u8 0, .int .u8 0, .int .u8 0, .int .u8 0] rfl S1]; rfl) rfl ?_
    exact ⟨rfl, KK⟩
end
end Go.Proofs.YtjfmidcaekhhgaaGreatDoor

namespace Go.Proofs.YtjfmidcaekhhgaaGreatDoor
open Go.RowKit Go.PM

theorem keyGet_ok {s : PR} (h : s.why = 0) (he : (keyGet s.rest).2.2 = 0) : s.key = ((keyGet s.rest).1, s.go (keyGet s.rest).2.1) ∧ (keyGet s.rest).2.1 ≤ s.rest.length := by
  unfold keyGet at *
  unfold PR.key
  rw [if_pos h]
  by_cases h8 : 8 ≤ s.rest.length
  · rw [if_pos h8, if_pos h8]; exact ⟨rfl, h8⟩
  · rw [if_neg h8] at he; cases he
theorem keyGet_err {s : PR} (h : s.why = 0) (he : (keyGet s.rest).2.2 ≠ 0) : s.key = (zeros8, s.fail (keyGet s.rest).2.2) ∧ (keyGet s.rest).2.2 = 4 := by
  unfold keyGet at *
  unfold PR.key
  rw [if_pos h]
  by_cases h8 : 8 ≤ s.rest.length
  · rw [if_pos h8] at he; exact absurd rfl he
  · rw [if_neg h8, if_neg h8]; exact ⟨rfl, rfl⟩

/-- Where the region ends: a block with a key's bytes, and two numbers. -/
def KeyAt (W : World) (k : List UInt8) (n E : Nat) (s6 s7 s8 : Value) (wx : World) : Prop :=
  ∃ b, s6 = .pointer (some ⟨b, 0, none⟩) ∧ s7 = .int .i64 n ∧ s8 = .int .i64 E ∧ Kept No W wx ∧ Blk wx b 28 (bcells k) ∧ W.heap.size ≤ b

set_option maxRecDepth 100000 in
set_option maxHeartbeats 1000000 in
theorem fkey_calls {w : World} {g : Nat} {s : PR} {a : Option Addr} {c : Nat} (h : Rdr w g s a c) :
    Calls Tryz.prog 129 #[.pointer (some ⟨g, 0, none⟩), .func (.func 130) #[] #[]] w fun e w' => e = .returned (.agg (bcells s.key.1).toArray) ∧ Kept (· = g) w w' ∧ Rdr w' g s.key.2 a c := by
  have KK := ((Kept.refl No w).alloc (.cells #[.int .u8 0, .int .u8 0, .int .u8 0, .int .u8 0, .int .u8 0, .int .u8 0, .int .u8 0, .int .u8 0] 28)).alloc (.cells #[.int .u8 0, .int .u8 0, .int .u8 0, .int .u8 0, .int .u8 0, .int .u8 0, .int .u8 0, .int .u8 0] 28)
  have B1 := (Blk.new w 28 [.int .u8 0, .int .u8 0, .int .u8 0, .int .u8 0, .int .u8 0, .int .u8 0, .int .u8 0, .int .u8 0]).alloc (.cells #[.int .u8 0, .int .u8 0, .int .u8 0, .int .u8 0, .int .u8 0, .int .u8 0, .int .u8 0, .int .u8 0] 28)
  have B2 := Blk.new' (w := w.alloc (.cells #[.int .u8 0, .int .u8 0, .int .u8 0, .int .u8 0, .int .u8 0, .int .u8 0, .int .u8 0, .int .u8 0] 28)) (g := w.heap.size + 1) (by rw [World.size_alloc]) 28 [.int .u8 0, .int .u8 0, .int .u8 0, .int .u8 0, .int .u8 0, .int .u8 0, .int .u8 0, .int .u8 0]
  have hgw := h.box.lt
  have H := Lib.hid (h.keptNo KK)
  have c2 : ((w.alloc (.cells #[.int .u8 0, .int .u8 0, .int .u8 0, .int .u8 0, .int .u8 0, .int .u8 0, .int .u8 0, .int .u8 0] 28)).alloc (.cells #[.int .u8 0, .int .u8 0, .int .u8 0, .int .u8 0, .int .u8 0, .int .u8 0, .int .u8 0, .int .u8 0] 28)).cell? ⟨g, 2, none⟩ = some (.int .i64 s.why) := H.out.box.cell 2
  have c3 : ((w.alloc (.cells #[.int .u8 0, .int .u8 0, .int .u8 0, .int .u8 0, .int .u8 0, .int .u8 0, .int .u8 0, .int .u8 0] 28)).alloc (.cells #[.int .u8 0, .int .u8 0, .int .u8 0, .int .u8 0, .int .u8 0, .int .u8 0, .int .u8 0, .int .u8 0] 28)).cell? ⟨g, 3, none⟩ = some (.int .i64 s.fat) := H.out.box.cell 3
  have hwsz : ((w.alloc (.cells #[.int .u8 0, .int .u8 0, .int .u8 0, .int .u8 0, .int .u8 0, .int .u8 0, .int .u8 0, .int .u8 0] 28)).alloc (.cells #[.int .u8 0, .int .u8 0, .int .u8 0, .int .u8 0, .int .u8 0, .int .u8 0, .int .u8 0, .int .u8 0] 28)).heap.size = w.heap.size + 2 := by rw [World.size_alloc, World.size_alloc]
  by_cases h0 : s.why = 0
  · have HK : Hid (∀ W : World, Rdr W g s a c → Calls Tryz.prog 130 #[.slice (if c = s.pos then a else a.map fun x => x.add s.pos) (s.b.length - s.pos) (c - s.pos)] W fun e w' => e = .returned (.tuple #[.agg (bcells (keyGet s.rest).1).toArray, .int .i64 (keyGet s.rest).2.1, .int .i64 (keyGet s.rest).2.2]) ∧ Kept No W w') :=
      Lib.hid fun W hW => key_calls (w := W) _ (c - s.pos) (s.b.length - s.pos) s.rest (PR.rest_length s) hW.rest (by have := hW.len; omega)
    have kl := keyGet_length s.rest
    have HOK := Lib.hid (fun he => keyGet_ok (s := s) h0 he)
    have HER := Lib.hid (fun he => keyGet_err (s := s) h0 he)
    rw [h0] at c2
    rw [h.ok.none h0] at c3
    have hne := neqFault 0 0 fun _ => rfl
    rw [decide_eq_false (fun h => h rfl)] at hne
    have hp := h.ok.pos
    have hp' : (s.pos : Int) ≤ s.b.length := by omega
    have hp0 : (0 : Int) ≤ s.pos := by omega
    have hle := h.le
    have hle' : (s.b.length : Int) ≤ c := by omega
    have hmx := h.max
    have hlen := h.len
    obtain ⟨ra, hra⟩ : ∃ ra, (if c = s.pos then a else a.map fun x => x.add s.pos) = ra := ⟨_, rfl⟩
    rw [hra] at HK
    have hrl := PR.rest_length s
    have HLT := Lib.hid h.lt
    clear h h0
    generalize hkg : keyGet s.rest = KG at *
    obtain ⟨k, n, E⟩ := KG
    simp only at HK kl HOK HER
    go_enter Tryz.func129, Tryz.ntmps129
    go_upto_region 4 with (fail)
    generalize hW : (w.alloc (.cells #[.int .u8 0, .int .u8 0, .int .u8 0, .int .u8 0, .int .u8 0, .int .u8 0, .int .u8 0, .int .u8 0] 28)).alloc (.cells #[.int .u8 0, .int .u8 0, .int .u8 0, .int .u8 0, .int .u8 0, .int .u8 0, .int .u8 0, .int .u8 0] 28) = W at *
    have HSZ := Lib.hid hwsz
    have HW := Lib.hid hW
    clear hwsz hW
    go_cut [6, 7, 8] (fun s6 s7 s8 wx => KeyAt W k n E s6 s7 s8 wx)
    case first =>
      have c0 : W.cell? ⟨g, 0, none⟩ = some (.slice a s.b.length c) := H.out.box.cell 0
      have c1 : W.cell? ⟨g, 1, none⟩ = some (.int .i64 s.pos) := H.out.box.cell 1
      have hone := bcells_one k
      have l8 : (bcells k).length = 8 := by rw [bcells_length, kl]
      have hst1 := fun w2 : World => run_storeCells_new (P := Tryz.prog) w2 28 [.int .u8 0, .int .u8 0, .int .u8 0, .int .u8 0, .int .u8 0, .int .u8 0, .int .u8 0, .int .u8 0] (bcells k) l8 hone
      go_region_held3 (fun w' => w'.cell? ⟨g, 0, none⟩ = some (.slice a s.b.length c) ∧ w'.cell? ⟨g, 1, none⟩ = some (.int .i64 s.pos))
        (go_keep)
        (first
          | (go_at_call 130; (with_reducible refine (HK.out W.drew (H.out.keptNo (Kept.refl No W).drew)).mono ?_); rintro _ w2 ⟨rfl, k2⟩; have r2 := (H.out.keptNo (Kept.refl No W).drew).keptNo k2; have q0 : w2.cell? ⟨g, 0, none⟩ = some (.slice a s.b.length c) := r2.box.cell 0; have q1 : w2.cell? ⟨g, 1, none⟩ = some (.int .i64 s.pos) := r2.box.cell 1)
          | (go_at_call 130; (with_reducible refine (HK.out _ (H.out.keptNo ((Kept.refl No W).alloc _).drew)).mono ?_); rintro _ w2 ⟨rfl, k2⟩; have r2 := (H.out.keptNo ((Kept.refl No W).alloc _).drew).keptNo k2; have q0 : w2.cell? ⟨g, 0, none⟩ = some (.slice a s.b.length c) := r2.box.cell 0; have q1 : w2.cell? ⟨g, 1, none⟩ = some (.int .i64 s.pos) := r2.box.cell 1; have b2 := (show Blk (W.alloc (.cells #[.int .u8 0, .int .u8 0, .int .u8 0, .int .u8 0, .int .u8 0, .int .u8 0, .int .u8 0, .int .u8 0] 28)).drew W.heap.size 28 [.int .u8 0, .int .u8 0, .int .u8 0, .int .u8 0, .int .u8 0, .int .u8 0, .int .u8 0, .int .u8 0] from Blk.new W 28 [.int .u8 0, .int .u8 0, .int .u8 0, .int .u8 0, .int .u8 0, .int .u8 0, .int .u8 0, .int .u8 0]).kept k2 (fun h => h); have hst2 := run_storeCells_blk (P := Tryz.prog) b2 (bcells k) l8 hone; have k3 := (Kept.refl (· = W.heap.size) w2).setRow (fun _ => rfl) (bcells k).toArray; have r3 := r2.kept k3 (Nat.ne_of_lt H.out.box.lt) (fun b hb => Nat.ne_of_lt (H.out.lt b hb)); have q2 : (w2.setRow W.heap.size (bcells k).toArray).cell? ⟨g, 0, none⟩ = some (.slice a s.b.length c) := r3.box.cell 0; have q3 : (w2.setRow W.heap.size (bcells k).toArray).cell? ⟨g, 1, none⟩ = some (.int .i64 s.pos) := r3.box.cell 1)
          | fail)
      · go_wp2_with fail
        go_meet
        exact ⟨w2.heap.size, rfl, rfl, rfl, ((Kept.refl No W).drew.trans k2 fun _ _ h => h).alloc _, Blk.new w2 _ _, k2.size⟩
      · go_wp2_with fail
        go_meet
        exact ⟨W.heap.size, rfl, rfl, rfl, (((Kept.refl No W).alloc _).drew.trans k2 fun _ _ h => h).setRow (fun h => absurd h (Nat.lt_irrefl _)) _, b2.setRow _, Nat.le_refl _⟩
    case rest =>
      obtain ⟨b, rfl, rfl, rfl, kx, bx, hb⟩ := hcut
      have R := Lib.hid (H.out.keptNo kx)
      have c1 : wc.cell? ⟨g, 1, none⟩ = some (.int .i64 s.pos) := R.out.box.cell 1
      have c2 : wc.cell? ⟨g, 2, none⟩ = some (.int .i64 s.why) := R.out.box.cell 2
      have c3 : wc.cell? ⟨g, 3, none⟩ = some (.int .i64 s.fat) := R.out.box.cell 3
      have f1 := R.out.box.frozen 1
      have f2 := R.out.box.frozen 2
      have f3 := R.out.box.frozen 3
      have l8 : (bcells k).length = 8 := by rw [bcells_length, kl]
      have hone := bcells_one k
      have hz : ∀ u ∈ ([.int .u8 0, .int .u8 0, .int .u8 0, .int .u8 0, .int .u8 0, .int .u8 0, .int .u8 0, .int .u8 0] : List Value), u.oneCell' = true := bcells_one zeros8
      have D1 := B1.kept kx (fun h => h)
      have D2 := B2.kept kx (fun h => h)
      have hsz := HSZ.out
      have n1 : w.heap.size ≠ g := Nat.ne_of_gt hgw
      have n2 : w.heap.size + 1 ≠ g := by omega
      have n3 : b ≠ g := by omega
      have n4 : w.heap.size ≠ b := by omega
      have HB := Lib.hid hb
      have kW : Kept No w wc := KK.trans kx fun _ _ h => h
      clear hsz hb
      by_cases hE : E = 0
      · subst hE
        obtain ⟨e1, e2⟩ := HOK.out rfl
        have HE := Lib.hid e1
        have E1 := (D1.setOther (a := ⟨g, 1, none⟩) n1 (.int .i64 ((s.pos : Int) + n)))
        have E2 := (bx.setOther (a := ⟨g, 1, none⟩) n3 (.int .i64 ((s.pos : Int) + n)))
        have SB := E2.seg0
        have F1 := E1.setRow (splice [.int .u8 0, .int .u8 0, .int .u8 0, .int .u8 0, .int .u8 0, .int .u8 0, .int .u8 0, .int .u8 0] 0 (bcells k))
        have hsp : splice [.int .u8 0, .int .u8 0, .int .u8 0, .int .u8 0, .int .u8 0, .int .u8 0, .int .u8 0, .int .u8 0] 0 (bcells k) = bcells k := splice_all _ _ l8
        rw [hsp] at F1
        have SF := F1.seg0
        have hn : (n : Int) ≤ s.b.length := by omega
        have hn0 : (0 : Int) ≤ n := by omega
        clear e1 n4
        go_wp2_with (first
          | (with_reducible refine wpList_ld rfl 28 _ rfl Tryz.isAgg28 8 Tryz.sizeOf28 b 0 rfl (bcells k) l8 SB ?_)
          | (with_reducible refine wpList_st rfl 28 _ _ rfl 8 Tryz.sizeOf28 w.heap.size 0 rfl (bcells k) rfl l8 _ _ E1 (by decide) hone ?_; rw [hsp]))
        refine bodyPost_ret (v := .agg (bcells k).toArray) (by rw [results_row _ Tryz.results129 _ Tryz.isAgg28 8 Tryz.sizeOf28 w.heap.size rfl _ l8 SF]) rfl ?_
        have hR := R.out.go (k := n) e2
        have e : ((s.pos + n : Nat) : Int) = (s.pos : Int) + n := by omega
        rw [e] at hR
        rw [HE.out]
        refine ⟨rfl, ((kW.no (S := (· = g))).setCell (a := ⟨g, 1, none⟩) (fun _ => rfl) _).setRow (fun h => absurd h (Nat.lt_irrefl _)) _, hR.kept ((Kept.refl (· = w.heap.size) _).setRow (fun _ => rfl) _) (Ne.symm n1) fun q hq e' => ?_⟩
        have := HLT.out q hq
        omega
      · obtain ⟨e1, e2⟩ := HER.out hE
        have HE := Lib.hid e1
        subst e2
        have E1 := (D1.setOther (a := ⟨g, 2, none⟩) n1 (.int .i64 4)).setOther (a := ⟨g, 3, none⟩) n1 (.int .i64 s.pos)
        have E2 := (D2.setOther (a := ⟨g, 2, none⟩) n2 (.int .i64 4)).setOther (a := ⟨g, 3, none⟩) n2 (.int .i64 s.pos)
        have S2 := E2.seg0
        have F1 := E1.setRow (splice [.int .u8 0, .int .u8 0, .int .u8 0, .int .u8 0, .int .u8 0, .int .u8 0, .int .u8 0, .int .u8 0] 0 [.int .u8 0, .int .u8 0, .int .u8 0, .int .u8 0, .int .u8 0, .int .u8 0, .int .u8 0, .int .u8 0])
        have hsp : splice ([.int .u8 0, .int .u8 0, .int .u8 0, .int .u8 0, .int .u8 0, .int .u8 0, .int .u8 0, .int .u8 0] : List Value) 0 [.int .u8 0, .int .u8 0, .int .u8 0, .int .u8 0, .int .u8 0, .int .u8 0, .int .u8 0, .int .u8 0] = [.int .u8 0, .int .u8 0, .int .u8 0, .int .u8 0, .int .u8 0, .int .u8 0, .int .u8 0, .int .u8 0] := splice_all _ _ rfl
        rw [hsp] at F1
        have SF := F1.seg0
        clear e1 n4 hE
        go_wp2_with (first
          | (with_reducible refine wpList_ld rfl 28 (.tmp 5) rfl Tryz.isAgg28 8 Tryz.sizeOf28 (w.heap.size + 1) 0 rfl [.int .u8 0, .int .u8 0, .int .u8 0, .int .u8 0, .int .u8 0, .int .u8 0, .int .u8 0, .int .u8 0] rfl S2 ?_)
          | (with_reducible refine wpList_st rfl 28 (.tmp 4) _ rfl 8 Tryz.sizeOf28 w.heap.size 0 rfl [.int .u8 0, .int .u8 0, .int .u8 0, .int .u8 0, .int .u8 0, .int .u8 0, .int .u8 0, .int .u8 0] rfl rfl _ _ E1 (by decide) hz ?_; rw [hsp]))
        refine bodyPost_ret (v := .agg #[.int .u8 0, .int .u8 0, .int .u8 0, .int .u8 0, .int .u8 0, .int .u8 0, .int .u8 0, .int .u8 0]) (by rw [results_row _ Tryz.results129 _ Tryz.isAgg28 8 Tryz.sizeOf28 w.heap.size rfl [.int .u8 0, .int .u8 0, .int .u8 0, .int .u8 0, .int .u8 0, .int .u8 0, .int .u8 0, .int .u8 0] rfl SF]) rfl ?_
        rw [HE.out]
        have hR := R.out.fail (e := 4) (by decide) (by decide)
        refine ⟨rfl, (((kW.no (S := (· = g))).setCell (a := ⟨g, 2, none⟩) (fun _ => rfl) _).setCell (a := ⟨g, 3, none⟩) (fun _ => rfl) _).setRow (fun h => absurd h (Nat.lt_irrefl _)) _, hR.kept ((Kept.refl (· = w.heap.size) _).setRow (fun _ => rfl) _) (Ne.symm n1) fun q hq e' => ?_⟩
        have := HLT.out q hq
        omega
  · have hne := neqFault s.why s.fat h.ok.none
    rw [decide_eq_true (show ¬ s.why = 0 from h0)] at hne
    have hst : s.key = (zeros8, s) := by unfold PR.key; rw [if_neg h0]
    rw [hst]
    have S1 := B1.seg0
    clear hst hwsz
    go_enter Tryz.func129, Tryz.ntmps129
    go_wp2
    refine bodyPost_ret (v := .agg #[.int .u8 0, .int .u8 0, .int .u8 0, .int .u8 0, .int .u8 0, .int .u8 0, .int .u8 0, .int .u8 0]) (by rw [results_row _ Tryz.results129 _ Tryz.isAgg28 8 Tryz.sizeOf28 w.heap.size rfl [.int .u8 0, .int .u8 0, .int .u8 0, .int .u8 0, .int .u8 0, .int .u8 0, .int .u8 0, .int .u8 0] rfl S1]) rfl ?_
    exact ⟨rfl, KK.no, H.out⟩
end Go.Proofs.YtjfmidcaekhhgaaGreatDoor
