/- Package ids: PutTx and PutReg, as walks. Package ids: PutTx; package votes: Put, as walks. Package msg: PutItem and PutWrites, as walks. -/
import Derived.Test.YtjfmidcaekhhgaaGreatDoorCdWr
import Derived.Test.YtjfmidcaekhhgaaGreatDoorMsP
import Derived.Test.YtjfmidcaekhhgaaGreatDoorCfA
import Derived.Test.YtjfmidcaekhhgaaGreatDoorBase
namespace Go.Proofs.YtjfmidcaekhhgaaGreatDoor
open Go.RowKit Go.PM

section
variable {w : World} {g : Nat} {l : List UInt8} {a : Option Addr} {cap : Nat}
set_option maxRecDepth 100000 in
set_option maxHeartbeats 1000000 in
theorem putReg_calls (h : Wr w 73 g l a cap) (x : PReg) (hx : wfReg x) (hl : l.length + 20 ≤ 1099511627776) :
    Calls Tryz.prog 80 #[.pointer (some ⟨g, 0, none⟩), .agg #[.int .u32 x.1, .int .u32 x.2]] w fun e w' => e = .returned (.tuple #[]) ∧ WrTo w w' 73 g (l ++ regC.put x) := by
  obtain ⟨i, j⟩ := x
  obtain ⟨h1, h2⟩ := hx
  simp only at h1 h2
  show Calls Tryz.prog 80 #[.pointer (some ⟨g, 0, none⟩), .agg #[.int .u32 i, .int .u32 j]] w fun e w' => e = .returned (.tuple #[]) ∧ WrTo w w' 73 g (l ++ (short i ++ short j))
  have h1' : (i : Int) < 4294967296 := by omega
  have h2' : (j : Int) < 4294967296 := by omega
  have s1 : (short i).length ≤ 10 := short_le (k := 9) (by omega)
  have K0 := (Kept.refl No w).alloc (.cells #[.int .u32 (i : Int), .int .u32 (j : Int)] 26)
  have k0 := h.no K0
  have B0 := Blk.new w 26 [.int .u32 (i : Int), .int .u32 (j : Int)]
  have hnx : ¬ WrS (w.alloc (.cells #[.int .u32 (i : Int), .int .u32 (j : Int)] 26)) 73 g w.heap.size := fun hs => by
    rcases ((h.keptOff K0 fun _ _ h => h).foot _).1 hs with e | e
    · have := h.box.lt; omega
    · exact absurd (h.own.lt _ e) (Nat.lt_irrefl _)
  have HN := Lib.hid (wnum_calls (h.keptOff K0 fun _ _ h => h) i (by omega) (by omega))
  have HJ := Lib.hid (show j < 18446744073709551616 ∧ (l ++ short i).length + 10 ≤ 1099511627776 by rw [List.length_append]; omega)
  clear h
  go_enter Tryz.func80, Tryz.ntmps80
  go_wp2_with (first
    | (go_at_call 79; refine HN.out.mono ?_; rintro _ w1 ⟨rfl, k1⟩; have b1 := B0.kept k1.kept hnx; have c1 : w1.cell? ⟨w.heap.size, 1, none⟩ = some (.int .u32 (j : Int)) := b1.cell 1)
    | (go_at_call 79; refine (wnum_calls k1.wr.choose_spec.choose_spec j HJ.out.1 HJ.out.2).mono ?_; rintro _ w2 ⟨rfl, k2⟩))
  go_end0
  refine ⟨rfl, ?_⟩
  rw [← List.append_assoc]
  exact k0.trans (k1.trans k2)
end
end Go.Proofs.YtjfmidcaekhhgaaGreatDoor

namespace Go.Proofs.YtjfmidcaekhhgaaGreatDoor
open Go.RowKit Go.PM

section
variable {w w' : World} {T : TypeId} {g : Nat} {l : List UInt8} {a : Option Addr} {cap : Nat}
theorem WrTo.offs (h : WrTo w w' T g l) {k : Nat} (hk : ¬ WrS w T g k) (hlt : k < w.heap.size) : ¬ WrS w' T g k := fun hs => by
  rcases h.foot k hs with h1 | h1
  · exact hk h1
  · omega
theorem Wr.fresh (h : Wr w T g l a cap) {w2 : World} (k : Kept No w w2) {b : Nat} (hb : w.heap.size ≤ b) : ¬ WrS w2 T g b := fun hs => by
  have h2 := h.keptOff k fun _ _ h => h
  rcases (h2.foot b).1 hs with e | e
  · have := h.box.lt; omega
  · have := h.own.lt _ e; omega

set_option maxRecDepth 100000 in
set_option maxHeartbeats 1000000 in
theorem putTx_calls (h : Wr w 73 g l a cap) (x : PTx) (hx : wfTx x) (hl : l.length + 30 ≤ 1099511627776) :
    Calls Tryz.prog 78 #[.pointer (some ⟨g, 0, none⟩), .agg #[.int .u8 x.1, .int .u32 x.2.1, .int .u32 x.2.2]] w fun e w' => e = .returned (.tuple #[]) ∧ WrTo w w' 73 g (l ++ txC.put x) := by
  obtain ⟨n, i, j⟩ := x
  obtain ⟨h0, h1, h2⟩ := hx
  simp only at h0 h1 h2
  show Calls Tryz.prog 78 #[.pointer (some ⟨g, 0, none⟩), .agg #[.int .u8 n, .int .u32 i, .int .u32 j]] w fun e w' => e = .returned (.tuple #[]) ∧ WrTo w w' 73 g (l ++ ([UInt8.ofNat n] ++ (short i ++ short j)))
  have h1' : (i : Int) < 4294967296 := by omega
  have h2' : (j : Int) < 4294967296 := by omega
  have s1 : (short i).length ≤ 10 := short_le (k := 9) (by omega)
  have K0 := (Kept.refl No w).alloc (.cells #[.int .u8 (n : Int), .int .u32 (i : Int), .int .u32 (j : Int)] 24)
  have k0 := h.no K0
  have B0 := Blk.new w 24 [.int .u8 (n : Int), .int .u32 (i : Int), .int .u32 (j : Int)]
  have hnx := h.fresh K0 (Nat.le_refl _)
  have HN := Lib.hid (wbyte_calls (h.keptOff K0 fun _ _ h => h) n h0 (by omega))
  have HI := Lib.hid (show i < 18446744073709551616 ∧ (l ++ [UInt8.ofNat n]).length + 10 ≤ 1099511627776 by rw [List.length_append]; simp; omega)
  have HJ := Lib.hid (show j < 18446744073709551616 ∧ (l ++ [UInt8.ofNat n] ++ short i).length + 10 ≤ 1099511627776 by rw [List.length_append, List.length_append]; simp; omega)
  clear h
  go_enter Tryz.func78, Tryz.ntmps78
  go_wp2_with fail
  refine HN.out.mono ?_
  rintro _ w1 ⟨rfl, k1⟩
  have b1 := B0.kept k1.kept hnx
  have c1 : w1.cell? ⟨w.heap.size, 1, none⟩ = some (.int .u32 (i : Int)) := b1.cell 1
  have n1 := k1.offs hnx B0.lt
  go_wp2_with fail
  refine (wnum_calls k1.wr.choose_spec.choose_spec i HI.out.1 HI.out.2).mono ?_
  rintro _ w2 ⟨rfl, k2⟩
  clear c1
  have b2 := b1.kept k2.kept n1
  have c2 : w2.cell? ⟨w.heap.size, 2, none⟩ = some (.int .u32 (j : Int)) := b2.cell 2
  go_wp2_with fail
  refine (wnum_calls k2.wr.choose_spec.choose_spec j HJ.out.1 HJ.out.2).mono ?_
  rintro _ w3 ⟨rfl, k3⟩
  go_wp2
  go_end0
  refine ⟨rfl, ?_⟩
  have hk := k0.trans (k1.trans (k2.trans k3))
  simpa using hk

def nums3 (c : PCfg) (k : Nat) : List UInt8 := ([c.1, c.2.1, c.2.2.1].take k).flatMap short
theorem nums3_le (c : PCfg) (hc : wfCfg c) (k : Nat) : (nums3 c k).length ≤ 30 := by
  obtain ⟨e, r, v, l⟩ := c
  obtain ⟨h1, h2, h3, h4⟩ := hc
  simp only at h1 h2 h3
  have a1 : (short e).length ≤ 10 := short_le (k := 9) (by omega)
  have a2 : (short r).length ≤ 10 := short_le (k := 9) (by omega)
  have a3 : (short v).length ≤ 10 := short_le (k := 9) (by omega)
  unfold nums3
  rcases k with _ | _ | _ | k <;> simp <;> omega
def ns3 (c : PCfg) (k : Nat) : Nat := [c.1, c.2.1, c.2.2.1].getD k 0
theorem nums3_step (c : PCfg) {k : Nat} (hk : k < 3) : nums3 c (k + 1) = nums3 c k ++ short (ns3 c k) := by
  unfold nums3 ns3
  rw [List.take_succ_eq_append_getElem (by simpa using hk), List.flatMap_append]
  simp [List.getD_eq_getElem?_getD, hk]
theorem ns3_lt (c : PCfg) (hc : wfCfg c) (k : Nat) : ns3 c k < 4294967296 := by
  obtain ⟨e, r, v, l⟩ := c
  obtain ⟨h1, h2, h3, h4⟩ := hc
  simp only at h1 h2 h3
  unfold ns3
  rcases k with _ | _ | _ | k <;> simp <;> omega
/-- The loops of Put. -/
def PcRel (w0 : World) (T : TypeId) (g : Nat) (l : List UInt8) (c : PCfg) (b : Nat) (cs : List Value) (TB : TypeId) (b2 : Nat) (ns : List Value) (T2 : TypeId) (i : Value) (wr : World) : Prop :=
  ∃ k : Nat, k ≤ 3 ∧ i = .int .i64 k ∧ WrTo w0 wr T g (l ++ nums3 c k) ∧ Blk wr b TB cs ∧ Blk wr b2 T2 ns ∧ ¬ WrS wr T g b ∧ ¬ WrS wr T g b2
def PvRel (w0 : World) (T : TypeId) (g : Nat) (l : List UInt8) (c : PCfg) (i : Value) (wr : World) : Prop :=
  ∃ k : Nat, k ≤ 8 ∧ i = .int .i64 k ∧ WrTo w0 wr T g (l ++ nums3 c 3 ++ c.2.2.2.take k)

set_option maxRecDepth 100000 in
set_option maxHeartbeats 1000000 in
theorem putCfg_calls (h : Wr w 73 g l a cap) (c : PCfg) (hc : wfCfg c) (hl : l.length + 50 ≤ 1099511627776) :
    Calls Tryz.prog 116 #[.pointer (some ⟨g, 0, none⟩), .agg (cfgc c.1 c.2.1 c.2.2.1 c.2.2.2).toArray] w fun e w' => e = .returned (.tuple #[]) ∧ WrTo w w' 73 g (l ++ cfgC.put c) := by
  have hp : cfgC.put c = nums3 c 3 ++ c.2.2.2.take 8 := by
    obtain ⟨e, r, v, u⟩ := c
    obtain ⟨_, _, _, h4⟩ := hc
    simp only at h4
    show short e ++ (short r ++ (short v ++ byteU.puts u)) = _
    rw [List.take_of_length_le (by simp only; omega)]
    have : byteU.puts u = u := by simp [Codec.puts, byteU]
    rw [this]
    simp [nums3]
  rw [hp, ← List.append_assoc]
  clear hp
  have N3 := nums3_le c hc
  have L3 := ns3_lt c hc
  obtain ⟨w1, w2, w3, w4⟩ := hc
  have K0 := (Kept.refl No w).alloc (.cells (cfgc c.1 c.2.1 c.2.2.1 c.2.2.2).toArray 30)
  have B0 := Blk.new w 30 (cfgc c.1 c.2.1 c.2.2.1 c.2.2.2)
  have hnx := h.fresh K0 (Nat.le_refl _)
  have h1 := h.keptOff K0 fun _ _ h => h
  have k0 := h.no K0
  obtain ⟨c0, c1, c2, c3, c4, c5, c6, c7, c8, c9, c10⟩ := cfg_cells B0 w4
  have r1 : ((c.2.1 : Nat) : Int) < 256 := by omega
  have r2 : ((c.2.2.1 : Nat) : Int) < 256 := by omega
  have HH := Lib.hid (fun (k : Nat) (hk : k < 3) => ns3_lt c ⟨w1, w2, w3, w4⟩ k)
  go_enter Tryz.func116, Tryz.ntmps116
  go_wp2
  clear c0 c1 c2 c3 c4 c5 c6 c7 c8 c9 c10
  have N0 := Blk.new (w.alloc (.cells (cfgc c.1 c.2.1 c.2.2.1 c.2.2.2).toArray 30)) 22 [.int .u32 (c.1 : Int), .int .u32 (c.2.1 : Int), .int .u32 (c.2.2.1 : Int)]
  have K1 := K0.alloc (.cells #[.int .u32 (c.1 : Int), .int .u32 (c.2.1 : Int), .int .u32 (c.2.2.1 : Int)] 22)
  have P0 : WrTo w ((w.alloc (.cells (cfgc c.1 c.2.1 c.2.2.1 c.2.2.2).toArray 30)).alloc (.cells #[.int .u32 (c.1 : Int), .int .u32 (c.2.1 : Int), .int .u32 (c.2.2.1 : Int)] 22)) 73 g (l ++ nums3 c 0) := by
    have := h.no K1
    simpa [nums3] using this
  have B1 := B0.alloc (.cells #[.int .u32 (c.1 : Int), .int .u32 (c.2.1 : Int), .int .u32 (c.2.2.1 : Int)] 22)
  have x1 := h.fresh K1 (Nat.le_refl _)
  have x2 := h.fresh K1 (b := w.heap.size + 1) (by omega)
  rw [World.size_alloc] at N0
  clear h h1 k0 hnx K0 K1 B0
  generalize hws : (w.alloc (.cells (cfgc c.1 c.2.1 c.2.2.1 c.2.2.2).toArray 30)).alloc (.cells #[.int .u32 (c.1 : Int), .int .u32 (c.2.1 : Int), .int .u32 (c.2.2.1 : Int)] 22) = ws at *
  clear hws
  go_loopw [5, 18] (fun _ i wr => PcRel w 73 g l c w.heap.size (cfgc c.1 c.2.1 c.2.2.1 c.2.2.2) 30 (w.heap.size + 1) [.int .u32 (c.1 : Int), .int .u32 (c.2.1 : Int), .int .u32 (c.2.2.1 : Int)] 22 i wr) (fun _ i _ => 3 - (intOf i).toNat)
  case atStart => exact ⟨0, by omega, rfl, P0, B1, N0, x1, x2⟩
  case round =>
    obtain ⟨k, hk, rfl, hw, hb, hn, y1, y2⟩ := hrel
    by_cases hlt : k < 3
    · have i0 : (0 : Int) ≤ k := by omega
      have i1 : (k : Int) < 3 := by omega
      have hc0 : wr.cell? ⟨w.heap.size + 1, 0 + k, none⟩ = some (.int .u32 (ns3 c k)) := by
        rw [Nat.zero_add, hn.cell]
        unfold ns3
        have : k = 0 ∨ k = 1 ∨ k = 2 := by omega
        rcases this with rfl | rfl | rfl <;> rfl
      rw [Nat.zero_add] at hc0
      have n3 := N3 k
      have l3 := L3 k
      have l3' : ((ns3 c k : Nat) : Int) < 4294967296 := by omega
      have st := nums3_step c hlt
      have HC := Lib.hid (wnum_calls hw.wr.choose_spec.choose_spec (ns3 c k) (by omega) (by rw [List.length_append]; omega))
      rw [List.append_assoc, ← st] at HC
      have h1lt := hb.lt
      have h2lt := hn.lt
      clear st
      go_wp2_with (go_at_call 79; refine HC.out.mono ?_; rintro _ w2 ⟨rfl, k2⟩)
      refine ⟨⟨k + 1, by omega, by go_num, hw.trans k2, hb.kept k2.kept y1, hn.kept k2.kept y2, k2.offs y1 h1lt, k2.offs y2 h2lt⟩, by simp [intOf]; omega⟩
    · have i1 : (3 : Int) ≤ k := by omega
      have hk3 : nums3 c k = nums3 c 3 := by rw [show k = 3 by omega]
      rw [hk3] at hw
      obtain ⟨c0, c1, c2, c3, c4, c5, c6, c7, c8, c9, c10⟩ := cfg_cells hb w4
      have n3 := N3 3
      clear hn y2 hlt hk N3 L3 HH hk3
      go_wp2
      rw [up_eq _ w4]
      clear c0 c1 c2 c3 c4 c5 c6 c7 c8 c9 c10 hb
      go_loopw [7, 29] (fun _ i wr => PvRel w 73 g l c i wr) (fun _ i _ => 8 - (intOf i).toNat)
      case atStart => exact ⟨0, by omega, rfl, by simpa using hw⟩
      case round =>
        obtain ⟨k, hk, rfl, hv⟩ := hrel
        by_cases hlt : k < 8
        · have i0 : (0 : Int) ≤ k := by omega
          have i1 : (k : Int) < 8 := by omega
          have hx : (bcells c.2.2.2).toArray[k]? = some (.int .u8 (vsOf c.2.2.2 k)) := by rw [List.getElem?_toArray]; exact upcell _ (by omega)
          have hix := fun w' => run_index_array (P := Tryz.prog) (w := w') 27 5 8 _ .i64 k _ Tryz.u_arr8 hlt hx (fun w => by rfl) (fun w => by rfl)
          have v1 := vsOf_lt c.2.2.2 k
          have HC := Lib.hid (wbyte_calls hv.wr.choose_spec.choose_spec (vsOf c.2.2.2 k) v1 (by rw [List.length_append, List.length_append, List.length_take]; omega))
          have st : c.2.2.2.take (k + 1) = c.2.2.2.take k ++ [UInt8.ofNat (vsOf c.2.2.2 k)] := by
            rw [List.take_succ_eq_append_getElem (by omega)]
            simp [vsOf, List.getD_eq_getElem?_getD, show k < c.2.2.2.length by omega]
          rw [List.append_assoc, ← st] at HC
          clear st hx
          go_wp2_with (go_at_call 33; refine HC.out.mono ?_; rintro _ w2 ⟨rfl, k2⟩)
          go_roundw
          case rel => exact ⟨k + 1, by omega, by go_num, hv.trans k2⟩
          case measure => simp [intOf]; omega
        · obtain rfl : k = 8 := by omega
          go_wp2
          go_end0
          exact ⟨rfl, hv⟩
end
end Go.Proofs.YtjfmidcaekhhgaaGreatDoor

namespace Go.Proofs.YtjfmidcaekhhgaaGreatDoor
open Go.RowKit Go.PM

/-- An item as the machine holds it; a write; a list of writes. -/
def cfgv (c : PCfg) : List Value := cfgc c.1 c.2.1 c.2.2.1 c.2.2.2
def itemv (i : PItem) : List Value := .int .u32 i.1 :: .string ⟨i.2.1.toArray⟩ :: cfgv i.2.2
def pwv (x : PW) : List Value := bcells x.1 ++ itemv x.2
def pwsv (l : List PW) : List Value := l.flatMap pwv
theorem cfgv_length {c : PCfg} (h : wfCfg c) : (cfgv c).length = 11 := by
  have := h.2.2.2
  simp [cfgv, cfgc, this]
theorem itemv_length {i : PItem} (h : wfItem i) : (itemv i).length = 13 := by
  simp [itemv, cfgv_length h.2]
def wfPW (x : PW) : Prop := x.1.length = 8 ∧ wfItem x.2
theorem pwv_length {x : PW} (h : wfPW x) : (pwv x).length = 21 := by
  simp [pwv, itemv_length h.2, h.1]
theorem cfgv_one (c : PCfg) : ∀ u ∈ cfgv c, u.oneCell' = true := by
  intro u hu
  simp only [cfgv, cfgc, List.mem_cons] at hu
  rcases hu with rfl | rfl | rfl | h
  · rfl
  · rfl
  · rfl
  · exact bcells_one _ u h
theorem itemv_one (i : PItem) : ∀ u ∈ itemv i, u.oneCell' = true := by
  intro u hu
  simp only [itemv, List.mem_cons] at hu
  rcases hu with rfl | rfl | h
  · rfl
  · rfl
  · exact cfgv_one _ u h
theorem pwv_one (x : PW) : ∀ u ∈ pwv x, u.oneCell' = true := by
  intro u hu
  rcases List.mem_append.1 hu with h | h
  · exact bcells_one _ u h
  · exact itemv_one _ u h

section
variable {w : World} {g : Nat} {l : List UInt8} {a : Option Addr} {cap : Nat}
theorem countC_put_le (n : Nat) (h : n < 4294967296) : (short n).length ≤ 10 := short_le (k := 9) (by omega)

set_option maxRecDepth 100000 in
set_option maxHeartbeats 1000000 in
theorem putItem_calls (h : Wr w 73 g l a cap) (i : PItem) (hi : wfItem i) (hl : l.length + 100 + i.2.1.length ≤ 1099511627776) :
    Calls Tryz.prog 82 #[.pointer (some ⟨g, 0, none⟩), .agg (itemv i).toArray] w fun e w' => e = .returned (.tuple #[]) ∧ WrTo w w' 73 g (l ++ itemC.put i) := by
  show Calls Tryz.prog 82 #[.pointer (some ⟨g, 0, none⟩), .agg (itemv i).toArray] w fun e w' => e = .returned (.tuple #[]) ∧ WrTo w w' 73 g (l ++ (short i.1 ++ (short i.2.1.length ++ i.2.1 ++ cfgC.put i.2.2)))
  have s1 := countC_put_le i.1 hi.1
  have s2 : (short i.2.1.length).length ≤ 10 := short_le (k := 9) (by omega)
  have i1 := hi.1
  have i1' : ((i.1 : Nat) : Int) < 4294967296 := by omega
  have hil := itemv_length hi
  have B0 := Blk.new w 32 (itemv i)
  have K0 := (Kept.refl No w).alloc (.cells (itemv i).toArray 32)
  have k0 := h.no K0
  have hnx := h.fresh K0 (Nat.le_refl _)
  have HN := Lib.hid (wnum_calls (h.keptOff K0 fun _ _ h => h) i.1 (by omega) (by omega))
  have L1 : (l ++ short i.1).length + 10 + i.2.1.length ≤ 1099511627776 := by rw [List.length_append]; omega
  have L2 : (l ++ short i.1 ++ (short i.2.1.length ++ i.2.1)).length + 50 ≤ 1099511627776 := by simp only [List.length_append]; omega
  have q0 : (w.alloc (.cells (itemv i).toArray 32)).cell? ⟨w.heap.size, 0, none⟩ = some (.int .u32 (i.1 : Nat)) := B0.cell 0
  clear h
  go_enter Tryz.func82, Tryz.ntmps82
  go_wp2_with fail
  refine HN.out.mono ?_
  rintro _ w1 ⟨rfl, k1⟩
  clear q0
  have b1 := B0.kept k1.kept hnx
  have n1 := k1.offs hnx B0.lt
  have c1 : w1.cell? ⟨w.heap.size, 1, none⟩ = some (.string ⟨i.2.1.toArray⟩) := b1.cell 1
  go_wp2_with fail
  refine (wtext_calls k1.wr.choose_spec.choose_spec i.2.1 (by omega) L1).mono ?_
  rintro _ w2 ⟨rfl, k2⟩
  clear c1
  have b2 := b1.kept k2.kept n1
  have n2 := k2.offs n1 b1.lt
  have sg : Seg w2 w.heap.size 2 (cfgv i.2.2) := b2.seg 2 _ (by simp [itemv])
  have hcl := cfgv_length hi.2
  go_wp2_with (first
    | (with_reducible refine wpList_ld rfl 30 _ rfl Tryz.isAgg30 11 Tryz.sizeOf30 w.heap.size 2 rfl (cfgv i.2.2) hcl sg ?_)
    | (go_at_call 116; refine (putCfg_calls k2.wr.choose_spec.choose_spec i.2.2 hi.2 L2).mono ?_; rintro _ w3 ⟨rfl, k3⟩))
  go_end0
  refine ⟨rfl, ?_⟩
  have hk := k0.trans (k1.trans (k2.trans k3))
  simpa using hk

theorem flat_at {α : Type} (f : α → List Value) (n : Nat) : ∀ (ws : List α), (∀ x ∈ ws, (f x).length = n) → ∀ (k : Nat) (hk : k < ws.length), ((ws.flatMap f).drop (k * n)).take n = f ws[k]
  | [], _, k, hk => absurd hk (by simp)
  | x :: ws, h, 0, _ => by simp [← h x (by simp)]
  | x :: ws, h, k + 1, hk => by
    have ih := flat_at f n ws (fun y hy => h y (by simp [hy])) k (by simpa using hk)
    have e : (k + 1) * n = (f x).length + k * n := by rw [h x (by simp), Nat.add_mul, Nat.one_mul, Nat.add_comm]
    rw [List.flatMap_cons, e, ← List.drop_drop, List.drop_left, ih]
    rfl
theorem writeC_put (x : PW) : writeC.put x = x.1 ++ itemC.put x.2 := rfl
theorem itemC_put_ge (i : PItem) : i.2.1.length ≤ (itemC.put i).length := by
  show _ ≤ (short i.1 ++ (short i.2.1.length ++ i.2.1 ++ cfgC.put i.2.2)).length
  simp only [List.length_append]; omega
theorem puts_take_len {α : Type} (c : Codec α) (ws : List α) (k : Nat) (hk : k < ws.length) : (c.puts (ws.take k)).length + (c.put ws[k]).length ≤ (c.puts ws).length := by
  have e : c.puts ws = c.puts (ws.take k) ++ (c.put ws[k] ++ c.puts (ws.drop (k + 1))) := by
    have h := congrArg c.puts (List.take_append_drop k ws)
    rw [List.drop_eq_getElem_cons hk] at h
    rw [← h]
    simp only [Codec.puts, List.flatMap_append, List.flatMap_cons]
  rw [e]; simp only [List.length_append]; omega
theorem puts_step {α : Type} (c : Codec α) (ws : List α) (k : Nat) (hk : k < ws.length) : c.puts (ws.take (k + 1)) = c.puts (ws.take k) ++ c.put ws[k] := by
  rw [List.take_succ_eq_append_getElem hk]; simp only [Codec.puts, List.flatMap_append, List.flatMap_cons, List.flatMap_nil, List.append_nil]

def PwRel (w0 : World) (T : TypeId) (g : Nat) (l : List UInt8) (ws : List PW) (ad : Option Addr) (i : Value) (wr : World) : Prop :=
  ∃ k : Nat, k ≤ ws.length ∧ i = .int .i64 k ∧ WrTo w0 wr T g (l ++ (short ws.length ++ writeC.puts (ws.take k))) ∧ Rd wr ad (pwsv ws) ∧ ∀ b, At ad b → b < wr.heap.size ∧ ¬ WrS wr T g b

set_option maxRecDepth 100000 in
set_option maxHeartbeats 1000000 in
theorem putWrites_calls (h : Wr w 73 g l a cap) (ws : List PW) (n : Nat) (hn : ws.length = n) (ad : Option Addr) (c : Nat) (hw : ∀ x ∈ ws, wfPW x) (hr : Rd w ad (pwsv ws)) (hoff : ∀ b, At ad b → b < w.heap.size ∧ ¬ WrS w 73 g b)
    (hl : l.length + (writesC.put ws).length + 200 ≤ 1099511627776) (hws : n ≤ 1099511627776) :
    Calls Tryz.prog 83 #[.pointer (some ⟨g, 0, none⟩), .slice ad n c] w fun e w' => e = .returned (.tuple #[]) ∧ WrTo w w' 73 g (l ++ writesC.put ws) := by
  subst hn
  have hput : writesC.put ws = short ws.length ++ writeC.puts ws := rfl
  rw [hput] at hl ⊢
  clear hput
  rw [List.length_append] at hl
  have s1 : (short ws.length).length ≤ 10 := short_le (k := 9) (by omega)
  have HN := Lib.hid (wnum_calls h ws.length (by omega) (by omega))
  clear h
  go_enter Tryz.func83, Tryz.ntmps83
  go_wp2_with (go_at_call 79; refine HN.out.mono ?_; rintro _ w1 ⟨rfl, k1⟩)
  have R1 := hr.kept k1.kept fun b hb => (hoff b hb).2
  have O1 : ∀ b, At ad b → b < w1.heap.size ∧ ¬ WrS w1 73 g b := fun b hb => ⟨k1.kept.lt (hoff b hb).1, k1.offs (hoff b hb).2 (hoff b hb).1⟩
  clear hr hoff HN
  go_loopw [5, 13] (fun _ i wr => PwRel w 73 g l ws ad i wr) (fun _ i _ => ws.length - (intOf i).toNat)
  case atStart => exact ⟨0, by omega, rfl, by simpa [Codec.puts] using k1, R1, O1⟩
  case round =>
    obtain ⟨k, hk, rfl, hv, hr, hoff⟩ := hrel
    by_cases hlt : k < ws.length
    · have i0 : (0 : Int) ≤ k := by omega
      have i1 : (k : Int) < ws.length := by omega
      obtain ⟨x, hx⟩ : ∃ x, ws[k] = x := ⟨_, rfl⟩
      have wx : wfPW x := hx ▸ hw _ (List.getElem_mem hlt)
      have xl := pwv_length wx
      have fa := flat_at pwv 21 ws (fun y hy => pwv_length (hw y hy)) k hlt
      rw [hx] at fa
      obtain ⟨b, o, rfl, hbl⟩ := hr.addr (by
        have : pwv x ≠ [] := fun e => by rw [e] at xl; simp at xl
        cases e : pwsv ws with
        | nil => unfold pwsv at e; rw [e] at fa; simp at fa; exact absurd fa this
        | cons y z => simp)
      have sg : Seg wr b (o + k * 21) (pwv x) := (Seg.ofRd hr).sub (k * 21) _ (by rw [xl]; exact fa)
      have hpl := puts_take_len writeC ws k hlt
      have hst := puts_step writeC ws k hlt
      rw [hx] at hpl hst
      have hige := itemC_put_ge x.2
      rw [writeC_put, List.length_append, wx.1] at hpl
      have K0 := (Kept.refl No wr).alloc (.cells (pwv x).toArray 69)
      have B0 := Blk.new wr 69 (pwv x)
      have hnx := hv.wr.choose_spec.choose_spec.fresh K0 (Nat.le_refl _)
      have HK := Lib.hid (wkey_calls (hv.wr.choose_spec.choose_spec.keptOff K0 fun _ _ h => h) x.1 wx.1 (by simp only [List.length_append]; omega))
      have L2 : (l ++ (short ws.length ++ writeC.puts (List.take k ws)) ++ x.1).length + 100 + x.2.2.1.length ≤ 1099511627776 := by simp only [List.length_append, wx.1]; omega
      have k0 := hv.wr.choose_spec.choose_spec.no K0
      have sk : Seg (wr.alloc (.cells (pwv x).toArray 69)) wr.heap.size 0 (bcells x.1) := B0.seg 0 _ (by simp [pwv])
      have l8 : (bcells x.1).length = 8 := by rw [bcells_length, wx.1]
      have l13 := itemv_length wx.2
      have HX := Lib.hid hx
      have HP := Lib.hid hst
      clear fa hx hpl hst
      go_wp2_with (first
        | (with_reducible refine wpList_ld rfl 69 _ rfl Tryz.isAgg69 21 Tryz.sizeOf69 b (o + k * 21) rfl (pwv x) xl sg ?_)
        | (with_reducible refine wpList_st_last rfl 69 _ _ rfl 21 Tryz.sizeOf69 wr.heap.size rfl rfl (pwv x) rfl xl _ _ rfl (pwv_one x) ?_)
        | (with_reducible refine wpList_ld rfl 28 _ rfl Tryz.isAgg28 8 Tryz.sizeOf28 wr.heap.size 0 rfl (bcells x.1) l8 sk ?_)
        | (go_at_call 81; refine HK.out.mono ?_; rintro _ w2 ⟨rfl, k2⟩; have b2 := B0.kept k2.kept hnx; have s2 : Seg w2 wr.heap.size 8 (itemv x.2) := b2.seg 8 _ (by simp [pwv, wx.1]))
        | (with_reducible refine wpList_ld rfl 32 _ rfl Tryz.isAgg32 13 Tryz.sizeOf32 wr.heap.size 8 rfl (itemv x.2) l13 s2 ?_)
        | (go_at_call 82; refine (putItem_calls k2.wr.choose_spec.choose_spec x.2 wx.2 L2).mono ?_; rintro _ w3 ⟨rfl, k3⟩))
      have hk := k0.trans (k2.trans k3)
      refine ⟨⟨k + 1, by omega, by go_num, ?_, hr.kept hk.kept fun b hb => (hoff b hb).2, fun b hb => ⟨hk.kept.lt (hoff b hb).1, hk.offs (hoff b hb).2 (hoff b hb).1⟩⟩, by simp [intOf]; omega⟩
      have := hv.trans hk
      rw [HP.out, writeC_put]
      simpa using this
    · have i1 : (ws.length : Int) ≤ k := by omega
      go_wp2
      go_end0
      rw [show ws.take k = ws from List.take_of_length_le (by omega)] at hv
      exact ⟨rfl, hv⟩
end
end Go.Proofs.YtjfmidcaekhhgaaGreatDoor
