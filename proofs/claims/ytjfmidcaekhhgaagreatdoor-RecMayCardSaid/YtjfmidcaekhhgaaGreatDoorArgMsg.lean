/- What arguments read as: configurations and rows of eight bytes (over CfM). What arguments read as: items, writes, messages. What the argument of package parrellaw10's laws reads as: a message. -/
import Derived.Test.YtjfmidcaekhhgaaGreatDoorCfM
import Derived.Test.YtjfmidcaekhhgaaGreatDoorArgsA
import Derived.Test.YtjfmidcaekhhgaaGreatDoorMsMay
import Derived.Test.YtjfmidcaekhhgaaGreatDoorFrame
namespace Go.Proofs.YtjfmidcaekhhgaaGreatDoor
open Go.ChangeShapes Go.WideShapes Go.ChangeAt Go.RowKit Go.PM
set_option maxRecDepth 100000

theorem Tryz.cellsCfg : Tryz.prog.cellsOf 30 = 11 := by kernel_rfl
theorem Tryz.cellsArr8 : Tryz.prog.cellsOf 27 = 8 := by kernel_rfl
theorem Tryz.acellsByte : Tryz.prog.cellsOf 5 = 1 := by kernel_rfl
theorem Tryz.acellsU32 : Tryz.prog.cellsOf 22 = 1 := by kernel_rfl

theorem okWide_arr {W : World} {b t n e : Nat} {v : Value} (ht : Tryz.prog.underlying t = some (.array n e)) (h : Value.okWide Tryz.prog W .any b t v) : ∃ cs, v = .agg cs := by
  unfold Value.okWide at h
  rw [ht] at h
  obtain ⟨cs, e, _⟩ := h
  exact ⟨cs, e⟩

section
variable {H : Type} {enc : TypeId × Value → H} {W : World} {fuel : Nat} {x : DataW H × List MemPlace} {cs : List Value}

theorem open_u8s (n : Nat) (T : TypeId) (hT : Tryz.prog.underlying T = some (.array n 5)) (hn : Tryz.prog.cellsOf T = n) (h : DataW.trod enc Tryz.prog W 0 (fun _ => true) true fuel T cs = some x) : ∃ l : List UInt8, cs = bcells l ∧ l.length = n := by
  obtain ⟨xs, m, _, _, hl, hxs, hf⟩ := DataW.trod_array hT h
  rw [hn] at hl
  have key : ∀ j, j < n → ∃ b : UInt8, cs[j]? = some (.int .u8 b.toNat) := by
    intro j hj
    have g := hf j hj
    rw [Tryz.acellsByte, Nat.mul_one, List.getElem?_eq_getElem (by omega)] at g
    obtain ⟨k, e0, _, w0⟩ := DataW.trod_int Tryz.underlying5 g
    have b0 := bounds_u8 w0
    refine ⟨UInt8.ofNat k.toNat, ?_⟩
    have h1 : cs[j]? = some (.int .u8 k) := by
      have h2 : ((cs.drop j).take 1)[0]? = some (.int .u8 k) := by rw [e0]; rfl
      rw [List.getElem?_take] at h2
      simpa using h2
    rw [h1]
    have e : ((UInt8.ofNat k.toNat).toNat : Int) = k := by
      rw [UInt8.toNat_ofNat']
      omega
    rw [e]
  refine ⟨(List.finRange n).map fun j => Classical.choose (key j.1 j.2), ?_, by simp⟩
  apply List.ext_getElem?
  intro j
  by_cases hj : j < n
  · have h1 := Classical.choose_spec (key j hj)
    rw [h1]
    simp [bcells, hj]
  · rw [List.getElem?_eq_none (by omega), List.getElem?_eq_none (by simp; omega)]

theorem open_arr8 (h : DataW.trod enc Tryz.prog W 0 (fun _ => true) true fuel 27 cs = some x) : ∃ l : List UInt8, cs = bcells l ∧ l.length = 8 := open_u8s 8 _ Tryz.underlying27 Tryz.cellsArr8 h

theorem open_cfg (h : DataW.trod enc Tryz.prog W 0 (fun _ => true) true fuel 30 cs = some x) : ∃ (e r v : Nat) (l : List UInt8), cs = cfgc e r v l ∧ l.length = 8 ∧ e < 4294967296 ∧ r < 256 ∧ v < 256 := by
  obtain ⟨xs, n, _, _, hl, hxs, hf⟩ := DataW.trod_struct Tryz.underlying30 h
  rw [Tryz.cellsCfg] at hl
  have hxs' : xs.length = 4 := hxs
  have g0 := hf 0 _ rfl
  have g1 := hf 1 _ rfl
  have g2 := hf 2 _ rfl
  have g3 := hf 3 _ rfl
  match cs, hl with
  | [a0, a1, a2, a3, a4, a5, a6, a7, a8, a9, a10], _ =>
  simp only [List.getElem_toArray, List.getElem_cons_zero, List.getElem_cons_succ, Tryz.acellsByte, Tryz.acellsU32, Tryz.cellsArr8, List.drop_zero, List.drop_succ_cons, List.take_succ_cons, List.take_zero] at g0 g1 g2 g3
  rw [List.getElem?_eq_getElem (by omega)] at g0 g1 g2 g3
  obtain ⟨k, e0, _, w0⟩ := DataW.trod_int Tryz.underlying22 g0
  obtain ⟨i, e1, _, w1⟩ := DataW.trod_int Tryz.underlying5 g1
  obtain ⟨j, e2, _, w2⟩ := DataW.trod_int Tryz.underlying5 g2
  obtain ⟨l, e3, hl3⟩ := open_arr8 g3
  simp only [List.cons.injEq, and_true] at e0 e1 e2
  subst e0; subst e1; subst e2
  have b0 := bounds_u32 w0
  have b1 := bounds_u8 w1
  have b2 := bounds_u8 w2
  refine ⟨k.toNat, i.toNat, j.toNat, l, ?_, hl3, by omega, by omega, by omega⟩
  rw [cfgc, ← e3, show ((k.toNat : Nat) : Int) = k by omega, show ((i.toNat : Nat) : Int) = i by omega, show ((j.toNat : Nat) : Int) = j by omega]
end
end Go.Proofs.YtjfmidcaekhhgaaGreatDoor

namespace Go.PM
open Go.RowKit
theorem flat_get {α : Type} (f : α → List Value) (k : Nat) (hk : 0 < k) : ∀ (l : List α) (j : Nat), (∀ m ∈ l, (f m).length = k) → (l.flatMap f)[j]? = (l[j / k]?).bind fun m => (f m)[j % k]?
  | [], j, _ => by simp
  | m :: l, j, h => by
    have hm := h m (by simp)
    rw [List.flatMap_cons]
    by_cases hj : j < k
    · rw [List.getElem?_append_left (by omega), Nat.div_eq_of_lt hj, Nat.mod_eq_of_lt hj]; rfl
    · rw [List.getElem?_append_right (by omega), hm, flat_get f k hk l (j - k) fun x hx => h x (by simp [hx])]
      have h1 : j / k = (j - k) / k + 1 := by rw [← Nat.add_div_right _ hk, Nat.sub_add_cancel (by omega)]
      have h2 : j % k = (j - k) % k := by rw [Nat.mod_eq_sub_mod (by omega)]
      rw [h1, h2, List.getElem?_cons_succ]
theorem InS.rdFlat {E : Type} {k : Nat} {cells : E → List Value} {good : World → E → Prop} {W : World} {a : Option Addr} {c : Nat} {l : List E} (h : InS k cells good W a c l) (hk : 0 < k) (hl : ∀ m ∈ l, (cells m).length = k) : Rd W a (l.flatMap cells) := by
  intro j v hj
  rw [flat_get cells k hk l j hl, Option.bind_eq_some_iff] at hj
  obtain ⟨m, hm, hv⟩ := hj
  obtain ⟨b, o, e, hc⟩ := h.rd _ m hm
  refine ⟨b, o, e, ?_⟩
  have := hc _ v hv
  rwa [Nat.add_assoc, Nat.mul_comm, Nat.div_add_mod] at this
end Go.PM
namespace Go.Proofs.YtjfmidcaekhhgaaGreatDoor
open Go.ChangeShapes Go.WideShapes Go.ChangeAt Go.RowKit Go.PM
set_option maxRecDepth 100000

theorem Tryz.cellsTxM : Tryz.prog.cellsOf 24 = 3 := by kernel_rfl
theorem Tryz.cellsRegM : Tryz.prog.cellsOf 26 = 2 := by kernel_rfl
theorem Tryz.cellsKeyM : Tryz.prog.cellsOf 28 = 8 := by kernel_rfl
theorem Tryz.cellsItemM : Tryz.prog.cellsOf 32 = 13 := by kernel_rfl
theorem Tryz.cellsWriteM : Tryz.prog.cellsOf 69 = 21 := by kernel_rfl
theorem Tryz.cellsWritesM : Tryz.prog.cellsOf 33 = 1 := by kernel_rfl
theorem Tryz.cellsStrM : Tryz.prog.cellsOf 9 = 1 := by kernel_rfl

theorem u8_nat {k : Int} (w : (Lit.int .u8 k).wf = true) : ∃ n : Nat, k = n ∧ n < 256 := by
  have b0 := bounds_u8 w
  exact ⟨k.toNat, by omega, by omega⟩
theorem u32_nat {k : Int} (w : (Lit.int .u32 k).wf = true) : ∃ n : Nat, k = n ∧ n < 4294967296 := by
  have b0 := bounds_u32 w
  exact ⟨k.toNat, by omega, by omega⟩
theorem cut_at {α : Type} (cs : List α) (k m : Nat) : cs.drop k = (cs.drop k).take m ++ cs.drop (k + m) := by
  conv => lhs; rw [← List.take_append_drop m (cs.drop k), List.drop_drop]

section
variable {H : Type} {enc : TypeId × Value → H} {W : World} {fuel : Nat} {x : DataW H × List MemPlace} {cs : List Value}
theorem open_keyM (h : DataW.trod enc Tryz.prog W 0 (fun _ => true) true fuel 28 cs = some x) : ∃ l : List UInt8, cs = bcells l ∧ l.length = 8 := open_u8s 8 _ Tryz.underlying28 Tryz.cellsKeyM h
theorem open_txM (h : DataW.trod enc Tryz.prog W 0 (fun _ => true) true fuel 24 cs = some x) : ∃ t : PTx, cs = txv t ∧ wfTx t := by
  obtain ⟨xs, n, _, _, hl, hxs, hf⟩ := DataW.trod_struct Tryz.underlying24 h
  rw [Tryz.cellsTxM] at hl
  have hxs' : xs.length = 3 := hxs
  match cs, hl with
  | [c0, c1, c2], _ =>
  have g0 := hf 0 _ rfl
  have g1 := hf 1 _ rfl
  have g2 := hf 2 _ rfl
  simp only [List.getElem_toArray, List.getElem_cons_zero, List.getElem_cons_succ, Tryz.acellsByte, Tryz.acellsU32, List.drop_zero, List.drop_succ_cons, List.take_succ_cons, List.take_zero] at g0 g1 g2
  rw [List.getElem?_eq_getElem (by omega)] at g0 g1 g2
  obtain ⟨k0, e0, _, w0⟩ := DataW.trod_int Tryz.underlying5 g0
  obtain ⟨k1, e1, _, w1⟩ := DataW.trod_int Tryz.underlying22 g1
  obtain ⟨k2, e2, _, w2⟩ := DataW.trod_int Tryz.underlying22 g2
  obtain ⟨n0, rfl, b0⟩ := u8_nat w0
  obtain ⟨n1, rfl, b1⟩ := u32_nat w1
  obtain ⟨n2, rfl, b2⟩ := u32_nat w2
  simp only [List.cons.injEq, and_true] at e0 e1 e2
  subst e0; subst e1; subst e2
  exact ⟨(n0, n1, n2), rfl, b0, b1, b2⟩
theorem open_regM (h : DataW.trod enc Tryz.prog W 0 (fun _ => true) true fuel 26 cs = some x) : ∃ t : PReg, cs = regv t ∧ wfReg t := by
  obtain ⟨xs, n, _, _, hl, hxs, hf⟩ := DataW.trod_struct Tryz.underlying26 h
  rw [Tryz.cellsRegM] at hl
  have hxs' : xs.length = 2 := hxs
  match cs, hl with
  | [c0, c1], _ =>
  have g0 := hf 0 _ rfl
  have g1 := hf 1 _ rfl
  simp only [List.getElem_toArray, List.getElem_cons_zero, List.getElem_cons_succ, Tryz.acellsU32, List.drop_zero, List.drop_succ_cons, List.take_succ_cons, List.take_zero] at g0 g1
  rw [List.getElem?_eq_getElem (by omega)] at g0 g1
  obtain ⟨k0, e0, _, w0⟩ := DataW.trod_int Tryz.underlying22 g0
  obtain ⟨k1, e1, _, w1⟩ := DataW.trod_int Tryz.underlying22 g1
  obtain ⟨n0, rfl, b0⟩ := u32_nat w0
  obtain ⟨n1, rfl, b1⟩ := u32_nat w1
  simp only [List.cons.injEq, and_true] at e0 e1
  subst e0; subst e1
  exact ⟨(n0, n1), rfl, b0, b1⟩
theorem open_itemM (h : DataW.trod enc Tryz.prog W 0 (fun _ => true) true fuel 32 cs = some x) (hz : Light Tryz.prog 32 x.1) : ∃ i : PItem, cs = itemv i ∧ wfItem i ∧ i.2.1.length ≤ 140737488355328 := by
  obtain ⟨xs, n, _, hx, hl, hxs, hf⟩ := DataW.trod_struct Tryz.underlying32 h
  rw [hx] at hz
  rw [Tryz.cellsItemM] at hl
  have hxs' : xs.length = 3 := hxs
  have g0 := hf 0 _ rfl
  have g1 := hf 1 _ rfl
  have g2 := hf 2 _ rfl
  simp only [List.getElem_toArray, List.getElem_cons_zero, List.getElem_cons_succ, Tryz.acellsU32, Tryz.cellsStrM, Tryz.cellsCfg, List.drop_zero] at g0 g1 g2
  rw [List.getElem?_eq_getElem (by omega)] at g0 g1 g2
  obtain ⟨k0, e0, _, w0⟩ := DataW.trod_int Tryz.underlying22 g0
  obtain ⟨s, e1, x1, _⟩ := DataW.trod_string Tryz.underlying9 g1
  obtain ⟨ep, r, v, l, e2, hl8, he, hr, hv⟩ := open_cfg g2
  obtain ⟨n0, rfl, b0⟩ := u32_nat w0
  refine ⟨(n0, s.data.toList, ep, r, v, l), ?_, ⟨b0, he, hr, hv, hl8⟩, ?_⟩
  · have h2 : (cs.drop 2).take 11 = cs.drop 2 := List.take_of_length_le (by rw [List.length_drop]; omega)
    rw [h2] at e2
    have h0 : cs = cs.take 1 ++ ((cs.drop 1).take 1 ++ cs.drop 2) := by
      rw [← cut_at cs 1 1]; exact (List.take_append_drop 1 cs).symm
    rw [h0, e0, e1, e2]
    rfl
  · have := (hz.part (d := .lit (.string s.data.toList)) Tryz.underlying32 (j := 1) rfl (by rw [List.getElem?_map, List.getElem?_eq_getElem (by omega), x1]; rfl)).str
    show s.data.toList.length ≤ _
    omega
/-- A write that came in. -/
abbrev EW : Type := { x : PW // wfPW x }
theorem open_writeM (h : DataW.trod enc Tryz.prog W 0 (fun _ => true) true fuel 69 cs = some x) (hz : Light Tryz.prog 69 x.1) : ∃ p : EW, cs = pwv p.1 ∧ p.1.2.2.1.length ≤ 140737488355328 := by
  obtain ⟨xs, n, _, hx, hl, hxs, hf⟩ := DataW.trod_struct Tryz.underlying69 h
  rw [hx] at hz
  rw [Tryz.cellsWriteM] at hl
  have hxs' : xs.length = 2 := hxs
  have g0 := hf 0 _ rfl
  have g1 := hf 1 _ rfl
  simp only [List.getElem_toArray, List.getElem_cons_zero, List.getElem_cons_succ, Tryz.cellsKeyM, Tryz.cellsItemM, List.drop_zero] at g0 g1
  rw [List.getElem?_eq_getElem (by omega)] at g0 g1
  obtain ⟨k, e0, hk⟩ := open_keyM g0
  obtain ⟨i, e1, hi, hs⟩ := open_itemM g1 (hz.part Tryz.underlying69 (j := 1) rfl (by rw [List.getElem?_map, List.getElem?_eq_getElem (by omega)]; rfl))
  refine ⟨⟨(k, i), hk, hi⟩, ?_, hs⟩
  have h2 : (cs.drop 8).take 13 = cs.drop 8 := List.take_of_length_le (by rw [List.length_drop]; omega)
  rw [h2] at e1
  rw [pwv, ← e0, ← e1, List.take_append_drop]
theorem open_writesM (h : DataW.trod enc Tryz.prog W 0 (fun _ => true) true fuel 33 cs = some x) (hz : Light Tryz.prog 33 x.1) :
    ∃ (a : Option Addr) (c : Nat) (l : List PW), cs = [.slice a l.length c] ∧ (∀ p ∈ l, wfPW p ∧ p.2.2.1.length ≤ 140737488355328) ∧ Rd W a (pwsv l) ∧ l.length ≤ c ∧ l.length ≤ 140737488351232 ∧ (a = none → c = 0) := by
  obtain ⟨a, c, l, e, hI⟩ := open_slice_z (cells := fun p : EW => pwv p.1) (good := fun _ p => p.1.2.2.1.length ≤ 140737488355328) Tryz.underlying33 Tryz.cellsWriteM (by decide) (fun p => pwv_length p.2) (fun h hz => open_writeM h hz) h hz
  rw [e] at h
  have hre := slice_reach Tryz.underlying33 (of_decide_eq_true (by kernel_rfl)) h hz
  refine ⟨a, c, l.map Subtype.val, by simpa using e, ?_, ?_, by simpa using hI.le, by simpa using hre, hI.nil⟩
  · intro p hp
    obtain ⟨q, hq, rfl⟩ := List.mem_map.1 hp
    exact ⟨q.2, hI.each q hq⟩
  · have := hI.rdFlat (by decide) fun p _ => pwv_length p.2
    unfold pwsv
    rwa [List.flatMap_map]
end
end Go.Proofs.YtjfmidcaekhhgaaGreatDoor

namespace Go.Proofs.YtjfmidcaekhhgaaGreatDoor
open Go.ChangeShapes Go.WideShapes Go.ChangeAt Go.RowKit Go.PM
set_option maxRecDepth 100000

theorem Tryz.cellsMsgM : Tryz.prog.cellsOf 35 = 33 := by kernel_rfl
/-- A slice's block is there. -/
theorem has_lt {P : Program} {w : World} {r : Reach} {base : Nat} {a : Addr} {e : TypeId} {n : Nat} (h : w.has P r base a e n) : a.block < w.heap.size := by
  obtain ⟨_, _, row, cells, hs, _⟩ := h
  unfold World.shape? at hs
  rcases Nat.lt_or_ge a.block w.heap.size with h1 | h1
  · exact h1
  · rw [Array.getElem?_eq_none (by omega)] at hs; simp at hs
theorem cell_lt {P : Program} {w : World} {r : Reach} {base : Nat} {t e : TypeId} {a : Option Addr} {n c : Nat} (ht : P.underlying t = some (.slice e)) (h : Cell.okWide P w r base t (.slice a n c)) : ∀ b, At a b → b < w.heap.size := by
  rintro b ⟨g, o, rfl, rfl⟩
  unfold Cell.okWide at h
  rw [ht] at h
  simp only at h
  unfold Cell.ok at h
  rw [ht] at h
  simp only at h
  exact has_lt h.2.2
section
variable {H : Type} {enc : TypeId × Value → H} {W : World} {fuel : Nat} {x : DataW H × List MemPlace} {cs : List Value}
theorem open_msgM (h : DataW.trod enc Tryz.prog W 0 (fun _ => true) true fuel 35 cs = some x) (hz : Light Tryz.prog 35 x.1) :
    ∃ (m : PMsg) (a : Option Addr) (c : Nat), cs = msgv m a c ∧ m.Wf ∧ m.Sm ∧ Rd W a (pwsv m.writes) ∧ m.writes.length ≤ c ∧ (a = none → c = 0) := by
  obtain ⟨xs, n, _, hx, hl, hxs, hf⟩ := DataW.trod_struct Tryz.underlying35 h
  rw [hx] at hz
  rw [Tryz.cellsMsgM] at hl
  have hxs' : xs.length = 11 := hxs
  have g0 := hf 0 _ rfl
  have g1 := hf 1 _ rfl
  have g2 := hf 2 _ rfl
  have g3 := hf 3 _ rfl
  have g4 := hf 4 _ rfl
  have g5 := hf 5 _ rfl
  have g6 := hf 6 _ rfl
  have g7 := hf 7 _ rfl
  have g8 := hf 8 _ rfl
  have g9 := hf 9 _ rfl
  have g10 := hf 10 _ rfl
  simp only [List.getElem_toArray, List.getElem_cons_zero, List.getElem_cons_succ, Tryz.acellsByte, Tryz.acellsU32, Tryz.cellsTxM, Tryz.cellsRegM, Tryz.cellsKeyM, Tryz.cellsItemM, Tryz.cellsWritesM, List.drop_zero] at g0 g1 g2 g3 g4 g5 g6 g7 g8 g9 g10
  rw [List.getElem?_eq_getElem (by omega)] at g0 g1 g2 g3 g4 g5 g6 g7 g8 g9 g10
  obtain ⟨k0, e0, _, w0⟩ := DataW.trod_int Tryz.underlying5 g0
  obtain ⟨tx, e1, b1⟩ := open_txM g1
  obtain ⟨k2, e2, _, w2⟩ := DataW.trod_int Tryz.underlying22 g2
  obtain ⟨reg, e3, b3⟩ := open_regM g3
  obtain ⟨key, e4, b4⟩ := open_keyM g4
  obtain ⟨k5, e5, _, w5⟩ := DataW.trod_int Tryz.underlying5 g5
  obtain ⟨k6, e6, _, w6⟩ := DataW.trod_int Tryz.underlying22 g6
  obtain ⟨k7, e7, _, w7⟩ := DataW.trod_int Tryz.underlying5 g7
  obtain ⟨k8, e8, _, w8⟩ := DataW.trod_int Tryz.underlying5 g8
  obtain ⟨item, e9, b9, s9⟩ := open_itemM g9 (hz.part Tryz.underlying35 (j := 9) rfl (by rw [List.getElem?_map, List.getElem?_eq_getElem (by omega)]; rfl))
  obtain ⟨a, c, ws, e10, hws, hrd, hle, hmx, hnil⟩ := open_writesM g10 (hz.part Tryz.underlying35 (j := 10) rfl (by rw [List.getElem?_map, List.getElem?_eq_getElem (by omega)]; rfl))
  obtain ⟨kind, rfl, b0⟩ := u8_nat w0
  obtain ⟨time, rfl, b2⟩ := u32_nat w2
  obtain ⟨mode, rfl, b5⟩ := u8_nat w5
  obtain ⟨no, rfl, b6⟩ := u32_nat w6
  obtain ⟨why, rfl, b7⟩ := u8_nat w7
  obtain ⟨yes, rfl, b8⟩ := u8_nat w8
  refine ⟨⟨kind, tx, time, reg, key, mode, no, why, yes, item, ws⟩, a, c, ?_, ⟨b0, b1, b2, b3, b4, b5, b6, b7, b8, b9, fun p hp => (hws p hp).1⟩, ⟨s9, fun p hp => (hws p hp).2, Nat.le_trans hmx (by decide)⟩, hrd, hle, hnil⟩
  · have c32 : (cs.drop 32).take 1 = cs.drop 32 := List.take_of_length_le (by rw [List.length_drop]; omega)
    rw [c32] at e10
    have h0 : cs = cs.take 1 ++ ((cs.drop 1).take 3 ++ ((cs.drop 4).take 1 ++ ((cs.drop 5).take 2 ++ ((cs.drop 7).take 8 ++ ((cs.drop 15).take 1 ++ ((cs.drop 16).take 1 ++ ((cs.drop 17).take 1 ++ ((cs.drop 18).take 1 ++ ((cs.drop 19).take 13 ++ cs.drop 32))))))))) := by
      rw [← cut_at cs 19 13, ← cut_at cs 18 1, ← cut_at cs 17 1, ← cut_at cs 16 1, ← cut_at cs 15 1, ← cut_at cs 7 8, ← cut_at cs 5 2, ← cut_at cs 4 1, ← cut_at cs 1 3]
      exact (List.take_append_drop 1 cs).symm
    rw [h0, e0, e1, e2, e3, e4, e5, e6, e7, e8, e9, e10]
    simp [msgv]
end
theorem msgv_at32 {m : PMsg} (h : m.Wf) (a : Option Addr) (c : Nat) : (msgv m a c)[32]? = some (.slice a m.writes.length c) := by
  have hk := h.key
  have hi := h.item
  clear h
  obtain ⟨kind, tx, time, reg, key, mode, no, why, yes, ⟨e, t, e1, e2, e3, u⟩, writes⟩ := m
  simp only at hk
  obtain ⟨b0, b1, b2, b3, b4, b5, b6, b7, rfl⟩ := list8 key hk
  obtain ⟨c0, c1, c2, c3, c4, c5, c6, c7, rfl⟩ := list8 u hi.2.2.2.2
  rfl
theorem okWide_msg {W : World} {base : Nat} {m : PMsg} (hm : m.Wf) {a : Option Addr} {c : Nat} (h : Value.okWide Tryz.prog W .any base 35 (.agg (msgv m a c).toArray)) : ∀ b, At a b → b < W.heap.size := by
  unfold Value.okWide at h
  rw [Tryz.underlying35] at h
  obtain ⟨cs, e, _, ts, h1, _, h2⟩ := h
  cases e
  have h3 := h2 32 (.slice a m.writes.length c) (by rw [List.getElem?_toArray, msgv_at32 hm])
  obtain ⟨u, hu, hok⟩ := h3
  have hts : (Tryz.prog.cellTypes Tryz.prog.depth 35).map (fun l => (l.length, l[32]?)) = some (33, some 33) := by kernel_rfl
  rw [h1] at hts
  simp only [Option.map_some, Option.some.injEq, Prod.mk.injEq] at hts
  rw [hts.1, Nat.mod_eq_of_lt (by decide), hts.2] at hu
  cases hu
  exact cell_lt Tryz.underlying33 hok
end Go.Proofs.YtjfmidcaekhhgaaGreatDoor
