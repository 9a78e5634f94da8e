/- What the argument of package parrellaw11's laws reads as: a record. -/
import Derived.Test.YtjfmidcaekhhgaaGreatDoorArgMsg
import Derived.Test.YtjfmidcaekhhgaaGreatDoorRcM
namespace Go.Proofs.YtjfmidcaekhhgaaGreatDoor
open Go.ChangeShapes Go.WideShapes Go.ChangeAt Go.RowKit Go.PM
set_option maxRecDepth 100000

theorem Tryz.cellsRecM : Tryz.prog.cellsOf 50 = 31 := by kernel_rfl
theorem Tryz.cellsU64M : Tryz.prog.cellsOf 47 = 1 := by kernel_rfl
theorem Tryz.cellsSetsM : Tryz.prog.cellsOf 48 = 1 := by kernel_rfl
theorem u64_nat {k : Int} (w : (Lit.int .u64 k).wf = true) : ∃ n : Nat, k = n ∧ n < 18446744073709551616 := by
  have b0 := bounds_u64 w
  exact ⟨k.toNat, by omega, by omega⟩
section
variable {H : Type} {enc : TypeId × Value → H} {W : World} {fuel : Nat} {x : DataW H × List MemPlace} {cs : List Value}
theorem open_setsM (h : DataW.trod enc Tryz.prog W 0 (fun _ => true) true fuel 48 cs = some x) (hz : Light Tryz.prog 48 x.1) :
    ∃ (a : Option Addr) (c : Nat) (l : List Nat), cs = [.slice a l.length c] ∧ (∀ n ∈ l, n < 18446744073709551616) ∧ Rd W a (ucells l) ∧ l.length ≤ c ∧ l.length ≤ 140737488351232 ∧ (a = none → c = 0) := by
  obtain ⟨a, c, l, e, hI⟩ := open_intl Tryz.underlying48 Tryz.underlying47 Tryz.cellsU64M h
  rw [e] at h
  have hre := slice_reach Tryz.underlying48 (of_decide_eq_true (by kernel_rfl)) h hz
  have hm : ucells (l.map Int.toNat) = l.map (Value.int .u64) := by
    unfold ucells
    rw [List.map_map]
    refine List.map_congr_left fun n hn => ?_
    have b := bounds_u64 (hI.wf n hn)
    show Value.int .u64 ((n.toNat : Nat) : Int) = _
    rw [show ((n.toNat : Nat) : Int) = n by omega]
  refine ⟨a, c, l.map Int.toNat, by simpa using e, fun n hn => ?_, by rw [hm]; exact hI.rd, by simpa using hI.le, by simpa using hre, hI.nil⟩
  obtain ⟨k, hk, rfl⟩ := List.mem_map.1 hn
  have b := bounds_u64 (hI.wf k hk)
  omega
theorem open_recM (h : DataW.trod enc Tryz.prog W 0 (fun _ => true) true fuel 50 cs = some x) (hz : Light Tryz.prog 50 x.1) :
    ∃ (m : PRec) (aw : Option Addr) (cw : Nat) (am : Option Addr) (cm : Nat), cs = recv m aw cw am cm ∧ m.Wf ∧ m.Sm ∧ Rd W aw (pwsv m.writes) ∧ Rd W am (ucells m.missing) ∧ m.writes.length ≤ cw ∧ m.missing.length ≤ cm := by
  obtain ⟨xs, n, _, hx, hl, hxs, hf⟩ := DataW.trod_struct Tryz.underlying50 h
  rw [hx] at hz
  rw [Tryz.cellsRecM] at hl
  have hxs' : xs.length = 9 := hxs
  have g0 := hf 0 _ rfl
  have g1 := hf 1 _ rfl
  have g2 := hf 2 _ rfl
  have g3 := hf 3 _ rfl
  have g4 := hf 4 _ rfl
  have g5 := hf 5 _ rfl
  have g6 := hf 6 _ rfl
  have g7 := hf 7 _ rfl
  have g8 := hf 8 _ rfl
  simp only [List.getElem_toArray, List.getElem_cons_zero, List.getElem_cons_succ, Tryz.acellsByte, Tryz.acellsU32, Tryz.cellsU64M, Tryz.cellsTxM, Tryz.cellsRegM, Tryz.cellsKeyM, Tryz.cellsItemM, Tryz.cellsWritesM, Tryz.cellsSetsM, List.drop_zero] at g0 g1 g2 g3 g4 g5 g6 g7 g8
  rw [List.getElem?_eq_getElem (by omega)] at g0 g1 g2 g3 g4 g5 g6 g7 g8
  obtain ⟨k0, e0, _, w0⟩ := DataW.trod_int Tryz.underlying5 g0
  obtain ⟨k1, e1, _, w1⟩ := DataW.trod_int Tryz.underlying22 g1
  obtain ⟨tx, e2, b2⟩ := open_txM g2
  obtain ⟨reg, e3, b3⟩ := open_regM g3
  obtain ⟨k4, e4, _, w4⟩ := DataW.trod_int Tryz.underlying47 g4
  obtain ⟨aw, cw, ws, e5, hws, hrw, hlw, hmw, _⟩ := open_writesM g5 (hz.part Tryz.underlying50 (j := 5) rfl (by rw [List.getElem?_map, List.getElem?_eq_getElem (by omega)]; rfl))
  obtain ⟨am, cm, ms, e6, hms, hrm, hlm, hmm, _⟩ := open_setsM g6 (hz.part Tryz.underlying50 (j := 6) rfl (by rw [List.getElem?_map, List.getElem?_eq_getElem (by omega)]; rfl))
  obtain ⟨key, e7, b7⟩ := open_keyM g7
  obtain ⟨item, e8, b8, s8⟩ := open_itemM g8 (hz.part Tryz.underlying50 (j := 8) rfl (by rw [List.getElem?_map, List.getElem?_eq_getElem (by omega)]; rfl))
  obtain ⟨kind, rfl, b0⟩ := u8_nat w0
  obtain ⟨nn, rfl, b1⟩ := u32_nat w1
  obtain ⟨mem, rfl, b4⟩ := u64_nat w4
  refine ⟨⟨kind, nn, tx, reg, mem, ws, ms, key, item⟩, aw, cw, am, cm, ?_, ⟨b0, b1, b2, b3, b4, fun p hp => (hws p hp).1, hms, b7, b8⟩, ⟨s8, fun p hp => (hws p hp).2, Nat.le_trans hmw (by decide), Nat.le_trans hmm (by decide)⟩, hrw, hrm, hlw, hlm⟩
  have c18 : (cs.drop 18).take 13 = cs.drop 18 := List.take_of_length_le (by rw [List.length_drop]; omega)
  rw [c18] at e8
  have h0 : cs = cs.take 1 ++ ((cs.drop 1).take 1 ++ ((cs.drop 2).take 3 ++ ((cs.drop 5).take 2 ++ ((cs.drop 7).take 1 ++ ((cs.drop 8).take 1 ++ ((cs.drop 9).take 1 ++ ((cs.drop 10).take 8 ++ cs.drop 18))))))) := by
    rw [← cut_at cs 10 8, ← cut_at cs 9 1, ← cut_at cs 8 1, ← cut_at cs 7 1, ← cut_at cs 5 2, ← cut_at cs 2 3, ← cut_at cs 1 1]
    exact (List.take_append_drop 1 cs).symm
  rw [h0, e0, e1, e2, e3, e4, e5, e6, e7, e8]
  simp [recv]
end
theorem okWide_rec {W : World} {base : Nat} {m : PRec} {aw am : Option Addr} {cw cm : Nat} (h : Value.okWide Tryz.prog W .any base 50 (.agg (recv m aw cw am cm).toArray)) : (∀ b, At aw b → b < W.heap.size) ∧ ∀ b, At am b → b < W.heap.size := by
  unfold Value.okWide at h
  rw [Tryz.underlying50] at h
  obtain ⟨cs, e, _, ts, h1, _, h2⟩ := h
  cases e
  have hts : (Tryz.prog.cellTypes Tryz.prog.depth 50).map (fun l => (l.length, l[8]?, l[9]?)) = some (31, some 33, some 48) := by kernel_rfl
  rw [h1] at hts
  simp only [Option.map_some, Option.some.injEq, Prod.mk.injEq] at hts
  obtain ⟨u, hu, hok⟩ := h2 8 (.slice aw m.writes.length cw) (by rw [List.getElem?_toArray]; rfl)
  obtain ⟨u', hu', hok'⟩ := h2 9 (.slice am m.missing.length cm) (by rw [List.getElem?_toArray]; rfl)
  rw [hts.1, Nat.mod_eq_of_lt (by decide), hts.2.1] at hu
  rw [hts.1, Nat.mod_eq_of_lt (by decide), hts.2.2] at hu'
  cases hu
  cases hu'
  exact ⟨cell_lt Tryz.underlying33 hok, cell_lt Tryz.underlying48 hok'⟩
end Go.Proofs.YtjfmidcaekhhgaaGreatDoor
