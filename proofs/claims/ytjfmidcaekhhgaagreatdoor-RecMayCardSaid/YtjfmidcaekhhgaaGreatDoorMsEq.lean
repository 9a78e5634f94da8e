/- Names, keys, configurations and items compared. Helper lemmas alone. Which names, numbers and items may be, as walks. What a key's name is, as a walk: strings.TrimRight at one byte, IndexByte, KeyOf, Name. Which keys may be, as walks: KeyOf, Name. Which of two keys is less, as walks. -/
import Derived.Test.YtjfmidcaekhhgaaGreatDoorIdP
import Derived.Stop.BytesEq
import Derived.Laws.StructEq
import Derived.Lib.Walk
import Derived.Lib.TrimByte
import Derived.Lib.Bytealg
import Derived.Laws.Strings3
namespace Go.Proofs.YtjfmidcaekhhgaaGreatDoor
open Go.RowKit Go.PM

theorem Tryz.u_cfg : Tryz.prog.underlying 30 = some (.struct (Tryz.prog.fieldsOf 30)) := by kernel_rfl
theorem Tryz.st_cfg : Tryz.prog.stoodInHeld 30 = false := by kernel_rfl
theorem Tryz.u_tx : Tryz.prog.underlying 24 = some (.struct (Tryz.prog.fieldsOf 24)) := by kernel_rfl
theorem Tryz.st_tx : Tryz.prog.stoodInHeld 24 = false := by kernel_rfl
theorem Tryz.u_reg : Tryz.prog.underlying 26 = some (.struct (Tryz.prog.fieldsOf 26)) := by kernel_rfl
theorem Tryz.st_reg : Tryz.prog.stoodInHeld 26 = false := by kernel_rfl
theorem Tryz.u_item : Tryz.prog.underlying 32 = some (.struct (Tryz.prog.fieldsOf 32)) := by kernel_rfl
theorem Tryz.st_item : Tryz.prog.stoodInHeld 32 = false := by kernel_rfl
theorem Tryz.u_write : Tryz.prog.underlying 69 = some (.struct (Tryz.prog.fieldsOf 69)) := by kernel_rfl
theorem Tryz.st_write : Tryz.prog.stoodInHeld 69 = false := by kernel_rfl

theorem Tryz.u_key : Tryz.prog.underlying 28 = some (.array 8 5) := by kernel_rfl

theorem bcells_cell (l : List UInt8) : bcells l = l.map Extern.Stop.cell := rfl
theorem eqArr8 (l m : List UInt8) (hl : l.length = 8) (hm : m.length = 8) (w : World) (d : Nat) : (Op.equalIn (d + 2) 27 (.agg (bcells l).toArray) (.agg (bcells m).toArray)).run Tryz.prog w = .ok (l == m) w := by
  rw [bcells_cell, bcells_cell]
  exact run_equalIn_bytes w d _ 5 8 Tryz.u_arr8 Tryz.underlying5 (fun w => Tryz.sizeOf5 w) l m hl hm
theorem eqKey (l m : List UInt8) (hl : l.length = 8) (hm : m.length = 8) (w : World) (d : Nat) : (Op.equalIn (d + 2) 28 (.agg (bcells l).toArray) (.agg (bcells m).toArray)).run Tryz.prog w = .ok (l == m) w := by
  rw [bcells_cell, bcells_cell]
  exact run_equalIn_bytes w d _ 5 8 Tryz.u_key Tryz.underlying5 (fun w => Tryz.sizeOf5 w) l m hl hm

theorem natEq (a b : Nat) : ((a : Int) == (b : Int)) = (a == b) := by
  rw [Bool.eq_iff_iff]; simp [Int.natCast_inj]
theorem eqCfg (c d : PCfg) (hc : wfCfg c) (hd : wfCfg d) (w : World) (D : Nat) :
    (Op.equalIn (D + 3) 30 (.agg (cfgv c).toArray) (.agg (cfgv d).toArray)).run Tryz.prog w = .ok (decide (c = d)) w := by
  rw [run_equalIn_agg w (D + 2) _ _ _ Tryz.u_cfg Tryz.st_cfg]
  obtain ⟨e, r, v, l⟩ := c
  obtain ⟨e', r', v', m⟩ := d
  have hl : l.length = 8 := hc.2.2.2
  have hm : m.length = 8 := hd.2.2.2
  have E : decide ((e, r, v, l) = (e', r', v', m)) = ((e : Int) == e' && ((r : Int) == r' && ((v : Int) == v' && l == m))) := by
    rw [Bool.eq_iff_iff]; simp [Int.natCast_inj]
  rw [E]
  clear E hc hd
  simp only [Program.fieldsOf, Tryz.underlying30]
  have a0 := Tryz.isAgg22
  have a1 := Tryz.isAgg5
  have a2 := Tryz.isAgg27
  have z2 := Tryz.sizeOf27
  have u0 := Tryz.underlying22
  have u1 := Tryz.underlying5
  have ha := fun w => eqArr8 l m hl hm w D
  obtain ⟨a, b, c, d, e, f, g, h, rfl⟩ := list8 l hl
  obtain ⟨a', b', c', d', e', f', g', h', rfl⟩ := list8 m hm
  simp only [bcells, List.map_cons, List.map_nil] at ha
  simp only [Op.eqFields, part, cfgv, cfgc, bcells, List.map_cons, List.map_nil]
  go_simp
  generalize (a == a' && (b == b' && (c == c' && (d == d' && (e == e' && (f == f' && (g == g' && h == h'))))))) = B
  split
  · split
    · split
      · cases B <;> simp [*]
      · simp [*]
    · simp [*]
  · simp [*]

theorem eqTx (x y : PTx) (w : World) (D : Nat) :
    (Op.equalIn (D + 2) 24 (.agg #[.int .u8 x.1, .int .u32 x.2.1, .int .u32 x.2.2]) (.agg #[.int .u8 y.1, .int .u32 y.2.1, .int .u32 y.2.2])).run Tryz.prog w = .ok (decide (x = y)) w := by
  rw [run_equalIn_agg w (D + 1) _ _ _ Tryz.u_tx Tryz.st_tx]
  obtain ⟨e, r, v⟩ := x
  obtain ⟨e', r', v'⟩ := y
  have E : decide ((e, r, v) = (e', r', v')) = ((e : Int) == e' && ((r : Int) == r' && ((v : Int) == v'))) := by
    rw [Bool.eq_iff_iff]; simp [Int.natCast_inj]
  rw [E]
  clear E
  simp only [Program.fieldsOf, Tryz.underlying24]
  have a0 := Tryz.isAgg22
  have a1 := Tryz.isAgg5
  have u0 := Tryz.underlying22
  have u1 := Tryz.underlying5
  simp only [Op.eqFields, part]
  go_simp
  by_cases h1 : (e : Int) = e' <;> by_cases h2 : (r : Int) = r' <;> by_cases h3 : (v : Int) = v' <;> simp [h1, h2, h3]
theorem eqReg (x y : PReg) (w : World) (D : Nat) :
    (Op.equalIn (D + 2) 26 (.agg #[.int .u32 x.1, .int .u32 x.2]) (.agg #[.int .u32 y.1, .int .u32 y.2])).run Tryz.prog w = .ok (decide (x = y)) w := by
  rw [run_equalIn_agg w (D + 1) _ _ _ Tryz.u_reg Tryz.st_reg]
  obtain ⟨r, v⟩ := x
  obtain ⟨r', v'⟩ := y
  have E : decide ((r, v) = (r', v')) = (((r : Int) == r' && ((v : Int) == v'))) := by
    rw [Bool.eq_iff_iff]; simp [Int.natCast_inj]
  rw [E]
  clear E
  simp only [Program.fieldsOf, Tryz.underlying26]
  have a0 := Tryz.isAgg22
  have u0 := Tryz.underlying22
  simp only [Op.eqFields, part]
  go_simp
  by_cases h2 : (r : Int) = r' <;> by_cases h3 : (v : Int) = v' <;> simp [h2, h3]
theorem eqItem (x y : PItem) (hx : wfItem x) (hy : wfItem y) (w : World) (D : Nat) :
    (Op.equalIn (D + 4) 32 (.agg (itemv x).toArray) (.agg (itemv y).toArray)).run Tryz.prog w = .ok (decide (x = y)) w := by
  rw [run_equalIn_agg w (D + 3) _ _ _ Tryz.u_item Tryz.st_item]
  obtain ⟨n, t, e, r, v, l⟩ := x
  obtain ⟨n', t', e', r', v', m⟩ := y
  have hl : l.length = 8 := hx.2.2.2.2
  have hm : m.length = 8 := hy.2.2.2.2
  have E : decide ((n, t, e, r, v, l) = (n', t', e', r', v', m)) = ((n : Int) == n' && (decide (t = t') && ((e : Int) == e' && ((r : Int) == r' && ((v : Int) == v' && l == m))))) := by
    rw [Bool.eq_iff_iff]; simp [Int.natCast_inj]
  rw [E]
  clear E hx hy
  simp only [Program.fieldsOf, Tryz.underlying32]
  have a0 := Tryz.isAgg22
  have a1 := Tryz.isAgg9
  have a2 := Tryz.isAgg30
  have z2 := Tryz.sizeOf30
  have u0 := Tryz.underlying22
  have u1 := Tryz.underlying9
  have ha := fun w => eqArr8 l m hl hm w D
  obtain ⟨a, b, c, d, f0, f1, f2, f3, rfl⟩ := list8 l hl
  obtain ⟨a', b', c', d', g0, g1, g2, g3, rfl⟩ := list8 m hm
  simp only [bcells, List.map_cons, List.map_nil] at ha
  simp only [Op.eqFields, part, itemv, cfgv, cfgc, bcells, List.map_cons, List.map_nil]
  go_simp
  generalize (a == a' && (b == b' && (c == c' && (d == d' && (f0 == g0 && (f1 == g1 && (f2 == g2 && f3 == g3))))))) = B
  by_cases h1 : (n : Int) = n'
  · by_cases h2 : t = t'
    · by_cases h3 : (e : Int) = e'
      · by_cases h4 : (r : Int) = r'
        · by_cases h5 : (v : Int) = v'
          · cases B <;> simp [h1, h2, h3, h4, h5]
          · simp [h1, h2, h3, h4, h5]
        · simp [h1, h2, h3, h4]
      · simp [h1, h2, h3]
    · simp [h1, h2]
  · simp [h1]

theorem eqlTx (x y : PTx) (w : World) : (binOp .eql 24 (.agg #[.int .u8 x.1, .int .u32 x.2.1, .int .u32 x.2.2]) (.agg #[.int .u8 y.1, .int .u32 y.2.1, .int .u32 y.2.2])).run Tryz.prog w = .ok (.bool (decide (x = y))) w := by
  rw [run_eql_struct, eqTx x y w 9998]; rfl
theorem eqlReg (x y : PReg) (w : World) : (binOp .eql 26 (.agg #[.int .u32 x.1, .int .u32 x.2]) (.agg #[.int .u32 y.1, .int .u32 y.2])).run Tryz.prog w = .ok (.bool (decide (x = y))) w := by
  rw [run_eql_struct, eqReg x y w 9998]; rfl
theorem eqlKey (l m : List UInt8) (hl : l.length = 8) (hm : m.length = 8) (w : World) : (binOp .eql 28 (.agg (bcells l).toArray) (.agg (bcells m).toArray)).run Tryz.prog w = .ok (.bool (l == m)) w := by
  rw [run_eql_struct, eqKey l m hl hm w 9998]; rfl
theorem neqKey (l m : List UInt8) (hl : l.length = 8) (hm : m.length = 8) (w : World) : (binOp .neq 28 (.agg (bcells l).toArray) (.agg (bcells m).toArray)).run Tryz.prog w = .ok (.bool (!(l == m))) w := by
  rw [run_neq_struct, eqKey l m hl hm w 9998]; rfl
theorem eqlItem (x y : PItem) (hx : wfItem x) (hy : wfItem y) (w : World) : (binOp .eql 32 (.agg (itemv x).toArray) (.agg (itemv y).toArray)).run Tryz.prog w = .ok (.bool (decide (x = y))) w := by
  rw [run_eql_struct, eqItem x y hx hy w 9996]; rfl
end Go.Proofs.YtjfmidcaekhhgaaGreatDoor

namespace Go.Proofs.YtjfmidcaekhhgaaGreatDoor
open Go.RowKit Go.PM

section
variable {w : World}
set_option maxHeartbeats 400000 in
theorem isCount_calls (n : Nat) (hn : n < 4294967296) :
    Calls Tryz.prog 117 #[.int .u32 n] w fun e w' => e = .returned (.bool (isCount n)) ∧ w = w' := by
  have e1 : IntKind.u32.wrap ((n : Int) - 1) = (((n + 4294967295) % 4294967296 : Nat) : Int) := by
    rw [IntKind.wrap_u32]; omega
  have hb : isCount n = decide ((((n + 4294967295) % 4294967296 : Nat) : Int) < 2147483647) := by
    unfold isCount
    rw [Bool.eq_iff_iff]
    unfold maxC
    simp only [decide_eq_true_eq]
    constructor <;> intro h <;> omega
  have hlt : (n : Int) < 4294967296 := by omega
  rw [hb]
  clear hb hn
  generalize (n + 4294967295) % 4294967296 = n' at *
  go_enter Tryz.func117, Tryz.ntmps117
  go_wp2
  go_ret
  exact ⟨by simp, rfl⟩

def txv (x : PTx) : List Value := [.int .u8 x.1, .int .u32 x.2.1, .int .u32 x.2.2]
def regv (x : PReg) : List Value := [.int .u32 x.1, .int .u32 x.2]
theorem txMay_eq (x : PTx) : txMay x = (decide (x.1 < 8) && (isCount x.2.1 && isCount x.2.2)) := by
  unfold txMay; rw [Bool.and_assoc]

set_option maxHeartbeats 400000 in
theorem txMay_calls (x : PTx) (hx : wfTx x) :
    Calls Tryz.prog 88 #[.agg (txv x).toArray] w fun e w' => e = .returned (.bool (txMay x)) ∧ Kept No w w' := by
  rw [txMay_eq]
  obtain ⟨n, i, j⟩ := x
  obtain ⟨h0, h1, h2⟩ := hx
  simp only at h0 h1 h2 ⊢
  show Calls Tryz.prog 88 #[.agg #[.int .u8 n, .int .u32 i, .int .u32 j]] w _
  have H1 := Lib.hid (fun (w : World) => isCount_calls (w := w) i h1)
  have H2 := Lib.hid (fun (w : World) => isCount_calls (w := w) j h2)
  have K0 := (Kept.refl No w).alloc (.cells #[.int .u8 (n : Int), .int .u32 (i : Int), .int .u32 (j : Int)] 24)
  cases e1 : isCount i
  all_goals
    cases e2 : isCount j
    all_goals
      rw [e1] at H1
      rw [e2] at H2
      by_cases h : n < 8
      · have h' : (n : Int) < 8 := by omega
        rw [decide_eq_true h]
        clear h
        go_enter Tryz.func88, Tryz.ntmps88
        go_wp2_with (first
          | (go_at_call 117; (with_reducible refine (H1.out _).mono ?_); rintro _ _ ⟨rfl, rfl⟩)
          | (go_at_call 117; (with_reducible refine (H2.out _).mono ?_); rintro _ _ ⟨rfl, rfl⟩))
        go_ret
        exact ⟨by rfl, K0⟩
      · have h' : (8 : Int) ≤ n := by omega
        rw [decide_eq_false h]
        clear h
        go_enter Tryz.func88, Tryz.ntmps88
        go_wp2
        go_ret
        exact ⟨by rfl, K0⟩

set_option maxHeartbeats 400000 in
theorem regMay_calls (x : PReg) (hx : wfReg x) :
    Calls Tryz.prog 89 #[.agg (regv x).toArray] w fun e w' => e = .returned (.bool (regMay x)) ∧ Kept No w w' := by
  obtain ⟨i, j⟩ := x
  obtain ⟨h1, h2⟩ := hx
  simp only at h1 h2
  show Calls Tryz.prog 89 #[.agg #[.int .u32 i, .int .u32 j]] w fun e w' => e = .returned (.bool (isCount i && isCount j)) ∧ Kept No w w'
  have H1 := Lib.hid (fun (w : World) => isCount_calls (w := w) i h1)
  have H2 := Lib.hid (fun (w : World) => isCount_calls (w := w) j h2)
  have K0 := (Kept.refl No w).alloc (.cells #[.int .u32 (i : Int), .int .u32 (j : Int)] 26)
  cases e1 : isCount i
  all_goals
    cases e2 : isCount j
    all_goals
      rw [e1] at H1
      rw [e2] at H2
      go_enter Tryz.func89, Tryz.ntmps89
      go_wp2_with (first
        | (go_at_call 117; (with_reducible refine (H1.out _).mono ?_); rintro _ _ ⟨rfl, rfl⟩)
        | (go_at_call 117; (with_reducible refine (H2.out _).mono ?_); rintro _ _ ⟨rfl, rfl⟩))
      go_ret
      exact ⟨by rfl, K0⟩

theorem itemMay_eq (i : PItem) : itemMay i = (decide (i.1 ≤ maxC) && (decide (i.2.1.length ≤ 64) && avMay i.2.2.1 i.2.2.2.1 i.2.2.2.2.1 i.2.2.2.2.2)) := by
  unfold itemMay
  rw [Bool.decide_and, Bool.and_assoc]

set_option maxHeartbeats 400000 in
theorem itemMay_calls (i : PItem) (hi : wfItem i) (hl : i.2.1.length ≤ 140737488355328) :
    Calls Tryz.prog 21 #[.agg (itemv i).toArray] w fun e w' => e = .returned (.bool (itemMay i)) ∧ Kept No w w' := by
  rw [itemMay_eq]
  have hil := itemv_length hi
  have B0 := Blk.new w 32 (itemv i)
  have K0 := (Kept.refl No w).alloc (.cells (itemv i).toArray 32)
  have hcl := cfgv_length hi.2
  have sg : Seg (w.alloc (.cells (itemv i).toArray 32)) w.heap.size 2 (cfgv i.2.2) := B0.seg 2 _ (by simp [itemv])
  have HM := Lib.hid (fun (w : World) => may_calls (w := w) i.2.2.1 i.2.2.2.1 i.2.2.2.2.1 i.2.2.2.2.2 hi.2.2.2.2 hi.2.1 hi.2.2.1 hi.2.2.2.1)
  have c0 : (w.alloc (.cells (itemv i).toArray 32)).cell? ⟨w.heap.size, 0, none⟩ = some (.int .u32 (i.1 : Nat)) := B0.cell 0
  have c1 : (w.alloc (.cells (itemv i).toArray 32)).cell? ⟨w.heap.size, 1, none⟩ = some (.string ⟨i.2.1.toArray⟩) := B0.cell 1
  have hsz : (⟨i.2.1.toArray⟩ : ByteArray).size = i.2.1.length := by simp [ByteArray.size]
  have i1 := hi.1
  have i1' : ((i.1 : Nat) : Int) < 4294967296 := by omega
  obtain ⟨R, hR⟩ : ∃ R, avMay i.2.2.1 i.2.2.2.1 i.2.2.2.2.1 i.2.2.2.2.2 = R := ⟨_, rfl⟩
  rw [hR] at HM ⊢
  clear hR
  obtain ⟨L, hL⟩ : ∃ L, i.2.1.length = L := ⟨_, rfl⟩
  rw [hL] at hsz hl ⊢
  clear hL
  have hl' : (L : Int) ≤ 140737488355328 := by omega
  by_cases h1 : i.1 ≤ maxC
  · have h1' : ((i.1 : Nat) : Int) ≤ 2147483647 := by unfold maxC at h1; omega
    rw [decide_eq_true h1]
    by_cases h2 : L ≤ 64
    · have h2' : (L : Int) ≤ 64 := by omega
      rw [decide_eq_true h2]
      clear h1 h2
      go_enter Tryz.func21, Tryz.ntmps21
      go_wp2_with (first
        | (with_reducible refine wpList_ld rfl 30 _ rfl Tryz.isAgg30 11 Tryz.sizeOf30 w.heap.size 2 rfl (cfgv i.2.2) hcl sg ?_)
        | (go_at_call 53; refine (HM.out _).mono ?_; rintro _ w2 ⟨rfl, k2⟩))
      go_ret
      exact ⟨by rfl, K0.trans k2 fun _ _ h => h⟩
    · have h2' := decide_eq_false (show ¬ (L : Int) ≤ 64 by omega)
      rw [decide_eq_false h2]
      clear h1 h2
      go_enter Tryz.func21, Tryz.ntmps21
      go_wp2
      go_ret
      exact ⟨by rfl, K0⟩
  · have h1' := decide_eq_false (show ¬ ((i.1 : Nat) : Int) ≤ 2147483647 by unfold maxC at h1; omega)
    rw [decide_eq_false h1]
    clear h1
    go_enter Tryz.func21, Tryz.ntmps21
    go_wp2
    go_ret
    exact ⟨by rfl, K0⟩
end
end Go.Proofs.YtjfmidcaekhhgaaGreatDoor

namespace Go.PM
open Go.RowKit
section
variable {P : Program} {w : World} {ops : Array Oper} {rest : List Oper} {o : Oper} {a : Act} {K : Act → World → Prop} {Q : Exit → Act → World → Prop}
/-- copy out of a string, all of it. -/
theorem wpList_copy_str (hg : o.guard = none) (d s : Operand) (dT sT : TypeId)
    (ho : o.op = .call { callee := .builtin .copy, args := #[d, s], argTypes := #[dT, sT] }) (elem : TypeId) (hu : P.underlying dT = some (.slice elem)) (hsz : (P.info? elem).map (·.size) = some 1)
    (g off dLen dCap : Nat) (hd : a.eval d = .slice (some ⟨g, off, none⟩) dLen dCap) (l : List UInt8) (hs : a.eval s = .string ⟨l.toArray⟩) (hl : l.length ≤ dLen)
    (T : TypeId) (cur : List Value) (hb : Blk w g T cur) (hfit : off + l.length ≤ cur.length)
    (h : wpList P ops Q rest (a.put o.dst (.int .i64 l.length)) (w.setRow g (splice cur off (bcells l)).toArray)) : wpList P ops Q (o :: rest) a w := by
  refine wpList_plain hg fun K hK => ?_
  have hst := run_storeCells_at P g off T (bcells l) 0 cur.toArray w hb (by simpa using hfit) (bcells_one l)
  simp only [Nat.add_zero] at hst
  have hsz' : (⟨l.toArray⟩ : ByteArray).size = l.length := by simp [ByteArray.size]
  have hmin : Nat.min l.length dLen = l.length := Nat.min_eq_left hl
  have ht : List.take l.length (List.map (fun b : UInt8 => Value.int .u8 (b.toNat : Int)) l) = bcells l := List.take_of_length_le (by simp)
  have hrun : (Builtin.copy_ #[dT, sT] o.type #[.slice (some ⟨g, off, none⟩) dLen dCap, .string ⟨l.toArray⟩]).run P w = .ok (.int .i64 l.length) (w.setRow g (splice cur off (bcells l)).toArray) := by
    cases hq : P.info? elem with
    | none => simp [hq] at hsz
    | some i =>
      simp [Builtin.copy_, run_underlying hu, Builtin.lenOf, Builtin.firstCells, sizeOf, typeInfo, hq, hsz', hmin, ht, hst, splice, goInt]
  unfold Oper.wp
  simp [execOp, ho, resolve, invoke, builtin, hd, hs, hrun, Result.andThen]
  exact hK _ _ h
end
end Go.PM
namespace Go.Proofs.YtjfmidcaekhhgaaGreatDoor
open Go.RowKit Go.PM

set_option maxHeartbeats 2000000 in
set_option maxRecDepth 100000 in
theorem trimRightByte_calls (s : ByteArray) (c : UInt8) (w : World) (hs : s.size ≤ 9223372036854775807) :
    Calls Tryz.prog 133 #[.string s, .int .u8 c.toNat] w fun e w' => e = .returned (.string ⟨(Lib.trimRightB s.data.toList c).toArray⟩) ∧ w' = w := by
  go_enter Tryz.func133, Tryz.ntmps133
  go_wp2
  go_loop [0] (fun v => ∃ k : Nat, k ≤ s.size ∧ v = .string ⟨(s.data.toList.take k).toArray⟩ ∧ ∀ (j : Nat) b, k ≤ j → s.data.toList[j]? = some b → b = c) (fun v => Lib.strSize v)
  case atStart =>
    refine ⟨s.size, Nat.le_refl _, ?_, fun j b hj hb => ?_⟩
    · rw [Lib.size_eq, List.take_length, Lib.mk_data]
    · have : s.data.toList.length ≤ j := by rw [← Lib.size_eq]; exact hj
      simp [List.getElem?_eq_none this] at hb
  case round =>
    obtain ⟨k, hk, rfl, hc⟩ := hrel
    have hkl : k ≤ s.data.toList.length := by rw [← Lib.size_eq]; exact hk
    have hts : (⟨(s.data.toList.take k).toArray⟩ : ByteArray).size = k := by rw [Lib.size_mk, List.length_take]; omega
    have hb0 : ∀ h, s.data.toList[k - 1]? = some ((⟨(s.data.toList.take k).toArray⟩ : ByteArray)[k - 1]'h) := by
      intro h
      rw [← Lib.getElem_mk (s.data.toList.take k) (k - 1) h, List.getElem?_take]
      rw [hts] at h
      rw [if_pos h]
    have hx1 : (⟨(s.data.toList.take k).toArray⟩ : ByteArray).extract 0 (k - 1) = ⟨(s.data.toList.take (k - 1)).toArray⟩ := by
      rw [Lib.extract_mk, List.drop_zero, List.take_take]
      congr 3
      omega
    have hK : Lib.Kept (∀ (j : Nat) b, k ≤ j → s.data.toList[j]? = some b → b = c) := hc
    clear hc
    have hkl' : Lib.Kept (k ≤ s.data.toList.length) := hkl
    clear hkl
    generalize ht : (⟨(s.data.toList.take k).toArray⟩ : ByteArray) = t at hts hb0 hx1 ⊢
    have hK3 : Lib.Kept ((⟨(s.data.toList.take k).toArray⟩ : ByteArray) = t) := ht
    clear ht
    by_cases h0 : 0 < k
    · have h1 : k - 1 < t.size := by omega
      have hwr : ((k : Int) - 1 + 9223372036854775808) % 18446744073709551616 - 9223372036854775808 = ((k - 1 : Nat) : Int) := by omega
      have hbk := hb0 h1
      clear hb0
      by_cases heq : t[k - 1]'h1 = c
      · have heq' : ((t[k - 1]'h1).toNat : Int) = (c.toNat : Int) := by rw [heq]
        have hK2 : Lib.Kept (s.data.toList[k - 1]? = some (t[k - 1]'h1)) := hbk
        clear hbk
        go_wp2
        refine ⟨⟨k - 1, by omega, rfl, fun j b hj hb => ?_⟩, ?_⟩
        · by_cases e : j = k - 1
          · subst e
            have h2 : s.data.toList[k - 1]? = some (t[k - 1]'h1) := hK2
            have h3 : s.data.toList[k - 1]? = some b := by simpa using hb
            rw [h2] at h3
            rw [← Option.some.inj h3, heq]
          · exact hK j b (by omega) (by simpa using hb)
        · have hkl : k ≤ s.data.toList.length := hkl'
          rw [Lib.strSize_string, Lib.strSize_string, Lib.size_mk, List.length_take]
          omega
      · have hne' : ¬ ((t[k - 1]'h1).toNat : Int) = (c.toNat : Int) := by
          intro e
          exact heq (UInt8.toNat_inj.1 (by exact_mod_cast e))
        have hbeq : (((t[k - 1]'h1).toNat : Int) == (c.toNat : Int)) = false := by simpa using hne'
        have hK2 : Lib.Kept (s.data.toList[k - 1]? = some (t[k - 1]'h1)) := hbk
        clear hbk
        go_wp2
        go_ret
        refine ⟨?_, rfl⟩
        have ht' : (⟨(s.data.toList.take k).toArray⟩ : ByteArray) = t := hK3
        show Ending.returned (Value.string t) = _
        rw [Lib.trimRightB_take s.data.toList c k hkl' hK (fun b _ hb => by
          have h2 : s.data.toList[k - 1]? = some (t[k - 1]'h1) := hK2
          rw [h2] at hb
          rw [← Option.some.inj hb]
          exact heq), ht']
    · clear hb0
      go_wp2
      go_ret
      refine ⟨?_, rfl⟩
      have ht' : (⟨(s.data.toList.take k).toArray⟩ : ByteArray) = t := hK3
      show Ending.returned (Value.string t) = _
      rw [Lib.trimRightB_take s.data.toList c k hkl' hK (fun b hk0 _ => absurd hk0 h0), ht']

set_option maxHeartbeats 2000000 in
set_option maxRecDepth 100000 in
theorem trimRight_calls (s : ByteArray) (c : UInt8) (hc : c.toNat < 128) (w : World) (hs : s.size ≤ 9223372036854775807) :
    Calls Tryz.prog 119 #[.string s, .string ⟨#[c]⟩] w fun e w' => e = .returned (.string ⟨(Lib.trimRightB s.data.toList c).toArray⟩) ∧ w' = w := by
  have hc' : ¬ (128 : Int) ≤ (c.toNat : Int) := by omega
  go_enter Tryz.func119, Tryz.ntmps119
  go_wp2_with (go_at_call 133; refine (trimRightByte_calls s c _ hs).mono ?_; rintro e w' ⟨rfl, rfl⟩)
  · have hl : s.data.toList = [] := by rw [← Lib.toList_data]; assumption
    go_ret
    refine ⟨?_, rfl⟩
    show Ending.returned (Value.string s) = _
    have hs0 : s = ⟨#[]⟩ := by rw [← Lib.mk_data s, hl]
    rw [hl]
    simp [Lib.trimRightB, hs0]
  · exfalso
    have h1 : ¬ s.toList = [] := by assumption
    have h2 : s.toList.isEmpty = true := by assumption
    exact h1 (by simpa using h2)
  · go_ret
    exact ⟨rfl, rfl⟩
  all_goals (
    exfalso
    have h1 : (128 : Int) ≤ (((⟨#[c]⟩ : ByteArray)[0]'Nat.zero_lt_one).toNat : Int) := by assumption
    have h2 : ((⟨#[c]⟩ : ByteArray)[0]'Nat.zero_lt_one) = c := rfl
    rw [h2] at h1
    omega)

set_option maxRecDepth 100000 in
set_option maxHeartbeats 400000 in
theorem stringslite_IndexByte_calls (s : ByteArray) (c : Int) (w : World) :
    Calls Tryz.prog 145 #[.string s, .int .u8 c] w fun e w' => e = .returned (.int .i64 (Lib.indexByte s.data.toList c.toNat.toUInt8)) ∧ w' = w := by
  go_enter Tryz.func145, Tryz.ntmps145
  go_wp2
  rw [run_callFunc_extern Tryz.func149 (by kernel_rfl) (by kernel_rfl) (by kernel_rfl) (e := Extern.BytealgIndexByte.indexByte) (by kernel_rfl), Lib.run_indexByteString]
  simp only [Result.andThen]
  rw [Oper.upon_value]
  go_wp2
  go_ret
  exact ⟨rfl, rfl⟩
set_option maxHeartbeats 400000 in
theorem indexByte_calls (s : ByteArray) (c : Int) (w : World) :
    Calls Tryz.prog 137 #[.string s, .int .u8 c] w fun e w' => e = .returned (.int .i64 (Lib.indexByte s.data.toList c.toNat.toUInt8)) ∧ w' = w := by
  go_enter Tryz.func137, Tryz.ntmps137
  go_wp2_with (go_at_call 145; refine (stringslite_IndexByte_calls _ _ _).mono ?_; rintro e w' ⟨rfl, rfl⟩)
  go_ret
  exact ⟨rfl, rfl⟩

/-- The bytes of a key ahead of its zeros. -/
def nameOf (l : List UInt8) : List UInt8 := Lib.trimRightB l 0
/-- A key's bytes out of a name. -/
def keyPad (t : List UInt8) : List UInt8 := t ++ List.replicate (8 - t.length) 0
def noZero (t : List UInt8) : Bool := !t.contains 0
theorem indexByte_zero (t : List UInt8) : (0 ≤ Lib.indexByte t 0) ↔ noZero t = false := by
  unfold noZero
  induction t with
  | nil => simp [Lib.indexByte]
  | cons b l ih =>
    unfold Lib.indexByte
    have hge := Lib.indexByte_ge l 0
    by_cases hb : b = 0
    · subst hb; simp
    · have hb' : (b == 0) = false := by simpa using hb
      rw [hb']
      simp only [Bool.false_eq_true, if_false, List.contains_cons]
      have : ((0 : UInt8) == b) = false := by simpa using Ne.symm hb
      rw [this, Bool.false_or, ← ih]
      by_cases h1 : Lib.indexByte l 0 = -1
      · rw [h1]; simp
      · rw [if_neg (by simpa using h1)]; omega
theorem nameOf_spec (l : List UInt8) : (∃ m, l = nameOf l ++ List.replicate m 0) ∧ ((nameOf l) = [] ∨ ∃ a x, nameOf l = a ++ [x] ∧ x ≠ 0) := by
  unfold nameOf Lib.trimRightB
  have h := List.takeWhile_append_dropWhile (p := fun x : UInt8 => x == 0) (l := l.reverse)
  have hz : ∀ x ∈ l.reverse.takeWhile (fun x : UInt8 => x == 0), x = 0 := fun x hx => by
    have := List.all_takeWhile (p := fun x : UInt8 => x == 0) (l := l.reverse)
    rw [List.all_eq_true] at this
    simpa using this x hx
  constructor
  · refine ⟨(l.reverse.takeWhile (fun x : UInt8 => x == 0)).length, ?_⟩
    have h1 := List.eq_replicate_of_mem hz
    have h2 := congrArg List.reverse h
    rw [List.reverse_append, List.reverse_reverse] at h2
    rw [← List.reverse_replicate, ← h1]
    exact h2.symm
  · cases e : l.reverse.dropWhile (fun x : UInt8 => x == 0) with
    | nil => exact .inl rfl
    | cons x xs =>
      refine .inr ⟨xs.reverse, x, by simp, fun hx => ?_⟩
      have := List.head?_dropWhile_not (fun x : UInt8 => x == 0) l.reverse
      rw [e] at this
      simp [hx] at this
theorem keyOk_eq (l : List UInt8) (hl : l.length = 8) : keyOk l = (!(nameOf l).isEmpty && noZero (nameOf l)) ∧ (nameOf l).length ≤ 8 ∧ keyPad (nameOf l) = l := by
  obtain ⟨⟨m, hm⟩, ht⟩ := nameOf_spec l
  generalize nameOf l = t at *
  have hlen : t.length + m = 8 := by rw [← hl, hm]; simp
  refine ⟨?_, by omega, ?_⟩
  · unfold keyOk
    cases hz : noZero t with
    | true =>
      have hnz : ∀ x ∈ t, (x != 0) = true := fun x hx => by
        unfold noZero at hz
        simp only [Bool.not_eq_true', List.contains_eq_mem, decide_eq_false_iff_not] at hz
        simp only [bne_iff_ne, ne_eq]
        intro e; subst e; exact hz hx
      have e1 : l.takeWhile (fun x => x != 0) = t := by
        rw [hm, List.takeWhile_append_of_pos hnz, List.takeWhile_replicate]; simp
      have e2 : l.dropWhile (fun x => x != 0) = List.replicate m 0 := by
        rw [hm, List.dropWhile_append_of_pos hnz, List.dropWhile_replicate]; simp
      rw [e1, e2]
      simp
    | false =>
      have hmem : (0 : UInt8) ∈ t := by
        unfold noZero at hz
        simpa using hz
      have hd : t.dropWhile (fun x => x != 0) ≠ [] := fun e => by
        have h1 := List.takeWhile_append_dropWhile (p := fun x : UInt8 => x != 0) (l := t)
        rw [e, List.append_nil] at h1
        have h2 := List.all_takeWhile (p := fun x : UInt8 => x != 0) (l := t)
        rw [h1, List.all_eq_true] at h2
        have := h2 0 hmem
        simp at this
      have e2 : l.dropWhile (fun x => x != 0) = t.dropWhile (fun x => x != 0) ++ List.replicate m 0 := by
        rw [hm, List.dropWhile_append, if_neg (by simpa using hd)]
      rcases ht with rfl | ⟨a, x, rfl, hx⟩
      · simp at hmem
      · have hlast : x ∈ (a ++ [x]).dropWhile (fun x => x != 0) := by
          have h1 := List.takeWhile_append_dropWhile (p := fun x : UInt8 => x != 0) (l := a ++ [x])
          have h2 := List.dropLast_concat_getLast hd
          rw [← h2, ← List.append_assoc] at h1
          have h3 := (List.append_inj' h1 rfl).2
          simp only [List.cons.injEq, and_true] at h3
          have h4 := List.getLast_mem hd
          rw [h3] at h4
          exact h4
        have : (l.dropWhile (fun x => x != 0)).all (fun x => x == 0) = false := by
          rw [e2, List.all_append, Bool.and_eq_false_iff]
          left
          rw [List.all_eq_false]
          exact ⟨x, hlast, by simpa using hx⟩
        rw [this]
        simp
  · unfold keyPad
    rw [show 8 - t.length = m by omega]
    exact hm.symm
end Go.Proofs.YtjfmidcaekhhgaaGreatDoor

namespace Go.Proofs.YtjfmidcaekhhgaaGreatDoor
open Go.RowKit Go.PM

section
variable {w : World}
def keyOfB (t : List UInt8) : Bool := !t.isEmpty && noZero t
def kAns (t : List UInt8) : List UInt8 := if keyOfB t then keyPad t else zeros8
def kErr (t : List UInt8) : Nat := if keyOfB t then 0 else 1
theorem kAns_length (t : List UInt8) (ht : t.length ≤ 8) : (kAns t).length = 8 := by
  unfold kAns keyPad; split
  · simp; omega
  · rfl
theorem kept2 (w : World) (T : TypeId) (b : Nat) (hb : w.heap.size ≤ b) (A B C : Array Value) : Kept No w (((w.alloc (.cells A T)).alloc (.cells B T)).setRow b C) :=
  (((Kept.refl No w).alloc _).alloc _).setRow (fun h => absurd h (by omega)) _
set_option maxRecDepth 100000 in
set_option maxHeartbeats 1000000 in
theorem keyOf_calls (t : List UInt8) (ht : t.length ≤ 8) :
    Calls Tryz.prog 120 #[.string ⟨t.toArray⟩] w fun e w' => e = .returned (.tuple #[.agg (bcells (kAns t)).toArray, .int .i64 (kErr t)]) ∧ Kept No w w' := by
  have hsz : (⟨t.toArray⟩ : ByteArray).size = t.length := by simp [ByteArray.size]
  have hdt : (⟨t.toArray⟩ : ByteArray).data.toList = t := rfl
  have ht' : (t.length : Int) ≤ 8 := by omega
  have B1 := (Blk.new w 28 [.int .u8 0, .int .u8 0, .int .u8 0, .int .u8 0, .int .u8 0, .int .u8 0, .int .u8 0, .int .u8 0]).alloc (.cells #[.int .u8 0, .int .u8 0, .int .u8 0, .int .u8 0, .int .u8 0, .int .u8 0, .int .u8 0, .int .u8 0] 28)
  have B2 := Blk.new' (w := w.alloc (.cells #[.int .u8 0, .int .u8 0, .int .u8 0, .int .u8 0, .int .u8 0, .int .u8 0, .int .u8 0, .int .u8 0] 28)) (g := w.heap.size + 1) (by rw [World.size_alloc]) 28 [.int .u8 0, .int .u8 0, .int .u8 0, .int .u8 0, .int .u8 0, .int .u8 0, .int .u8 0, .int .u8 0]
  have hone := bcells_one zeros8
  have l8 : (bcells zeros8).length = 8 := rfl
  have S2 := B2.seg0
  cases hk : keyOfB t
  · have HE := Lib.hid (show kAns t = zeros8 ∧ kErr t = 1 by unfold kAns kErr; rw [hk]; exact ⟨rfl, rfl⟩)
    rw [HE.out.1, HE.out.2]
    have S3 := B1.seg0
    have KK := ((Kept.refl No w).alloc (.cells #[.int .u8 0, .int .u8 0, .int .u8 0, .int .u8 0, .int .u8 0, .int .u8 0, .int .u8 0, .int .u8 0] 28)).alloc (.cells #[.int .u8 0, .int .u8 0, .int .u8 0, .int .u8 0, .int .u8 0, .int .u8 0, .int .u8 0, .int .u8 0] 28)
    by_cases h0 : t = []
    · subst h0
      clear hk HE
      go_enter Tryz.func120, Tryz.ntmps120
      go_wp2
      refine bodyPost_ret (v := .tuple #[.agg #[.int .u8 0, .int .u8 0, .int .u8 0, .int .u8 0, .int .u8 0, .int .u8 0, .int .u8 0, .int .u8 0], .int .i64 1]) (by rw [results_row_tmp _ Tryz.results120 _ Tryz.isAgg28 8 Tryz.sizeOf28 w.heap.size rfl [.int .u8 0, .int .u8 0, .int .u8 0, .int .u8 0, .int .u8 0, .int .u8 0, .int .u8 0, .int .u8 0] rfl S3]; rfl) rfl ?_
      exact ⟨rfl, KK⟩
    · have hz : noZero t = false := by
        unfold keyOfB at hk
        cases t with
        | nil => exact absurd rfl h0
        | cons a b => simpa using hk
      have hix := (indexByte_zero t).2 hz
      have hne : (⟨t.toArray⟩ : ByteArray).toList.isEmpty = false := by
        rw [Lib.toList_data]
        cases t with
        | nil => exact absurd rfl h0
        | cons a b => rfl
      have hne' : t.isEmpty = false := by rw [← hne, Lib.toList_data]
      have e0 : (0 : Int).toNat.toUInt8 = 0 := rfl
      generalize hI : Lib.indexByte t 0 = I at *
      have HI := Lib.hid hI
      clear hk HE hz h0 hI
      go_enter Tryz.func120, Tryz.ntmps120
      go_wp2_with (go_at_call 137; refine (indexByte_calls _ _ _).mono ?_; rw [hdt, e0, HI.out]; rintro _ _ ⟨rfl, rfl⟩)
      refine bodyPost_ret (v := .tuple #[.agg #[.int .u8 0, .int .u8 0, .int .u8 0, .int .u8 0, .int .u8 0, .int .u8 0, .int .u8 0, .int .u8 0], .int .i64 1]) (by rw [results_row_tmp _ Tryz.results120 _ Tryz.isAgg28 8 Tryz.sizeOf28 w.heap.size rfl [.int .u8 0, .int .u8 0, .int .u8 0, .int .u8 0, .int .u8 0, .int .u8 0, .int .u8 0, .int .u8 0] rfl S3]; rfl) rfl ?_
      exact ⟨rfl, KK⟩
  · have hz : noZero t = true ∧ t ≠ [] := by
      unfold keyOfB at hk
      cases t with
      | nil => cases hk
      | cons a b => simpa using hk
    have hix : Lib.indexByte t 0 < 0 := by
      have := mt (indexByte_zero t).1 (by rw [hz.1]; simp)
      omega
    have HE := Lib.hid (show kAns t = keyPad t ∧ kErr t = 0 by unfold kAns kErr; rw [hk]; exact ⟨rfl, rfl⟩)
    rw [HE.out.1, HE.out.2]
    have hne : (⟨t.toArray⟩ : ByteArray).toList.isEmpty = false := by
      rw [Lib.toList_data]
      cases t with
      | nil => exact absurd rfl hz.2
      | cons a b => rfl
    have hne' : t.isEmpty = false := by rw [← hne, Lib.toList_data]
    have e0 : (0 : Int).toNat.toUInt8 = 0 := rfl
    have hsp : splice [.int .u8 0, .int .u8 0, .int .u8 0, .int .u8 0, .int .u8 0, .int .u8 0, .int .u8 0, .int .u8 0] 0 (bcells t) = bcells (keyPad t) := by
      unfold splice keyPad
      simp only [List.take_zero, List.nil_append, Nat.zero_add, bcells_length]
      have : ([.int .u8 0, .int .u8 0, .int .u8 0, .int .u8 0, .int .u8 0, .int .u8 0, .int .u8 0, .int .u8 0] : List Value) = List.replicate 8 (.int .u8 0) := rfl
      rw [this, List.drop_replicate]
      simp [bcells]
    have B3 := B2.setRow (splice [.int .u8 0, .int .u8 0, .int .u8 0, .int .u8 0, .int .u8 0, .int .u8 0, .int .u8 0, .int .u8 0] 0 (bcells t))
    rw [hsp] at B3
    have S3 := B3.seg0
    have lp : (bcells (keyPad t)).length = 8 := by rw [bcells_length]; unfold keyPad; simp; omega
    have P1 := B1.kept ((Kept.refl (· = w.heap.size + 1) _).setRow (fun _ => rfl) (bcells (keyPad t)).toArray) (by omega)
    have s4 : splice [.int .u8 0, .int .u8 0, .int .u8 0, .int .u8 0, .int .u8 0, .int .u8 0, .int .u8 0, .int .u8 0] 0 (bcells (keyPad t)) = bcells (keyPad t) := splice_all _ _ lp
    have hone' := bcells_one (keyPad t)
    have P2 := P1.setRow (bcells (keyPad t))
    have S4 := P2.seg0
    generalize hI : Lib.indexByte t 0 = I at *
    have hI0 := decide_eq_false (show ¬ (I ≥ 0) by omega)
    have HI := Lib.hid hI
    obtain ⟨i0, hi0, hz0, hz1, hz2⟩ := info_parts Tryz.cinf_byte
    have hsize : (Tryz.prog.info? 5).map (·.size) = some 1 := by rw [hi0]; simp [hz1]
    clear hk HE hz hI hix hi0 hz0 hz1 hz2 i0
    go_enter Tryz.func120, Tryz.ntmps120
    go_wp2_with (first
      | (go_at_call 137; refine (indexByte_calls _ _ _).mono ?_; rw [hdt, e0, HI.out]; rintro _ _ ⟨rfl, rfl⟩)
      | (with_reducible refine wpList_copy_str rfl _ _ 38 9 rfl 5 Tryz.cu_bytes hsize (w.heap.size + 1) 0 8 8 rfl t rfl ht _ _ B2 (by simp; omega) ?_; rw [hsp])
      | (with_reducible refine wpList_ld rfl 28 _ rfl Tryz.isAgg28 8 Tryz.sizeOf28 (w.heap.size + 1) 0 rfl (bcells (keyPad t)) lp S3 ?_)
      | (with_reducible refine wpList_st rfl 28 _ _ rfl 8 Tryz.sizeOf28 w.heap.size 0 rfl (bcells (keyPad t)) rfl lp _ _ P1 (by decide) hone' ?_; rw [s4]))
    refine bodyPost_ret (v := .tuple #[.agg (bcells (keyPad t)).toArray, .int .i64 0]) (by rw [results_row_tmp _ Tryz.results120 _ Tryz.isAgg28 8 Tryz.sizeOf28 w.heap.size rfl _ lp S4]; rfl) rfl ?_
    exact ⟨rfl, (((((Kept.refl No w).alloc _).alloc _).setRow (fun h => absurd h (by omega)) _).setRow (fun h => absurd h (by omega)) _)⟩

theorem keyOfB_name (l : List UInt8) (hl : l.length = 8) : keyOfB (nameOf l) = keyOk l := (keyOk_eq l hl).1.symm
theorem eqGuard_key : Tryz.prog.eqGuardType Tryz.prog.depth 28 = false := by kernel_rfl
set_option maxRecDepth 100000 in
set_option maxHeartbeats 1000000 in
theorem name_calls (l : List UInt8) (hl : l.length = 8) :
    Calls Tryz.prog 94 #[.agg (bcells l).toArray] w fun e w' => e = .returned (.tuple #[.string ⟨(if keyOk l then nameOf l else []).toArray⟩, .bool (keyOk l)]) ∧ Kept No w w' := by
  obtain ⟨_, ht, hp⟩ := keyOk_eq l hl
  have hkb := keyOfB_name l hl
  have B0 := Blk.new w 28 (bcells l)
  have K0 := (Kept.refl No w).alloc (.cells (bcells l).toArray 28)
  have R0 : Rd (w.alloc (.cells (bcells l).toArray 28)) (some ⟨w.heap.size, 0, none⟩) (bcells l) := Rd.ofBlk' B0
  have l8 : (bcells l).length = 8 := by rw [bcells_length, hl]
  have HT := Lib.hid (fun w' => trimRight_calls ⟨l.toArray⟩ 0 (by decide) w' (by simp [ByteArray.size]; omega))
  have hdt : (⟨l.toArray⟩ : ByteArray).data.toList = l := rfl
  rw [hdt] at HT
  have HT2 : Hid (∀ w', Calls Tryz.prog 119 #[.string ⟨l.toArray⟩, .string ⟨#[0]⟩] w' fun e w2 => e = .returned (.string ⟨(nameOf l).toArray⟩) ∧ w2 = w') := HT
  clear HT
  have HK := Lib.hid (fun w' => keyOf_calls (w := w') (nameOf l) ht)
  have ha8 : (bcells (kAns (nameOf l))).length = 8 := by rw [bcells_length, kAns_length _ ht]
  have hone := bcells_one (kAns (nameOf l))
  have hneq := fun w => neqKey (kAns (nameOf l)) l (kAns_length _ ht) hl w
  have hg := eqGuard_key
  cases hk : keyOk l
  · rw [hk] at hkb
    have hE : kErr (nameOf l) = 1 := by unfold kErr; rw [hkb]; rfl
    rw [hE] at HK
    generalize kAns (nameOf l) = A at *
    generalize nameOf l = t at *
    clear hk hkb hE hp ht
    go_enter Tryz.func94, Tryz.ntmps94
    go_wp2_with (first
      | (with_reducible refine wpList_conv_bytes_n rfl 38 9 _ rfl 5 Tryz.cu_bytes Tryz.cu_byte Tryz.cu_string _ 8 _ l hl rfl R0 ?_)
      | (go_at_call 119; refine (HT2.out _).mono ?_; rintro _ w1 ⟨rfl, rfl⟩)
      | (go_at_call 120; refine (HK.out _).mono ?_; rintro _ w2 ⟨rfl, k2⟩)
      | (with_reducible refine wpList_st_last rfl 28 _ _ rfl 8 Tryz.sizeOf28 _ rfl rfl (bcells A) rfl ha8 _ _ rfl hone ?_))
    go_ret2
    exact ⟨rfl, (K0.trans k2 fun _ _ h => h).alloc _⟩
  · rw [hk] at hkb
    have hE : kErr (nameOf l) = 0 := by unfold kErr; rw [hkb]; rfl
    have hA : kAns (nameOf l) = l := by unfold kAns; rw [hkb, if_pos rfl, hp]
    rw [hE, hA] at HK
    rw [hA] at ha8 hone hneq
    rw [if_pos rfl]
    have hneq' := fun w => (hneq w).trans (by rw [show (l == l) = true from by simp])
    clear hneq hA
    generalize nameOf l = t at *
    have B2 := fun (w2 : World) (k2 : Kept No (w.alloc (.cells (bcells l).toArray 28)) w2) => (B0.kept k2 id).alloc (.cells (bcells l).toArray 28)
    have SB := fun (w2 : World) => (Blk.new w2 28 (bcells l)).seg0
    clear hk hkb hE hp ht
    go_enter Tryz.func94, Tryz.ntmps94
    go_wp2_with (first
      | (with_reducible refine wpList_conv_bytes_n rfl 38 9 _ rfl 5 Tryz.cu_bytes Tryz.cu_byte Tryz.cu_string _ 8 _ l hl rfl R0 ?_)
      | (go_at_call 119; refine (HT2.out _).mono ?_; rintro _ w1 ⟨rfl, rfl⟩)
      | (go_at_call 120; refine (HK.out _).mono ?_; rintro _ w2 ⟨rfl, k2⟩; have S1 := (B2 w2 k2).seg0; have S2 := SB w2)
      | (with_reducible refine wpList_st_last rfl 28 _ _ rfl 8 Tryz.sizeOf28 _ rfl rfl (bcells l) rfl ha8 _ _ rfl hone ?_)
      | (with_reducible refine wpList_ld rfl 28 (.tmp 5) rfl Tryz.isAgg28 8 Tryz.sizeOf28 _ 0 rfl (bcells l) l8 S2 ?_)
      | (with_reducible refine wpList_ld rfl 28 (.tmp 1) rfl Tryz.isAgg28 8 Tryz.sizeOf28 _ 0 rfl (bcells l) l8 S1 ?_))
    go_ret2
    exact ⟨rfl, (K0.trans k2 fun _ _ h => h).alloc _⟩

set_option maxHeartbeats 400000 in
theorem keyMay_calls (l : List UInt8) (hl : l.length = 8) :
    Calls Tryz.prog 55 #[.agg (bcells l).toArray] w fun e w' => e = .returned (.bool (keyOk l)) ∧ Kept No w w' := by
  have B0 := Blk.new w 28 (bcells l)
  have K0 := (Kept.refl No w).alloc (.cells (bcells l).toArray 28)
  have l8 : (bcells l).length = 8 := by rw [bcells_length, hl]
  have S0 := B0.seg0
  have HK := Lib.hid (fun w' => name_calls (w := w') l hl)
  generalize (if keyOk l = true then nameOf l else []) = N at *
  generalize keyOk l = b at *
  go_enter Tryz.func55, Tryz.ntmps55
  go_wp2_with (first
    | (go_at_call 94; refine (HK.out _).mono ?_; rintro _ w2 ⟨rfl, k2⟩)
    | (with_reducible refine wpList_ld rfl 28 (.tmp 1) rfl Tryz.isAgg28 8 Tryz.sizeOf28 _ 0 rfl (bcells l) l8 S0 ?_))
  go_ret
  exact ⟨rfl, K0.trans k2 fun _ _ h => h⟩
end
end Go.Proofs.YtjfmidcaekhhgaaGreatDoor

namespace Go.Proofs.YtjfmidcaekhhgaaGreatDoor
open Go.RowKit Go.PM

/-- The order of two bytes. -/
def cmp1 (a b : Nat) : Int := if a < b then -1 else if b < a then 1 else 0
section
variable {w : World}
set_option maxHeartbeats 400000 in
theorem isNaN_calls (x : Nat) : Calls Tryz.prog 138 #[.int .u8 x] w fun e w' => e = .returned (.bool false) ∧ w = w' := by
  go_enter Tryz.func138, Tryz.ntmps138
  go_wp2
  go_ret
  exact ⟨by simp, rfl⟩
set_option maxHeartbeats 400000 in
theorem cmp1_calls (a b : Nat) : Calls Tryz.prog 121 #[.int .u8 a, .int .u8 b] w fun e w' => e = .returned (.int .i64 (cmp1 a b)) ∧ w = w' := by
  have HN := Lib.hid (fun x w => isNaN_calls (w := w) x)
  by_cases h1 : a < b
  · have h1' : (a : Int) < b := by omega
    have HE := Lib.hid (show cmp1 a b = -1 by unfold cmp1; rw [if_pos h1])
    clear h1
    go_enter Tryz.func121, Tryz.ntmps121
    go_wp2_with (go_at_call 138; refine (HN.out _ _).mono ?_; rintro _ _ ⟨rfl, rfl⟩)
    go_ret
    exact ⟨by rw [HE.out]; rfl, rfl⟩
  · have h1' : (b : Int) ≤ a := by omega
    by_cases h2 : b < a
    · have h2' : (b : Int) < a := by omega
      have HE := Lib.hid (show cmp1 a b = 1 by unfold cmp1; rw [if_neg h1, if_pos h2])
      clear h1 h2
      go_enter Tryz.func121, Tryz.ntmps121
      go_wp2_with (go_at_call 138; refine (HN.out _ _).mono ?_; rintro _ _ ⟨rfl, rfl⟩)
      go_ret
      exact ⟨by rw [HE.out]; rfl, rfl⟩
    · have h2' : (a : Int) ≤ b := by omega
      have HE := Lib.hid (show cmp1 a b = 0 by unfold cmp1; rw [if_neg h1, if_neg h2])
      clear h1 h2
      go_enter Tryz.func121, Tryz.ntmps121
      go_wp2_with (go_at_call 138; refine (HN.out _ _).mono ?_; rintro _ _ ⟨rfl, rfl⟩)
      go_ret
      exact ⟨by rw [HE.out]; rfl, rfl⟩

theorem cmpB_drop (l m : List UInt8) (hl : l.length = 8) (hm : m.length = 8) {k : Nat} (hk : k < 8) :
    cmpB (l.drop k) (m.drop k) = if cmp1 (vsOf l k) (vsOf m k) = 0 then cmpB (l.drop (k + 1)) (m.drop (k + 1)) else cmp1 (vsOf l k) (vsOf m k) := by
  rw [List.drop_eq_getElem_cons (show k < l.length by omega), List.drop_eq_getElem_cons (show k < m.length by omega), cmpB]
  have e1 : vsOf l k = l[k].toNat := by simp [vsOf, List.getD_eq_getElem?_getD, show k < l.length by omega]
  have e2 : vsOf m k = m[k].toNat := by simp [vsOf, List.getD_eq_getElem?_getD, show k < m.length by omega]
  rw [e1, e2]
  unfold cmp1
  by_cases h1 : l[k].toNat < m[k].toNat
  · rw [if_pos h1, if_pos h1, if_neg (by decide)]
  · rw [if_neg h1, if_neg h1]
    by_cases h2 : m[k].toNat < l[k].toNat
    · rw [if_pos h2, if_pos h2, if_neg (by decide)]
    · rw [if_neg h2, if_neg h2, if_pos rfl]
/-- The order of two keys. -/
def keyCmp (l m : List UInt8) : Int := cmpB (l.drop 0) (m.drop 0)
theorem keyCmp_eq (l m : List UInt8) : keyCmp l m = cmpB l m := rfl

def CmpRel (w : World) (l m : List UInt8) (i : Value) (wr : World) : Prop :=
  ∃ k : Nat, k ≤ 8 ∧ i = .int .i64 k ∧ cmpB l m = cmpB (l.drop k) (m.drop k) ∧ w = wr

set_option maxRecDepth 100000 in
set_option maxHeartbeats 1000000 in
theorem compare_calls (l m : List UInt8) (hl : l.length = 8) (hm : m.length = 8) (b c : Nat) (d e : Nat) (ob oc : Nat) (hr : Rd w (some ⟨b, ob, none⟩) (bcells l)) (hs : Rd w (some ⟨c, oc, none⟩) (bcells m)) :
    Calls Tryz.prog 95 #[.slice (some ⟨b, ob, none⟩) 8 d, .slice (some ⟨c, oc, none⟩) 8 e] w fun x w' => x = .returned (.int .i64 (cmpB l m)) ∧ w = w' := by
  have HC := Lib.hid (fun a b w => cmp1_calls (w := w) a b)
  generalize hR : cmpB l m = R
  go_enter Tryz.func95, Tryz.ntmps95
  go_wp2
  go_loopw [5, 6, 7, 8, 11] (fun _ _ _ _ i wr => CmpRel w l m i wr) (fun _ _ _ _ i _ => 8 - (intOf i).toNat)
  case atStart => exact ⟨0, by omega, rfl, rfl, rfl⟩
  case round =>
    obtain ⟨k, hk, rfl, he, rfl⟩ := hrel
    by_cases hlt : k < 8
    · have i0 : (0 : Int) ≤ k := by omega
      have i1 : (k : Int) < 8 := by omega
      have hc1 : w.cell? ⟨b, ob + k, none⟩ = some (.int .u8 (vsOf l k)) := by
        rw [hr.at k (by rw [bcells_length]; omega), ← upcell l (by omega)]; simp
      have hc2 : w.cell? ⟨c, oc + k, none⟩ = some (.int .u8 (vsOf m k)) := by
        rw [hs.at k (by rw [bcells_length]; omega), ← upcell m (by omega)]; simp
      have hd := cmpB_drop l m hl hm hlt
      rw [← he, hR] at hd
      have HC2 := Lib.hid (fun w => HC.out (vsOf l k) (vsOf m k) w)
      have HHE := Lib.hid he
      have HHR := Lib.hid hR
      clear he hR
      by_cases h0 : cmp1 (vsOf l k) (vsOf m k) = 0
      · rw [h0] at HC2
        rw [if_pos h0] at hd
        have HD := Lib.hid hd
        clear hd h0
        go_wp2_with (go_at_call 121; refine (HC2.out _).mono ?_; rintro _ _ ⟨rfl, rfl⟩)
        refine ⟨⟨k + 1, by omega, by go_num, by rw [HHR.out]; exact HD.out, rfl⟩, by simp [intOf]; omega⟩
      · rw [if_neg h0] at hd
        have HD := Lib.hid hd
        generalize cmp1 (vsOf l k) (vsOf m k) = z at *
        clear hd
        go_wp2_with (go_at_call 121; refine (HC2.out _).mono ?_; rintro _ _ ⟨rfl, rfl⟩)
        go_ret
        exact ⟨by rw [HD.out]; rfl, rfl⟩
    · obtain rfl : k = 8 := by omega
      rw [hR, List.drop_of_length_le (by omega), List.drop_of_length_le (by omega)] at he
      have he : R = 0 := he
      subst he
      go_wp2
      go_ret
      exact ⟨rfl, rfl⟩

set_option maxHeartbeats 400000 in
theorem keys_calls (l m : List UInt8) (hl : l.length = 8) (hm : m.length = 8) :
    Calls Tryz.prog 56 #[.agg (bcells l).toArray, .agg (bcells m).toArray] w fun x w' => x = .returned (.int .i64 (cmpB l m)) ∧ Kept No w w' := by
  have B1 := (Blk.new w 28 (bcells l)).alloc (.cells (bcells m).toArray 28)
  have B2 := Blk.new' (w := w.alloc (.cells (bcells l).toArray 28)) (g := w.heap.size + 1) (by rw [World.size_alloc]) 28 (bcells m)
  have K0 := ((Kept.refl No w).alloc (.cells (bcells l).toArray 28)).alloc (.cells (bcells m).toArray 28)
  have HC := Lib.hid (fun n d e => compare_calls (w := ((w.alloc (.cells (bcells l).toArray 28)).alloc (.cells (bcells m).toArray 28)).drewN n) l m hl hm w.heap.size (w.heap.size + 1) d e 0 0 ((Rd.ofBlk' B1).keptNo ((Kept.refl No _).drewN n)) ((Rd.ofBlk' B2).keptNo ((Kept.refl No _).drewN n)))
  generalize cmpB l m = R at *
  go_enter Tryz.func56, Tryz.ntmps56
  go_wp2
  go_quiet ((go_at_call 95; refine Calls.quiet_of_same ((HC.out _ _ _).mono fun _ _ hh => ⟨hh.1, hh.2.symm⟩)))
  go_wp2
  go_ret
  exact ⟨rfl, K0.drewN _⟩
end
end Go.Proofs.YtjfmidcaekhhgaaGreatDoor
