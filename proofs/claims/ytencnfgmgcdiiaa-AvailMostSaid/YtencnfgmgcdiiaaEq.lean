/- Configurations compared. -/
import Derived.Test.YtencnfgmgcdiiaaAvD
import Derived.Stop.BytesEq
namespace Go.Proofs.Ytencnfgmgcdiiaa
open Go.RowKit Go.PM

theorem Try.u_arr8' : Try.prog.underlying 47 = some (.array 8 5) := by kernel_rfl
theorem Try.u_cfg : Try.prog.underlying 49 = some (.struct (Try.prog.fieldsOf 49)) := by kernel_rfl
theorem Try.st_cfg : Try.prog.stoodInHeld 49 = false := by kernel_rfl
theorem Try.g_cfg : Try.prog.eqGuardType Try.prog.depth 49 = false := by kernel_rfl
theorem Try.g_arr8 : Try.prog.eqGuardType Try.prog.depth 47 = false := by kernel_rfl

theorem bcells_cell (l : List UInt8) : bcells l = l.map Extern.Stop.cell := rfl

theorem eqArr8 (l m : List UInt8) (hl : l.length = 8) (hm : m.length = 8) (w : World) (d : Nat) : (Op.equalIn (d + 2) 47 (.agg (bcells l).toArray) (.agg (bcells m).toArray)).run Try.prog w = .ok (l == m) w := by
  rw [bcells_cell, bcells_cell]
  exact run_equalIn_bytes w d _ 5 8 Try.u_arr8' Try.underlying5 (fun w => Try.sizeOf5 w) l m hl hm

theorem eqCfg (e r v e' r' v' : Nat) (l m : List UInt8) (hl : l.length = 8) (hm : m.length = 8) (w : World) :
    (Op.equalIn 10000 49 (.agg (cfgc e r v l).toArray) (.agg (cfgc e' r' v' m).toArray)).run Try.prog w = .ok ((e : Int) == e' && ((r : Int) == r' && ((v : Int) == v' && l == m))) w := by
  rw [show (10000 : Nat) = 9999 + 1 from rfl, run_equalIn_agg w 9999 _ _ _ Try.u_cfg Try.st_cfg]
  simp only [Program.fieldsOf, Try.underlying49]
  have a0 := Try.isAgg28
  have a1 := Try.isAgg5
  have a2 := Try.isAgg47
  have z2 := Try.sizeOf47
  have u0 := Try.underlying28
  have u1 := Try.underlying5
  have ha := eqArr8 l m hl hm
  obtain ⟨a, b, c, d, e, f, g, h, rfl⟩ := list8 l hl
  obtain ⟨a', b', c', d', e', f', g', h', rfl⟩ := list8 m hm
  simp only [bcells, List.map_cons, List.map_nil] at ha
  simp only [Op.eqFields, part, cfgc, bcells, List.map_cons, List.map_nil]
  go_simp
  generalize (a == a' && (b == b' && (c == c' && (d == d' && (e == e' && (f == f' && (g == g' && h == h'))))))) = B
  split
  · split
    · split
      · cases B <;> simp [*]
      · simp [*]
    · simp [*]
  · simp [*]

theorem eqlCfg (e r v e' r' v' : Nat) (l m : List UInt8) (hl : l.length = 8) (hm : m.length = 8) (w : World) :
    (binOp .eql 49 (.agg (cfgc e r v l).toArray) (.agg (cfgc e' r' v' m).toArray)).run Try.prog w = .ok (.bool ((e : Int) == e' && ((r : Int) == r' && ((v : Int) == v' && l == m)))) w := by
  rw [run_eql_struct, eqCfg e r v e' r' v' l m hl hm w]; rfl
theorem neqArr8 (l m : List UInt8) (hl : l.length = 8) (hm : m.length = 8) (w : World) :
    (binOp .neq 47 (.agg (bcells l).toArray) (.agg (bcells m).toArray)).run Try.prog w = .ok (.bool (!(l == m))) w := by
  rw [run_neq_struct, eqArr8 l m hl hm w 9998]; rfl
/-- One with itself. -/
theorem eqlCfg_same (e r v : Nat) (l : List UInt8) (hl : l.length = 8) (w : World) :
    (binOp .eql 49 (.agg (cfgc e r v l).toArray) (.agg (cfgc e r v l).toArray)).run Try.prog w = .ok (.bool true) w := by
  rw [eqlCfg e r v e r v l l hl hl w]; simp
theorem neqArr8_same (l : List UInt8) (hl : l.length = 8) (w : World) :
    (binOp .neq 47 (.agg (bcells l).toArray) (.agg (bcells l).toArray)).run Try.prog w = .ok (.bool false) w := by
  rw [neqArr8 l l hl hl w]; simp
end Go.Proofs.Ytencnfgmgcdiiaa
