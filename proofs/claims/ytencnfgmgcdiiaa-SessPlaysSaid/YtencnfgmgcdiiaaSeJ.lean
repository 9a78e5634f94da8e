/- Package sess' calls as keys, answers compared. -/
import Derived.Test.YtencnfgmgcdiiaaSeI
import Derived.Test.YtencnfgmgcdiiaaKeyS
import Derived.Stop.BytesEq
namespace Go.PM
def ekc (c : UInt8 × Int) : Value := .agg #[.int .u8 c.1.toNat, .int .u32 c.2]
theorem ekc_inj (a b : UInt8 × Int) (h : ekc a = ekc b) : a = b := by
  simp only [ekc, Value.agg.injEq, Array.mk.injEq, List.cons.injEq, Value.int.injEq, true_and, and_true] at h
  exact Prod.ext (UInt8.toNat_inj.1 (by omega)) h.2
def PA.agg (a : PA) : Value := .agg #[.int .i64 a.why, .int .u8 a.node, .int .u32 a.boot, .int .u32 a.num, .string a.val, .int .u32 a.ver]
end Go.PM
namespace Go.Proofs.Ytencnfgmgcdiiaa
open Go.RowKit Go.PM

theorem Try.u_call : Try.prog.underlying 39 = some (.struct (Try.prog.fieldsOf 39)) := by kernel_rfl
theorem Try.st_call : Try.prog.stoodInHeld 39 = false := by kernel_rfl
theorem call_check (w : World) (e : Bool) (c : UInt8 × Int) : (Instr.checkKey e 10000 39 (ekc c)).run Try.prog w = .ok () w := by kernel_rfl
theorem call_eq (a b : UInt8 × Int) (w : World) : (Op.equal 39 (ekc a) (ekc b)).run Try.prog w = .ok (decide (a = b)) w := by
  unfold Op.equal
  show (Op.equalIn 10000 39 (ekc a) (ekc b)).run Try.prog w = _
  unfold ekc
  rw [show (10000 : Nat) = 9999 + 1 from rfl, run_equalIn_agg w 9999 _ _ _ Try.u_call Try.st_call]
  simp only [Program.fieldsOf, Try.underlying39]
  have a0 := Try.isAgg28
  have a1 := Try.isAgg5
  have u0 := Try.underlying28
  have u1 := Try.underlying5
  have e : decide (a = b) = ((a.1.toNat : Int) == b.1.toNat && a.2 == b.2) := by
    by_cases h : a = b
    · subst h; simp
    · rw [decide_eq_false h]
      symm
      rw [Bool.and_eq_false_iff]
      by_cases h1 : a.1 = b.1
      · right
        rw [beq_eq_false_iff_ne]
        exact fun h2 => h (Prod.ext h1 h2)
      · left
        rw [beq_eq_false_iff_ne]
        exact fun h2 => h1 (UInt8.toNat_inj.1 (by omega))
  rw [e]
  simp only [Op.eqFields, part]
  go_simp
  split <;> simp_all <;> split <;> simp_all
theorem Try.ckey : KeyOf Try.prog 39 ekc :=
  keyOf_asking Try.u_call (fun _ _ => rfl) ekc_inj call_check call_eq (fun w k => by
    unfold Instr.keyThatStays
    have : Instr.sameBits 10000 (ekc k) (ekc k) = true := by simp [ekc, Instr.sameBits]
    rw [if_pos this]; rfl)

theorem Try.u_ans : Try.prog.underlying 40 = some (.struct (Try.prog.fieldsOf 40)) := by kernel_rfl
theorem Try.st_ans : Try.prog.stoodInHeld 40 = false := by kernel_rfl
theorem Try.u_tx : Try.prog.underlying 31 = some (.struct (Try.prog.fieldsOf 31)) := by kernel_rfl
theorem Try.st_tx : Try.prog.stoodInHeld 31 = false := by kernel_rfl
theorem tx_same (n b m : Int) (w : World) (d : Nat) : (Op.equalIn (d + 2) 31 (.agg #[.int .u8 n, .int .u32 b, .int .u32 m]) (.agg #[.int .u8 n, .int .u32 b, .int .u32 m])).run Try.prog w = .ok true w := by
  rw [run_equalIn_agg w (d + 1) _ _ _ Try.u_tx Try.st_tx]
  simp only [Program.fieldsOf, Try.underlying31]
  have a0 := Try.isAgg28
  have a1 := Try.isAgg5
  have u0 := Try.underlying28
  have u1 := Try.underlying5
  simp only [Op.eqFields, part]
  go_simp
theorem ans_same (a : PA) (w : World) : (Op.equalIn 10000 40 a.agg a.agg).run Try.prog w = .ok true w := by
  unfold PA.agg
  rw [show (10000 : Nat) = 9999 + 1 from rfl, run_equalIn_agg w 9999 _ _ _ Try.u_ans Try.st_ans]
  simp only [Program.fieldsOf, Try.underlying40]
  have a0 := Try.isAgg28
  have a1 := Try.isAgg29
  have a2 := Try.isAgg31
  have a3 := Try.isAgg9
  have z2 := Try.sizeOf31
  have u0 := Try.underlying28
  have u1 := Try.underlying29
  have u3 := Try.underlying9
  have ht := tx_same a.node a.boot a.num
  simp only [Op.eqFields, part]
  go_simp
theorem neqAns_same (a : PA) (w : World) : (binOp .neq 40 (.agg #[.int .i64 a.why, .int .u8 a.node, .int .u32 a.boot, .int .u32 a.num, .string a.val, .int .u32 a.ver]) (.agg #[.int .i64 a.why, .int .u8 a.node, .int .u32 a.boot, .int .u32 a.num, .string a.val, .int .u32 a.ver])).run Try.prog w = .ok (.bool false) w := by
  rw [run_neq_struct]
  have := ans_same a w
  unfold PA.agg at this
  rw [this]; rfl
end Go.Proofs.Ytencnfgmgcdiiaa
