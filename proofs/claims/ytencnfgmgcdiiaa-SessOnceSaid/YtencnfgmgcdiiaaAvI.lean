/- The program's count of votes, as a walk. -/
import Derived.Test.YtencnfgmgcdiiaaAvH
import Derived.Test.YtencnfgmgcdiiaaAvQ
import Derived.BigRegion
namespace Go.Proofs.Ytencnfgmgcdiiaa
open Go.RowKit Go.PM

theorem Try.u_u64s : Try.prog.underlying 81 = some (.slice 56) := by kernel_rfl
theorem Try.inf_u64 : (Try.prog.info? 56).map (fun i => (i.zero, i.size, i.bytes)) = some (some (.int .u64 0), 1, 8) := by kernel_rfl

section
variable {w : World}

/-- A list of numbers of which a call has just made the array. -/
def FreshU (w w' : World) (v : Value) (l : List Nat) : Prop :=
  ∃ g, v = .slice (some ⟨g, 0, none⟩) l.length l.length ∧ w.heap.size ≤ g ∧ Blk w' g 56 (ucells l)
def CtRel (w ws : World) (vs us : Nat → Nat) (t i : Value) (wr : World) : Prop :=
  ∃ k : Nat, k ≤ 8 ∧ FreshU w wr t (avCnt vs us k) ∧ i = .int .i64 k ∧ Kept No ws wr
def CiRel (wo : World) (g' : Nat) (l : List Nat) (v u : Nat) (t : Value) (wr : World) : Prop :=
  ∃ k : Nat, k ≤ l.length ∧ t = .int .i64 k ∧ Blk wr g' 56 (ucells (avPart l v u k)) ∧ Kept (· = g') wo wr

def CountPost (w : World) (l : List Nat) (e : Ending) (w' : World) : Prop := ∃ v, e = .returned v ∧ FreshU w w' v l ∧ Kept No w w'

set_option maxRecDepth 100000 in
set_option maxHeartbeats 1000000 in
theorem count_calls (l u : List UInt8) (hl : l.length = 8) (hul : u.length = 8) (hu : upOk u = true) :
    Calls Try.prog 54 #[.agg (bcells l).toArray, .agg (bcells u).toArray] w (CountPost w (avCnt (vsOf l) (vsOf u) 8)) := by
  obtain ⟨i0, hi, hz0, hz1, hz2⟩ := info_parts Try.inf_u64
  have B0 := (Blk.new w 47 (bcells l)).alloc (.cells (bcells u).toArray 123)
  have B1 := Blk.new' (w := w.alloc (.cells (bcells l).toArray 47)) (g := w.heap.size + 1) (by rw [World.size_alloc]) 123 (bcells u)
  have K0 := ((Kept.refl No w).alloc (.cells (bcells l).toArray 47)).alloc (.cells (bcells u).toArray 123)
  have B2 := B1.alloc (.cells #[.int .u64 1] 56)
  have B3 : Blk (((w.alloc (.cells (bcells l).toArray 47)).alloc (.cells (bcells u).toArray 123)).alloc (.cells #[.int .u64 1] 56)) (w.heap.size + 2) 56 (ucells [1]) := Blk.new' (by simp) _ _
  have K2 := K0.alloc (.cells #[.int .u64 1] 56)
  obtain ⟨c0, c1, c2, c3, c4, c5, c6, c7⟩ := up_cells (B0.alloc (.cells #[.int .u64 1] 56)) hl
  go_enter Try.func54, Try.ntmps54
  go_wp2
  rw [up_eq l hl]
  clear c0 c1 c2 c3 c4 c5 c6 c7
  generalize hws : ((w.alloc (.cells (bcells l).toArray 47)).alloc (.cells (bcells u).toArray 123)).alloc (.cells #[.int .u64 1] 56) = ws at *
  clear hws B0 B1 K0
  go_loopw [5, 13] (fun t i wr => CtRel w ws (vsOf l) (vsOf u) t i wr) (fun _ i _ => 8 - (intOf i).toNat)
  case atStart => exact ⟨0, by omega, ⟨w.heap.size + 2, rfl, by omega, B3⟩, rfl, Kept.refl No ws⟩
  case round =>
    obtain ⟨i, hi8, ⟨g, rfl, hg, BG⟩, rfl, Kw⟩ := hrel
    have i0' : (0 : Int) ≤ i := by omega
    by_cases hlt : i < 8
    · have i1 : (i : Int) < 8 := by omega
      have hx : (bcells l).toArray[i]? = some (.int .u8 (vsOf l i)) := by rw [List.getElem?_toArray]; exact upcell l (by omega)
      have hix := run_index_array (P := Try.prog) (w := wr) 47 5 8 _ .i64 i _ Try.u_arr8 hlt hx (fun w => by rfl) (fun w => by rfl)
      have v1 := vsOf_lt l i
      have u1 := upOk_le hu i
      have hsum := avCnt_sum (vsOf l) (vsOf u) (upOk_le hu) i
      have hlen := avCnt_length (vsOf l) (vsOf u) i
      have hof := avOf_le l i (2 ^ i - 1)
      have hnext : avNext (avCnt (vsOf l) (vsOf u) i) (vsOf l i) (vsOf u i) = avCnt (vsOf l) (vsOf u) (i + 1) := rfl
      have hbd : (avCnt (vsOf l) (vsOf u) i).sum ≤ 100000000000000 := by
        rw [hsum]
        exact Nat.le_trans (Nat.pow_le_pow_right (by omega) (show i ≤ 7 by omega)) (by decide)
      have hLb : (avCnt (vsOf l) (vsOf u) i).length ≤ 2041 := by rw [hlen]; omega
      have hup : wr.cell? ⟨w.heap.size + 1, i, none⟩ = some (.int .u8 (vsOf u i)) := ((B2.kept Kw id).cell _).trans (upcell u (by omega))
      have HN := Lib.hid hnext
      clear hsum hlen hof hnext
      generalize avCnt (vsOf l) (vsOf u) i = L at *
      generalize hvv : vsOf l i = v at *
      generalize huu : vsOf u i = u' at *
      clear hvv huu
      have V1 : (v : Int) < 256 := by omega
      have U1 : (u' : Int) ≤ 100 := by omega
      have L1 : (L.length : Int) ≤ 2041 := by omega
      go_wp2_with (at_make; go_must (refine wpList_make rfl (.tmp 21) (.tmp 21) _ rfl _ i0 _ Try.u_u64s hi hz0 1 8 hz1 hz2 rfl .i64 .i64 _ _ (L.length + v) (L.length + v) rfl rfl (by push_cast; rfl) (by push_cast; rfl) (Nat.le_refl _) (by omega) (by omega) ?_))
      have Z := Blk.new wr 56 (zrow (.int .u64 0) (L.length + v))
      have KA := (Kept.refl No wr).alloc (.cells (zrow (.int .u64 0) (L.length + v)).toArray 56)
      have hz9 : zrow (.int .u64 0) (L.length + v) = ucells (avPart L v u' 0) := by
        rw [zrow_one _ rfl, avPart_zero]; simp [ucells]
      rw [hz9] at Z KA ⊢
      clear hz9
      have hgs : w.heap.size ≤ wr.heap.size := Nat.le_trans K2.size Kw.size
      have hgl := BG.lt
      have hbu := World.block_lt_of_cell? wr _ hup
      have BGo := BG.alloc (.cells (ucells (avPart L v u' 0)).toArray 56)
      have hupo := (KA.cell hbu id).trans hup
      have hcapo : wr.heap.size + 0 = wr.heap.size := rfl
      generalize hgn : wr.heap.size = gn at *
      generalize hwo : wr.alloc (.cells (ucells (avPart L v u' 0)).toArray 56) = wo at *
      have hne1 : ¬ g = gn := by omega
      have hne2 : ¬ w.heap.size + 1 = gn := by simp only at hbu; omega
      clear hcapo hup hix
      go_loopw [25] (fun t wx => CiRel wo gn L v u' t wx) (fun t _ => L.length - (intOf t).toNat)
      case atStart => exact ⟨0, by omega, rfl, Z, Kept.refl _ _⟩
      case round =>
        obtain ⟨k, hk, rfl, BP, Kx⟩ := hrel
        have k0 : (0 : Int) ≤ k := by omega
        by_cases hkl : k < L.length
        · have k1 : (k : Int) < L.length := by omega
          have hcl : wr.cell? ⟨g, k, none⟩ = some (.int .u64 (L.getD k 0 : Nat)) := ((BGo.kept Kx hne1).cell k).trans (ucells_get L k hkl)
          have hcp : wr.cell? ⟨gn, k, none⟩ = some (.int .u64 ((avPart L v u' k).getD k 0 : Nat)) := (BP.cell k).trans (ucells_get _ k (by rw [avPart_length]; omega))
          have hfp := BP.frozen k
          have hcu : wr.cell? ⟨w.heap.size + 1, i, none⟩ = some (.int .u8 u') := (Kx.cell (World.block_lt_of_cell? _ _ hupo) hne2).trans hupo
          have X1 := avX1_le L v u' k hkl (by omega)
          have X2 := avX2_le L v u' k hkl (by omega)
          have E1 : avX1 L v u' k = (avPart L v u' k).getD k 0 + L.getD k 0 * (100 - u') := rfl
          have E2 : avX2 L v u' k = (avMid L v u' k).getD (k + v) 0 + L.getD k 0 * u' := rfl
          have W1 : IntKind.u64.wrap (((L.getD k 0 : Nat) : Int) * (100 - (u' : Int))) = ((L.getD k 0 * (100 - u') : Nat) : Int) := by
            have e : (((L.getD k 0 : Nat) : Int) * (100 - (u' : Int))) = ((L.getD k 0 * (100 - u') : Nat) : Int) := by
              rw [Int.natCast_mul, Int.natCast_sub (by omega)]; rfl
            rw [e, IntKind.wrap_u64]; omega
          have W2 : IntKind.u64.wrap (((L.getD k 0 : Nat) : Int) * (u' : Int)) = ((L.getD k 0 * u' : Nat) : Int) := by
            rw [← Int.natCast_mul, IntKind.wrap_u64]; omega
          have W3 : IntKind.u64.wrap ((((avPart L v u' k).getD k 0 : Nat) : Int) + ((L.getD k 0 * (100 - u') : Nat) : Int)) = ((avX1 L v u' k : Nat) : Int) := by
            rw [IntKind.wrap_u64]; omega
          have BM : Blk (wr.setCell ⟨gn, k, none⟩ (.int .u64 (avX1 L v u' k : Nat))).drew gn 56 (ucells (avMid L v u' k)) := by
            have h := BP.set k (.int .u64 (avX1 L v u' k : Nat))
            rw [ucells_set] at h
            exact h
          have KM : Kept (· = gn) wo (wr.setCell ⟨gn, k, none⟩ (.int .u64 (avX1 L v u' k : Nat))).drew := (Kx.setCell (fun _ => rfl) _).drew
          have hcq : (wr.setCell ⟨gn, k, none⟩ (.int .u64 (avX1 L v u' k : Nat))).drew.cell? ⟨gn, k + v, none⟩ = some (.int .u64 ((avMid L v u' k).getD (k + v) 0 : Nat)) := (BM.cell _).trans (ucells_get _ _ (by rw [avMid_length]; omega))
          have hfq := BM.frozen (k + v)
          have hcv : (wr.setCell ⟨gn, k, none⟩ (.int .u64 (avX1 L v u' k : Nat))).drew.cell? ⟨w.heap.size + 1, i, none⟩ = some (.int .u8 u') := (KM.cell (World.block_lt_of_cell? _ _ hupo) hne2).trans hupo
          have W4 : IntKind.u64.wrap ((((avMid L v u' k).getD (k + v) 0 : Nat) : Int) + ((L.getD k 0 * u' : Nat) : Int)) = ((avX2 L v u' k : Nat) : Int) := by
            rw [IntKind.wrap_u64]; omega
          have BE : Blk (((wr.setCell ⟨gn, k, none⟩ (.int .u64 (avX1 L v u' k : Nat))).drew.setCell ⟨gn, k + v, none⟩ (.int .u64 (avX2 L v u' k : Nat))).drew) gn 56 (ucells (avPart L v u' (k + 1))) := by
            have h := BM.set (k + v) (.int .u64 (avX2 L v u' k : Nat))
            rw [ucells_set, ← avPart_succ L v u' k hkl] at h
            exact h
          have KE : Kept (· = gn) wo (((wr.setCell ⟨gn, k, none⟩ (.int .u64 (avX1 L v u' k : Nat))).drew.setCell ⟨gn, k + v, none⟩ (.int .u64 (avX2 L v u' k : Nat))).drew) := (KM.setCell (fun _ => rfl) _).drew
          clear E1 E2 X1 X2 BM KM
          generalize L.getD k 0 * (100 - u') = m1 at *
          generalize L.getD k 0 * u' = m2 at *
          generalize L.getD k 0 = y at *
          generalize (avMid L v u' k).getD (k + v) 0 = p2 at *
          generalize avX1 L v u' k = x1 at *
          generalize avX2 L v u' k = x2 at *
          generalize (avPart L v u' k).getD k 0 = p1 at *
          have HW4 := Lib.hid W4
          have hkv : (k : Int) + v < L.length + v := by omega
          clear W4
          go_wp2
          go_region
          generalize hw1 : (wr.setCell ⟨gn, k, none⟩ (.int .u64 x1)).drew = w1 at *
          have W4 := HW4.out
          clear hw1 hcp hfp W1 W3
          go_wp2
          go_region
          go_wp2
          exact ⟨⟨k + 1, by omega, by go_num, BE, KE⟩, by simp [intOf]; omega⟩
        · have k1 : (L.length : Int) ≤ k := by omega
          obtain rfl : k = L.length := by omega
          rw [avPart_all, HN.out] at BP
          have hnl : L.length + v = (avCnt (vsOf l) (vsOf u) (i + 1)).length := by rw [← HN.out]; simp [avNext]
          have KN : Kept No ws wr := (Kw.trans KA fun _ _ h => h).trans Kx (fun b hb e => by subst e; exact absurd (Nat.lt_of_lt_of_le hb Kw.size) (by rw [hgn]; omega))
          have HL := Lib.hid hnl
          clear hnl
          go_wp2
          refine ⟨⟨i + 1, by omega, ⟨gn, ?_, hgs, BP⟩, by go_num, KN⟩, by simp [intOf]; omega⟩
          rw [HL.out]
    · have e : i = 8 := by omega
      subst e
      go_wp2
      go_ret
      exact ⟨_, rfl, ⟨g, rfl, hg, BG⟩, K2.trans Kw fun _ _ h => h⟩
end
end Go.Proofs.Ytencnfgmgcdiiaa
