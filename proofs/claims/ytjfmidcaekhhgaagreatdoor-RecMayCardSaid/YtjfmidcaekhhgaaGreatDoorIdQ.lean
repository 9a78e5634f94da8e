/- Package ids: GetTx, GetReg, as walks. Printed by gen_idd.py. Package votes: Get, as a walk. Package msg: GetItem, as a walk. -/
import Derived.Test.YtjfmidcaekhhgaaGreatDoorCdM
import Derived.Test.YtjfmidcaekhhgaaGreatDoorMsEq
namespace Go.Proofs.YtjfmidcaekhhgaaGreatDoor
open Go.RowKit Go.PM

section
variable {w w' : World} {g : Nat} {s : PR} {a : Option Addr} {c : Nat}
theorem Rdr.setOther (r : Rdr w g s a c) {b : Nat} (hb : b ≠ g) (hq : ∀ q, At a q → q ≠ b) (i : Nat) (v : Value) : Rdr (w.setCell ⟨b, i, none⟩ v) g s a c :=
  r.kept ((Kept.refl (· = b) w).setCell (fun _ => rfl) v) (Ne.symm hb) fun q h => hq q h
theorem Rdr.setRowOther (r : Rdr w g s a c) {b : Nat} (hb : b ≠ g) (hq : ∀ q, At a q → q ≠ b) (cs : Array Value) : Rdr (w.setRow b cs) g s a c :=
  r.kept ((Kept.refl (· = b) w).setRow (fun _ => rfl) cs) (Ne.symm hb) fun q h => hq q h
theorem rbyte_eq {y : Nat} {t : PR} (e : s.byte = (y, t)) (h : Rdr w g s a c) :
    Calls Tryz.prog 71 #[.pointer (some ⟨g, 0, none⟩)] w fun e w' => e = .returned (.int .u8 y) ∧ Kept (· = g) w w' ∧ Rdr w' g t a c := by
  have := rbyte_calls h; rw [e] at this; exact this
theorem rnum_eq {y : Nat} {t : PR} {most : Nat} (e : s.num most = (y, t)) (hm : most < 18446744073709551616) (h : Rdr w g s a c) :
    Calls Tryz.prog 106 #[.pointer (some ⟨g, 0, none⟩), .int .u64 most] w fun e w' => e = .returned (.int .u64 y) ∧ Kept (· = g) w w' ∧ Rdr w' g t a c := by
  have := rnum_calls h most hm; rw [e] at this; exact this
theorem rtext_eq {y : List UInt8} {t : PR} {most : Nat} (e : s.text most = (y, t)) (hm : most < 9223372036854775808) (h : Rdr w g s a c) :
    Calls Tryz.prog 131 #[.pointer (some ⟨g, 0, none⟩), .int .i64 most] w fun e w' => e = .returned (.string ⟨y.toArray⟩) ∧ Kept (· = g) w w' ∧ Rdr w' g t a c := by
  have := rtext_calls h most hm; rw [e] at this; exact this
theorem rkey_eq {y : List UInt8} {t : PR} (e : s.key = (y, t)) (h : Rdr w g s a c) :
    Calls Tryz.prog 110 #[.pointer (some ⟨g, 0, none⟩)] w fun e w' => e = .returned (.agg (bcells y).toArray) ∧ Kept (· = g) w w' ∧ Rdr w' g t a c := by
  have := rkey_calls h; rw [e] at this; exact this

set_option maxHeartbeats 400000 in
theorem count_eq {y : Nat} {t : PR} (e : s.num maxC = (y, t)) (h : Rdr w g s a c) :
    Calls Tryz.prog 126 #[.pointer (some ⟨g, 0, none⟩)] w fun e w' => e = .returned (.int .u32 y) ∧ Kept (· = g) w w' ∧ Rdr w' g t a c := by
  have HN := Lib.hid (rnum_eq (most := 2147483647) e (by decide) h)
  have hle : (y : Int) ≤ 2147483647 := by have := PR.num_le s 2147483647; have e' : s.num 2147483647 = (y, t) := e; rw [e'] at this; simp only at this; omega
  clear h e
  go_enter Tryz.func126, Tryz.ntmps126
  go_wp2_with (go_at_call 106; refine HN.out.mono ?_; rintro _ w2 ⟨rfl, k2, r2⟩)
  go_ret
  exact ⟨rfl, k2, r2⟩

/-- The fault of a reader, asked for: none. -/
theorem fault_none (h : Rdr w g s a c) (h0 : s.why = 0) : Calls Tryz.prog 74 #[.pointer (some ⟨g, 0, none⟩)] w fun e w' => e = .returned (.agg #[.int .i64 0, .int .i64 0]) ∧ Kept No w w' := by
  have := rfault_calls h
  rw [h0, h.ok.none h0] at this
  exact this
def orTx (s : PR) (x : PTx) : PTx := if s.why = 0 then x else (0, 0, 0)
theorem txv_one (x : PTx) : ∀ u ∈ txv x, u.oneCell' = true := by
  intro u hu; simp only [txv, List.mem_cons, List.not_mem_nil, or_false] at hu; rcases hu with rfl | hu; rfl; first | (rcases hu with rfl | rfl <;> rfl) | (subst hu; rfl)
set_option maxHeartbeats 1000000 in
theorem readTx_calls (h : Rdr w g s a c) (x : PTx) :
    Calls Tryz.prog 127 #[.pointer (some ⟨g, 0, none⟩), .agg (txv x).toArray] w fun e w' => e = .returned (.agg (txv (orTx s x)).toArray) ∧ Kept No w w' := by
  have B0 := ((Blk.new w 24 (txv x)).alloc (.cells #[.int .u8 0, .int .u32 0, .int .u32 0] 24)).alloc (.cells #[.int .u8 0, .int .u32 0, .int .u32 0] 24)
  have B1 := (Blk.new' (w := w.alloc (.cells (txv x).toArray 24)) (g := w.heap.size + 1) (by rw [World.size_alloc]) 24 [.int .u8 0, .int .u32 0, .int .u32 0]).alloc (.cells #[.int .u8 0, .int .u32 0, .int .u32 0] 24)
  have B2 := Blk.new' (w := (w.alloc (.cells (txv x).toArray 24)).alloc (.cells #[.int .u8 0, .int .u32 0, .int .u32 0] 24)) (g := w.heap.size + 1 + 1) (by rw [World.size_alloc, World.size_alloc]) 24 [.int .u8 0, .int .u32 0, .int .u32 0]
  have KK := (((Kept.refl No w).alloc (.cells (txv x).toArray 24)).alloc (.cells #[.int .u8 0, .int .u32 0, .int .u32 0] 24)).alloc (.cells #[.int .u8 0, .int .u32 0, .int .u32 0] 24)
  have HF := Lib.hid (rfault_calls (h.keptNo KK))
  have hone := txv_one x
  have honez : ∀ u ∈ ([.int .u8 0, .int .u32 0, .int .u32 0] : List Value), u.oneCell' = true := txv_one (0, 0, 0)
  by_cases h0 : s.why = 0
  · have HE := Lib.hid (show orTx s x = x by unfold orTx; rw [if_pos h0])
    rw [h0, h.ok.none h0] at HF
    have hne := neqFault 0 0 fun _ => rfl
    rw [decide_eq_false (fun h => h rfl)] at hne
    clear h h0 B2 honez
    go_enter Tryz.func127, Tryz.ntmps127
    go_wp2_with (first
      | (go_at_call 74; refine HF.out.mono ?_; rintro _ w2 ⟨rfl, k2⟩; have s0 := (B0.kept k2 (fun h => h)).seg0; have b1 := B1.kept k2 (fun h => h))
      | (with_reducible refine wpList_ld rfl 24 (.tmp 3) rfl Tryz.isAgg24 3 Tryz.sizeOf24 w.heap.size 0 rfl (txv x) rfl s0 ?_)
      | (with_reducible refine wpList_st rfl 24 (.tmp 4) _ rfl 3 Tryz.sizeOf24 (w.heap.size + 1) 0 rfl (txv x) rfl rfl _ _ b1 (by decide) hone ?_))
    have b2 := (b1.setRow (splice [.int .u8 0, .int .u32 0, .int .u32 0] 0 (txv x))).seg0
    refine bodyPost_ret (v := .agg (txv x).toArray) (by rw [results_row _ Tryz.results127 _ Tryz.isAgg24 3 Tryz.sizeOf24 (w.heap.size + 1) rfl (txv x) rfl b2]) rfl ?_
    exact ⟨by rw [HE.out], (KK.trans k2 fun _ _ h => h).setRow (fun h => absurd h (by omega)) _⟩
  · have HE := Lib.hid (show orTx s x = (0, 0, 0) by unfold orTx; rw [if_neg h0])
    have hne := neqFault s.why s.fat h.ok.none
    rw [decide_eq_true (show ¬ s.why = 0 from h0)] at hne
    clear h h0 B0 hone
    go_enter Tryz.func127, Tryz.ntmps127
    go_wp2_with (first
      | (go_at_call 74; refine HF.out.mono ?_; rintro _ w2 ⟨rfl, k2⟩; have s0 := (B2.kept k2 (fun h => h)).seg0; have b1 := B1.kept k2 (fun h => h))
      | (with_reducible refine wpList_ld rfl 24 (.tmp 5) rfl Tryz.isAgg24 3 Tryz.sizeOf24 (w.heap.size + 1 + 1) 0 rfl [.int .u8 0, .int .u32 0, .int .u32 0] rfl s0 ?_)
      | (with_reducible refine wpList_st rfl 24 (.tmp 4) _ rfl 3 Tryz.sizeOf24 (w.heap.size + 1) 0 rfl [.int .u8 0, .int .u32 0, .int .u32 0] rfl rfl _ _ b1 (by decide) honez ?_))
    have b2 := (b1.setRow (splice [.int .u8 0, .int .u32 0, .int .u32 0] 0 [.int .u8 0, .int .u32 0, .int .u32 0])).seg0
    refine bodyPost_ret (v := .agg #[.int .u8 0, .int .u32 0, .int .u32 0]) (by rw [results_row _ Tryz.results127 _ Tryz.isAgg24 3 Tryz.sizeOf24 (w.heap.size + 1) rfl [.int .u8 0, .int .u32 0, .int .u32 0] rfl b2]) rfl ?_
    exact ⟨by rw [HE.out]; rfl, (KK.trans k2 fun _ _ h => h).setRow (fun h => absurd h (by omega)) _⟩

def orReg (s : PR) (x : PReg) : PReg := if s.why = 0 then x else (0, 0)
theorem regv_one (x : PReg) : ∀ u ∈ regv x, u.oneCell' = true := by
  intro u hu; simp only [regv, List.mem_cons, List.not_mem_nil, or_false] at hu; rcases hu with rfl | hu; rfl; first | (rcases hu with rfl | rfl <;> rfl) | (subst hu; rfl)
set_option maxHeartbeats 1000000 in
theorem readReg_calls (h : Rdr w g s a c) (x : PReg) :
    Calls Tryz.prog 128 #[.pointer (some ⟨g, 0, none⟩), .agg (regv x).toArray] w fun e w' => e = .returned (.agg (regv (orReg s x)).toArray) ∧ Kept No w w' := by
  have B0 := ((Blk.new w 26 (regv x)).alloc (.cells #[.int .u32 0, .int .u32 0] 26)).alloc (.cells #[.int .u32 0, .int .u32 0] 26)
  have B1 := (Blk.new' (w := w.alloc (.cells (regv x).toArray 26)) (g := w.heap.size + 1) (by rw [World.size_alloc]) 26 [.int .u32 0, .int .u32 0]).alloc (.cells #[.int .u32 0, .int .u32 0] 26)
  have B2 := Blk.new' (w := (w.alloc (.cells (regv x).toArray 26)).alloc (.cells #[.int .u32 0, .int .u32 0] 26)) (g := w.heap.size + 1 + 1) (by rw [World.size_alloc, World.size_alloc]) 26 [.int .u32 0, .int .u32 0]
  have KK := (((Kept.refl No w).alloc (.cells (regv x).toArray 26)).alloc (.cells #[.int .u32 0, .int .u32 0] 26)).alloc (.cells #[.int .u32 0, .int .u32 0] 26)
  have HF := Lib.hid (rfault_calls (h.keptNo KK))
  have hone := regv_one x
  have honez : ∀ u ∈ ([.int .u32 0, .int .u32 0] : List Value), u.oneCell' = true := regv_one (0, 0)
  by_cases h0 : s.why = 0
  · have HE := Lib.hid (show orReg s x = x by unfold orReg; rw [if_pos h0])
    rw [h0, h.ok.none h0] at HF
    have hne := neqFault 0 0 fun _ => rfl
    rw [decide_eq_false (fun h => h rfl)] at hne
    clear h h0 B2 honez
    go_enter Tryz.func128, Tryz.ntmps128
    go_wp2_with (first
      | (go_at_call 74; refine HF.out.mono ?_; rintro _ w2 ⟨rfl, k2⟩; have s0 := (B0.kept k2 (fun h => h)).seg0; have b1 := B1.kept k2 (fun h => h))
      | (with_reducible refine wpList_ld rfl 26 (.tmp 3) rfl Tryz.isAgg26 2 Tryz.sizeOf26 w.heap.size 0 rfl (regv x) rfl s0 ?_)
      | (with_reducible refine wpList_st rfl 26 (.tmp 4) _ rfl 2 Tryz.sizeOf26 (w.heap.size + 1) 0 rfl (regv x) rfl rfl _ _ b1 (by decide) hone ?_))
    have b2 := (b1.setRow (splice [.int .u32 0, .int .u32 0] 0 (regv x))).seg0
    refine bodyPost_ret (v := .agg (regv x).toArray) (by rw [results_row _ Tryz.results128 _ Tryz.isAgg26 2 Tryz.sizeOf26 (w.heap.size + 1) rfl (regv x) rfl b2]) rfl ?_
    exact ⟨by rw [HE.out], (KK.trans k2 fun _ _ h => h).setRow (fun h => absurd h (by omega)) _⟩
  · have HE := Lib.hid (show orReg s x = (0, 0) by unfold orReg; rw [if_neg h0])
    have hne := neqFault s.why s.fat h.ok.none
    rw [decide_eq_true (show ¬ s.why = 0 from h0)] at hne
    clear h h0 B0 hone
    go_enter Tryz.func128, Tryz.ntmps128
    go_wp2_with (first
      | (go_at_call 74; refine HF.out.mono ?_; rintro _ w2 ⟨rfl, k2⟩; have s0 := (B2.kept k2 (fun h => h)).seg0; have b1 := B1.kept k2 (fun h => h))
      | (with_reducible refine wpList_ld rfl 26 (.tmp 5) rfl Tryz.isAgg26 2 Tryz.sizeOf26 (w.heap.size + 1 + 1) 0 rfl [.int .u32 0, .int .u32 0] rfl s0 ?_)
      | (with_reducible refine wpList_st rfl 26 (.tmp 4) _ rfl 2 Tryz.sizeOf26 (w.heap.size + 1) 0 rfl [.int .u32 0, .int .u32 0] rfl rfl _ _ b1 (by decide) honez ?_))
    have b2 := (b1.setRow (splice [.int .u32 0, .int .u32 0] 0 [.int .u32 0, .int .u32 0])).seg0
    refine bodyPost_ret (v := .agg #[.int .u32 0, .int .u32 0]) (by rw [results_row _ Tryz.results128 _ Tryz.isAgg26 2 Tryz.sizeOf26 (w.heap.size + 1) rfl [.int .u32 0, .int .u32 0] rfl b2]) rfl ?_
    exact ⟨by rw [HE.out]; rfl, (KK.trans k2 fun _ _ h => h).setRow (fun h => absurd h (by omega)) _⟩

set_option maxRecDepth 100000 in
set_option maxHeartbeats 1000000 in
theorem getTx_calls (h : Rdr w g s a c) :
    Calls Tryz.prog 107 #[.pointer (some ⟨g, 0, none⟩)] w fun e w' => e = .returned (.agg (txv (txC.get s).1).toArray) ∧ Kept (· = g) w w' ∧ Rdr w' g (txC.get s).2 a c := by
  obtain ⟨y0, s1, e0⟩ : ∃ y t, s.byte = (y, t) := ⟨_, _, rfl⟩
  obtain ⟨y1, s2, e1⟩ : ∃ y t, s1.num maxC = (y, t) := ⟨_, _, rfl⟩
  obtain ⟨y2, s3, e2⟩ : ∃ y t, s2.num maxC = (y, t) := ⟨_, _, rfl⟩
  have HG := Lib.hid (show txC.get s = (orTx s3 (y0, y1, y2), s3) by
    have h1 : txC.get s = (orTx ((s.byte.2.num maxC).2.num maxC).2 (s.byte.1, (s.byte.2.num maxC).1, ((s.byte.2.num maxC).2.num maxC).1), ((s.byte.2.num maxC).2.num maxC).2) := rfl
    rw [h1]; simp only [e0, e1, e2])
  have B0 := (Blk.new w 24 [.int .u8 0, .int .u32 0, .int .u32 0]).alloc (.cells #[.int .u8 0, .int .u32 0, .int .u32 0] 24)
  have B1 := Blk.new' (w := w.alloc (.cells #[.int .u8 0, .int .u32 0, .int .u32 0] 24)) (g := w.heap.size + 1) (by rw [World.size_alloc]) 24 [.int .u8 0, .int .u32 0, .int .u32 0]
  have KK := ((Kept.refl No w).alloc (.cells #[.int .u8 0, .int .u32 0, .int .u32 0] 24)).alloc (.cells #[.int .u8 0, .int .u32 0, .int .u32 0] 24)
  have hgw := h.box.lt
  have hlt := h.lt
  have R0 := Lib.hid (h.keptNo KK)
  have n0 : w.heap.size ≠ g := Nat.ne_of_gt hgw
  have n1 : w.heap.size + 1 ≠ g := by omega
  have q1 : ∀ q, At a q → q ≠ w.heap.size + 1 := fun q hq e => by have := hlt q hq; omega
  have q0 : ∀ q, At a q → q ≠ w.heap.size := fun q hq e => by have := hlt q hq; omega
  have Q1 := Lib.hid q1
  have Q0 := Lib.hid q0
  rw [HG.out]
  clear h hlt q1 q0
  have E0 := Lib.hid e0
  have E1 := Lib.hid e1
  have E2 := Lib.hid e2
  clear e0 e1 e2
  go_enter Tryz.func107, Tryz.ntmps107
  go_wp2_with fail
  refine (rbyte_eq E0.out R0.out).mono ?_
  rintro _ w1 ⟨rfl, k1, r1⟩
  have b1 := B1.kept k1 n1
  have d1 : w1.cell? ⟨w.heap.size + 1, 0, none⟩ = some (.int .u8 0) := b1.cell 0
  have f1 := b1.frozen 0
  have z1 := B0.kept k1 n0
  have K1 := (KK.no.trans k1 fun _ _ h => h).setCell (a := ⟨w.heap.size + 1, 0, none⟩) (S := (· = g)) (fun h => absurd h (Nat.not_lt.2 (Nat.le_succ _))) (.int .u8 (y0 : Nat))
  have R1 := Lib.hid (r1.setOther n1 Q1.out 0 (.int .u8 (y0 : Nat)))
  go_wp2_with fail
  refine (count_eq E1.out R1.out).mono ?_
  rintro _ w2 ⟨rfl, k2, r2⟩
  have b2 := (b1.set 0 (.int .u8 (y0 : Nat))).kept k2 n1
  have d2 : w2.cell? ⟨w.heap.size + 1, 1, none⟩ = some (.int .u32 0) := b2.cell 1
  have f2 := b2.frozen 1
  have z2 := (z1.setOther (a := ⟨w.heap.size + 1, 0, none⟩) (Nat.ne_of_lt (Nat.lt_succ_self _)) (.int .u8 (y0 : Nat))).kept k2 n0
  have K2 := (K1.trans k2 fun _ _ h => h).setCell (a := ⟨w.heap.size + 1, 1, none⟩) (fun h => absurd h (Nat.not_lt.2 (Nat.le_succ _))) (.int .u32 (y1 : Nat))
  have R2 := Lib.hid (r2.setOther n1 Q1.out 1 (.int .u32 (y1 : Nat)))
  go_wp2_with fail
  refine (count_eq E2.out R2.out).mono ?_
  rintro _ w3 ⟨rfl, k3, r3⟩
  have b3 := (b2.set 1 (.int .u32 (y1 : Nat))).kept k3 n1
  have d3 : w3.cell? ⟨w.heap.size + 1, 2, none⟩ = some (.int .u32 0) := b3.cell 2
  have f3 := b3.frozen 2
  have z3 := (z2.setOther (a := ⟨w.heap.size + 1, 1, none⟩) (Nat.ne_of_lt (Nat.lt_succ_self _)) (.int .u32 (y1 : Nat))).kept k3 n0
  have K3 := (K2.trans k3 fun _ _ h => h).setCell (a := ⟨w.heap.size + 1, 2, none⟩) (fun h => absurd h (Nat.not_lt.2 (Nat.le_succ _))) (.int .u32 (y2 : Nat))
  have R3 := Lib.hid (r3.setOther n1 Q1.out 2 (.int .u32 (y2 : Nat)))
  have sg : Seg _ (w.heap.size + 1) 0 (txv (y0, y1, y2)) := (b3.set 2 (.int .u32 (y2 : Nat))).seg0
  have hone := txv_one (orTx s3 (y0, y1, y2))
  go_wp2_with (first
    | (with_reducible refine wpList_ld rfl 24 (.tmp 3) rfl Tryz.isAgg24 3 Tryz.sizeOf24 (w.heap.size + 1) 0 rfl (txv (y0, y1, y2)) rfl sg ?_)
    | (go_at_call 127; refine (readTx_calls R3.out (y0, y1, y2)).mono ?_; rintro _ w9 ⟨rfl, k9⟩; have z9 := (z3.setOther (a := ⟨w.heap.size + 1, 2, none⟩) (Nat.ne_of_lt (Nat.lt_succ_self _)) (.int .u32 (y2 : Nat))).kept k9 (fun h => h))
    | (with_reducible refine wpList_st rfl 24 (.tmp 2) _ rfl 3 Tryz.sizeOf24 w.heap.size 0 rfl (txv (orTx s3 (y0, y1, y2))) rfl rfl _ _ z9 (by decide) hone ?_))
  have y9 := (z9.setRow (splice [.int .u8 0, .int .u32 0, .int .u32 0] 0 (txv (orTx s3 (y0, y1, y2))))).seg0
  refine bodyPost_ret (v := .agg (txv (orTx s3 (y0, y1, y2))).toArray) (by rw [results_row _ Tryz.results107 _ Tryz.isAgg24 3 Tryz.sizeOf24 w.heap.size rfl (txv (orTx s3 (y0, y1, y2))) rfl y9]) rfl ?_
  exact ⟨rfl, (K3.transNo k9).setRow (fun h => absurd h (Nat.lt_irrefl _)) _, (R3.out.keptNo k9).setRowOther n0 Q0.out _⟩

set_option maxRecDepth 100000 in
set_option maxHeartbeats 1000000 in
theorem getReg_calls (h : Rdr w g s a c) :
    Calls Tryz.prog 108 #[.pointer (some ⟨g, 0, none⟩)] w fun e w' => e = .returned (.agg (regv (regC.get s).1).toArray) ∧ Kept (· = g) w w' ∧ Rdr w' g (regC.get s).2 a c := by
  obtain ⟨y0, s1, e0⟩ : ∃ y t, s.num maxC = (y, t) := ⟨_, _, rfl⟩
  obtain ⟨y1, s2, e1⟩ : ∃ y t, s1.num maxC = (y, t) := ⟨_, _, rfl⟩
  have HG := Lib.hid (show regC.get s = (orReg s2 (y0, y1), s2) by
    have h1 : regC.get s = (orReg ((s.num maxC).2.num maxC).2 ((s.num maxC).1, ((s.num maxC).2.num maxC).1), ((s.num maxC).2.num maxC).2) := rfl
    rw [h1]; simp only [e0, e1])
  have B0 := (Blk.new w 26 [.int .u32 0, .int .u32 0]).alloc (.cells #[.int .u32 0, .int .u32 0] 26)
  have B1 := Blk.new' (w := w.alloc (.cells #[.int .u32 0, .int .u32 0] 26)) (g := w.heap.size + 1) (by rw [World.size_alloc]) 26 [.int .u32 0, .int .u32 0]
  have KK := ((Kept.refl No w).alloc (.cells #[.int .u32 0, .int .u32 0] 26)).alloc (.cells #[.int .u32 0, .int .u32 0] 26)
  have hgw := h.box.lt
  have hlt := h.lt
  have R0 := Lib.hid (h.keptNo KK)
  have n0 : w.heap.size ≠ g := Nat.ne_of_gt hgw
  have n1 : w.heap.size + 1 ≠ g := by omega
  have q1 : ∀ q, At a q → q ≠ w.heap.size + 1 := fun q hq e => by have := hlt q hq; omega
  have q0 : ∀ q, At a q → q ≠ w.heap.size := fun q hq e => by have := hlt q hq; omega
  have Q1 := Lib.hid q1
  have Q0 := Lib.hid q0
  rw [HG.out]
  clear h hlt q1 q0
  have E0 := Lib.hid e0
  have E1 := Lib.hid e1
  clear e0 e1
  go_enter Tryz.func108, Tryz.ntmps108
  go_wp2_with fail
  refine (count_eq E0.out R0.out).mono ?_
  rintro _ w1 ⟨rfl, k1, r1⟩
  have b1 := B1.kept k1 n1
  have d1 : w1.cell? ⟨w.heap.size + 1, 0, none⟩ = some (.int .u32 0) := b1.cell 0
  have f1 := b1.frozen 0
  have z1 := B0.kept k1 n0
  have K1 := (KK.no.trans k1 fun _ _ h => h).setCell (a := ⟨w.heap.size + 1, 0, none⟩) (S := (· = g)) (fun h => absurd h (Nat.not_lt.2 (Nat.le_succ _))) (.int .u32 (y0 : Nat))
  have R1 := Lib.hid (r1.setOther n1 Q1.out 0 (.int .u32 (y0 : Nat)))
  go_wp2_with fail
  refine (count_eq E1.out R1.out).mono ?_
  rintro _ w2 ⟨rfl, k2, r2⟩
  have b2 := (b1.set 0 (.int .u32 (y0 : Nat))).kept k2 n1
  have d2 : w2.cell? ⟨w.heap.size + 1, 1, none⟩ = some (.int .u32 0) := b2.cell 1
  have f2 := b2.frozen 1
  have z2 := (z1.setOther (a := ⟨w.heap.size + 1, 0, none⟩) (Nat.ne_of_lt (Nat.lt_succ_self _)) (.int .u32 (y0 : Nat))).kept k2 n0
  have K2 := (K1.trans k2 fun _ _ h => h).setCell (a := ⟨w.heap.size + 1, 1, none⟩) (fun h => absurd h (Nat.not_lt.2 (Nat.le_succ _))) (.int .u32 (y1 : Nat))
  have R2 := Lib.hid (r2.setOther n1 Q1.out 1 (.int .u32 (y1 : Nat)))
  have sg : Seg _ (w.heap.size + 1) 0 (regv (y0, y1)) := (b2.set 1 (.int .u32 (y1 : Nat))).seg0
  have hone := regv_one (orReg s2 (y0, y1))
  go_wp2_with (first
    | (with_reducible refine wpList_ld rfl 26 (.tmp 3) rfl Tryz.isAgg26 2 Tryz.sizeOf26 (w.heap.size + 1) 0 rfl (regv (y0, y1)) rfl sg ?_)
    | (go_at_call 128; refine (readReg_calls R2.out (y0, y1)).mono ?_; rintro _ w9 ⟨rfl, k9⟩; have z9 := (z2.setOther (a := ⟨w.heap.size + 1, 1, none⟩) (Nat.ne_of_lt (Nat.lt_succ_self _)) (.int .u32 (y1 : Nat))).kept k9 (fun h => h))
    | (with_reducible refine wpList_st rfl 26 (.tmp 2) _ rfl 2 Tryz.sizeOf26 w.heap.size 0 rfl (regv (orReg s2 (y0, y1))) rfl rfl _ _ z9 (by decide) hone ?_))
  have y9 := (z9.setRow (splice [.int .u32 0, .int .u32 0] 0 (regv (orReg s2 (y0, y1))))).seg0
  refine bodyPost_ret (v := .agg (regv (orReg s2 (y0, y1))).toArray) (by rw [results_row _ Tryz.results108 _ Tryz.isAgg26 2 Tryz.sizeOf26 w.heap.size rfl (regv (orReg s2 (y0, y1))) rfl y9]) rfl ?_
  exact ⟨rfl, (K2.transNo k9).setRow (fun h => absurd h (Nat.lt_irrefl _)) _, (R2.out.keptNo k9).setRowOther n0 Q0.out _⟩

end
end Go.Proofs.YtjfmidcaekhhgaaGreatDoor

namespace Go.Proofs.YtjfmidcaekhhgaaGreatDoor
open Go.RowKit Go.PM

theorem getN_snoc {α : Type} (c : Codec α) (n : Nat) (s : PR) : c.getN (n + 1) s = ((c.getN n s).1 ++ [(c.get (c.getN n s).2).1], (c.get (c.getN n s).2).2) := by
  induction n generalizing s with
  | zero => rfl
  | succ n ih =>
    rw [Codec.getN, ih (c.get s).2]
    rfl
/-- The bytes read so far, and zeros. -/
def padTo (k : Nat) (s : PR) : List UInt8 := (byteU.getN k s).1 ++ List.replicate (8 - k) 0
theorem padTo_length {k : Nat} (s : PR) (hk : k ≤ 8) : (padTo k s).length = 8 := by
  unfold padTo; rw [List.length_append, Codec.getN_length]; simp; omega
theorem padTo_all (s : PR) : padTo 8 s = (byteU.getN 8 s).1 := by simp [padTo]
theorem padTo_step {k : Nat} (s : PR) (hk : k < 8) (e r v y : Nat) (t : PR) (h : (byteU.getN k s).2.byte = (y, t)) (hy : y < 256) :
    (cfgc e r v (padTo k s)).set (3 + k) (.int .u8 y) = cfgc e r v (padTo (k + 1) s) ∧ (byteU.getN (k + 1) s).2 = t := by
  rw [getN_snoc]
  have h1 : byteU.get (byteU.getN k s).2 = (UInt8.ofNat y, t) := by
    show (UInt8.ofNat (byteU.getN k s).2.byte.1, (byteU.getN k s).2.byte.2) = _
    rw [h]
  refine ⟨?_, by rw [h1]⟩
  have h2 : padTo (k + 1) s = (byteU.getN k s).1 ++ UInt8.ofNat y :: List.replicate (8 - (k + 1)) 0 := by
    unfold padTo; rw [getN_snoc, h1]; simp
  have h3 : padTo k s = (byteU.getN k s).1 ++ 0 :: List.replicate (8 - (k + 1)) 0 := by
    unfold padTo; rw [show 8 - k = (8 - (k + 1)) + 1 by omega, List.replicate_succ]
  have hl : (byteU.getN k s).1.length = k := Codec.getN_length _ _ _
  rw [h2, h3]
  unfold cfgc bcells
  rw [show 3 + k = k + 1 + 1 + 1 by omega]
  simp only [List.set_cons_succ, List.map_append, List.map_cons]
  rw [List.set_append_right _ _ (by simp [hl]), List.length_map, hl, Nat.sub_self, List.set_cons_zero, UInt8.of_lt hy]

section
variable {w : World} {g : Nat} {s : PR} {a : Option Addr} {c : Nat}
def orCfg (s : PR) (x : PCfg) : PCfg := if s.why = 0 then x else noCfg
def VgRel (w0 : World) (g : Nat) (s3 : PR) (a : Option Addr) (c : Nat) (p : Nat) (e r v : Nat) (i : Value) (wr : World) : Prop :=
  ∃ k : Nat, k ≤ 8 ∧ i = .int .i64 k ∧ Rdr wr g (byteU.getN k s3).2 a c ∧ Blk wr (p + 1) 30 (cfgc e r v (padTo k s3)) ∧ Blk wr p 30 (cfgc 0 0 0 zeros8) ∧ Kept (· = g) w0 wr

set_option maxRecDepth 100000 in
set_option maxHeartbeats 2000000 in
theorem getCfg_calls (h : Rdr w g s a c) :
    Calls Tryz.prog 132 #[.pointer (some ⟨g, 0, none⟩)] w fun e w' => e = .returned (.agg (cfgv (cfgC.get s).1).toArray) ∧ Kept (· = g) w w' ∧ Rdr w' g (cfgC.get s).2 a c := by
  obtain ⟨e, s1, e1⟩ : ∃ y t, s.num maxC = (y, t) := ⟨_, _, rfl⟩
  obtain ⟨r, s2, e2⟩ : ∃ y t, s1.num 255 = (y, t) := ⟨_, _, rfl⟩
  obtain ⟨v, s3, e3⟩ : ∃ y t, s2.num 255 = (y, t) := ⟨_, _, rfl⟩
  obtain ⟨l, s4, e4⟩ : ∃ y t, byteU.getN 8 s3 = (y, t) := ⟨_, _, rfl⟩
  have HG := Lib.hid (show cfgC.get s = (orCfg s4 (e, r, v, l), s4) by
    simp only [cfgC, Codec.orZero, Codec.seq, countC, numC, Codec.times, orCfg, e1, e2, e3, e4])
  have le : e ≤ 2147483647 := by have := PR.num_le s maxC; rw [e1] at this; exact this
  have lr : r ≤ 255 := by have := PR.num_le s1 255; rw [e2] at this; exact this
  have lv : v ≤ 255 := by have := PR.num_le s2 255; rw [e3] at this; exact this
  have le' : (e : Int) ≤ 2147483647 := by omega
  have lr' : (r : Int) ≤ 255 := by omega
  have lv' : (v : Int) ≤ 255 := by omega
  have B0 := (Blk.new w 30 (cfgc 0 0 0 zeros8)).alloc (.cells (cfgc 0 0 0 zeros8).toArray 30)
  have B1 := Blk.new' (w := w.alloc (.cells (cfgc 0 0 0 zeros8).toArray 30)) (g := w.heap.size + 1) (by rw [World.size_alloc]) 30 (cfgc 0 0 0 zeros8)
  have KK := ((Kept.refl No w).alloc (.cells (cfgc 0 0 0 zeros8).toArray 30)).alloc (.cells (cfgc 0 0 0 zeros8).toArray 30)
  have hgw := h.box.lt
  have hlt := h.lt
  have R0 := Lib.hid (h.keptNo KK)
  have n0 : w.heap.size ≠ g := Nat.ne_of_gt hgw
  have n1 : w.heap.size + 1 ≠ g := by omega
  have q1 : ∀ q, At a q → q ≠ w.heap.size + 1 := fun q hq e => by have := hlt q hq; omega
  have q0 : ∀ q, At a q → q ≠ w.heap.size := fun q hq e => by have := hlt q hq; omega
  have Q1 := Lib.hid q1
  have Q0 := Lib.hid q0
  have HE1 := Lib.hid e1
  have HE2 := Lib.hid e2
  have HE3 := Lib.hid e3
  have HE4 := Lib.hid e4
  rw [HG.out]
  clear h hlt q1 q0 e1 e2 e3 e4
  go_enter Tryz.func132, Tryz.ntmps132
  go_wp2_with fail
  refine (rnum_eq (most := 2147483647) HE1.out (by decide) R0.out).mono ?_
  rintro _ w1 ⟨rfl, k1, r1⟩
  have b1 := B1.kept k1 n1
  have z1 := B0.kept k1 n0
  have d1 : w1.cell? ⟨w.heap.size + 1, 0, none⟩ = some (.int .u32 0) := b1.cell 0
  have f1 := b1.frozen 0
  have R1 := Lib.hid (r1.setOther n1 Q1.out 0 (.int .u32 (e : Nat)))
  have K1 := (KK.no.trans k1 fun _ _ h => h).setCell (a := ⟨w.heap.size + 1, 0, none⟩) (S := (· = g)) (fun h => absurd h (Nat.not_lt.2 (Nat.le_succ _))) (.int .u32 (e : Nat))
  go_wp2_with fail
  refine (rnum_eq (most := 255) HE2.out (by decide) R1.out).mono ?_
  rintro _ w2 ⟨rfl, k2, r2⟩
  have b2 := (b1.set 0 (.int .u32 (e : Nat))).kept k2 n1
  have z2 := (z1.setOther (a := ⟨w.heap.size + 1, 0, none⟩) (Nat.ne_of_lt (Nat.lt_succ_self _)) (.int .u32 (e : Nat))).kept k2 n0
  have d2 : w2.cell? ⟨w.heap.size + 1, 1, none⟩ = some (.int .u8 0) := b2.cell 1
  have f2 := b2.frozen 1
  have R2 := Lib.hid (r2.setOther n1 Q1.out 1 (.int .u8 (r : Nat)))
  have K2 := (K1.trans k2 fun _ _ h => h).setCell (a := ⟨w.heap.size + 1, 1, none⟩) (fun h => absurd h (Nat.not_lt.2 (Nat.le_succ _))) (.int .u8 (r : Nat))
  go_wp2_with fail
  refine (rnum_eq (most := 255) HE3.out (by decide) R2.out).mono ?_
  rintro _ w3 ⟨rfl, k3, r3⟩
  have b3 := (b2.set 1 (.int .u8 (r : Nat))).kept k3 n1
  have z3 := (z2.setOther (a := ⟨w.heap.size + 1, 1, none⟩) (Nat.ne_of_lt (Nat.lt_succ_self _)) (.int .u8 (r : Nat))).kept k3 n0
  have d3 : w3.cell? ⟨w.heap.size + 1, 2, none⟩ = some (.int .u8 0) := b3.cell 2
  have f3 := b3.frozen 2
  have R3 := Lib.hid (r3.setOther n1 Q1.out 2 (.int .u8 (v : Nat)))
  have K3 := (K2.trans k3 fun _ _ h => h).setCell (a := ⟨w.heap.size + 1, 2, none⟩) (fun h => absurd h (Nat.not_lt.2 (Nat.le_succ _))) (.int .u8 (v : Nat))
  have B3 : Blk (w3.setCell ⟨w.heap.size + 1, 2, none⟩ (.int .u8 (v : Nat))) (w.heap.size + 1) 30 (cfgc e r v (padTo 0 s3)) := b3.set 2 (.int .u8 (v : Nat))
  have Z3 := z3.setOther (a := ⟨w.heap.size + 1, 2, none⟩) (Nat.ne_of_lt (Nat.lt_succ_self _)) (.int .u8 (v : Nat))
  clear b1 z1 k1 r1 b2 z2 d2 f2 k2 r2 k3 r3 d1 f1 b3 z3
  go_wp2
  clear d3 f3
  generalize hW3 : w3.setCell ⟨w.heap.size + 1, 2, none⟩ (.int .u8 (v : Nat)) = W3 at *
  clear hW3
  go_loopw [4, 17] (fun _ i wr => VgRel w g s3 a c w.heap.size e r v i wr) (fun _ i _ => 8 - (intOf i).toNat)
  case atStart => exact ⟨0, by omega, rfl, R3.out, B3, Z3, K3⟩
  case round =>
    clear B3 Z3 K3 R3 R2 R1 K2 K1 R0 KK B0 B1
    obtain ⟨k, hk, rfl, hR, hB, hZ, hK⟩ := hrel
    by_cases hlt : k < 8
    · have i0 : (0 : Int) ≤ k := by omega
      have i1 : (k : Int) < 8 := by omega
      obtain ⟨y, t, ey⟩ : ∃ y t, (byteU.getN k s3).2.byte = (y, t) := ⟨_, _, rfl⟩
      have hy : y < 256 := by have := PR.byte_lt (byteU.getN k s3).2; rw [ey] at this; exact this
      obtain ⟨p1, p2⟩ := padTo_step s3 hlt e r v y t ey hy
      have HP1 := Lib.hid p1
      have HP2 := Lib.hid p2
      have HY := Lib.hid (rbyte_eq ey hR)
      have hpl := padTo_length s3 (show k ≤ 8 by omega)
      clear ey p1 p2
      go_wp2_with (go_at_call 71; refine HY.out.mono ?_; rintro _ w4 ⟨rfl, k4, r4⟩; have b4 := hB.kept k4 n1; have d4 : w4.cell? ⟨w.heap.size + 1, 3 + k, none⟩ = some (.int .u8 (vsOf (padTo k s3) k)) := (b4.cell (3 + k)).trans (cfgc_votes e r v _ (by omega)); have f4 := b4.frozen (3 + k))
      have b5 := b4.set (3 + k) (.int .u8 (y : Nat))
      rw [HP1.out] at b5
      refine ⟨⟨k + 1, by omega, by go_num, by rw [HP2.out]; exact r4.setOther n1 Q1.out _ _, b5, (hZ.kept k4 n0).setOther (Nat.ne_of_lt (Nat.lt_succ_self _)) _, (hK.trans k4 fun _ _ h => h).setCell (fun h => absurd h (Nat.not_lt.2 (Nat.le_succ _))) _⟩, by simp [intOf]; omega⟩
    · obtain rfl : k = 8 := by omega
      rw [padTo_all] at hB
      have hl8 : (byteU.getN 8 s3).1.length = 8 := Codec.getN_length _ _ _
      rw [HE4.out] at hR hB hl8
      simp only at hR hB hl8
      have HF := Lib.hid (rfault_calls hR)
      have l11 : (cfgv (e, r, v, l)).length = 11 := by simp [cfgv, cfgc, hl8]
      have hone := cfgv_one (e, r, v, l)
      by_cases h0 : s4.why = 0
      · have HO := Lib.hid (show orCfg s4 (e, r, v, l) = (e, r, v, l) by unfold orCfg; rw [if_pos h0])
        have hne := neqFault 0 0 fun _ => rfl
        rw [decide_eq_false (fun h => h rfl)] at hne
        rw [h0, hR.ok.none h0] at HF
        clear h0
        go_wp2_with (first
          | (go_at_call 74; refine HF.out.mono ?_; rintro _ w5 ⟨rfl, k5⟩; have s5 : Seg w5 (w.heap.size + 1) 0 (cfgv (e, r, v, l)) := (hB.kept k5 (fun h => h)).seg0; have z5 := hZ.kept k5 (fun h => h))
          | (with_reducible refine wpList_ld rfl 30 (.tmp 3) rfl Tryz.isAgg30 11 Tryz.sizeOf30 (w.heap.size + 1) 0 rfl (cfgv (e, r, v, l)) l11 s5 ?_)
          | (with_reducible refine wpList_st rfl 30 (.tmp 2) _ rfl 11 Tryz.sizeOf30 w.heap.size 0 rfl (cfgv (e, r, v, l)) rfl l11 _ _ z5 (by decide) hone ?_))
        have hsp : splice (cfgc 0 0 0 zeros8) 0 (cfgv (e, r, v, l)) = cfgv (e, r, v, l) := splice_all _ _ (by rw [l11]; rfl)
        have y9 := z5.setRow (splice (cfgc 0 0 0 zeros8) 0 (cfgv (e, r, v, l)))
        rw [hsp] at y9 ⊢
        refine bodyPost_ret (v := .agg (cfgv (e, r, v, l)).toArray) (by rw [results_row _ Tryz.results132 _ Tryz.isAgg30 11 Tryz.sizeOf30 w.heap.size rfl _ l11 y9.seg0]) rfl ?_
        exact ⟨by rw [HO.out], (hK.transNo k5).setRow (fun h => absurd h (Nat.lt_irrefl _)) _, (hR.keptNo k5).setRowOther n0 Q0.out _⟩
      · have HO := Lib.hid (show orCfg s4 (e, r, v, l) = noCfg by unfold orCfg; rw [if_neg h0])
        have hne := neqFault s4.why s4.fat hR.ok.none
        rw [decide_eq_true (show ¬ s4.why = 0 from h0)] at hne
        have hzone : ∀ u ∈ ([.int .u32 0, .int .u8 0, .int .u8 0, .int .u8 0, .int .u8 0, .int .u8 0, .int .u8 0, .int .u8 0, .int .u8 0, .int .u8 0, .int .u8 0] : List Value), u.oneCell' = true := cfgv_one noCfg
        clear h0
        go_wp2_with (first
          | (go_at_call 74; refine HF.out.mono ?_; rintro _ w5 ⟨rfl, k5⟩; have z5 := hZ.kept k5 (fun h => h))
          | (with_reducible refine wpList_st rfl 30 (.tmp 2) _ rfl 11 Tryz.sizeOf30 w.heap.size 0 rfl [.int .u32 0, .int .u8 0, .int .u8 0, .int .u8 0, .int .u8 0, .int .u8 0, .int .u8 0, .int .u8 0, .int .u8 0, .int .u8 0, .int .u8 0] rfl rfl _ _ z5 (by decide) hzone ?_))
        have hsp : splice (cfgc 0 0 0 zeros8) 0 [.int .u32 0, .int .u8 0, .int .u8 0, .int .u8 0, .int .u8 0, .int .u8 0, .int .u8 0, .int .u8 0, .int .u8 0, .int .u8 0, .int .u8 0] = [.int .u32 0, .int .u8 0, .int .u8 0, .int .u8 0, .int .u8 0, .int .u8 0, .int .u8 0, .int .u8 0, .int .u8 0, .int .u8 0, .int .u8 0] := splice_all _ _ rfl
        have y9 := z5.setRow (splice (cfgc 0 0 0 zeros8) 0 [.int .u32 0, .int .u8 0, .int .u8 0, .int .u8 0, .int .u8 0, .int .u8 0, .int .u8 0, .int .u8 0, .int .u8 0, .int .u8 0, .int .u8 0])
        rw [hsp] at y9 ⊢
        refine bodyPost_ret (v := .agg #[.int .u32 0, .int .u8 0, .int .u8 0, .int .u8 0, .int .u8 0, .int .u8 0, .int .u8 0, .int .u8 0, .int .u8 0, .int .u8 0, .int .u8 0]) (by rw [results_row _ Tryz.results132 _ Tryz.isAgg30 11 Tryz.sizeOf30 w.heap.size rfl [.int .u32 0, .int .u8 0, .int .u8 0, .int .u8 0, .int .u8 0, .int .u8 0, .int .u8 0, .int .u8 0, .int .u8 0, .int .u8 0, .int .u8 0] rfl y9.seg0]) rfl ?_
        exact ⟨by rw [HO.out]; rfl, (hK.transNo k5).setRow (fun h => absurd h (Nat.lt_irrefl _)) _, (hR.keptNo k5).setRowOther n0 Q0.out _⟩
end
end Go.Proofs.YtjfmidcaekhhgaaGreatDoor

namespace Go.Proofs.YtjfmidcaekhhgaaGreatDoor
open Go.RowKit Go.PM

theorem count_wf (s : PR) : (s.num maxC).1 < 4294967296 := by
  have := PR.num_le s maxC
  have h : maxC = 2147483647 := rfl
  omega
theorem cfgC_wf (s : PR) : wfCfg (cfgC.get s).1 := by
  simp only [cfgC, Codec.orZero]
  split
  · refine ⟨count_wf _, ?_, ?_, ?_⟩
    · have := PR.num_le (s.num maxC).2 255
      exact Nat.lt_succ_of_le this
    · have := PR.num_le ((s.num maxC).2.num 255).2 255
      exact Nat.lt_succ_of_le this
    · exact Codec.getN_length _ _ _
  · exact ⟨by decide, by decide, by decide, rfl⟩
def orItem (s : PR) (x : PItem) : PItem := if s.why = 0 then x else noItem
theorem itemC_eq {s s1 s2 s3 : PR} {e : Nat} {l : List UInt8} {x : PCfg} (e1 : s.num maxC = (e, s1)) (e2 : s1.text 64 = (l, s2)) (e3 : cfgC.get s2 = (x, s3)) : itemC.get s = (orItem s3 (e, l, x), s3) := by
  simp only [itemC, Codec.orZero, Codec.seq, countC, numC, textC, orItem, e1, e2, e3]
theorem noItem_wf0 : wfItem noItem := by unfold wfItem wfCfg noItem noCfg; simp [zeros8]
theorem itemC_wf (s : PR) : wfItem (itemC.get s).1 ∧ (itemC.get s).1.2.1.length ≤ 64 := by
  obtain ⟨e, s1, e1⟩ : ∃ y t, s.num maxC = (y, t) := ⟨_, _, rfl⟩
  obtain ⟨l, s2, e2⟩ : ∃ y t, s1.text 64 = (y, t) := ⟨_, _, rfl⟩
  obtain ⟨x, s3, e3⟩ : ∃ y t, cfgC.get s2 = (y, t) := ⟨_, _, rfl⟩
  have h1 := count_wf s
  have h2 := PR.text_le s1 64
  have h3 := cfgC_wf s2
  rw [itemC_eq e1 e2 e3]
  rw [e1] at h1
  rw [e2] at h2
  rw [e3] at h3
  unfold orItem
  split
  · exact ⟨⟨h1, h3⟩, h2⟩
  · exact ⟨noItem_wf0, Nat.zero_le _⟩

section
variable {w : World} {g : Nat} {s : PR} {a : Option Addr} {c : Nat}
theorem getCfg_eq {y : PCfg} {t : PR} (e : cfgC.get s = (y, t)) (h : Rdr w g s a c) :
    Calls Tryz.prog 132 #[.pointer (some ⟨g, 0, none⟩)] w fun e w' => e = .returned (.agg (cfgv y).toArray) ∧ Kept (· = g) w w' ∧ Rdr w' g t a c := by
  have := getCfg_calls h; rw [e] at this; exact this

set_option maxRecDepth 100000 in
set_option maxHeartbeats 2000000 in
theorem getItem_calls (h : Rdr w g s a c) :
    Calls Tryz.prog 111 #[.pointer (some ⟨g, 0, none⟩)] w fun e w' => e = .returned (.agg (itemv (itemC.get s).1).toArray) ∧ Kept (· = g) w w' ∧ Rdr w' g (itemC.get s).2 a c := by
  obtain ⟨e, s1, e1⟩ : ∃ y t, s.num maxC = (y, t) := ⟨_, _, rfl⟩
  obtain ⟨l, s2, e2⟩ : ∃ y t, s1.text 64 = (y, t) := ⟨_, _, rfl⟩
  obtain ⟨x, s3, e3⟩ : ∃ y t, cfgC.get s2 = (y, t) := ⟨_, _, rfl⟩
  have HG := Lib.hid (show itemC.get s = (orItem s3 (e, l, x), s3) from itemC_eq e1 e2 e3)
  have le : e ≤ 2147483647 := by have := PR.num_le s maxC; rw [e1] at this; exact this
  have wx : wfCfg x := by have := cfgC_wf s2; rw [e3] at this; exact this
  have le' : (e : Int) ≤ 2147483647 := by omega
  have B0 := (Blk.new w 32 [.int .u32 0, .string ⟨#[]⟩, .int .u32 0, .int .u8 0, .int .u8 0, .int .u8 0, .int .u8 0, .int .u8 0, .int .u8 0, .int .u8 0, .int .u8 0, .int .u8 0, .int .u8 0]).alloc (.cells #[.int .u32 0, .string ⟨#[]⟩, .int .u32 0, .int .u8 0, .int .u8 0, .int .u8 0, .int .u8 0, .int .u8 0, .int .u8 0, .int .u8 0, .int .u8 0, .int .u8 0, .int .u8 0] 32)
  have B1 := Blk.new' (w := w.alloc (.cells #[.int .u32 0, .string ⟨#[]⟩, .int .u32 0, .int .u8 0, .int .u8 0, .int .u8 0, .int .u8 0, .int .u8 0, .int .u8 0, .int .u8 0, .int .u8 0, .int .u8 0, .int .u8 0] 32)) (g := w.heap.size + 1) (by rw [World.size_alloc]) 32 [.int .u32 0, .string ⟨#[]⟩, .int .u32 0, .int .u8 0, .int .u8 0, .int .u8 0, .int .u8 0, .int .u8 0, .int .u8 0, .int .u8 0, .int .u8 0, .int .u8 0, .int .u8 0]
  have KK := ((Kept.refl No w).alloc (.cells #[.int .u32 0, .string ⟨#[]⟩, .int .u32 0, .int .u8 0, .int .u8 0, .int .u8 0, .int .u8 0, .int .u8 0, .int .u8 0, .int .u8 0, .int .u8 0, .int .u8 0, .int .u8 0] 32)).alloc (.cells #[.int .u32 0, .string ⟨#[]⟩, .int .u32 0, .int .u8 0, .int .u8 0, .int .u8 0, .int .u8 0, .int .u8 0, .int .u8 0, .int .u8 0, .int .u8 0, .int .u8 0, .int .u8 0] 32)
  have hgw := h.box.lt
  have hlt := h.lt
  have R0 := Lib.hid (h.keptNo KK)
  have n0 : w.heap.size ≠ g := Nat.ne_of_gt hgw
  have n1 : w.heap.size + 1 ≠ g := by omega
  have q1 : ∀ q, At a q → q ≠ w.heap.size + 1 := fun q hq e => by have := hlt q hq; omega
  have q0 : ∀ q, At a q → q ≠ w.heap.size := fun q hq e => by have := hlt q hq; omega
  have Q1 := Lib.hid q1
  have Q0 := Lib.hid q0
  have HE1 := Lib.hid e1
  have HE2 := Lib.hid e2
  have HE3 := Lib.hid e3
  rw [HG.out]
  clear h hlt q1 q0 e1 e2 e3
  go_enter Tryz.func111, Tryz.ntmps111
  go_wp2_with fail
  refine (rnum_eq (most := 2147483647) HE1.out (by decide) R0.out).mono ?_
  rintro _ w1 ⟨rfl, k1, r1⟩
  have b1 := B1.kept k1 n1
  have z1 := B0.kept k1 n0
  have d1 : w1.cell? ⟨w.heap.size + 1, 0, none⟩ = some (.int .u32 0) := b1.cell 0
  have f1 := b1.frozen 0
  have R1 := Lib.hid (r1.setOther n1 Q1.out 0 (.int .u32 (e : Nat)))
  have K1 := (KK.no.trans k1 fun _ _ h => h).setCell (a := ⟨w.heap.size + 1, 0, none⟩) (S := (· = g)) (fun h => absurd h (Nat.not_lt.2 (Nat.le_succ _))) (.int .u32 (e : Nat))
  go_wp2_with fail
  refine (rtext_eq (most := 64) HE2.out (by decide) R1.out).mono ?_
  rintro _ w2 ⟨rfl, k2, r2⟩
  have b2 := (b1.set 0 (.int .u32 (e : Nat))).kept k2 n1
  have z2 := (z1.setOther (a := ⟨w.heap.size + 1, 0, none⟩) (Nat.ne_of_lt (Nat.lt_succ_self _)) (.int .u32 (e : Nat))).kept k2 n0
  have d2 : w2.cell? ⟨w.heap.size + 1, 1, none⟩ = some (.string ⟨#[]⟩) := b2.cell 1
  have f2 := b2.frozen 1
  have R2 := Lib.hid (r2.setOther n1 Q1.out 1 (.string ⟨l.toArray⟩))
  have K2 := (K1.trans k2 fun _ _ h => h).setCell (a := ⟨w.heap.size + 1, 1, none⟩) (fun h => absurd h (Nat.not_lt.2 (Nat.le_succ _))) (.string ⟨l.toArray⟩)
  go_wp2_with fail
  refine (getCfg_eq HE3.out R2.out).mono ?_
  rintro _ w3 ⟨rfl, k3, r3⟩
  have b3 := (b2.set 1 (.string ⟨l.toArray⟩)).kept k3 n1
  have z3 := (z2.setOther (a := ⟨w.heap.size + 1, 1, none⟩) (Nat.ne_of_lt (Nat.lt_succ_self _)) (.string ⟨l.toArray⟩)).kept k3 n0
  have l11 := cfgv_length wx
  have hone := cfgv_one x
  have KA := K2.trans k3 fun _ _ h => h
  have HF := Lib.hid (fun cs => rfault_calls (r3.setRowOther n1 Q1.out cs))
  have hI : wfItem (e, l, x) := ⟨by show e < 4294967296; omega, wx⟩
  have l13 := itemv_length hI
  have hione := itemv_one (e, l, x)
  have hfit : 2 + 11 ≤ (((([.int .u32 0, .string ⟨#[]⟩, .int .u32 0, .int .u8 0, .int .u8 0, .int .u8 0, .int .u8 0, .int .u8 0, .int .u8 0, .int .u8 0, .int .u8 0, .int .u8 0, .int .u8 0] : List Value).set 0 (.int .u32 (e : Nat))).set 1 (.string ⟨l.toArray⟩)) : List Value).length := by simp
  have hsp : splice ((([.int .u32 0, .string ⟨#[]⟩, .int .u32 0, .int .u8 0, .int .u8 0, .int .u8 0, .int .u8 0, .int .u8 0, .int .u8 0, .int .u8 0, .int .u8 0, .int .u8 0, .int .u8 0] : List Value).set 0 (.int .u32 (e : Nat))).set 1 (.string ⟨l.toArray⟩)) 2 (cfgv x) = itemv (e, l, x) := by
    unfold splice itemv
    rw [l11]
    show [.int .u32 (e : Nat), .string ⟨l.toArray⟩] ++ (cfgv x ++ []) = _
    rw [List.append_nil]
    rfl
  have R3 := Lib.hid (fun cs => r3.setRowOther n1 Q1.out cs)
  clear b1 z1 d1 f1 d2 f2 r1 r2 k1 k2 k3 b2 z2 K1 K2
  by_cases h0 : s3.why = 0
  · have HO := Lib.hid (show orItem s3 (e, l, x) = (e, l, x) by unfold orItem; rw [if_pos h0])
    have hne := neqFault 0 0 fun _ => rfl
    rw [decide_eq_false (fun h => h rfl)] at hne
    have HF2 := Lib.hid (fun cs => fault_none (r3.setRowOther n1 Q1.out cs) h0)
    clear h0 HF r3
    go_wp2_with (first
      | (with_reducible refine wpList_st rfl 30 _ _ rfl 11 Tryz.sizeOf30 (w.heap.size + 1) 2 rfl (cfgv x) rfl l11 _ _ b3 hfit hone ?_; rw [hsp])
      | (go_at_call 74; refine (HF2.out _).mono ?_; rintro _ w5 ⟨rfl, k5⟩; have b5 := (b3.setRow (itemv (e, l, x))).kept k5 (fun h => h); have s5 := b5.seg0; have z5 := (z3.kept ((Kept.refl (· = w.heap.size + 1) _).setRow (fun _ => rfl) (itemv (e, l, x)).toArray) (by omega)).kept k5 (fun h => h))
      | (with_reducible refine wpList_ld rfl 32 (.tmp 3) rfl Tryz.isAgg32 13 Tryz.sizeOf32 (w.heap.size + 1) 0 rfl (itemv (e, l, x)) l13 s5 ?_)
      | (with_reducible refine wpList_st rfl 32 (.tmp 2) _ rfl 13 Tryz.sizeOf32 w.heap.size 0 rfl (itemv (e, l, x)) rfl l13 _ _ z5 (by decide) hione ?_))
    have hs9 : splice ([.int .u32 0, .string ⟨#[]⟩, .int .u32 0, .int .u8 0, .int .u8 0, .int .u8 0, .int .u8 0, .int .u8 0, .int .u8 0, .int .u8 0, .int .u8 0, .int .u8 0, .int .u8 0] : List Value) 0 (itemv (e, l, x)) = itemv (e, l, x) := splice_all _ _ (by rw [l13]; rfl)
    have y9 := z5.setRow (splice [.int .u32 0, .string ⟨#[]⟩, .int .u32 0, .int .u8 0, .int .u8 0, .int .u8 0, .int .u8 0, .int .u8 0, .int .u8 0, .int .u8 0, .int .u8 0, .int .u8 0, .int .u8 0] 0 (itemv (e, l, x)))
    rw [hs9] at y9 ⊢
    refine bodyPost_ret (v := .agg (itemv (e, l, x)).toArray) (by rw [results_row _ Tryz.results111 _ Tryz.isAgg32 13 Tryz.sizeOf32 w.heap.size rfl _ l13 y9.seg0]) rfl ?_
    exact ⟨by rw [HO.out], ((KA.setRow (fun h => absurd h (Nat.not_lt.2 (Nat.le_succ _))) _).transNo k5).setRow (fun h => absurd h (Nat.lt_irrefl _)) _, ((R3.out _).keptNo k5).setRowOther n0 Q0.out _⟩
  · have HO := Lib.hid (show orItem s3 (e, l, x) = noItem by unfold orItem; rw [if_neg h0])
    have hne := neqFault s3.why s3.fat r3.ok.none
    rw [decide_eq_true (show ¬ s3.why = 0 from h0)] at hne
    have hzone : ∀ u ∈ ([.int .u32 0, .string ⟨#[]⟩, .int .u32 0, .int .u8 0, .int .u8 0, .int .u8 0, .int .u8 0, .int .u8 0, .int .u8 0, .int .u8 0, .int .u8 0, .int .u8 0, .int .u8 0] : List Value), u.oneCell' = true := itemv_one noItem
    clear h0 r3
    go_wp2_with (first
      | (with_reducible refine wpList_st rfl 30 _ _ rfl 11 Tryz.sizeOf30 (w.heap.size + 1) 2 rfl (cfgv x) rfl l11 _ _ b3 hfit hone ?_; rw [hsp])
      | (go_at_call 74; refine (HF.out _).mono ?_; rintro _ w5 ⟨rfl, k5⟩; have z5 := (z3.kept ((Kept.refl (· = w.heap.size + 1) _).setRow (fun _ => rfl) (itemv (e, l, x)).toArray) (by omega)).kept k5 (fun h => h))
      | (with_reducible refine wpList_st rfl 32 (.tmp 2) _ rfl 13 Tryz.sizeOf32 w.heap.size 0 rfl [.int .u32 0, .string ⟨#[]⟩, .int .u32 0, .int .u8 0, .int .u8 0, .int .u8 0, .int .u8 0, .int .u8 0, .int .u8 0, .int .u8 0, .int .u8 0, .int .u8 0, .int .u8 0] rfl rfl _ _ z5 (by decide) hzone ?_))
    have hs9 : splice ([.int .u32 0, .string ⟨#[]⟩, .int .u32 0, .int .u8 0, .int .u8 0, .int .u8 0, .int .u8 0, .int .u8 0, .int .u8 0, .int .u8 0, .int .u8 0, .int .u8 0, .int .u8 0] : List Value) 0 [.int .u32 0, .string ⟨#[]⟩, .int .u32 0, .int .u8 0, .int .u8 0, .int .u8 0, .int .u8 0, .int .u8 0, .int .u8 0, .int .u8 0, .int .u8 0, .int .u8 0, .int .u8 0] = [.int .u32 0, .string ⟨#[]⟩, .int .u32 0, .int .u8 0, .int .u8 0, .int .u8 0, .int .u8 0, .int .u8 0, .int .u8 0, .int .u8 0, .int .u8 0, .int .u8 0, .int .u8 0] := splice_all _ _ rfl
    have y9 := z5.setRow (splice [.int .u32 0, .string ⟨#[]⟩, .int .u32 0, .int .u8 0, .int .u8 0, .int .u8 0, .int .u8 0, .int .u8 0, .int .u8 0, .int .u8 0, .int .u8 0, .int .u8 0, .int .u8 0] 0 [.int .u32 0, .string ⟨#[]⟩, .int .u32 0, .int .u8 0, .int .u8 0, .int .u8 0, .int .u8 0, .int .u8 0, .int .u8 0, .int .u8 0, .int .u8 0, .int .u8 0, .int .u8 0])
    rw [hs9] at y9 ⊢
    refine bodyPost_ret (v := .agg #[.int .u32 0, .string ⟨#[]⟩, .int .u32 0, .int .u8 0, .int .u8 0, .int .u8 0, .int .u8 0, .int .u8 0, .int .u8 0, .int .u8 0, .int .u8 0, .int .u8 0, .int .u8 0]) (by rw [results_row _ Tryz.results111 _ Tryz.isAgg32 13 Tryz.sizeOf32 w.heap.size rfl [.int .u32 0, .string ⟨#[]⟩, .int .u32 0, .int .u8 0, .int .u8 0, .int .u8 0, .int .u8 0, .int .u8 0, .int .u8 0, .int .u8 0, .int .u8 0, .int .u8 0, .int .u8 0] rfl y9.seg0]) rfl ?_
    exact ⟨by rw [HO.out]; rfl, ((KA.setRow (fun h => absurd h (Nat.not_lt.2 (Nat.le_succ _))) _).transNo k5).setRow (fun h => absurd h (Nat.lt_irrefl _)) _, ((R3.out _).keptNo k5).setRowOther n0 Q0.out _⟩
end
end Go.Proofs.YtjfmidcaekhhgaaGreatDoor
