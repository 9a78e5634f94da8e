/- The document's kept of a message: a walk. Printed by gen_rfk.py. -/
import Derived.Test.YtjfmidcaekhhgaaGreatDoorRfJ
import Derived.Test.YtjfmidcaekhhgaaGreatDoorRfG
import Derived.Test.YtjfmidcaekhhgaaGreatDoorRWr
namespace Go.Proofs.YtjfmidcaekhhgaaGreatDoor
open Go.RowKit Go.PM
section
variable {P : Program} (w : World)
theorem run_index_str (t : TypeId) (l : List UInt8) (i : Nat) (b : UInt8) (h : P.underlying t = some .string) (hl : l[i]? = some b) :
    (Instr.index t (.string ⟨l.toArray⟩) (.int .i64 i)).run P w = .ok (.int .u8 b.toNat) w := by
  have hlt : i < l.length := (List.getElem?_eq_some_iff.1 hl).1
  have hb : l[i] = b := (List.getElem?_eq_some_iff.1 hl).2
  have hn : 0 ≤ (i : Int) ∧ (i : Int) < ((⟨l.toArray⟩ : ByteArray).size : Nat) := ⟨by omega, by show (i : Int) < ((l.length : Nat) : Int); omega⟩
  rw [run_index_string w t _ _ _ h, dif_pos hn]
  have e : ((⟨l.toArray⟩ : ByteArray)[(i : Int).toNat]'(by have := hn.2; omega)) = b := by rw [← hb]; rfl
  rw [e]
end
theorem Fd.set_wf (f : Fd) {A m : PMsg} (hA : A.Wf) (hm : m.Wf) : (f.set A (f.of m)).Wf := by
  cases f
  · exact { hA with tx := hm.tx }
  · exact { hA with time := hm.time }
  · exact { hA with reg := hm.reg }
  · exact { hA with key := hm.key }
  · exact { hA with mode := hm.mode }
  · exact { hA with no := hm.no }
  · exact { hA with why := hm.why }
  · exact { hA with yes := hm.yes }
  · exact { hA with item := hm.item }
  · exact { hA with writes := hm.writes }
theorem Fd.sets_wf (l : List Fd) {A m : PMsg} (hA : A.Wf) (hm : m.Wf) : (Fd.sets l A m).Wf := by
  induction l generalizing A with
  | nil => exact hA
  | cons f l ih => exact ih (f.set_wf hA hm)
theorem Fd.sets_step (l : List Fd) (A m : PMsg) {j : Nat} {f : Fd} (h : l[j]? = some f) : Fd.sets (l.take (j + 1)) A m = f.set (Fd.sets (l.take j) A m) (f.of m) := by
  have hlt : j < l.length := (List.getElem?_eq_some_iff.1 h).1
  have hf : l[j] = f := (List.getElem?_eq_some_iff.1 h).2
  rw [List.take_succ_eq_append_getElem hlt, hf]
  unfold Fd.sets
  rw [List.foldl_append]; rfl
/-- A message with its kind's fields alone. -/
def keptM (m : PMsg) : PMsg := Fd.sets (idx m.kind) (zeroMsg m.kind) m
theorem keptM_wf {m : PMsg} (h : m.Wf) : (keptM m).Wf := Fd.sets_wf _ (zeroMsg_wf _ h.kind) h
theorem idx_le (k : Nat) : (idx k).length ≤ 6 := by
  rcases idx_cases k with h | h | h | h | h | h | h | h | h | h | h | h
  · rw [h]; exact Nat.zero_le _
  all_goals subst h; decide
/-- Where the writes of what is kept lie. -/
def KW (m A : PMsg) (a a' : Option Addr) : Prop := (a' = a ∧ A.writes = m.writes) ∨ A.writes = []
def KpPost (w : World) (m : PMsg) (a : Option Addr) (e : Ending) (w' : World) : Prop := ∃ a' c', e = .returned (.agg (msgv (keptM m) a' c').toArray) ∧ KW m (keptM m) a a' ∧ Kept No w w'
structure KpRel (w : World) (m : PMsg) (a : Option Addr) (c : Nat) (i : Value) (wr : World) : Prop where
  ex : ∃ (j : Nat) (a' : Option Addr) (c' : Nat), j ≤ (idx m.kind).length ∧ i = .int .i64 j ∧ Blk wr (w.heap.size + 1 + 1) 35 (msgv (Fd.sets ((idx m.kind).take j) (zeroMsg m.kind) m) a' c') ∧ KW m (Fd.sets ((idx m.kind).take j) (zeroMsg m.kind) m) a a'
  b1 : Blk wr w.heap.size 35 (msgv m a c)
  b2 : Blk wr (w.heap.size + 1) 35 [.int .u8 0, .int .u8 0, .int .u32 0, .int .u32 0, .int .u32 0, .int .u32 0, .int .u32 0, .int .u8 0, .int .u8 0, .int .u8 0, .int .u8 0, .int .u8 0, .int .u8 0, .int .u8 0, .int .u8 0, .int .u8 0, .int .u32 0, .int .u8 0, .int .u8 0, .int .u32 0, .string ⟨#[]⟩, .int .u32 0, .int .u8 0, .int .u8 0, .int .u8 0, .int .u8 0, .int .u8 0, .int .u8 0, .int .u8 0, .int .u8 0, .int .u8 0, .int .u8 0, .slice none 0 0]
  kept : Kept No w wr
theorem build_rmsg (k : Nat) (w : World) : (Instr.build 35 #[(0, .int .u8 k)]).run Tryz.prog w = .ok (.agg (msgv (zeroMsg k) none 0).toArray) w := by
  simp only [msgv, zeroMsg, txv, regv, noItem, noCfg, zeros8, itemv, cfgv, cfgc, bcells, List.map_cons, List.map_nil, List.cons_append, List.nil_append]
  go_simp
section
variable {w : World}
set_option maxRecDepth 100000 in
set_option maxHeartbeats 2000000 in
theorem refKept_calls (m : PMsg) (hm : m.Wf) (a : Option Addr) (c : Nat) :
    Calls Tryz.prog 51 #[.agg (msgv m a c).toArray] w (KpPost w m a) := by
  have B1 := (Blk.new w 35 (msgv m a c)).alloc (.cells #[.int .u8 0, .int .u8 0, .int .u32 0, .int .u32 0, .int .u32 0, .int .u32 0, .int .u32 0, .int .u8 0, .int .u8 0, .int .u8 0, .int .u8 0, .int .u8 0, .int .u8 0, .int .u8 0, .int .u8 0, .int .u8 0, .int .u32 0, .int .u8 0, .int .u8 0, .int .u32 0, .string ⟨#[]⟩, .int .u32 0, .int .u8 0, .int .u8 0, .int .u8 0, .int .u8 0, .int .u8 0, .int .u8 0, .int .u8 0, .int .u8 0, .int .u8 0, .int .u8 0, .slice none 0 0] 35)
  have B2 := Blk.new' (w := w.alloc (.cells (msgv m a c).toArray 35)) (g := w.heap.size + 1) (by rw [World.size_alloc]) 35 [.int .u8 0, .int .u8 0, .int .u32 0, .int .u32 0, .int .u32 0, .int .u32 0, .int .u32 0, .int .u8 0, .int .u8 0, .int .u8 0, .int .u8 0, .int .u8 0, .int .u8 0, .int .u8 0, .int .u8 0, .int .u8 0, .int .u32 0, .int .u8 0, .int .u8 0, .int .u32 0, .string ⟨#[]⟩, .int .u32 0, .int .u8 0, .int .u8 0, .int .u8 0, .int .u8 0, .int .u8 0, .int .u8 0, .int .u8 0, .int .u8 0, .int .u8 0, .int .u8 0, .slice none 0 0]
  have K2 := ((Kept.refl No w).alloc (.cells (msgv m a c).toArray 35)).alloc (.cells #[.int .u8 0, .int .u8 0, .int .u32 0, .int .u32 0, .int .u32 0, .int .u32 0, .int .u32 0, .int .u8 0, .int .u8 0, .int .u8 0, .int .u8 0, .int .u8 0, .int .u8 0, .int .u8 0, .int .u8 0, .int .u8 0, .int .u32 0, .int .u8 0, .int .u8 0, .int .u32 0, .string ⟨#[]⟩, .int .u32 0, .int .u8 0, .int .u8 0, .int .u8 0, .int .u8 0, .int .u8 0, .int .u8 0, .int .u8 0, .int .u8 0, .int .u8 0, .int .u8 0, .slice none 0 0] 35)
  have c0 := (B1.cell 0).trans (show (msgv m a c)[0]? = some (.int .u8 m.kind) from rfl)
  have B3 := B1.alloc (.cells (msgv (zeroMsg m.kind) none 0).toArray 35)
  have d0 := (B3.cell 0).trans (show (msgv m a c)[0]? = some (.int .u8 m.kind) from rfl)
  have HF := Lib.hid (fun w => refFields_calls (w := w) m.kind)
  have hone := msgv_one (zeroMsg m.kind) none 0
  have hk33 : (msgv (zeroMsg m.kind) none 0).length = 33 := rfl
  have hbk := fun w => build_rmsg m.kind w
  generalize hfs : fstr m.kind = fs at *
  have hsz : (⟨fs.toArray⟩ : ByteArray).size = fs.length := rfl
  go_enter Tryz.func51, Tryz.ntmps51
  go_wp2_with (first
    | (with_reducible refine Go.PM.wpList_build rfl 35 _ rfl #[(0, .int .u8 m.kind)] (by simp only [List.map_toArray, List.map_cons, List.map_nil]; first | rfl | with_unfolding_all rfl) (.agg (msgv (zeroMsg m.kind) none 0).toArray) (hbk _) ?_)
    | (with_reducible refine wpList_st_last rfl 35 _ _ rfl 33 Tryz.sizeOf35 (w.heap.size + 1 + 1) rfl (by rw [World.size_alloc, World.size_alloc]) (msgv (zeroMsg m.kind) none 0) rfl hk33 _ _ rfl hone ?_)
    | (go_at_call 39; refine (HF.out _).mono ?_; rintro _ w2 ⟨rfl, rfl⟩))
  have N3 := Blk.new' (w := (w.alloc (.cells (msgv m a c).toArray 35)).alloc (.cells #[.int .u8 0, .int .u8 0, .int .u32 0, .int .u32 0, .int .u32 0, .int .u32 0, .int .u32 0, .int .u8 0, .int .u8 0, .int .u8 0, .int .u8 0, .int .u8 0, .int .u8 0, .int .u8 0, .int .u8 0, .int .u8 0, .int .u32 0, .int .u8 0, .int .u8 0, .int .u32 0, .string ⟨#[]⟩, .int .u32 0, .int .u8 0, .int .u8 0, .int .u8 0, .int .u8 0, .int .u8 0, .int .u8 0, .int .u8 0, .int .u8 0, .int .u8 0, .int .u8 0, .slice none 0 0] 35)) (g := w.heap.size + 1 + 1) (by rw [World.size_alloc, World.size_alloc]) 35 (msgv (zeroMsg m.kind) none 0)
  have K3 := K2.alloc (.cells (msgv (zeroMsg m.kind) none 0).toArray 35)
  have B4 := B2.alloc (.cells (msgv (zeroMsg m.kind) none 0).toArray 35)
  have hB := w.heap.size
  go_loopw [5] (fun i wr => KpRel w m a c i wr) (fun i _ => (idx m.kind).length - (intOf i).toNat)
  case atStart => exact ⟨⟨0, none, 0, Nat.zero_le _, rfl, by rw [List.take_zero]; exact N3, .inr (by rw [List.take_zero]; rfl)⟩, B3, B4, K3⟩
  case round =>
    clear N3 K3 B4 B1 B2 K2 c0 B3 d0 hone hk33 hbk HF
    obtain ⟨⟨j, a', c', hj, rfl, hb3, hkw⟩, hb1, hb2, hK⟩ := hrel
    have hfl : fs.length = (idx m.kind).length := by rw [← hfs]; simp [fstr]
    have hAwf := Fd.sets_wf ((idx m.kind).take j) (zeroMsg_wf _ hm.kind) hm
    have hL6 := idx_le m.kind
    by_cases hlt : j < (idx m.kind).length
    · obtain ⟨f, hf⟩ : ∃ f, (idx m.kind)[j]? = some f := ⟨_, List.getElem?_eq_getElem hlt⟩
      have hfj : fs[j]? = some f.ch := by rw [← hfs]; simp [fstr, hf]
      have hstep := Fd.sets_step (idx m.kind) (zeroMsg m.kind) m hf
      have HFIN := Lib.hid (show ∀ (wq : World) (a2 : Option Addr) (c2 : Nat) (i : Value), i = .int .i64 ((j + 1 : Nat) : Int) → Blk wq (w.heap.size + 1 + 1) 35 (msgv (f.set (Fd.sets ((idx m.kind).take j) (zeroMsg m.kind) m) (f.of m)) a2 c2) → KW m (f.set (Fd.sets ((idx m.kind).take j) (zeroMsg m.kind) m) (f.of m)) a a2 → Blk wq w.heap.size 35 (msgv m a c) → Blk wq (w.heap.size + 1) 35 [.int .u8 0, .int .u8 0, .int .u32 0, .int .u32 0, .int .u32 0, .int .u32 0, .int .u32 0, .int .u8 0, .int .u8 0, .int .u8 0, .int .u8 0, .int .u8 0, .int .u8 0, .int .u8 0, .int .u8 0, .int .u8 0, .int .u32 0, .int .u8 0, .int .u8 0, .int .u32 0, .string ⟨#[]⟩, .int .u32 0, .int .u8 0, .int .u8 0, .int .u8 0, .int .u8 0, .int .u8 0, .int .u8 0, .int .u8 0, .int .u8 0, .int .u8 0, .int .u8 0, .slice none 0 0] → Kept No w wq → KpRel w m a c i wq from
        fun wq a2 c2 i h0 h1 h2 h3 h4 h5 => ⟨⟨j + 1, a2, c2, hlt, h0, by rw [hstep]; exact h1, by rw [hstep]; exact h2⟩, h3, h4, h5⟩)
      clear hstep
      generalize Fd.sets ((idx m.kind).take j) (zeroMsg m.kind) m = A at *
      generalize (idx m.kind).length = L at *
      have hA := hAwf
      have hAl := msgv_length hA a' c'
      have hix := fun w' => run_index_str (P := Tryz.prog) (w := w') 9 fs j f.ch Tryz.ru_string hfj
      have hltc : (j : Int) < fs.length := by omega
      clear hfj hf hfs
      cases f
      case tx =>
        have hx : ∀ w', (Instr.index 9 (.string ⟨fs.toArray⟩) (.int .i64 j)).run Tryz.prog w' = .ok (.int .u8 116) w' := hix
        clear hix
        have hone := txv_one m.tx
        have hxl : (txv m.tx).length = 3 := rfl
        have hseg : Seg wr w.heap.size 1 (txv m.tx) := hb1.seg 1 _ (by simp [msgv, txv])
        have hsp : splice (msgv A a' c') 1 (txv m.tx) = _ := msgv_tx A a' c' m.tx
        have hfit : 1 + 3 ≤ (msgv A a' c').length := by rw [hAl]; decide
        have hb4 := hb3.setRow (splice (msgv A a' c') 1 (txv m.tx))
        rw [hsp] at hb4
        go_wp2_with (first
          | (with_reducible refine wpList_ld rfl 24 _ rfl Tryz.isAgg24 3 Tryz.sizeOf24 w.heap.size 1 rfl (txv m.tx) hxl hseg ?_)
          | (with_reducible refine wpList_st rfl 24 _ _ rfl 3 Tryz.sizeOf24 (w.heap.size + 1 + 1) 1 rfl (txv m.tx) rfl hxl _ _ hb3 hfit hone ?_; rw [hsp]))
        refine ⟨HFIN.out _ a' c' _ (by go_num) hb4 hkw (hb1.kept ((Kept.refl (· = w.heap.size + 1 + 1) wr).setRow (fun _ => rfl) _) (by omega)) (hb2.kept ((Kept.refl (· = w.heap.size + 1 + 1) wr).setRow (fun _ => rfl) _) (by omega)) (hK.setRow (fun h => absurd h (by omega)) _), by simp [intOf]; omega⟩
      case time =>
        have hx : ∀ w', (Instr.index 9 (.string ⟨fs.toArray⟩) (.int .i64 j)).run Tryz.prog w' = .ok (.int .u8 99) w' := hix
        clear hix
        have c1 : wr.cell? ⟨w.heap.size, 4, none⟩ = some (.int .u32 m.time) := (hb1.cell 4).trans (rfl)
        have c3 : wr.cell? ⟨w.heap.size + 1 + 1, 4, none⟩ = some (.int .u32 A.time) := (hb3.cell 4).trans (rfl)
        have g3 := hb3.frozen 4
        have hb4 := hb3.set 4 (.int .u32 m.time)
        rw [msgv_time A a' c' m.time] at hb4
        go_wp2
        refine ⟨HFIN.out _ a' c' _ (by go_num) hb4 hkw (hb1.setOther (show w.heap.size ≠ w.heap.size + 1 + 1 by omega) _) (hb2.setOther (show w.heap.size + 1 ≠ w.heap.size + 1 + 1 by omega) _) (hK.setCell (fun h => absurd h (by show ¬ w.heap.size + 1 + 1 < w.heap.size; omega)) _), by simp [intOf]; omega⟩
      case reg =>
        have hx : ∀ w', (Instr.index 9 (.string ⟨fs.toArray⟩) (.int .i64 j)).run Tryz.prog w' = .ok (.int .u8 103) w' := hix
        clear hix
        have hone := regv_one m.reg
        have hxl : (regv m.reg).length = 2 := rfl
        have hseg : Seg wr w.heap.size 5 (regv m.reg) := hb1.seg 5 _ (by simp [msgv, txv, regv])
        have hsp : splice (msgv A a' c') 5 (regv m.reg) = _ := msgv_reg A a' c' m.reg
        have hfit : 5 + 2 ≤ (msgv A a' c').length := by rw [hAl]; decide
        have hb4 := hb3.setRow (splice (msgv A a' c') 5 (regv m.reg))
        rw [hsp] at hb4
        go_wp2_with (first
          | (with_reducible refine wpList_ld rfl 26 _ rfl Tryz.isAgg26 2 Tryz.sizeOf26 w.heap.size 5 rfl (regv m.reg) hxl hseg ?_)
          | (with_reducible refine wpList_st rfl 26 _ _ rfl 2 Tryz.sizeOf26 (w.heap.size + 1 + 1) 5 rfl (regv m.reg) rfl hxl _ _ hb3 hfit hone ?_; rw [hsp]))
        refine ⟨HFIN.out _ a' c' _ (by go_num) hb4 hkw (hb1.kept ((Kept.refl (· = w.heap.size + 1 + 1) wr).setRow (fun _ => rfl) _) (by omega)) (hb2.kept ((Kept.refl (· = w.heap.size + 1 + 1) wr).setRow (fun _ => rfl) _) (by omega)) (hK.setRow (fun h => absurd h (by omega)) _), by simp [intOf]; omega⟩
      case key =>
        have hx : ∀ w', (Instr.index 9 (.string ⟨fs.toArray⟩) (.int .i64 j)).run Tryz.prog w' = .ok (.int .u8 107) w' := hix
        clear hix
        have hone := bcells_one m.key
        have hxl : (bcells m.key).length = 8 := (by rw [bcells_length, hm.key])
        have hseg : Seg wr w.heap.size 7 (bcells m.key) := hb1.seg 7 _ (by simp [msgv, txv, regv])
        have hsp : splice (msgv A a' c') 7 (bcells m.key) = _ := msgv_key A a' c' hA m.key hm.key
        have hfit : 7 + 8 ≤ (msgv A a' c').length := by rw [hAl]; decide
        have hb4 := hb3.setRow (splice (msgv A a' c') 7 (bcells m.key))
        rw [hsp] at hb4
        go_wp2_with (first
          | (with_reducible refine wpList_ld rfl 28 _ rfl Tryz.isAgg28 8 Tryz.sizeOf28 w.heap.size 7 rfl (bcells m.key) hxl hseg ?_)
          | (with_reducible refine wpList_st rfl 28 _ _ rfl 8 Tryz.sizeOf28 (w.heap.size + 1 + 1) 7 rfl (bcells m.key) rfl hxl _ _ hb3 hfit hone ?_; rw [hsp]))
        refine ⟨HFIN.out _ a' c' _ (by go_num) hb4 hkw (hb1.kept ((Kept.refl (· = w.heap.size + 1 + 1) wr).setRow (fun _ => rfl) _) (by omega)) (hb2.kept ((Kept.refl (· = w.heap.size + 1 + 1) wr).setRow (fun _ => rfl) _) (by omega)) (hK.setRow (fun h => absurd h (by omega)) _), by simp [intOf]; omega⟩
      case mode =>
        have hx : ∀ w', (Instr.index 9 (.string ⟨fs.toArray⟩) (.int .i64 j)).run Tryz.prog w' = .ok (.int .u8 109) w' := hix
        clear hix
        have c1 : wr.cell? ⟨w.heap.size, 15, none⟩ = some (.int .u8 m.mode) := (hb1.cell 15).trans (cell15_of hm a c 0)
        have c3 : wr.cell? ⟨w.heap.size + 1 + 1, 15, none⟩ = some (.int .u8 A.mode) := (hb3.cell 15).trans (cell15_of hA a' c' 0)
        have g3 := hb3.frozen 15
        have hb4 := hb3.set 15 (.int .u8 m.mode)
        rw [msgv_mode A a' c' hA m.mode] at hb4
        go_wp2
        refine ⟨HFIN.out _ a' c' _ (by go_num) hb4 hkw (hb1.setOther (show w.heap.size ≠ w.heap.size + 1 + 1 by omega) _) (hb2.setOther (show w.heap.size + 1 ≠ w.heap.size + 1 + 1 by omega) _) (hK.setCell (fun h => absurd h (by show ¬ w.heap.size + 1 + 1 < w.heap.size; omega)) _), by simp [intOf]; omega⟩
      case no =>
        have hx : ∀ w', (Instr.index 9 (.string ⟨fs.toArray⟩) (.int .i64 j)).run Tryz.prog w' = .ok (.int .u8 110) w' := hix
        clear hix
        have c1 : wr.cell? ⟨w.heap.size, 16, none⟩ = some (.int .u32 m.no) := (hb1.cell 16).trans (cell15_of hm a c 1)
        have c3 : wr.cell? ⟨w.heap.size + 1 + 1, 16, none⟩ = some (.int .u32 A.no) := (hb3.cell 16).trans (cell15_of hA a' c' 1)
        have g3 := hb3.frozen 16
        have hb4 := hb3.set 16 (.int .u32 m.no)
        rw [msgv_no A a' c' hA m.no] at hb4
        go_wp2
        refine ⟨HFIN.out _ a' c' _ (by go_num) hb4 hkw (hb1.setOther (show w.heap.size ≠ w.heap.size + 1 + 1 by omega) _) (hb2.setOther (show w.heap.size + 1 ≠ w.heap.size + 1 + 1 by omega) _) (hK.setCell (fun h => absurd h (by show ¬ w.heap.size + 1 + 1 < w.heap.size; omega)) _), by simp [intOf]; omega⟩
      case why =>
        have hx : ∀ w', (Instr.index 9 (.string ⟨fs.toArray⟩) (.int .i64 j)).run Tryz.prog w' = .ok (.int .u8 119) w' := hix
        clear hix
        have c1 : wr.cell? ⟨w.heap.size, 17, none⟩ = some (.int .u8 m.why) := (hb1.cell 17).trans (cell15_of hm a c 2)
        have c3 : wr.cell? ⟨w.heap.size + 1 + 1, 17, none⟩ = some (.int .u8 A.why) := (hb3.cell 17).trans (cell15_of hA a' c' 2)
        have g3 := hb3.frozen 17
        have hb4 := hb3.set 17 (.int .u8 m.why)
        rw [msgv_why A a' c' hA m.why] at hb4
        go_wp2
        refine ⟨HFIN.out _ a' c' _ (by go_num) hb4 hkw (hb1.setOther (show w.heap.size ≠ w.heap.size + 1 + 1 by omega) _) (hb2.setOther (show w.heap.size + 1 ≠ w.heap.size + 1 + 1 by omega) _) (hK.setCell (fun h => absurd h (by show ¬ w.heap.size + 1 + 1 < w.heap.size; omega)) _), by simp [intOf]; omega⟩
      case yes =>
        have hx : ∀ w', (Instr.index 9 (.string ⟨fs.toArray⟩) (.int .i64 j)).run Tryz.prog w' = .ok (.int .u8 121) w' := hix
        clear hix
        have c1 : wr.cell? ⟨w.heap.size, 18, none⟩ = some (.int .u8 m.yes) := (hb1.cell 18).trans (cell15_of hm a c 3)
        have c3 : wr.cell? ⟨w.heap.size + 1 + 1, 18, none⟩ = some (.int .u8 A.yes) := (hb3.cell 18).trans (cell15_of hA a' c' 3)
        have g3 := hb3.frozen 18
        have hb4 := hb3.set 18 (.int .u8 m.yes)
        rw [msgv_yes A a' c' hA m.yes] at hb4
        go_wp2
        refine ⟨HFIN.out _ a' c' _ (by go_num) hb4 hkw (hb1.setOther (show w.heap.size ≠ w.heap.size + 1 + 1 by omega) _) (hb2.setOther (show w.heap.size + 1 ≠ w.heap.size + 1 + 1 by omega) _) (hK.setCell (fun h => absurd h (by show ¬ w.heap.size + 1 + 1 < w.heap.size; omega)) _), by simp [intOf]; omega⟩
      case item =>
        have hx : ∀ w', (Instr.index 9 (.string ⟨fs.toArray⟩) (.int .i64 j)).run Tryz.prog w' = .ok (.int .u8 105) w' := hix
        clear hix
        have hone := itemv_one m.item
        have hxl : (itemv m.item).length = 13 := (itemv_length hm.item)
        have hseg : Seg wr w.heap.size 19 (itemv m.item) := hb1.seg 19 _ (seg19_of hm a c)
        have hsp : splice (msgv A a' c') 19 (itemv m.item) = _ := msgv_item A a' c' hA m.item hm.item
        have hfit : 19 + 13 ≤ (msgv A a' c').length := by rw [hAl]; decide
        have hb4 := hb3.setRow (splice (msgv A a' c') 19 (itemv m.item))
        rw [hsp] at hb4
        go_wp2_with (first
          | (with_reducible refine wpList_ld rfl 32 _ rfl Tryz.isAgg32 13 Tryz.sizeOf32 w.heap.size 19 rfl (itemv m.item) hxl hseg ?_)
          | (with_reducible refine wpList_st rfl 32 _ _ rfl 13 Tryz.sizeOf32 (w.heap.size + 1 + 1) 19 rfl (itemv m.item) rfl hxl _ _ hb3 hfit hone ?_; rw [hsp]))
        refine ⟨HFIN.out _ a' c' _ (by go_num) hb4 hkw (hb1.kept ((Kept.refl (· = w.heap.size + 1 + 1) wr).setRow (fun _ => rfl) _) (by omega)) (hb2.kept ((Kept.refl (· = w.heap.size + 1 + 1) wr).setRow (fun _ => rfl) _) (by omega)) (hK.setRow (fun h => absurd h (by omega)) _), by simp [intOf]; omega⟩
      case writes =>
        have hx : ∀ w', (Instr.index 9 (.string ⟨fs.toArray⟩) (.int .i64 j)).run Tryz.prog w' = .ok (.int .u8 108) w' := hix
        clear hix
        have c1 : wr.cell? ⟨w.heap.size, 32, none⟩ = some (.slice a m.writes.length c) := (hb1.cell 32).trans (cell32_of hm a c)
        have c3 : wr.cell? ⟨w.heap.size + 1 + 1, 32, none⟩ = some (.slice a' A.writes.length c') := (hb3.cell 32).trans (cell32_of hA a' c')
        have g3 := hb3.frozen 32
        have hb4 := hb3.set 32 (.slice a m.writes.length c)
        rw [msgv_writes A a' c' hA m.writes a c] at hb4
        go_wp2
        refine ⟨HFIN.out _ a c _ (by go_num) hb4 (.inl ⟨rfl, rfl⟩) (hb1.setOther (show w.heap.size ≠ w.heap.size + 1 + 1 by omega) _) (hb2.setOther (show w.heap.size + 1 ≠ w.heap.size + 1 + 1 by omega) _) (hK.setCell (fun h => absurd h (by show ¬ w.heap.size + 1 + 1 < w.heap.size; omega)) _), by simp [intOf]; omega⟩
    · have hjl : j = (idx m.kind).length := by omega
      have hge : (fs.length : Int) ≤ j := by omega
      have hone := msgv_one (Fd.sets ((idx m.kind).take j) (zeroMsg m.kind) m) a' c'
      have hxl := msgv_length hAwf a' c'
      have hseg := hb3.seg0
      have hq : keptM m = Fd.sets ((idx m.kind).take j) (zeroMsg m.kind) m := by rw [hjl, List.take_length]; rfl
      have HQ := Lib.hid hq
      clear hq
      generalize Fd.sets ((idx m.kind).take j) (zeroMsg m.kind) m = A at *
      have hsp : splice [.int .u8 0, .int .u8 0, .int .u32 0, .int .u32 0, .int .u32 0, .int .u32 0, .int .u32 0, .int .u8 0, .int .u8 0, .int .u8 0, .int .u8 0, .int .u8 0, .int .u8 0, .int .u8 0, .int .u8 0, .int .u8 0, .int .u32 0, .int .u8 0, .int .u8 0, .int .u32 0, .string ⟨#[]⟩, .int .u32 0, .int .u8 0, .int .u8 0, .int .u8 0, .int .u8 0, .int .u8 0, .int .u8 0, .int .u8 0, .int .u8 0, .int .u8 0, .int .u8 0, .slice none 0 0] 0 (msgv A a' c') = msgv A a' c' := splice_all _ _ hxl
      have hfit : 0 + 33 ≤ ([.int .u8 0, .int .u8 0, .int .u32 0, .int .u32 0, .int .u32 0, .int .u32 0, .int .u32 0, .int .u8 0, .int .u8 0, .int .u8 0, .int .u8 0, .int .u8 0, .int .u8 0, .int .u8 0, .int .u8 0, .int .u8 0, .int .u32 0, .int .u8 0, .int .u8 0, .int .u32 0, .string ⟨#[]⟩, .int .u32 0, .int .u8 0, .int .u8 0, .int .u8 0, .int .u8 0, .int .u8 0, .int .u8 0, .int .u8 0, .int .u8 0, .int .u8 0, .int .u8 0, .slice none 0 0] : List Value).length := by decide
      have hb4 := (hb2.setRow (msgv A a' c')).seg0
      generalize (idx m.kind).length = L at *
      clear hjl
      go_wp2_with (first
        | (with_reducible refine wpList_ld rfl 35 _ rfl Tryz.isAgg35 33 Tryz.sizeOf35 (w.heap.size + 1 + 1) 0 rfl (msgv A a' c') hxl hseg ?_)
        | (with_reducible refine wpList_st rfl 35 _ _ rfl 33 Tryz.sizeOf35 (w.heap.size + 1) 0 rfl (msgv A a' c') rfl hxl _ _ hb2 hfit hone ?_; rw [hsp]))
      refine bodyPost_ret (v := .agg (msgv A a' c').toArray) (by rw [results_row _ Tryz.results51 _ Tryz.isAgg35 33 Tryz.sizeOf35 (w.heap.size + 1) rfl _ hxl hb4]) rfl ?_
      exact ⟨a', c', by rw [HQ.out], by rw [HQ.out]; exact hkw, hK.setRow (fun h => absurd h (by omega)) _⟩
end
end Go.Proofs.YtjfmidcaekhhgaaGreatDoor
