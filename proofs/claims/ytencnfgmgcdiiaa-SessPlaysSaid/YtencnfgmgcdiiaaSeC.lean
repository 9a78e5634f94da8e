/- Package sess: Come. -/
import Derived.Test.YtencnfgmgcdiiaaSeB
namespace Go.PM
/-- Come's answer. -/
def pCome (D : List (UInt8 × PC)) (c : UInt8) (q : Int) : Int × PA × Int × List (UInt8 × PC) :=
  let x := (getK D c).getD .zero
  if q < 1 ∨ 2147483647 < q then (0, .zero, 1, D)
  else if (getK D c).isSome = false ∧ D.length = 16 then (0, .zero, 5, D)
  else if q < x.last then (0, .zero, 13, D)
  else if q = x.last ∧ x.opn = true then (2, .zero, 0, D)
  else if q = x.last then (3, x.a, 0, D)
  else if x.opn = true ∨ 1 < q - x.last then (0, .zero, 11, D)
  else (1, .zero, 0, putK D c ⟨q, true, .zero⟩)
end Go.PM
namespace Go.Proofs.Ytencnfgmgcdiiaa
open Go.RowKit Go.PM

section
variable {w : World} {p b : Nat} {D : List (UInt8 × PC)}

theorem set6 {b : Nat} {T : TypeId} {cs : List Value} (h : Blk w b T cs) (hl : cs.length = 6) (x0 x1 x2 x3 x4 x5 : Value) :
    Blk ((((((w.setCell ⟨b, 0, none⟩ x0).setCell ⟨b, 1, none⟩ x1).setCell ⟨b, 2, none⟩ x2).setCell ⟨b, 3, none⟩ x3).setCell ⟨b, 4, none⟩ x4).setCell ⟨b, 5, none⟩ x5) b T [x0, x1, x2, x3, x4, x5] := by
  match cs, hl with
  | [_, _, _, _, _, _], _ => exact (((((h.set 0 x0).set 1 x1).set 2 x2).set 3 x3).set 4 x4).set 5 x5
theorem kept6 {w' : World} {S : Nat → Prop} (k : Kept S w w') (b : Nat) (hb : b < w.heap.size → S b) (x0 x1 x2 x3 x4 x5 : Value) :
    Kept S w ((((((w'.setCell ⟨b, 0, none⟩ x0).setCell ⟨b, 1, none⟩ x1).setCell ⟨b, 2, none⟩ x2).setCell ⟨b, 3, none⟩ x3).setCell ⟨b, 4, none⟩ x4).setCell ⟨b, 5, none⟩ x5) :=
  (((((k.setCell hb x0).setCell hb x1).setCell hb x2).setCell hb x3).setCell hb x4).setCell hb x5
/-- A block's six cells. -/
theorem get6 {b : Nat} {T : TypeId} {x0 x1 x2 x3 x4 x5 : Value} (h : Blk w b T [x0, x1, x2, x3, x4, x5]) :
    w.cell? ⟨b, 0, none⟩ = some x0 ∧ w.cell? ⟨b, 1, none⟩ = some x1 ∧ w.cell? ⟨b, 2, none⟩ = some x2 ∧ w.cell? ⟨b, 3, none⟩ = some x3 ∧ w.cell? ⟨b, 4, none⟩ = some x4 ∧ w.cell? ⟨b, 5, none⟩ = some x5 :=
  ⟨h.cell 0, h.cell 1, h.cell 2, h.cell 3, h.cell 4, h.cell 5⟩

def ComePost (w : World) (p b : Nat) (R : Int × PA × Int × List (UInt8 × PC)) (e : Ending) (w' : World) : Prop :=
  e = .returned (.tuple #[.int .i64 R.1, .agg R.2.1.cells.toArray, .int .i64 R.2.2.1]) ∧ DeskB w' p b R.2.2.2 ∧ Kept (· = b) w w'

set_option maxRecDepth 100000 in
set_option maxHeartbeats 6400000 in
theorem se_Come (h : DeskB w p b D) (c : UInt8) (q : Int) (hq0 : 0 ≤ q) (hq1 : q < 4294967296) (_hlen : D.length ≤ 16) (hx0 : 0 ≤ ((getK D c).getD .zero).last) (hx1 : ((getK D c).getD .zero).last ≤ 2147483647) :
    Calls Try.prog 19 #[.pointer (some ⟨p, 0, none⟩), .agg #[.int .u8 c.toNat, .int .u32 q]] w
      (ComePost w p b (pCome D c q)) := by
  generalize hR : pCome D c q = R
  replace hR := Lib.hid hR.symm
  generalize hx : (getK D c).getD .zero = x at *
  generalize his : (getK D c).isSome = is at *
  have hp := h.st.lt
  have hb := h.mp.lt
  have ho : ∀ w', Kept No w w' → _ := fun w' (k : Kept No w w') => se_ok (h.kept k id id : DeskB w' p b D)
  have B3 := Blk.new w 39 [.int .u8 c.toNat, .int .u32 q]
  have K3 := (Kept.refl No w).alloc (.cells #[.int .u8 c.toNat, .int .u32 q] 39)
  have s3 : (w.alloc (.cells #[.int .u8 c.toNat, .int .u32 q] 39)).heap.size = w.heap.size + 1 := World.size_alloc _ _
  go_enter Try.func19, Try.ntmps19
  go_wp2_with fail
  rw [← s3]
  generalize w.alloc (.cells #[.int .u8 c.toNat, .int .u32 q] 39) = w1 at *
  have B5 := Blk.new w1 40 PA.zero.cells
  have K5 := (Kept.refl No w1).alloc (.cells PA.zero.cells.toArray 40)
  have B3' := B3.kept K5 id
  change Calls _ _ _ (w1.alloc (.cells PA.zero.cells.toArray 40)) _
  generalize w1.alloc (.cells PA.zero.cells.toArray 40) = w2 at *
  have K2 := K3.transNo K5
  have hl : w.heap.size < w1.heap.size := by omega
  clear s3
  refine (ho _ K2).mono ?_
  rintro _ _ ⟨rfl, rfl⟩
  generalize hg3 : w.heap.size = g3 at *
  generalize w1.heap.size = g5 at *
  clear B3 K5 K3 ho
  have hp5 : ¬ p = g5 := by omega
  have hb5 : ¬ b = g5 := by omega
  have c3 : w2.cell? ⟨g3, 0, none⟩ = some (.int .u8 c.toNat) := B3'.cell 0
  have c4 : w2.cell? ⟨g3, 1, none⟩ = some (.int .u32 q) := B3'.cell 1
  have a0 : w2.cell? ⟨g5, 0, none⟩ = some (.int .i64 0) := B5.cell 0
  have a1 : w2.cell? ⟨g5, 1, none⟩ = some (.int .u8 0) := B5.cell 1
  have a2 : w2.cell? ⟨g5, 2, none⟩ = some (.int .u32 0) := B5.cell 2
  have a3 : w2.cell? ⟨g5, 3, none⟩ = some (.int .u32 0) := B5.cell 3
  have a4 : w2.cell? ⟨g5, 4, none⟩ = some (.string ⟨#[]⟩) := B5.cell 4
  have a5 : w2.cell? ⟨g5, 5, none⟩ = some (.int .u32 0) := B5.cell 5
  have hf := fun j => B5.frozen j
  have HD := Lib.hid (h.kept K2 id id)
  have HK := Lib.hid K2
  by_cases e0 : q < 1 ∨ 2147483647 < q
  · have S5 := set6 B5 rfl (.int .i64 0) (.int .u8 0) (.int .u32 0) (.int .u32 0) (.string ⟨#[]⟩) (.int .u32 0)
    have HKS : Hid (Kept (· = b) w _) := Lib.hid (kept6 HK.out.no g5 (fun h => absurd h (by omega)) (.int .i64 0) (.int .u8 0) (.int .u32 0) (.int .u32 0) (.string ⟨#[]⟩) (.int .u32 0))
    have HDS : Hid (DeskB _ p b D) := Lib.hid (HD.out.kept (kept6 (Kept.refl (· = g5) w2) g5 (fun _ => rfl) (.int .i64 0) (.int .u8 0) (.int .u32 0) (.int .u32 0) (.string ⟨#[]⟩) (.int .u32 0)) hp5 hb5)
    have e : Hid (R = (0, .zero, 1, D)) := by apply Lib.hid; rw [hR.out]; unfold pCome; dsimp only; rw [hx, his]; exact if_pos e0
    by_cases e1 : q < 1
    · have d1 : decide (q < 1) = true := decide_eq_true e1
      go_wp2
      clear a0 a1 a2 a3 a4 a5 hf
      obtain ⟨x0, x1, x2, x3, x4, x5⟩ := get6 S5
      exact bodyPost_ret (v := .tuple #[.int .i64 0, .agg #[.int .i64 0, .int .u8 0, .int .u32 0, .int .u32 0, .string ⟨#[]⟩, .int .u32 0], .int .i64 1]) (by simp [results, Try.results19, go_sem, x0, x1, x2, x3, x4, x5]) rfl (by rw [e.out]; exact ⟨rfl, HDS.out, HKS.out⟩)
    · have d1 : decide (q < 1) = false := decide_eq_false e1
      have d2 : decide (2147483647 < q) = true := decide_eq_true (by omega)
      go_wp2
      clear a0 a1 a2 a3 a4 a5 hf
      obtain ⟨x0, x1, x2, x3, x4, x5⟩ := get6 S5
      exact bodyPost_ret (v := .tuple #[.int .i64 0, .agg #[.int .i64 0, .int .u8 0, .int .u32 0, .int .u32 0, .string ⟨#[]⟩, .int .u32 0], .int .i64 1]) (by simp [results, Try.results19, go_sem, x0, x1, x2, x3, x4, x5]) rfl (by rw [e.out]; exact ⟨rfl, HDS.out, HKS.out⟩)
  have d1 : decide (q < 1) = false := decide_eq_false (by omega)
  have d2 : decide (2147483647 < q) = false := decide_eq_false (by omega)
  have F : ∀ w', Kept No w2 w' → w'.cell? ⟨p, 0, none⟩ = some (.map (some b)) ∧ w'.cell? ⟨g3, 0, none⟩ = some (.int .u8 c.toNat) ∧ (Instr.lookup 77 (.map (some b)) (.int .u8 c.toNat) true).run Try.prog w' = .ok (.tuple #[.agg #[.int .u32 x.last, .bool x.opn, .int .i64 x.a.why, .int .u8 x.a.node, .int .u32 x.a.boot, .int .u32 x.a.num, .string x.a.val, .int .u32 x.a.ver], .bool is]) w' := by
    intro w' k
    have hD := HD.out.kept k id id
    refine ⟨hD.c0, (B3'.kept k id).cell 0, ?_⟩
    have := (hD.mp.look_ok Try.skey Try.su_map (Try.sz_client w') c)
    rw [hx, his] at this
    exact this
  have f0 := (F w2 (Kept.refl No w2)).1
  obtain ⟨_, _, f1⟩ := F w2.drew (Kept.refl No w2).drew
  obtain ⟨e2, e3, f2⟩ := F (w2.alloc (.cells #[.int .u32 0, .bool false, .int .i64 0, .int .u8 0, .int .u32 0, .int .u32 0, .string ⟨#[]⟩, .int .u32 0] 98)).drew ((Kept.refl No w2).alloc _).drew
  go_wp2_with fail
  go_region
  all_goals
    have B7 := (Blk.new w2 98 [.int .u32 x.last, .bool x.opn, .int .i64 x.a.why, .int .u8 x.a.node, .int .u32 x.a.boot, .int .u32 x.a.num, .string x.a.val, .int .u32 x.a.ver]).kept (Kept.refl No _).drew id
    have K7 := ((Kept.refl No w2).alloc (.cells #[.int .u32 x.last, .bool x.opn, .int .i64 x.a.why, .int .u8 x.a.node, .int .u32 x.a.boot, .int .u32 x.a.num, .string x.a.val, .int .u32 x.a.ver] 98)).drew
    clear e2 e3 f2 f1 f0
    have s7 : g5 < w2.heap.size := B5.lt
    obtain ⟨c0, c3, _⟩ := F _ K7
    have B3 := B3'.kept K7 id
    have B5 := B5.kept K7 id
    clear F a0 a1 a2 a3 a4 a5 hf c4
    generalize w2.heap.size = g7 at *
    simp only [List.toArray] at B7
    have HD3 := Lib.hid (HD.out.kept K7 id id)
    have HK3 := Lib.hid (HK.out.transNo K7)
    clear HD HK K7 K2
    generalize (w2.alloc _).drew = w3 at *
    have c4 : w3.cell? ⟨g3, 1, none⟩ = some (.int .u32 q) := B3.cell 1
    have r0 : w3.cell? ⟨g7, 0, none⟩ = some (.int .u32 x.last) := B7.cell 0
    have r1 : w3.cell? ⟨g7, 1, none⟩ = some (.bool x.opn) := B7.cell 1
    have y0 : w3.cell? ⟨g7, 2, none⟩ = some (.int .i64 x.a.why) := B7.cell 2
    have y1 : w3.cell? ⟨g7, 3, none⟩ = some (.int .u8 x.a.node) := B7.cell 3
    have y2 : w3.cell? ⟨g7, 4, none⟩ = some (.int .u32 x.a.boot) := B7.cell 4
    have y3 : w3.cell? ⟨g7, 5, none⟩ = some (.int .u32 x.a.num) := B7.cell 5
    have y4 : w3.cell? ⟨g7, 6, none⟩ = some (.string x.a.val) := B7.cell 6
    have y5 : w3.cell? ⟨g7, 7, none⟩ = some (.int .u32 x.a.ver) := B7.cell 7
    have a0 : w3.cell? ⟨g5, 0, none⟩ = some (.int .i64 0) := B5.cell 0
    have a1 : w3.cell? ⟨g5, 1, none⟩ = some (.int .u8 0) := B5.cell 1
    have a2 : w3.cell? ⟨g5, 2, none⟩ = some (.int .u32 0) := B5.cell 2
    have a3 : w3.cell? ⟨g5, 3, none⟩ = some (.int .u32 0) := B5.cell 3
    have a4 : w3.cell? ⟨g5, 4, none⟩ = some (.string ⟨#[]⟩) := B5.cell 4
    have a5 : w3.cell? ⟨g5, 5, none⟩ = some (.int .u32 0) := B5.cell 5
    have hf := fun j => B5.frozen j
    have hln := HD3.out.mp.len Try.su_map
    have S5 := set6 B5 rfl (.int .i64 0) (.int .u8 0) (.int .u32 0) (.int .u32 0) (.string ⟨#[]⟩) (.int .u32 0)
    have HKS : Hid (Kept (· = b) w _) := Lib.hid (kept6 HK3.out.no g5 (fun h => absurd h (by omega)) (.int .i64 0) (.int .u8 0) (.int .u32 0) (.int .u32 0) (.string ⟨#[]⟩) (.int .u32 0))
    have HDS : Hid (DeskB _ p b D) := Lib.hid (HD3.out.kept (kept6 (Kept.refl (· = g5) w3) g5 (fun _ => rfl) (.int .i64 0) (.int .u8 0) (.int .u32 0) (.int .u32 0) (.string ⟨#[]⟩) (.int .u32 0)) hp5 hb5)
    by_cases e5 : is = false ∧ D.length = 16
    · obtain ⟨rfl, hl16⟩ := e5
      have l16 : ((D.length : Int) == 16) = true := by simp [hl16]
      have e : Hid (R = (0, .zero, 5, D)) := by apply Lib.hid; rw [hR.out]; unfold pCome; dsimp only; rw [hx, his]; rw [if_neg e0]; exact if_pos ⟨rfl, hl16⟩
      go_wp2
      clear a0 a1 a2 a3 a4 a5 hf
      obtain ⟨x0, x1, x2, x3, x4, x5⟩ := get6 S5
      exact bodyPost_ret (v := .tuple #[.int .i64 0, .agg #[.int .i64 0, .int .u8 0, .int .u32 0, .int .u32 0, .string ⟨#[]⟩, .int .u32 0], .int .i64 5]) (by simp [results, Try.results19, go_sem, x0, x1, x2, x3, x4, x5]) rfl (by rw [e.out]; exact ⟨rfl, HDS.out, HKS.out⟩)
    have hthere : (is = true) ∨ (is = false ∧ ((D.length : Int) == 16) = false) := by
      cases is with
      | true => exact .inl rfl
      | false => exact .inr ⟨rfl, beq_eq_false_iff_ne.2 (fun h => e5 ⟨rfl, by omega⟩)⟩
    by_cases e6 : q < x.last
    · have d6 : decide (q < x.last) = true := decide_eq_true e6
      have e : Hid (R = (0, .zero, 13, D)) := by apply Lib.hid; rw [hR.out]; unfold pCome; dsimp only; rw [hx, his]; rw [if_neg e0, if_neg e5]; exact if_pos e6
      rcases hthere with rfl | ⟨rfl, hl⟩
      · go_wp2
        clear a0 a1 a2 a3 a4 a5 hf
        obtain ⟨x0, x1, x2, x3, x4, x5⟩ := get6 S5
        exact bodyPost_ret (v := .tuple #[.int .i64 0, .agg #[.int .i64 0, .int .u8 0, .int .u32 0, .int .u32 0, .string ⟨#[]⟩, .int .u32 0], .int .i64 13]) (by simp [results, Try.results19, go_sem, x0, x1, x2, x3, x4, x5]) rfl (by rw [e.out]; exact ⟨rfl, HDS.out, HKS.out⟩)
      · go_wp2
        clear a0 a1 a2 a3 a4 a5 hf
        obtain ⟨x0, x1, x2, x3, x4, x5⟩ := get6 S5
        exact bodyPost_ret (v := .tuple #[.int .i64 0, .agg #[.int .i64 0, .int .u8 0, .int .u32 0, .int .u32 0, .string ⟨#[]⟩, .int .u32 0], .int .i64 13]) (by simp [results, Try.results19, go_sem, x0, x1, x2, x3, x4, x5]) rfl (by rw [e.out]; exact ⟨rfl, HDS.out, HKS.out⟩)
    have d6 : decide (q < x.last) = false := decide_eq_false e6
    by_cases e7 : q = x.last
    · have d7 : (q == x.last) = true := beq_iff_eq.2 e7
      cases hop : x.opn with
      | true =>
        rw [hop] at r1
        have e : Hid (R = (2, .zero, 0, D)) := by apply Lib.hid; rw [hR.out]; unfold pCome; dsimp only; rw [hx, his]; rw [if_neg e0, if_neg e5, if_neg e6]; exact if_pos ⟨e7, hop⟩
        rcases hthere with rfl | ⟨rfl, hl⟩
        · go_wp2
          clear a0 a1 a2 a3 a4 a5 hf
          obtain ⟨x0, x1, x2, x3, x4, x5⟩ := get6 S5
          exact bodyPost_ret (v := .tuple #[.int .i64 2, .agg #[.int .i64 0, .int .u8 0, .int .u32 0, .int .u32 0, .string ⟨#[]⟩, .int .u32 0], .int .i64 0]) (by simp [results, Try.results19, go_sem, x0, x1, x2, x3, x4, x5]) rfl (by rw [e.out]; exact ⟨rfl, HDS.out, HKS.out⟩)
        · go_wp2
          clear a0 a1 a2 a3 a4 a5 hf
          obtain ⟨x0, x1, x2, x3, x4, x5⟩ := get6 S5
          exact bodyPost_ret (v := .tuple #[.int .i64 2, .agg #[.int .i64 0, .int .u8 0, .int .u32 0, .int .u32 0, .string ⟨#[]⟩, .int .u32 0], .int .i64 0]) (by simp [results, Try.results19, go_sem, x0, x1, x2, x3, x4, x5]) rfl (by rw [e.out]; exact ⟨rfl, HDS.out, HKS.out⟩)
      | false =>
        rw [hop] at r1
        have e : Hid (R = (3, x.a, 0, D)) := by apply Lib.hid; rw [hR.out]; unfold pCome; dsimp only; rw [hx, his]; rw [if_neg e0, if_neg e5, if_neg e6, if_neg (fun h => by rw [hop] at h; exact Bool.noConfusion h.2)]; exact if_pos e7
        have S5 := (set6 B5 rfl (.int .i64 x.a.why) (.int .u8 x.a.node) (.int .u32 x.a.boot) (.int .u32 x.a.num) (.string x.a.val) (.int .u32 x.a.ver)).kept (Kept.refl No _).drew id
        have HKS : Hid (Kept (· = b) w _) := Lib.hid (kept6 HK3.out.no g5 (fun h => absurd h (by omega)) (.int .i64 x.a.why) (.int .u8 x.a.node) (.int .u32 x.a.boot) (.int .u32 x.a.num) (.string x.a.val) (.int .u32 x.a.ver)).drew
        have HDS : Hid (DeskB _ p b D) := Lib.hid (HD3.out.kept (kept6 (Kept.refl (· = g5) w3) g5 (fun _ => rfl) (.int .i64 x.a.why) (.int .u8 x.a.node) (.int .u32 x.a.boot) (.int .u32 x.a.num) (.string x.a.val) (.int .u32 x.a.ver)).drew hp5 hb5)
        rcases hthere with rfl | ⟨rfl, hl⟩
        · go_wp2_with fail
          go_region
          all_goals
            go_wp2
            clear a0 a1 a2 a3 a4 a5 hf
            obtain ⟨x0, x1, x2, x3, x4, x5⟩ := get6 S5
            exact bodyPost_ret (v := .tuple #[.int .i64 3, .agg #[.int .i64 x.a.why, .int .u8 x.a.node, .int .u32 x.a.boot, .int .u32 x.a.num, .string x.a.val, .int .u32 x.a.ver], .int .i64 0]) (by simp [results, Try.results19, go_sem, x0, x1, x2, x3, x4, x5]) rfl (by rw [e.out]; exact ⟨rfl, HDS.out, HKS.out⟩)
        · go_wp2_with fail
          go_region
          all_goals
            go_wp2
            clear a0 a1 a2 a3 a4 a5 hf
            obtain ⟨x0, x1, x2, x3, x4, x5⟩ := get6 S5
            exact bodyPost_ret (v := .tuple #[.int .i64 3, .agg #[.int .i64 x.a.why, .int .u8 x.a.node, .int .u32 x.a.boot, .int .u32 x.a.num, .string x.a.val, .int .u32 x.a.ver], .int .i64 0]) (by simp [results, Try.results19, go_sem, x0, x1, x2, x3, x4, x5]) rfl (by rw [e.out]; exact ⟨rfl, HDS.out, HKS.out⟩)
    have d7 : (q == x.last) = false := beq_eq_false_iff_ne.2 e7
    have e7' : ¬ (q = x.last ∧ x.opn = true) := fun h => e7 h.1
    have d8 : IntKind.u32.wrap (q - x.last) = q - x.last := by rw [IntKind.wrap_u32]; exact Int.emod_eq_of_lt (by omega) (by omega)
    cases hop : x.opn with
    | true =>
      rw [hop] at r1
      have e : Hid (R = (0, .zero, 11, D)) := by apply Lib.hid; rw [hR.out]; unfold pCome; dsimp only; rw [hx, his]; rw [if_neg e0, if_neg e5, if_neg e6, if_neg e7', if_neg e7]; exact if_pos (.inl hop)
      rcases hthere with rfl | ⟨rfl, hl⟩
      · go_wp2
        clear a0 a1 a2 a3 a4 a5 hf
        obtain ⟨x0, x1, x2, x3, x4, x5⟩ := get6 S5
        exact bodyPost_ret (v := .tuple #[.int .i64 0, .agg #[.int .i64 0, .int .u8 0, .int .u32 0, .int .u32 0, .string ⟨#[]⟩, .int .u32 0], .int .i64 11]) (by simp [results, Try.results19, go_sem, x0, x1, x2, x3, x4, x5]) rfl (by rw [e.out]; exact ⟨rfl, HDS.out, HKS.out⟩)
      · go_wp2
        clear a0 a1 a2 a3 a4 a5 hf
        obtain ⟨x0, x1, x2, x3, x4, x5⟩ := get6 S5
        exact bodyPost_ret (v := .tuple #[.int .i64 0, .agg #[.int .i64 0, .int .u8 0, .int .u32 0, .int .u32 0, .string ⟨#[]⟩, .int .u32 0], .int .i64 11]) (by simp [results, Try.results19, go_sem, x0, x1, x2, x3, x4, x5]) rfl (by rw [e.out]; exact ⟨rfl, HDS.out, HKS.out⟩)
    | false =>
      rw [hop] at r1
      by_cases e9 : 1 < q - x.last
      · have d9 : decide (1 < q - x.last) = true := decide_eq_true e9
        have e : Hid (R = (0, .zero, 11, D)) := by apply Lib.hid; rw [hR.out]; unfold pCome; dsimp only; rw [hx, his]; rw [if_neg e0, if_neg e5, if_neg e6, if_neg e7', if_neg e7]; exact if_pos (.inr e9)
        rcases hthere with rfl | ⟨rfl, hl⟩
        · go_wp2
          clear a0 a1 a2 a3 a4 a5 hf
          obtain ⟨x0, x1, x2, x3, x4, x5⟩ := get6 S5
          exact bodyPost_ret (v := .tuple #[.int .i64 0, .agg #[.int .i64 0, .int .u8 0, .int .u32 0, .int .u32 0, .string ⟨#[]⟩, .int .u32 0], .int .i64 11]) (by simp [results, Try.results19, go_sem, x0, x1, x2, x3, x4, x5]) rfl (by rw [e.out]; exact ⟨rfl, HDS.out, HKS.out⟩)
        · go_wp2
          clear a0 a1 a2 a3 a4 a5 hf
          obtain ⟨x0, x1, x2, x3, x4, x5⟩ := get6 S5
          exact bodyPost_ret (v := .tuple #[.int .i64 0, .agg #[.int .i64 0, .int .u8 0, .int .u32 0, .int .u32 0, .string ⟨#[]⟩, .int .u32 0], .int .i64 11]) (by simp [results, Try.results19, go_sem, x0, x1, x2, x3, x4, x5]) rfl (by rw [e.out]; exact ⟨rfl, HDS.out, HKS.out⟩)
      · have d9 : decide (1 < q - x.last) = false := decide_eq_false e9
        have e : Hid (R = (1, .zero, 0, putK D c ⟨q, true, .zero⟩)) := by apply Lib.hid; rw [hR.out]; unfold pCome; dsimp only; rw [hx, his]; rw [if_neg e0, if_neg e5, if_neg e6, if_neg e7', if_neg e7]; exact if_neg (fun h => h.elim (fun h => by rw [hop] at h; exact Bool.noConfusion h) e9)
        obtain ⟨w4, hu, m4, k4⟩ := (HD3.out.mp.kept (Kept.refl No w3).drew id).update Try.skey Try.su_map c (⟨q, true, .zero⟩ : PC)
        unfold PC.e ekb PA.zero at hu
        dsimp only at hu
        have k4' : Kept (· = b) w3 w4 := (Kept.refl No w3).drew.no.trans k4 fun _ _ h => h
        have D4 : DeskB w4 p b (putK D c ⟨q, true, .zero⟩) := ⟨HD3.out.st.kept k4' HD3.out.ne, m4, HD3.out.ne⟩
        have B54 := B5.kept k4' (fun h => hb5 h.symm)
        obtain ⟨z0, z1, z2, z3, z4, z5⟩ := get6 B54
        have hf4 := fun j => B54.frozen j
        have S5 := set6 B54 rfl (.int .i64 0) (.int .u8 0) (.int .u32 0) (.int .u32 0) (.string ⟨#[]⟩) (.int .u32 0)
        have HKS : Hid (Kept (· = b) w _) := Lib.hid (kept6 (HK3.out.no.trans k4' fun _ _ h => h) g5 (fun h => absurd h (by omega)) (.int .i64 0) (.int .u8 0) (.int .u32 0) (.int .u32 0) (.string ⟨#[]⟩) (.int .u32 0))
        have HDS : Hid (DeskB _ p b (putK D c ⟨q, true, .zero⟩)) := Lib.hid (D4.kept (kept6 (Kept.refl (· = g5) w4) g5 (fun _ => rfl) (.int .i64 0) (.int .u8 0) (.int .u32 0) (.int .u32 0) (.string ⟨#[]⟩) (.int .u32 0)) hp5 hb5)
        clear D4 m4
        rcases hthere with rfl | ⟨rfl, hl⟩
        · go_wp2_with fail
          go_region
          all_goals
            go_wp2
            clear z0 z1 z2 z3 z4 z5
            clear a0 a1 a2 a3 a4 a5 hf
            obtain ⟨x0, x1, x2, x3, x4, x5⟩ := get6 S5
            exact bodyPost_ret (v := .tuple #[.int .i64 1, .agg #[.int .i64 0, .int .u8 0, .int .u32 0, .int .u32 0, .string ⟨#[]⟩, .int .u32 0], .int .i64 0]) (by simp [results, Try.results19, go_sem, x0, x1, x2, x3, x4, x5]) rfl (by rw [e.out]; exact ⟨rfl, HDS.out, HKS.out⟩)
        · go_wp2_with fail
          go_region
          all_goals
            go_wp2
            clear z0 z1 z2 z3 z4 z5
            clear a0 a1 a2 a3 a4 a5 hf
            obtain ⟨x0, x1, x2, x3, x4, x5⟩ := get6 S5
            exact bodyPost_ret (v := .tuple #[.int .i64 1, .agg #[.int .i64 0, .int .u8 0, .int .u32 0, .int .u32 0, .string ⟨#[]⟩, .int .u32 0], .int .i64 0]) (by simp [results, Try.results19, go_sem, x0, x1, x2, x3, x4, x5]) rfl (by rw [e.out]; exact ⟨rfl, HDS.out, HKS.out⟩)
end
end Go.Proofs.Ytencnfgmgcdiiaa
