/- Package sess: a desk's small functions. -/
import Derived.Test.YtencnfgmgcdiiaaRows
import Derived.Test.YtencnfgmgcdiiaaLawC
import Derived.Test.YtencnfgmgcdiiaaMapC
import Derived.Laws.Cover3
namespace Go.PM

/-- An answer, a client's last call. -/
structure PA where
  why : Int
  node : Int
  boot : Int
  num : Int
  val : ByteArray
  ver : Int
structure PC where
  last : Int
  opn : Bool
  a : PA
def PA.zero : PA := ⟨0, 0, 0, 0, ⟨#[]⟩, 0⟩
def PC.zero : PC := ⟨0, false, .zero⟩
def PA.cells (a : PA) : List Value := [.int .i64 a.why, .int .u8 a.node, .int .u32 a.boot, .int .u32 a.num, .string a.val, .int .u32 a.ver]
def PC.e (c : PC) : Value := .agg #[.int .u32 c.last, .bool c.opn, .int .i64 c.a.why, .int .u8 c.a.node, .int .u32 c.a.boot, .int .u32 c.a.num, .string c.a.val, .int .u32 c.a.ver]
def ekb (k : UInt8) : Value := .int .u8 k.toNat
theorem ekb_inj {a b : UInt8} (h : ekb a = ekb b) : a = b := by
  simp only [ekb, Value.int.injEq, true_and] at h
  exact UInt8.toNat_inj.1 (by omega)
theorem keyOf_byte {P : Program} {kt : TypeId} (h : P.underlying kt = some (.int .u8)) : KeyOf P kt ekb :=
  keyOf_plain h (fun _ => rfl) fun _ _ => ekb_inj
end Go.PM
namespace Go.Proofs.Ytencnfgmgcdiiaa
open Go.RowKit Go.PM

theorem Try.su_byte : Try.prog.underlying 5 = some (.int .u8) := by kernel_rfl
theorem Try.su_map : Try.prog.underlying 77 = some (.map 5 98) := by kernel_rfl
theorem Try.sz_client (w : World) : (zeroValue 98).run Try.prog w = .ok PC.zero.e w := by kernel_rfl
theorem Try.sf_last (a : Int) (o : Bool) (y z u v : Int) (s : ByteArray) (t : Int) (w : World) :
    (Instr.field 98 (.agg #[.int .u32 a, .bool o, .int .i64 y, .int .u8 z, .int .u32 u, .int .u32 v, .string s, .int .u32 t]) 0).run Try.prog w = .ok (.int .u32 a) w := by kernel_rfl
theorem Try.skey : KeyOf Try.prog 5 ekb := keyOf_byte Try.su_byte

/-- Block p is a desk, whose map is block b, with the clients D. -/
structure DeskB (w : World) (p b : Nat) (D : List (UInt8 × PC)) : Prop where
  st : Blk w p 79 [.map (some b)]
  mp : MapR w b ekb PC.e D
  ne : p ≠ b

section
variable {w : World} {p b : Nat} {D : List (UInt8 × PC)}
theorem DeskB.c0 (h : DeskB w p b D) : w.cell? ⟨p, 0, none⟩ = some (.map (some b)) := h.st.cell 0

set_option maxRecDepth 100000 in
set_option maxHeartbeats 400000 in
theorem se_ok (h : DeskB w p b D) :
    Calls Try.prog 43 #[.pointer (some ⟨p, 0, none⟩)] w fun e w' => e = .returned (.bool true) ∧ w = w' := by
  have c0 := h.c0
  have hn : (binOp .neq 77 (.map (some b)) (.map none)).run Try.prog w = .ok (.bool true) w := by kernel_rfl
  clear h
  go_enter Try.func43, Try.ntmps43
  go_wp2
  go_ret
  exact ⟨rfl, rfl⟩

set_option maxRecDepth 100000 in
set_option maxHeartbeats 400000 in
theorem se_Last (h : DeskB w p b D) (c : UInt8) :
    Calls Try.prog 17 #[.pointer (some ⟨p, 0, none⟩), .int .u8 c.toNat] w fun e w' => e = .returned (.int .u32 ((getK D c).getD .zero).last) ∧ w = w' := by
  have c0 := h.c0
  have hl := h.mp.look Try.skey Try.su_map (Try.sz_client w) c
  have ho := se_ok h
  clear h
  generalize (getK D c).getD .zero = x at *
  unfold PC.e ekb at hl
  have hf := Try.sf_last x.last x.opn x.a.why x.a.node x.a.boot x.a.num x.a.val x.a.ver w
  go_enter Try.func17, Try.ntmps17
  go_wp2_with (go_at_call 43; refine ho.mono ?_; rintro _ _ ⟨rfl, rfl⟩)
  go_ret
  exact ⟨rfl, rfl⟩

/-- Tell's answer. -/
def pTell (D : List (UInt8 × PC)) (c : UInt8) (q : Int) (a : PA) : Int × List (UInt8 × PC) :=
  if ((getK D c).getD .zero).opn = true ∧ ((getK D c).getD .zero).last = q then (0, putK D c ⟨q, false, a⟩) else (6, D)

set_option maxRecDepth 100000 in
set_option maxHeartbeats 800000 in
theorem se_Tell (h : DeskB w p b D) (c : UInt8) (q : Int) (a : PA) :
    Calls Try.prog 18 #[.pointer (some ⟨p, 0, none⟩), .agg #[.int .u8 c.toNat, .int .u32 q], .agg #[.int .i64 a.why, .int .u8 a.node, .int .u32 a.boot, .int .u32 a.num, .string a.val, .int .u32 a.ver]] w
      fun e w' => e = .returned (.int .i64 (pTell D c q a).1) ∧ DeskB w' p b (pTell D c q a).2 ∧ Kept (· = b) w w' := by
  generalize hR : pTell D c q a = R
  replace hR := hR.symm
  have c0 := h.c0
  have ho : ∀ w', Kept No w w' → _ := fun w' (k : Kept No w w') => se_ok (⟨h.st.kept k id, h.mp.kept k id, h.ne⟩ : DeskB w' p b D)
  go_enter Try.func18, Try.ntmps18
  have B4 := Blk.new w 39 [.int .u8 c.toNat, .int .u32 q]
  have K4 := (Kept.refl No w).alloc (.cells #[.int .u8 c.toNat, .int .u32 q] 39)
  have s4 : (w.alloc (.cells #[.int .u8 c.toNat, .int .u32 q] 39)).heap.size = w.heap.size + 1 := World.size_alloc _ _
  go_wp2_with fail
  rw [← s4]
  generalize w.alloc (.cells #[.int .u8 c.toNat, .int .u32 q] 39) = w1 at *
  have B5 := Blk.new w1 40 a.cells
  have K5 := (Kept.refl No w1).alloc (.cells a.cells.toArray 40)
  have B4' := B4.kept K5 id
  unfold PA.cells at *
  generalize w1.alloc (.cells #[.int .i64 a.why, .int .u8 a.node, .int .u32 a.boot, .int .u32 a.num, .string a.val, .int .u32 a.ver] 40) = w2 at *
  have K2 := K4.transNo K5
  refine (ho _ K2).mono ?_
  rintro _ _ ⟨rfl, rfl⟩
  have b4 : w.heap.size < w1.heap.size := by omega
  generalize w.heap.size = g4 at *
  generalize w1.heap.size = g5 at *
  have q0 : w2.cell? ⟨g4, 0, none⟩ = some (.int .u8 c.toNat) := B4'.cell 0
  have q1 : w2.cell? ⟨g4, 1, none⟩ = some (.int .u32 q) := B4'.cell 1
  have a0 := B5.cell 0
  have a1 := B5.cell 1
  have a2 := B5.cell 2
  have a3 := B5.cell 3
  have a4 := B5.cell 4
  have a5 := B5.cell 5
  simp only [List.getElem?_cons_zero, List.getElem?_cons_succ] at a0 a1 a2 a3 a4 a5
  have c0' : w2.cell? ⟨p, 0, none⟩ = some (.map (some b)) := (h.st.kept K2 id).cell 0
  have hl := ((h.mp.kept K2 id).look Try.skey Try.su_map (Try.sz_client w2) c)
  generalize hx : (getK D c).getD .zero = x at *
  unfold PC.e ekb at hl
  clear ho
  have F : ∀ w', Kept No w2 w' → w'.cell? ⟨p, 0, none⟩ = some (.map (some b)) ∧ w'.cell? ⟨g4, 0, none⟩ = some (.int .u8 c.toNat) ∧ (Instr.lookup 77 (.map (some b)) (.int .u8 c.toNat) false).run Try.prog w' = .ok (.agg #[.int .u32 x.last, .bool x.opn, .int .i64 x.a.why, .int .u8 x.a.node, .int .u32 x.a.boot, .int .u32 x.a.num, .string x.a.val, .int .u32 x.a.ver]) w' := by
    intro w' k
    refine ⟨(h.st.kept (K2.transNo k) id).cell 0, (B4'.kept k id).cell 0, ?_⟩
    have := ((h.mp.kept (K2.transNo k) id).look Try.skey Try.su_map (Try.sz_client w') c)
    rw [hx] at this
    exact this
  obtain ⟨_, _, f1⟩ := F w2.drew (Kept.refl No w2).drew
  obtain ⟨e2, e3, f2⟩ := F (w2.alloc (.cells #[.int .u32 0, .bool false, .int .i64 0, .int .u8 0, .int .u32 0, .int .u32 0, .string ⟨#[]⟩, .int .u32 0] 98)).drew ((Kept.refl No w2).alloc _).drew
  have HB4 := Lib.hid B4'
  clear s4
  go_wp2_with fail
  go_region
  all_goals
    have B7 := (Blk.new w2 98 [.int .u32 x.last, .bool x.opn, .int .i64 x.a.why, .int .u8 x.a.node, .int .u32 x.a.boot, .int .u32 x.a.num, .string x.a.val, .int .u32 x.a.ver]).kept (Kept.refl No _).drew id
    have K7 := ((Kept.refl No w2).alloc (.cells #[.int .u32 x.last, .bool x.opn, .int .i64 x.a.why, .int .u8 x.a.node, .int .u32 x.a.boot, .int .u32 x.a.num, .string x.a.val, .int .u32 x.a.ver] 98)).drew
    clear e2 e3 f2 f1 hl q0 c0' c0
    have s7 : g5 < w2.heap.size := B5.lt
    obtain ⟨c1, q0, _⟩ := F _ K7
    have B4 := B4'.kept K7 id
    have B5 := B5.kept K7 id
    clear F
    generalize w2.heap.size = g7 at *
    simp only [List.toArray] at B7
    generalize (w2.alloc _).drew = w3 at *
    have K3 := K2.transNo K7
    have q1 : w3.cell? ⟨g4, 1, none⟩ = some (.int .u32 q) := B4.cell 1
    have r0 : w3.cell? ⟨g7, 0, none⟩ = some (.int .u32 x.last) := B7.cell 0
    have r1 : w3.cell? ⟨g7, 1, none⟩ = some (.bool x.opn) := B7.cell 1
    have a0 : w3.cell? ⟨g5, 0, none⟩ = some (.int .i64 a.why) := B5.cell 0
    have a1 : w3.cell? ⟨g5, 1, none⟩ = some (.int .u8 a.node) := B5.cell 1
    have a2 : w3.cell? ⟨g5, 2, none⟩ = some (.int .u32 a.boot) := B5.cell 2
    have a3 : w3.cell? ⟨g5, 3, none⟩ = some (.int .u32 a.num) := B5.cell 3
    have a4 : w3.cell? ⟨g5, 4, none⟩ = some (.string a.val) := B5.cell 4
    have a5 : w3.cell? ⟨g5, 5, none⟩ = some (.int .u32 a.ver) := B5.cell 5
    clear B4 B5 B7 HB4 B4' K7 K5 K4 K2
    have D3 : DeskB w3 p b D := ⟨h.st.kept K3 id, h.mp.kept K3 id, h.ne⟩
    have HD := Lib.hid D3
    obtain ⟨w4, hu, m4, k4⟩ := (D3.mp.kept (Kept.refl No w3).drew id).update Try.skey Try.su_map c (⟨q, false, a⟩ : PC)
    unfold PC.e ekb at hu
    dsimp only at hu
    have HM := Lib.hid m4
    clear m4 D3 h
    cases ho : x.opn with
    | false =>
      rw [ho] at r1
      go_wp2
      go_ret
      have e : R = (6, D) := by rw [hR]; unfold pTell; rw [hx, ho]; exact if_neg (fun h => Bool.noConfusion h.1)
      rw [e]
      exact ⟨rfl, HD, K3.no⟩
    | true =>
      rw [ho] at r1
      by_cases hq : x.last = q
      · subst hq
        go_wp2_with fail
        go_region
        all_goals
          go_wp2
          go_ret
          have e : R = (0, putK D c ⟨x.last, false, a⟩) := by rw [hR]; unfold pTell; rw [hx, ho]; exact if_pos ⟨rfl, rfl⟩
          rw [e]
          exact ⟨rfl, ⟨HD.st.kept ((Kept.refl No w3).drew.no.trans k4 fun _ _ h => h) HD.ne, HM, HD.ne⟩, K3.no.trans ((Kept.refl No w3).drew.no.trans k4 fun _ _ h => h) fun _ _ h => h⟩
      · have hq' : (x.last != q) = true := by simpa using hq
        go_wp2
        go_ret
        have e : R = (6, D) := by rw [hR]; unfold pTell; rw [hx, ho]; exact if_neg (fun h => hq h.2)
        rw [e]
        exact ⟨rfl, HD, K3.no⟩
end
end Go.Proofs.Ytencnfgmgcdiiaa
