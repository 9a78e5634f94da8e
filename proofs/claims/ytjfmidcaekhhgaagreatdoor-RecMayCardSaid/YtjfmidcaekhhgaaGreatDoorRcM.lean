/- Records in memory; the fields of a kind. -/
import Derived.Test.YtjfmidcaekhhgaaGreatDoorMsMay
import Derived.Test.YtjfmidcaekhhgaaGreatDoorRcP
namespace Go.Proofs.YtjfmidcaekhhgaaGreatDoor
open Go.RowKit Go.PM

def ucells (l : List Nat) : List Value := l.map fun (n : Nat) => Value.int .u64 n
def icells (l : List Nat) : List Value := l.map fun (n : Nat) => Value.int .i64 n
theorem ucells_length (l : List Nat) : (ucells l).length = l.length := by simp [ucells]
theorem icells_length (l : List Nat) : (icells l).length = l.length := by simp [icells]
/-- A record as the machine holds it. -/
def recv (m : PRec) (aw : Option Addr) (cw : Nat) (am : Option Addr) (cm : Nat) : List Value :=
  .int .u8 m.kind :: .int .u32 m.n :: (txv m.tx ++ (regv m.reg ++ (.int .u64 m.members :: .slice aw m.writes.length cw :: .slice am m.missing.length cm :: (bcells m.key ++ itemv m.item))))
/-- A record's parts are no longer than a machine holds. -/
structure PRec.Sm (m : PRec) : Prop where
  item : m.item.2.1.length ≤ 140737488355328
  each : ∀ x ∈ m.writes, x.2.2.1.length ≤ 140737488355328
  many : m.writes.length ≤ 140737488355328
  miss : m.missing.length ≤ 140737488355328
theorem recv_length {m : PRec} (h : m.Wf) (aw : Option Addr) (cw : Nat) (am : Option Addr) (cm : Nat) : (recv m aw cw am cm).length = 31 := by
  simp [recv, txv, regv, h.key, itemv_length h.item]
theorem recv_one (m : PRec) (aw : Option Addr) (cw : Nat) (am : Option Addr) (cm : Nat) : ∀ u ∈ recv m aw cw am cm, u.oneCell' = true := by
  intro u hu
  simp only [recv, txv, regv, List.mem_cons, List.mem_append, List.not_mem_nil, or_false] at hu
  rcases hu with rfl | rfl | (rfl | rfl | rfl) | (rfl | rfl) | rfl | rfl | rfl | h | h
  all_goals first | rfl | exact bcells_one _ u h | exact itemv_one _ u h
/-- A record in a block. -/
structure Rc (w : World) (T : TypeId) (g : Nat) (m : PRec) (aw : Option Addr) (cw : Nat) (am : Option Addr) (cm : Nat) : Prop where
  box : Blk w g T (recv m aw cw am cm)
  rdw : Rd w aw (pwsv m.writes)
  rdm : Rd w am (ucells m.missing)
  ltw : ∀ b, At aw b → b < w.heap.size
  ltm : ∀ b, At am b → b < w.heap.size
  wf : m.Wf
  sm : m.Sm
section
variable {w w' : World} {T : TypeId} {g : Nat} {m : PRec} {aw am : Option Addr} {cw cm : Nat}
theorem Rc.keptNo (h : Rc w T g m aw cw am cm) (k : Kept No w w') : Rc w' T g m aw cw am cm :=
  ⟨h.box.kept k (fun h => h), h.rdw.keptNo k, h.rdm.keptNo k, fun b hb => k.lt (h.ltw b hb), fun b hb => k.lt (h.ltm b hb), h.wf, h.sm⟩
theorem Rc.kept {S : Nat → Prop} (h : Rc w T g m aw cw am cm) (k : Kept S w w') (hg : ¬ S g) (ha : ∀ b, At aw b → ¬ S b) (hm : ∀ b, At am b → ¬ S b) : Rc w' T g m aw cw am cm :=
  ⟨h.box.kept k hg, h.rdw.kept k ha, h.rdm.kept k hm, fun b hb => k.lt (h.ltw b hb), fun b hb => k.lt (h.ltm b hb), h.wf, h.sm⟩
theorem Rc.kind (h : Rc w T g m aw cw am cm) : w.cell? ⟨g, 0, none⟩ = some (.int .u8 m.kind) := h.box.cell 0
theorem Rc.n_ (h : Rc w T g m aw cw am cm) : w.cell? ⟨g, 1, none⟩ = some (.int .u32 m.n) := h.box.cell 1
theorem Rc.members (h : Rc w T g m aw cw am cm) : w.cell? ⟨g, 7, none⟩ = some (.int .u64 m.members) := h.box.cell 7
theorem Rc.writes (h : Rc w T g m aw cw am cm) : w.cell? ⟨g, 8, none⟩ = some (.slice aw m.writes.length cw) := h.box.cell 8
theorem Rc.missing (h : Rc w T g m aw cw am cm) : w.cell? ⟨g, 9, none⟩ = some (.slice am m.missing.length cm) := h.box.cell 9
theorem Rc.tx (h : Rc w T g m aw cw am cm) : Seg w g 2 (txv m.tx) := h.box.seg 2 _ (by simp [recv, txv])
theorem Rc.reg (h : Rc w T g m aw cw am cm) : Seg w g 5 (regv m.reg) := h.box.seg 5 _ (by simp [recv, txv, regv])
theorem Rc.key (h : Rc w T g m aw cw am cm) : Seg w g 10 (bcells m.key) := h.box.seg 10 _ (by simp [recv, txv, regv])
theorem Rc.item (h : Rc w T g m aw cw am cm) : Seg w g 18 (itemv m.item) := by
  have hi := itemv_length h.wf.item
  exact h.box.seg 18 _ (by simp [recv, txv, regv, hi, h.wf.key]; exact List.take_of_length_le (by omega))
end

/-- The numbers of the fields of a kind. -/
def rfx (k : Nat) : List Nat :=
  if k = 1 then [0] else if k = 2 then [1, 2, 4] else if k = 3 ∨ k = 4 ∨ k = 6 then [1] else if k = 5 then [1, 3, 4, 5] else if k = 7 then [6, 7] else []
theorem rfx_none {k : Nat} (h : rdx k = []) : k ≠ 1 ∧ k ≠ 2 ∧ k ≠ 3 ∧ k ≠ 4 ∧ k ≠ 5 ∧ k ≠ 6 ∧ k ≠ 7 := by
  refine ⟨?_, ?_, ?_, ?_, ?_, ?_, ?_⟩ <;> (rintro rfl; cases h)
theorem rfx_nil {k : Nat} (h : rdx k = []) : rfx k = [] := by
  obtain ⟨h1, h2, h3, h4, h5, h6, h7⟩ := rfx_none h
  unfold rfx
  rw [if_neg h1, if_neg h2, if_neg (by omega), if_neg h5, if_neg h7]
theorem rfx_iff (k : Nat) : rfx k = [] ↔ rdx k = [] := by
  rcases rdx_cases k with h | h | h | h | h | h | h | h
  · exact ⟨fun _ => h, fun h => rfx_nil h⟩
  all_goals subst h; decide
theorem rfx_lt (k : Nat) : ∀ f ∈ rfx k, f < 8 := by
  rcases rdx_cases k with h | h | h | h | h | h | h | h
  · rw [rfx_nil h]; simp
  all_goals subst h; decide

section
variable {w : World}
set_option maxRecDepth 100000 in
set_option maxHeartbeats 400000 in
theorem rfields_none (k : Nat) (h : rdx k = []) : Calls Tryz.prog 46 #[.int .u8 k] w fun e w' => e = .returned (.slice none 0 0) ∧ w = w' := by
  obtain ⟨h1, h2, h3, h4, h5, h6, h7⟩ := rfx_none h
  have e1 : ((k : Int) == 1) = false := beq_eq_false_iff_ne.2 (by omega)
  have e2 : ((k : Int) == 2) = false := beq_eq_false_iff_ne.2 (by omega)
  have e3 : ((k : Int) == 3) = false := beq_eq_false_iff_ne.2 (by omega)
  have e4 : ((k : Int) == 4) = false := beq_eq_false_iff_ne.2 (by omega)
  have e5 : ((k : Int) == 5) = false := beq_eq_false_iff_ne.2 (by omega)
  have e6 : ((k : Int) == 6) = false := beq_eq_false_iff_ne.2 (by omega)
  have e7 : ((k : Int) == 7) = false := beq_eq_false_iff_ne.2 (by omega)
  clear h h1 h2 h3 h4 h5 h6 h7
  go_enter Tryz.func46, Tryz.ntmps46
  go_wp2
  go_ret
  exact ⟨rfl, rfl⟩
set_option maxRecDepth 100000 in
set_option maxHeartbeats 400000 in
theorem rfields_some (k : Nat) (hn : rdx k ≠ []) : Calls Tryz.prog 46 #[.int .u8 k] w fun e w' => e = .returned (.slice (some ⟨w.heap.size, 0, none⟩) (rfx k).length (rfx k).length) ∧ w' = w.alloc (.cells (icells (rfx k)).toArray 3) := by
  rcases rdx_cases k with h | h | h | h | h | h | h | h
  · exact absurd h hn
  all_goals
    subst h
    go_enter Tryz.func46, Tryz.ntmps46
    go_wp2
    go_ret
    exact ⟨rfl, rfl⟩
/-- The fields of a kind, as a row of numbers: new, or none. -/
theorem rfields_calls (k : Nat) : Calls Tryz.prog 46 #[.int .u8 k] w fun e w' =>
    ∃ a, e = .returned (.slice a (rfx k).length (rfx k).length) ∧ Rd w' a (icells (rfx k)) ∧ Kept No w w' ∧ (∀ b, At a b → w.heap.size ≤ b ∧ b < w'.heap.size) ∧ (a = none ↔ rdx k = []) := by
  by_cases h : rdx k = []
  · refine (rfields_none k h).mono ?_
    rintro _ _ ⟨rfl, rfl⟩
    rw [rfx_nil h]
    exact ⟨none, rfl, Rd.nil _ _, Kept.refl _ _, (fun b ⟨_, _, e, _⟩ => nomatch e), (fun _ => h), (fun _ => rfl)⟩
  · refine (rfields_some k h).mono ?_
    rintro _ _ ⟨rfl, rfl⟩
    refine ⟨_, rfl, Rd.ofBlk' (Blk.new w 3 (icells (rfx k))), (Kept.refl No w).alloc _, ?_, (fun e => nomatch e), (fun e => absurd e h)⟩
    rintro b ⟨g, o, e, rfl⟩
    cases e
    exact ⟨Nat.le_refl _, by rw [World.size_alloc]; exact Nat.lt_succ_self _⟩

def IxRel (l : List Nat) (f : Nat) (w0 : World) (i : Value) (wr : World) : Prop := ∃ k : Nat, k ≤ l.length ∧ i = .int .i64 k ∧ (∀ j, j < k → l[j]? ≠ some f) ∧ w0 = wr
set_option maxRecDepth 100000 in
set_option maxHeartbeats 1000000 in
theorem index_calls (l : List Nat) (f n : Nat) (hn : l.length = n) (h8 : n ≤ 8) (_hf : f < 8) (hl : ∀ x ∈ l, x < 8) (a : Option Addr) (c : Nat) (hr : Rd w a (icells l)) :
    Calls Tryz.prog 122 #[.slice a n c, .int .i64 f] w fun e w' => (∃ z : Int, e = .returned (.int .i64 z) ∧ -1 ≤ z ∧ z ≤ 8 ∧ (0 ≤ z ↔ f ∈ l)) ∧ w = w' := by
  go_enter Tryz.func122, Tryz.ntmps122
  go_wp2
  go_loopw [8] (fun i wr => IxRel l f w i wr) (fun i _ => n - (intOf i).toNat)
  case atStart => exact ⟨0, by omega, rfl, fun j hj => by omega, rfl⟩
  case round =>
    obtain ⟨k, hk, rfl, hno, rfl⟩ := hrel
    by_cases hlt : k < n
    · have hkl : k < l.length := by omega
      have i1 : (k : Int) < n := by omega
      have i0 : (0 : Int) ≤ k := by omega
      obtain ⟨x, hx⟩ : ∃ x, l[k] = x := ⟨_, rfl⟩
      have hx8 := hx ▸ hl _ (List.getElem_mem hkl)
      obtain ⟨b, o, rfl, hc⟩ := hr k (.int .i64 x) (by simp [icells, hkl, hx])
      have hkn : l[k]? = some x := by rw [List.getElem?_eq_getElem hkl, hx]
      by_cases he : f = x
      · have hq : ((f : Int) == x) = true := beq_iff_eq.2 (by omega)
        have HIN : f ∈ l := he ▸ hx ▸ List.getElem_mem hkl
        have HI := Lib.hid HIN
        clear he hx hkn hno hr hl hn HIN
        go_wp2
        go_ret
        exact ⟨⟨k, rfl, by omega, by omega, fun _ => HI.out, fun _ => by omega⟩, rfl⟩
      · have hq : ((f : Int) == x) = false := beq_eq_false_iff_ne.2 (by omega)
        have HN := Lib.hid (show ∀ j, j < k + 1 → l[j]? ≠ some f from fun j hj => by
          rcases Nat.lt_succ_iff_lt_or_eq.1 hj with h | h
          · exact hno j h
          · rw [h, hkn]; exact fun e => he (Option.some.inj e).symm)
        clear he hx hkn hno
        go_wp2
        exact ⟨⟨k + 1, by omega, by go_num, HN.out, rfl⟩, by simp [intOf]; omega⟩
    · obtain rfl : n = k := by omega
      have HN := Lib.hid (show f ∉ l from fun h => by
        obtain ⟨j, hj⟩ := List.getElem?_of_mem h
        exact hno j (by have := (List.getElem?_eq_some_iff.1 hj).1; omega) hj)
      clear hno
      go_wp2
      go_ret
      exact ⟨⟨-1, rfl, by omega, by omega, fun h => absurd h (by omega), fun h => absurd h HN.out⟩, rfl⟩
set_option maxRecDepth 100000 in
theorem contains_calls (l : List Nat) (f n : Nat) (hn : l.length = n) (h8 : n ≤ 8) (hf : f < 8) (hl : ∀ x ∈ l, x < 8) (a : Option Addr) (c : Nat) (hr : Rd w a (icells l)) :
    Calls Tryz.prog 99 #[.slice a n c, .int .i64 f] w fun e w' => e = .returned (.bool (decide (f ∈ l))) ∧ w = w' := by
  have HC := Lib.hid (index_calls l f n hn h8 hf hl a c hr)
  generalize hz : decide (f ∈ l) = z
  clear hr hn hl
  go_enter Tryz.func99, Tryz.ntmps99
  go_wp2_with fail
  refine HC.out.mono ?_
  rintro _ _ ⟨⟨y, rfl, hy, hy8, hyl⟩, rfl⟩
  have HZ := Lib.hid (show decide (0 ≤ y) = z by rw [← hz]; exact decide_eq_decide.2 hyl)
  clear hyl hz HC
  go_wp2_with fail
  go_ret
  exact ⟨by rw [← HZ.out]; rfl, rfl⟩
end
end Go.Proofs.YtjfmidcaekhhgaaGreatDoor
