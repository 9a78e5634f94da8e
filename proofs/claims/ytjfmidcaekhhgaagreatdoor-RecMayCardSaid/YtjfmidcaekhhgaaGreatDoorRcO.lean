/- May of a record, by its range over a function: walks. -/
import Derived.Test.YtjfmidcaekhhgaaGreatDoorRcN
import Derived.RangeFuncNested
import Derived.RangeFuncBound
import Derived.RangeFuncCalls
import Derived.RangeFuncLeaves
import Derived.RangeFuncStops
import Derived.RangeFuncOwn
import Derived.RangeFuncFrom
import Derived.Shelf.Abstract
import Derived.Shelf.RegionOpen
import Derived.WalkKit
import Derived.OwnWalkIn
import Derived.TacticsInMore
import Derived.LoopNIn
import Derived.LoopIn
import Derived.Maps.OwnSet
import Derived.Sort.MapsRangeIn
namespace Go.PM
open Go.RowKit Go.Shelf
/-- Cells lie as they lay, but two blocks. -/
structure KC (p q : Nat) (W W' : World) : Prop where
  size : W.heap.size ≤ W'.heap.size
  same : ∀ (k : Nat) (o : Obj), W.heap[k]? = some o → o.isCells = true → k ≠ p → k ≠ q → W'.heap[k]? = some o
theorem KC.trans {p q : Nat} {A B C : World} (h : KC p q A B) (k : KC p q B C) : KC p q A C :=
  ⟨Nat.le_trans h.size k.size, fun i o hi ho hp hq => k.same i o (h.same i o hi ho hp hq) ho hp hq⟩
theorem KC.put {p q : Nat} {W : World} {l : Nat} {o : Obj} (o' : Obj) (hl : W.heap[l]? = some o) (ho : o.isCells = false) : KC p q W (W.putObj l o') :=
  ⟨by simp, fun k x hk hx _ _ => (World.putObj_heap_other (fun e => by subst e; rw [hl] at hk; cases hk; rw [ho] at hx; cases hx)).trans hk⟩
theorem KC.rd {p q : Nat} {W W' : World} {a : Option Addr} {xs : List Value} (h : KC p q W W') (hr : Rd W a xs) (ha : ∀ b, At a b → b ≠ p ∧ b ≠ q) : Rd W' a xs := by
  intro j v hj
  obtain ⟨b, o, rfl, hc⟩ := hr j v hj
  refine ⟨b, o, rfl, ?_⟩
  obtain ⟨n1, n2⟩ := ha b ⟨b, o, rfl, rfl⟩
  cases hb : W.heap[b]? with
  | none => unfold World.cell? at hc; rw [hb] at hc; cases hc
  | some ob =>
    have hcells : ob.isCells = true := by
      unfold World.cell? at hc
      rw [hb] at hc
      cases ob <;> first | rfl | cases hc
    have := h.same b ob hb hcells n1 n2
    rw [← hc]
    exact World.cell?_of_block (a := ⟨b, o + j, none⟩) (this.trans hb.symm)
theorem Kept.kc {p q : Nat} {W W' : World} (h : Kept (fun k => k = p ∨ k = q) W W') : KC p q W W' :=
  ⟨h.size, fun k _o hk _ hp hq => (h.block k (lt_of_heap hk) (fun e => e.elim hp hq)).trans hk⟩
theorem Kept.others {p q : Nat} {W W' : World} {T U : TypeId} {xs ys : List Value} (h : Kept (fun k => k = p ∨ k = q) W W') (hp : Blk W p T xs) (hq : Blk W q U ys) : KeepsOthers W W' :=
  ⟨h.size, fun k o hk ho => (h.block k (lt_of_heap hk) (fun e => by
    rcases e with e | e
    · have h1 : W.heap[k]? = _ := e ▸ hp
      rw [h1] at hk; cases hk; cases ho
    · have h1 : W.heap[k]? = _ := e ▸ hq
      rw [h1] at hk; cases hk; cases ho)).trans hk⟩
theorem Blk.grown {W W' : World} {b : Nat} {T : TypeId} {xs : List Value} {row : Option Nat} (h : Blk W b T xs) (hg : W.grownBy W' row) (hr : ∀ r, row = some r → ∃ o : Obj, W.heap[r]? = some o ∧ o.isCells = false) : Blk W' b T xs := by
  refine (hg.block b h.lt (fun e => ?_)).trans h
  obtain ⟨o, ho, hc⟩ := hr b e.symm
  have h1 : W.heap[b]? = _ := h
  rw [h1] at ho; cases ho; cases hc
theorem Rd.grown {W W' : World} {a : Option Addr} {xs : List Value} {row : Option Nat} (h : Rd W a xs) (hg : W.grownBy W' row) (hr : ∀ r, row = some r → ∃ o : Obj, W.heap[r]? = some o ∧ o.isCells = false) : Rd W' a xs := by
  intro j v hj
  obtain ⟨b, o, rfl, hc⟩ := h j v hj
  refine ⟨b, o, rfl, ?_⟩
  have hb := World.block_lt_of_cell? W _ hc
  rw [← hc]
  refine World.cell?_of_block (a := ⟨b, o + j, none⟩) (hg.block b hb fun e => ?_)
  obtain ⟨ob, ho, hcl⟩ := hr b e.symm
  unfold World.cell? at hc
  simp only [ho] at hc
  cases ob <;> first | (simp at hc; done) | (exact absurd hcl (by simp [Obj.isCells]))
theorem Kept.below {W W' : World} (h : Kept No W W') : Below W.heap.size W W' := ⟨h.os, h.tape, h.output, h.size, fun k hk => h.block k hk id⟩
theorem Kept.grownNo {W W' : World} (h : Kept No W W') : W.grownBy W' none := ⟨h.os, h.tape, h.output, h.size, fun k hk _ => h.block k hk id⟩
end Go.PM
namespace Go.Proofs.YtjfmidcaekhhgaaGreatDoor
open Go.RowKit Go.PM Go.Shelf
attribute [local go_sem] Oper.semAt_some

/-- What the fields of a record yield. -/
def SL (k : Nat) : List (Fin 8 × Bool) := (List.finRange 8).map fun f => (f, decide (f.1 ∈ rfx k))
def encF (x : Fin 8 × Bool) : Array Value := #[.int .i64 (x.1.1 : Nat), .bool x.2]
theorem SL_length (k : Nat) : (SL k).length = 8 := by simp [SL]
theorem SL_take (k j : Nat) (h : j < 8) : (SL k).take (j + 1) = (SL k).take j ++ [(⟨j, h⟩, decide (j ∈ rfx k))] := by
  have hl : j < (SL k).length := by rw [SL_length]; exact h
  rw [List.take_succ_eq_append_getElem hl]
  congr 1
  simp [SL]
theorem SL_mem {k : Nat} {x : Fin 8 × Bool} (h : x ∈ SL k) : x.2 = decide (x.1.1 ∈ rfx k) := by
  obtain ⟨f, _, rfl⟩ := List.mem_map.1 h
  rfl

set_option maxRecDepth 100000 in
set_option maxHeartbeats 1000000 in
theorem all1_stops (n : Nat) (hn : 1 ≤ n) (bp g k p q : Nat) (w0 : World) (hp : p < w0.heap.size) (hq : q < w0.heap.size) (cb : w0.cell? ⟨bp, 0, none⟩ = some (.pointer (some ⟨g, 0, none⟩))) (ck : w0.cell? ⟨g, 0, none⟩ = some (.int .u8 k)) :
    SeqStopsK Fence.wide n Tryz.prog 98 #[.pointer (some ⟨bp, 0, none⟩)] encF (KC p q) (fun xs => xs = SL k) (fun pre => ∃ j, pre = (SL k).take j) 8 w0 := by
  intro l J Jx W hW hJ hJx hY h0
  have cbW := (hW.cell (p := ⟨bp, 0, none⟩) (World.block_lt_of_cell? w0 _ cb)).trans cb
  have ckW := (hW.cell (p := ⟨g, 0, none⟩) (World.block_lt_of_cell? w0 _ ck)).trans ck
  have hsz := hW.size
  have hF1 : Fence.wide.fn 46 := trivial
  have hF2 : Fence.wide.fn 99 := trivial
  have hJ0 := Lib.hid (fun w1 (k1 : Kept No W w1) => hJ [] W w1 none h0 k1.grownNo (fun r e => by cases e))
  clear cb ck hW
  refine callsIn_of_wp Tryz.func98 rfl trivial ?_ rfl
  simp only [Tryz.ntmps98, List.size_toArray, List.length_cons, List.length_nil, Nat.reduceAdd, Nat.reduceSub, Array.replicate_succ, Array.replicate_zero, List.push_toArray, List.append_toArray, List.nil_append, List.cons_append]
  gi_wp2_with (first
    | (gi_at_call 46; refine (callsIn_wide.2 (rfields_calls k)).mono ?_; rintro _ w1 ⟨a, rfl, ra, k1, la, _⟩)
    | gi_in)
  have hJ1 := hJ0.out _ k1
  have hla : ∀ b, At a b → b ≠ p ∧ b ≠ q := fun b hb => by have := (la b hb).1; omega
  clear cbW ckW hJ0 la
  gi_loopw [4] (fun i wr => ∃ j : Nat, j ≤ 8 ∧ i = .int .i64 j ∧ J ((SL k).take j) wr ∧ Rd wr a (icells (rfx k))) (fun i _ => 8 - (intOf i).toNat)
  case atStart => exact ⟨0, by omega, rfl, by simpa using hJ1, ra⟩
  case round =>
    clear hJ1 ra k1
    obtain ⟨j, hj, rfl, hJs, ra⟩ := hrel
    by_cases hlt : j < 8
    · have i1 : (j : Int) ≤ 7 := by omega
      have hst := SL_take k j hlt
      have h8 : (rfx k).length ≤ 8 := by
        rcases rdx_cases k with h | h | h | h | h | h | h | h
        · rw [rfx_nil h]; decide
        all_goals subst h; decide
      have HC := Lib.hid (contains_calls (w := wr) (rfx k) j (rfx k).length rfl h8 hlt (rfx_lt k) a (rfx k).length ra)
      have HY := hY _ (⟨j, hlt⟩, decide (j ∈ rfx k)) wr hJs (by rw [List.length_take, SL_length]; omega)
      rw [← hst] at HY
      have he : encF (⟨j, hlt⟩, decide (j ∈ rfx k)) = #[.int .i64 (j : Nat), .bool (decide (j ∈ rfx k))] := rfl
      rw [he] at HY
      generalize decide (j ∈ rfx k) = z at *
      obtain ⟨fn, tmps, assign, body, hy, hR⟩ := HY
      clear hst he hY
      gi_wp2_with (first
        | (gi_at_call 99; refine (callsIn_wide.2 HC.out).mono ?_; rintro _ _ ⟨rfl, rfl⟩)
        | gi_in)
      refine hR.mono ?_
      rintro e W3 (⟨rfl, hJ3, hk3⟩ | ⟨rfl, hJx3⟩)
      · have ra3 := hk3.rd ra hla
        clear ra
        gi_wp2
        exact ⟨⟨j + 1, by omega, by go_num, hJ3, ra3⟩, by simp [intOf]; omega⟩
      · gi_wp2
        refine bodyPost_ret (results_none rfl _ _ _) rfl ?_
        exact ⟨⟨_, rfl⟩, .inr ⟨_, ⟨j + 1, rfl⟩, hJx3⟩⟩
    · obtain rfl : j = 8 := by omega
      rw [List.take_of_length_le (by rw [SL_length]; exact Nat.le_refl _)] at hJs
      gi_wp2
      go_end0
      exact ⟨⟨_, rfl⟩, .inl ⟨_, rfl, hJs⟩⟩

section
variable {w : World}
theorem all_calls (g : Nat) : Calls Tryz.prog 62 #[.pointer (some ⟨g, 0, none⟩)] w fun e w' =>
    e = .returned (.func (.func 98) #[] #[.pointer (some ⟨w.heap.size, 0, none⟩)]) ∧ w' = w.alloc (.cells #[.pointer (some ⟨g, 0, none⟩)] 129) := by
  have hmf : ∀ (fn : Fn) (first cap : Array Value) (w : World), (Instr.makeFunc fn first cap).run Tryz.prog w = .ok (.func fn first cap) w := fun _ _ _ _ => rfl
  go_enter Tryz.func62, Tryz.ntmps62
  go_wp2
  go_ret
  exact ⟨rfl, rfl⟩
theorem Tryz.enters_all1 : ∀ args w, (callFunc 98 args).run Tryz.prog w = .ok (.enter 98 args) w :=
  enters_of Tryz.func98 (by kernel_rfl) rfl

/-- May a field stand so, as the range yields it? -/
def okx (m : PRec) (x : Fin 8 × Bool) : Bool := if x.2 then rfMay m x.1.1 else rfZero m x.1.1
theorem okx_all {m : PRec} (h : ∀ x ∈ SL m.kind, okx m x = true) : (List.range 8).all (rfOk m) = true := by
  rw [List.all_eq_true]
  intro f hf
  have hf8 := List.mem_range.1 hf
  have := h (⟨f, hf8⟩, decide (f ∈ rfx m.kind)) (List.mem_map.2 ⟨⟨f, hf8⟩, List.mem_finRange _, rfl⟩)
  unfold okx at this
  unfold rfOk
  by_cases hin : f ∈ rfx m.kind
  · rw [if_pos hin]; simpa [hin] using this
  · rw [if_neg hin]; simpa [hin] using this
theorem okx_none {m : PRec} {x : Fin 8 × Bool} (hx : x ∈ SL m.kind) (h : okx m x = false) : (List.range 8).all (rfOk m) = false := by
  rw [List.all_eq_false]
  refine ⟨x.1.1, List.mem_range.2 x.1.2, ?_⟩
  have h2 := SL_mem hx
  unfold okx at h
  rw [h2] at h
  unfold rfOk
  by_cases hin : x.1.1 ∈ rfx m.kind
  · rw [if_pos hin]; simpa [hin] using h
  · rw [if_neg hin]; simpa [hin] using h
theorem SL_any (k : Nat) : (SL k).any (·.2) = decide (rfx k ≠ []) := by
  rcases rdx_cases k with h | h | h | h | h | h | h | h
  · have e := rfx_nil h
    unfold SL
    rw [e]; decide
  all_goals subst h; decide

theorem Rc.grown {W W' : World} {T : TypeId} {g : Nat} {m : PRec} {aw am : Option Addr} {cw cm : Nat} {row : Option Nat} (h : Rc W T g m aw cw am cm) (hg : W.grownBy W' row) (hr : ∀ r, row = some r → ∃ o : Obj, W.heap[r]? = some o ∧ o.isCells = false) : Rc W' T g m aw cw am cm :=
  ⟨h.box.grown hg hr, h.rdw.grown hg hr, h.rdm.grown hg hr, fun b hb => Nat.lt_of_lt_of_le (h.ltw b hb) hg.size, fun b hb => Nat.lt_of_lt_of_le (h.ltm b hb) hg.size, h.wf, h.sm⟩

set_option maxRecDepth 100000 in
set_option maxHeartbeats 2000000 in
theorem rMay_calls {aw am : Option Addr} {cw cm : Nat} (m : PRec) (hm : m.Wf) (hs : m.Sm) (hrw : Rd w aw (pwsv m.writes)) (hrm : Rd w am (ucells m.missing)) (haw : ∀ b, At aw b → b < w.heap.size) (ham : ∀ b, At am b → b < w.heap.size) :
    Calls Tryz.prog 27 #[.agg (recv m aw cw am cm).toArray] w fun e w' => e = .returned (.bool (rMay m)) ∧ Kept No w w' := by
  refine (callsIn_wide (n := 9)).1 ?_
  have l31 := recv_length hm aw cw am cm
  have HALL := Lib.hid (fun w g => callsIn_wide (n := 8) |>.2 (all_calls (w := w) g))
  have hF1 : Fence.wide.fn 62 := trivial
  refine callsIn_of_wp_marks Tryz.func27 rfl trivial ?_ rfl
  simp only [Tryz.ntmps27, List.size_toArray, List.length_cons, List.length_nil, Nat.reduceAdd, Nat.reduceSub, Array.replicate_succ, Array.replicate_zero, List.push_toArray, List.append_toArray, List.nil_append, List.cons_append]
  gi_wp2_with (first
    | (gi_at_call 62; refine (HALL.out _ _).mono ?_; rintro e w' ⟨rfl, rfl⟩)
    | gi_in)
  obtain ⟨W0, hW0⟩ : ∃ W0, (((w.alloc (.cells (recv m aw cw am cm).toArray 53)).alloc (.cells #[.bool false] 4)).alloc (.cells #[.bool false] 4)).alloc (.cells #[.pointer (some ⟨w.heap.size, 0, none⟩)] 129) = W0 := ⟨_, rfl⟩
  have hsz : W0.heap.size = w.heap.size + 4 := by rw [← hW0]; simp
  have K0 : Kept No w W0 := by rw [← hW0]; exact ((((Kept.refl No w).alloc _).alloc _).alloc _).alloc _
  have B0 : Blk W0 w.heap.size 53 (recv m aw cw am cm) := by rw [← hW0]; exact (((Blk.new w 53 (recv m aw cw am cm)).alloc _).alloc _).alloc _
  have P0 : Blk W0 (w.heap.size + 1) 4 [.bool false] := by
    rw [← hW0]; exact ((Blk.new' (w := w.alloc (.cells (recv m aw cw am cm).toArray 53)) (g := w.heap.size + 1) (by rw [World.size_alloc]) 4 [.bool false]).alloc _).alloc _
  have Q0 : Blk W0 (w.heap.size + 1 + 1) 4 [.bool false] := by
    rw [← hW0]; exact (Blk.new' (w := (w.alloc (.cells (recv m aw cw am cm).toArray 53)).alloc (.cells #[.bool false] 4)) (g := w.heap.size + 1 + 1) (by rw [World.size_alloc, World.size_alloc]) 4 [.bool false]).alloc _
  have X0 : Blk W0 (w.heap.size + 1 + 1 + 1) 129 [.pointer (some ⟨w.heap.size, 0, none⟩)] := by
    rw [← hW0]; exact Blk.new' (w := ((w.alloc (.cells (recv m aw cw am cm).toArray 53)).alloc (.cells #[.bool false] 4)).alloc (.cells #[.bool false] 4)) (g := w.heap.size + 1 + 1 + 1) (by rw [World.size_alloc, World.size_alloc, World.size_alloc]) 129 [.pointer (some ⟨w.heap.size, 0, none⟩)]
  have R0 : Rc W0 53 w.heap.size m aw cw am cm := ⟨B0, hrw.keptNo K0, hrm.keptNo K0, fun b hb => K0.lt (haw b hb), fun b hb => K0.lt (ham b hb), hm, hs⟩
  rw [hW0]
  clear hW0 HALL hF1
  refine wpIn_rangeFunc_ownF rfl (by omega) (gf := 98) (lb := #[.pointer (some ⟨w.heap.size + 1 + 1 + 1, 0, none⟩)]) (encs := encF) (Kp := KC (w.heap.size + 1) (w.heap.size + 1 + 1)) (N := 8) (w0 := W0) rfl trivial Tryz.enters_all1
    (all1_stops 8 (by omega) _ w.heap.size m.kind _ _ W0 (by omega) (by omega) (X0.cell 0) R0.kind)
    (fun h k => h.trans k) (fun W l o o' _ hl ho _ => KC.put o' hl ho) (Below.refl _ _) (fun _ => rfl)
    (fun pre W => ((∀ x ∈ pre, okx m x = true) ∧ Rc W 53 w.heap.size m aw cw am cm ∧ Blk W (w.heap.size + 1) 4 [.bool false] ∧ Blk W (w.heap.size + 1 + 1) 4 [.bool (pre.any (·.2))]) ∧ Below w.heap.size w W)
    (fun c pre W => (c = .ret ∧ (∃ x ∈ pre, okx m x = false) ∧ Blk W (w.heap.size + 1) 4 [.bool false]) ∧ Below w.heap.size w W)
    (OwnFrom.and (Own.from (fun s A B row hs hg hr => ⟨hs.1, hs.2.1.grown hg hr, hs.2.2.1.grown hg hr, hs.2.2.2.grown hg hr⟩) _) (ownFrom_below (Nat.le_refl _) (by omega)))
    (fun c => OwnFrom.and (Own.from (fun s A B row hs hg hr => ⟨hs.1, hs.2.1, hs.2.2.grown hg hr⟩) _) (ownFrom_below (Nat.le_refl _) (by omega)))
    ⟨⟨by simp, R0, P0, Q0⟩, K0.below⟩
    (fun x => { tmps := #[.agg (recv m aw cw am cm).toArray, .pointer (some ⟨w.heap.size, 0, none⟩), .pointer (some ⟨w.heap.size + 1, 0, none⟩), .pointer (some ⟨w.heap.size + 1 + 1, 0, none⟩), .int .i64 (x.1.1 : Nat), .bool x.2, .func (.func 98) #[] #[.pointer (some ⟨w.heap.size + 1 + 1 + 1, 0, none⟩)], .int .i64 (x.1.1 : Nat), .bool x.2,
      undef, undef, undef, undef, undef, undef, undef, undef, undef, undef, undef, undef, undef, undef, undef, undef, undef, undef, undef, undef], defers := [] }) ?assign ?body ?done ?stop
  case assign =>
    intro l x W K hK
    unfold encF
    gi_wp2
    exact hK
  case body =>
    clear B0 P0 Q0 X0 R0 K0
    rintro l pre ⟨⟨f, hf⟩, c⟩ W ⟨⟨hok, hR, hP, hQ⟩, hB⟩ hlt
    have hBK := Kept.ofBelow hB (Nat.le_refl _)
    have n1 : w.heap.size + 1 ≠ w.heap.size + 1 + 1 := by omega
    have hF1 : Fence.wide.fn 63 := trivial
    have hF2 : Fence.wide.fn 64 := trivial
    have HM := Lib.hid (fun n => ((callsIn_wide (n := n)).2 (rmayf_calls hR f hf)).inRound l)
    have HZ := Lib.hid (fun n => ((callsIn_wide (n := n)).2 (rzerof_calls hR f hf)).inRound l)
    cases c
    · have hx : okx m (⟨f, hf⟩, false) = rfZero m f := rfl
      generalize rfZero m f = z at *
      cases z
      · gi_wp2_with (first
          | (gi_at_call 64; refine (HZ.out _).mono ?_; rintro _ W2 ⟨rfl, k2⟩; have hP2 := hP.kept k2 (fun h => h); have hQ2 := hQ.kept k2 (fun h => h); have cP := hP2.cell 0; have cQ := hQ2.cell 0; have fP := hP2.frozen 0; have fQ := hQ2.frozen 0; simp only [List.getElem?_cons_zero] at cP cQ)
          | gi_in)
        have KK := (k2.no (S := fun k => k = w.heap.size + 1 ∨ k = w.heap.size + 1 + 1)).setCell (a := ⟨w.heap.size + 1, 0, none⟩) (fun _ => .inl rfl) (.bool false)
        have hP3 := hP2.set 0 (.bool false)
        exact ⟨KK.others hP hQ, ⟨rfl, ⟨_, List.mem_append.2 (.inr (List.mem_singleton.2 rfl)), hx⟩, hP3⟩, ((hBK.trans k2 fun _ _ h => h).setCell (a := ⟨w.heap.size + 1, 0, none⟩) (fun h => absurd h (by simp)) (.bool false)).below⟩
      · have hv : ∀ y, pre.any (·.2) = y → (y || false) = (pre ++ [((⟨f, hf⟩, false) : Fin 8 × Bool)]).any (·.2) := fun y e => by simp [← e]
        have hok2 : ∀ x ∈ pre ++ [((⟨f, hf⟩, false) : Fin 8 × Bool)], okx m x = true := fun x hm => (List.mem_append.1 hm).elim (hok x) fun e => by rw [List.mem_singleton.1 e]; exact hx
        generalize hy : pre.any (·.2) = y at *
        have hv := hv y rfl
        have HV := Lib.hid hv
        clear hv hok hx
        cases y
        · gi_wp2_with (first
            | (gi_at_call 64; refine (HZ.out _).mono ?_; rintro _ W2 ⟨rfl, k2⟩; have hP2 := hP.kept k2 (fun h => h); have hQ2 := hQ.kept k2 (fun h => h); have cP := hP2.cell 0; have cQ := hQ2.cell 0; have fP := hP2.frozen 0; have fQ := hQ2.frozen 0; simp only [List.getElem?_cons_zero] at cP cQ)
            | gi_in)
          have KK := (k2.no (S := fun k => k = w.heap.size + 1 ∨ k = w.heap.size + 1 + 1)).setCell (a := ⟨w.heap.size + 1 + 1, 0, none⟩) (fun _ => .inr rfl) (.bool false)
          have hQ3 := hQ2.set 0 (.bool false)
          have hP3 := hP2.kept ((Kept.refl (· = w.heap.size + 1 + 1) W2).setCell (a := ⟨w.heap.size + 1 + 1, 0, none⟩) (fun _ => rfl) (.bool false)) n1
          have hR3 := (hR.keptNo k2).kept ((Kept.refl (· = w.heap.size + 1 + 1) W2).setCell (a := ⟨w.heap.size + 1 + 1, 0, none⟩) (fun _ => rfl) (.bool false)) (by omega) (fun b hb => by have := haw b hb; omega) (fun b hb => by have := ham b hb; omega)
          have hK3 := ((hBK.trans k2 fun _ _ h => h).setCell (a := ⟨w.heap.size + 1 + 1, 0, none⟩) (fun h => absurd h (by simp; omega)) (.bool false)).below
          exact ⟨KK.others hP hQ, KK.kc, ⟨hok2, hR3, hP3, by rw [← HV.out]; exact hQ3⟩, hK3⟩
        · gi_wp2_with (first
            | (gi_at_call 64; refine (HZ.out _).mono ?_; rintro _ W2 ⟨rfl, k2⟩; have hP2 := hP.kept k2 (fun h => h); have hQ2 := hQ.kept k2 (fun h => h); have cP := hP2.cell 0; have cQ := hQ2.cell 0; have fP := hP2.frozen 0; have fQ := hQ2.frozen 0; simp only [List.getElem?_cons_zero] at cP cQ)
            | gi_in)
          have KK := (k2.no (S := fun k => k = w.heap.size + 1 ∨ k = w.heap.size + 1 + 1)).setCell (a := ⟨w.heap.size + 1 + 1, 0, none⟩) (fun _ => .inr rfl) (.bool true)
          have hQ3 := hQ2.set 0 (.bool true)
          have hP3 := hP2.kept ((Kept.refl (· = w.heap.size + 1 + 1) W2).setCell (a := ⟨w.heap.size + 1 + 1, 0, none⟩) (fun _ => rfl) (.bool true)) n1
          have hR3 := (hR.keptNo k2).kept ((Kept.refl (· = w.heap.size + 1 + 1) W2).setCell (a := ⟨w.heap.size + 1 + 1, 0, none⟩) (fun _ => rfl) (.bool true)) (by omega) (fun b hb => by have := haw b hb; omega) (fun b hb => by have := ham b hb; omega)
          have hK3 := ((hBK.trans k2 fun _ _ h => h).setCell (a := ⟨w.heap.size + 1 + 1, 0, none⟩) (fun h => absurd h (by simp; omega)) (.bool true)).below
          exact ⟨KK.others hP hQ, KK.kc, ⟨hok2, hR3, hP3, by rw [← HV.out]; exact hQ3⟩, hK3⟩
    · have hx : okx m (⟨f, hf⟩, true) = rfMay m f := rfl
      generalize rfMay m f = z at *
      cases z
      · gi_wp2_with (first
          | (gi_at_call 63; refine (HM.out _).mono ?_; rintro _ W2 ⟨rfl, k2⟩; have hP2 := hP.kept k2 (fun h => h); have hQ2 := hQ.kept k2 (fun h => h); have cP := hP2.cell 0; have cQ := hQ2.cell 0; have fP := hP2.frozen 0; have fQ := hQ2.frozen 0; simp only [List.getElem?_cons_zero] at cP cQ)
          | gi_in)
        case h_1.isTrue => rename_i e1 e2; exact absurd e1 (by unfold undef; simp)
        all_goals
          have KK := (k2.no (S := fun k => k = w.heap.size + 1 ∨ k = w.heap.size + 1 + 1)).setCell (a := ⟨w.heap.size + 1, 0, none⟩) (fun _ => .inl rfl) (.bool false)
          have hP3 := hP2.set 0 (.bool false)
          exact ⟨KK.others hP hQ, ⟨rfl, ⟨_, List.mem_append.2 (.inr (List.mem_singleton.2 rfl)), hx⟩, hP3⟩, ((hBK.trans k2 fun _ _ h => h).setCell (a := ⟨w.heap.size + 1, 0, none⟩) (fun h => absurd h (by simp)) (.bool false)).below⟩
      · have hv : ∀ y, pre.any (·.2) = y → (y || true) = (pre ++ [((⟨f, hf⟩, true) : Fin 8 × Bool)]).any (·.2) := fun y e => by simp [← e]
        have hok2 : ∀ x ∈ pre ++ [((⟨f, hf⟩, true) : Fin 8 × Bool)], okx m x = true := fun x hm => (List.mem_append.1 hm).elim (hok x) fun e => by rw [List.mem_singleton.1 e]; exact hx
        generalize hy : pre.any (·.2) = y at *
        have hv := hv y rfl
        have HV := Lib.hid hv
        clear hv hok hx
        cases y
        · gi_wp2_with (first
            | (gi_at_call 63; refine (HM.out _).mono ?_; rintro _ W2 ⟨rfl, k2⟩; have hP2 := hP.kept k2 (fun h => h); have hQ2 := hQ.kept k2 (fun h => h); have cP := hP2.cell 0; have cQ := hQ2.cell 0; have fP := hP2.frozen 0; have fQ := hQ2.frozen 0; simp only [List.getElem?_cons_zero] at cP cQ)
            | gi_in)
          have KK := (k2.no (S := fun k => k = w.heap.size + 1 ∨ k = w.heap.size + 1 + 1)).setCell (a := ⟨w.heap.size + 1 + 1, 0, none⟩) (fun _ => .inr rfl) (.bool true)
          have hQ3 := hQ2.set 0 (.bool true)
          have hP3 := hP2.kept ((Kept.refl (· = w.heap.size + 1 + 1) W2).setCell (a := ⟨w.heap.size + 1 + 1, 0, none⟩) (fun _ => rfl) (.bool true)) n1
          have hR3 := (hR.keptNo k2).kept ((Kept.refl (· = w.heap.size + 1 + 1) W2).setCell (a := ⟨w.heap.size + 1 + 1, 0, none⟩) (fun _ => rfl) (.bool true)) (by omega) (fun b hb => by have := haw b hb; omega) (fun b hb => by have := ham b hb; omega)
          have hK3 := ((hBK.trans k2 fun _ _ h => h).setCell (a := ⟨w.heap.size + 1 + 1, 0, none⟩) (fun h => absurd h (by simp; omega)) (.bool true)).below
          exact ⟨KK.others hP hQ, KK.kc, ⟨hok2, hR3, hP3, by rw [← HV.out]; exact hQ3⟩, hK3⟩
        · gi_wp2_with (first
            | (gi_at_call 63; refine (HM.out _).mono ?_; rintro _ W2 ⟨rfl, k2⟩; have hP2 := hP.kept k2 (fun h => h); have hQ2 := hQ.kept k2 (fun h => h); have cP := hP2.cell 0; have cQ := hQ2.cell 0; have fP := hP2.frozen 0; have fQ := hQ2.frozen 0; simp only [List.getElem?_cons_zero] at cP cQ)
            | gi_in)
          have KK := (k2.no (S := fun k => k = w.heap.size + 1 ∨ k = w.heap.size + 1 + 1)).setCell (a := ⟨w.heap.size + 1 + 1, 0, none⟩) (fun _ => .inr rfl) (.bool true)
          have hQ3 := hQ2.set 0 (.bool true)
          have hP3 := hP2.kept ((Kept.refl (· = w.heap.size + 1 + 1) W2).setCell (a := ⟨w.heap.size + 1 + 1, 0, none⟩) (fun _ => rfl) (.bool true)) n1
          have hR3 := (hR.keptNo k2).kept ((Kept.refl (· = w.heap.size + 1 + 1) W2).setCell (a := ⟨w.heap.size + 1 + 1, 0, none⟩) (fun _ => rfl) (.bool true)) (by omega) (fun b hb => by have := haw b hb; omega) (fun b hb => by have := ham b hb; omega)
          have hK3 := ((hBK.trans k2 fun _ _ h => h).setCell (a := ⟨w.heap.size + 1 + 1, 0, none⟩) (fun h => absurd h (by simp; omega)) (.bool true)).below
          exact ⟨KK.others hP hQ, KK.kc, ⟨hok2, hR3, hP3, by rw [← HV.out]; exact hQ3⟩, hK3⟩
  case done =>
    rintro D _ W hD rfl ⟨⟨hok, hR, hP, hQ⟩, hB⟩ hK
    have cP := hP.cell 0
    have cQ := hQ.cell 0
    have fP := hP.frozen 0
    have fQ := hQ.frozen 0
    simp only [List.getElem?_cons_zero] at cP cQ
    have hval : (SL m.kind).any (·.2) = rMay m := by
      rw [rMay_eq, okx_all hok, SL_any]; rfl
    rw [hval] at cQ
    have hBK := Kept.ofBelow hB (Nat.le_refl _)
    have hK' := (((Kept.refl (fun k => k = w.heap.size + 1 ∨ k = w.heap.size + 1 + 1) W).setCell (a := ⟨w.heap.size + 1, 0, none⟩) (fun _ => .inl rfl) (.bool (rMay m))).others hP hQ).same D _ hK rfl
    have hP3 := hP.set 0 (.bool (rMay m))
    have hB3 := (hBK.setCell (a := ⟨w.heap.size + 1, 0, none⟩) (fun h => absurd h (by simp)) (.bool (rMay m))).below
    gi_wp2
    refine ⟨by simp, .inl ⟨_, _, rfl, run_takeDeferred hK', ?_⟩⟩
    have hP4 := hP3.grown (grownBy_putObj' _ D (.deferred none)) (fun r e => by cases e; exact ⟨_, hK', rfl⟩)
    have hc5 := hP4.cell 0
    simp only [List.set_cons_zero, List.getElem?_cons_zero] at hc5
    refine ⟨.bool (rMay m), ?_, rfl, Kept.ofBelow (hB3.trans (belowK_b (w := w) (Nat.le_refl _) _ D _ _ (by omega) hK' rfl rfl)) (Nat.le_refl _)⟩
    simp [results, Tryz.f27, go_sem, hc5]
  case stop =>
    rintro D c pre W hD ⟨j, rfl⟩ ⟨⟨rfl, ⟨x, hx, hbad⟩, hP⟩, hB⟩ hK
    have hval : rMay m = false := by
      rw [rMay_eq, okx_none (List.mem_of_mem_take hx) hbad]; rfl
    gi_wp2
    refine ⟨by simp, .inl ⟨_, _, rfl, run_takeDeferred hK, ?_⟩⟩
    have hP4 := hP.grown (grownBy_putObj' _ D (.deferred none)) (fun r e => by cases e; exact ⟨_, hK, rfl⟩)
    have hc5 := hP4.cell 0
    simp only [List.getElem?_cons_zero] at hc5
    refine ⟨.bool false, ?_, by rw [hval], Kept.ofBelow (hB.trans (belowK_b (w := w) (Nat.le_refl _) W D _ _ (by omega) hK rfl rfl)) (Nat.le_refl _)⟩
    simp [results, Tryz.f27, go_sem, hc5]
end
end Go.Proofs.YtjfmidcaekhhgaaGreatDoor
