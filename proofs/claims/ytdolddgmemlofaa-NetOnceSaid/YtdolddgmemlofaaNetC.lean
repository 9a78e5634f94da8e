/- slices.Delete over wires; what is sent, taken, dropped, doubled, late. -/
import Derived.Test.YtdolddgmemlofaaNetB
namespace Go.Proofs.Ytdolddgmemlofaa
open Go.RowKit Go.PM

section
variable {w : World}
set_option maxRecDepth 100000 in
set_option maxHeartbeats 400000 in
theorem delete_aux (g r cap i : Nat) (xs : List Value) (h : Own w 36 3 (some ⟨g, 0, none⟩) (i + 1 + r) cap xs) (hx : ∀ u ∈ xs, u.oneCell' = true) (hn : i + 1 + r ≤ 256) :
    Calls Try.prog 67 #[.slice (some ⟨g, 0, none⟩) (i + 1 + r) cap, .int .i64 i, .int .i64 (i + 1)] w
      (fun e w' => e = .returned (.slice (some ⟨g, 0, none⟩) (i + r) cap) ∧ Own w' 36 3 (some ⟨g, 0, none⟩) (i + r) cap (xs.take (i * 3) ++ xs.drop (i * 3 + 3)) ∧ Kept (· = g) w w') := by
  obtain ⟨i0, hi0, hz0, hz1, hz2⟩ := info_parts Try.inf_wire
  have hlen := h.len
  have hle := h.le
  have hmax := h.max
  obtain ⟨cur, hb, hcl, ht⟩ := h.block
  have hg := hb.lt
  have hb' : Blk w.drew g 36 cur := hb
  have hdl : (xs.drop (i * 3 + 3)).length = r * 3 := by rw [List.length_drop, hlen]; omega
  have hd1 : ∀ u ∈ xs.drop (i * 3 + 3), u.oneCell' = true := fun u hu => hx u (List.mem_of_mem_drop hu)
  have hrd : ∀ o : Nat, o = (i + 1) * 3 ∨ r = 0 → Rd w.drew (some ⟨g, o, none⟩) (xs.drop (i * 3 + 3)) := by
    intro o ho j x hj
    have hj' := (List.getElem?_eq_some_iff.1 hj).1
    rw [hdl] at hj'
    have ho' : o = (i + 1) * 3 := by omega
    refine ⟨g, o, rfl, ?_⟩
    rw [hb'.cell, ho']
    rw [List.getElem?_drop, ← ht, List.getElem?_take] at hj
    split at hj
    · rw [← hj]; congr 1; omega
    · exact (nomatch hj)
  have hroom : i + r ≤ cap := by omega
  have hfit : i * 3 + (xs.drop (i * 3 + 3)).length ≤ cur.length := by rw [hdl, hcl]; omega
  -- behind the append, and behind the clear
  have hb2 : Blk (w.drew.setRow g (splice cur (i * 3) (xs.drop (i * 3 + 3))).toArray) g 36 (splice cur (i * 3) (xs.drop (i * 3 + 3))) := hb'.setRow _
  have hsl : (splice cur (i * 3) (xs.drop (i * 3 + 3))).length = cap * 3 := by rw [length_splice _ _ _ hfit, hcl]
  have hzs : (Builtin.zeroCells (Value.agg #[.int .u8 0, .int .u8 0, .slice none 0 0]).cells 1).toList = [.int .u8 0, .int .u8 0, .slice none 0 0] := by kernel_rfl
  have hfit2 : (i + r) * 3 + [Value.int .u8 0, .int .u8 0, .slice none 0 0].length ≤ (splice cur (i * 3) (xs.drop (i * 3 + 3))).length := by rw [hsl]; simp; omega
  have hone : ∀ u ∈ [Value.int .u8 0, .int .u8 0, .slice none 0 0], u.oneCell' = true := by simp [Value.oneCell']
  have HFIN : Hid ((splice (splice cur (i * 3) (xs.drop (i * 3 + 3))) ((i + r) * 3) [Value.int .u8 0, .int .u8 0, .slice none 0 0]).take ((i + r) * 3) = xs.take (i * 3) ++ xs.drop (i * 3 + 3)) := by
    show _ = _
    rw [take_splice_at _ _ _ (by rw [hsl]; omega)]
    have e : (i + r) * 3 = i * 3 + (xs.drop (i * 3 + 3)).length := by rw [hdl]; omega
    rw [e, take_splice_end _ _ _ (by omega)]
    congr 1
    conv => rhs; rw [← ht, List.take_take]
    congr 1; omega
  have hl2 : (splice (splice cur (i * 3) (xs.drop (i * 3 + 3))) ((i + r) * 3) [Value.int .u8 0, .int .u8 0, .slice none 0 0]).length = cap * 3 := by rw [length_splice _ _ _ hfit2, hsl]
  have HL2 := Lib.hid hl2; clear hl2
  have HZ : Hid ((Builtin.zeroCells (Value.agg #[.int .u8 0, .int .u8 0, .slice none 0 0]).cells (i + 1 + r - (i + r))).toList = [.int .u8 0, .int .u8 0, .slice none 0 0]) := by
    show _ = _
    rw [show i + 1 + r - (i + r) = 1 by omega]; exact hzs
  have h01 : 0 < i + 1 + r - (i + r) := by omega
  have hrd' : Rd w.drew (if cap = i + 1 then some ⟨g, 0, none⟩ else some ⟨g, (i + 1) * 3, none⟩) (xs.drop (i * 3 + 3)) := by
    split
    · exact hrd _ (by omega)
    · exact hrd _ (.inl rfl)
  have hnc : (if cap = i + 1 then some (⟨g, 0, none⟩ : Addr) else some ⟨g, (i + 1) * 3, none⟩) = none → cap - (i + 1) = 0 := by
    split <;> simp
  have HDL := Lib.hid hdl; have HCL := Lib.hid hcl; have HT := Lib.hid ht; have HLEN := Lib.hid hlen; have HX := hx; have HSL := Lib.hid hsl; have HZS := Lib.hid hzs
  clear hdl hcl ht hlen hx hrd hsl hzs
  have h8 : ((i : Int) == (i : Int) + 1) = false := beq_eq_false_iff_ne.2 (by omega)
  have hic : i ≤ cap := by omega
  have hin0 : 0 ≤ (i : Int) + 1 := by omega
  have hin : (i : Int) + 1 ≤ (i : Int) + 1 + (r : Int) := by omega
  go_enter Try.func67, Try.ntmps67
  go_wp2_with fail
  go_region_law (refine step_wp rfl ?_; try simp only [List.getElem_toArray, List.getElem_cons_zero, List.getElem_cons_succ, Act.put, List.setIfInBounds_toArray, List.set_cons_zero, List.set_cons_succ]; refine wp_append_room (.tmp 22) (.tmp 25) 62 rfl 36 i0 3 Try.u_wires hi0 hz1 (by decide) g i cap cur rfl hb' _ r _ (xs.drop (i * 3 + 3)) rfl hnc HDL.out hrd' hd1 hroom hfit ?_)
  go_wp2_with (with_reducible refine wpList_clear rfl (.tmp 31) 62 rfl 36 i0 _ Try.u_wires hi0 hz0 g ((i + r) * 3) _ _ _ rfl hb2 h01 _ HZ.out hfit2 hone ?_)
  all_goals
    go_ret
    refine ⟨rfl, ?_, ?_⟩
    · rw [← HFIN.out]
      exact Own.ofBlk (hb2.setRow _) (HL2.out.trans (by omega)) (by omega) (by unfold maxLen at *; omega)
    · exact (((Kept.refl (· = g) w).drew).setRow (fun _ => rfl) _).setRow (fun _ => rfl) _
end

theorem delete_calls (w : World) (g n cap i : Nat) (xs : List Value) (h : Own w 36 3 (some ⟨g, 0, none⟩) n cap xs) (hx : ∀ u ∈ xs, u.oneCell' = true) (hi : i < n) (hn : n ≤ 256) :
    Calls Try.prog 67 #[.slice (some ⟨g, 0, none⟩) n cap, .int .i64 i, .int .i64 (i + 1)] w
      (fun e w' => e = .returned (.slice (some ⟨g, 0, none⟩) (n - 1) cap) ∧ Own w' 36 3 (some ⟨g, 0, none⟩) (n - 1) cap (xs.take (i * 3) ++ xs.drop (i * 3 + 3)) ∧ Kept (· = g) w w') := by
  obtain ⟨r, rfl⟩ : ∃ r, n = i + 1 + r := ⟨n - (i + 1), by omega⟩
  have e : i + 1 + r - 1 = i + r := by omega
  rw [e]
  exact delete_aux g r cap i xs h hx hn

theorem mcells_eraseIdx (l : List MW) (i : Nat) (hi : i < l.length) : mcells (l.eraseIdx i) = (mcells l).take (i * 3) ++ (mcells l).drop (i * 3 + 3) := by
  induction l generalizing i with
  | nil => simp at hi
  | cons x l ih =>
    have e : mcells (x :: l) = x.cells ++ mcells l := by simp [mcells]
    have e3 : x.cells.length = 3 := rfl
    cases i with
    | zero =>
      rw [e]; simp only [List.eraseIdx_zero, List.tail_cons, Nat.zero_mul, List.take_zero, List.nil_append, Nat.zero_add]
      rw [← e3, List.drop_left]
    | succ i =>
      have hi' : i < l.length := by simpa using hi
      have e' : mcells ((x :: l).eraseIdx (i + 1)) = x.cells ++ mcells (l.eraseIdx i) := by simp [mcells]
      rw [e', ih i hi', e]
      rw [show (i + 1) * 3 = x.cells.length + i * 3 by rw [e3]; omega, List.take_length_add_append, Nat.add_assoc, List.drop_length_add_append, List.append_assoc]

theorem NetX.erased {w w' : World} {p : Nat} {room : Int} {a : Option Addr} {cap : Nat} {lost : Int} {l : List MW} {S : Nat → Prop} (h : NetX w p room a cap lost l S) {i : Nat} (hi : i < l.length)
    (hb : NetB w' p room a (l.length - 1) cap lost) (ho : Own w' 36 3 a (l.length - 1) cap (mcells (l.eraseIdx i))) (hk : Kept (fun k => k = p ∨ At a k) w w') : NetX w' p room a cap lost (l.eraseIdx i) S := by
  have hl : (l.eraseIdx i).length = l.length - 1 := List.length_eraseIdx_of_lt hi
  refine ⟨by rw [hl]; exact hb, by rw [hl]; exact ho, h.room1, h.room2, by rw [hl]; have := h.fits; omega, h.lost0, h.lost1, h.sp, h.sa, fun m hm => ?_, fun k hk' => hk.lt (h.lt k hk')⟩
  obtain ⟨h1, h2, h3, h4, h5⟩ := h.bytes m (List.mem_of_mem_eraseIdx hm)
  exact ⟨h1, h2, h3, h4.kept hk (fun e => e.elim h2 h3), h5⟩

/-- What Take answers. -/
def TakePost (w : World) (p : Nat) (room : Int) (a : Option Addr) (cap : Nat) (lost : Int) (l' : List MW) (S : Nat → Prop) (f t : Int) (b : List UInt8) (e : Ending) (w' : World) : Prop :=
  ∃ g, e = .returned (.tuple #[.agg #[.int .u8 f, .int .u8 t, .slice (some ⟨g, 0, none⟩) b.length b.length], .int .i64 0]) ∧ w.heap.size ≤ g ∧ Blk w' g 5 (bcells b) ∧
    NetX w' p room a cap lost l' S ∧ Kept S w w'

section
variable {w : World} {p : Nat} {room : Int} {a : Option Addr} {cap : Nat} {lost : Int} {l : List MW} {S : Nat → Prop}

set_option maxRecDepth 100000 in
set_option maxHeartbeats 400000 in
theorem take_calls (h : NetX w p room a cap lost l S) (i : Nat) (m : MW) (hm : l[i]? = some m) :
    Calls Try.prog 30 #[.pointer (some ⟨p, 0, none⟩), .int .i64 i] w (TakePost w p room a cap lost (l.eraseIdx i) S m.f m.t m.b) := by
  have hp := h.lt p h.sp
  have hlt : i < l.length := (List.getElem?_eq_some_iff.1 hm).1
  have hl : l.length ≤ 256 := by have := h.fits; have := h.room2; omega
  obtain ⟨g, hag, hg⟩ : ∃ g, a = some ⟨g, 0, none⟩ ∧ g < w.heap.size := by
    rcases h.own.addr with ⟨_, h0, _⟩ | h'
    · omega
    · exact h'
  subst hag
  have hgp : g ≠ p := (h.sa g ⟨g, 0, rfl, rfl⟩).2
  have HM := Lib.hid hm
  clear hm
  go_enter Try.func30, Try.ntmps30
  go_wp2_with (go_at_call 17; go_must (refine (at_calls (h.keptNo ((Kept.refl No w).alloc _)) i m HM.out).mono ?_))
  rintro e w1 ⟨g1, rfl, hge, hgb, hk⟩
  have hk1 : Kept No w w1 := ((Kept.refl No w).alloc _).transNo hk
  have h1 := h.keptNo hk1
  have hbx : Blk w1 w.heap.size 36 [.int .u8 0, .int .u8 0, .slice none 0 0] := (Blk.new w _ _).kept hk id
  have hp1 := hk1.lt hp
  have c1 := h1.box.c1
  have f1 := h1.box.frozen 1
  have hX := fun X => (h1.own.keptNo ((Kept.refl No w1).alloc X))
  have hone := mcells_one l
  go_wp2_with (go_at_call 67; go_must (refine (delete_calls _ g l.length cap i (mcells l) (hX _) hone hlt hl).mono ?_))
  rintro e w2 ⟨rfl, ho2, hk2⟩
  have hsz := hk1.size
  have hb4 := (hbx.alloc _).kept hk2 (show ¬ w.heap.size = g by omega)
  have hb6 := (Blk.new' (w := w1) rfl 36 [.int .u8 m.f, .int .u8 m.t, .slice (some ⟨g1, 0, none⟩) m.b.length m.b.length]).kept hk2 (show ¬ w1.heap.size = g by omega)
  have hbp : NetB w2 p room (some ⟨g, 0, none⟩) l.length cap lost := (Blk.alloc h1.box _).kept hk2 (show ¬ p = g by omega)
  have hgb2 := (hgb.alloc _).kept hk2 (show ¬ g1 = g by simp at hge; omega)
  have hk12 : Kept (fun k => k = p ∨ At (some ⟨g, 0, none⟩) k) w w2 := (hk1.alloc _).no.trans hk2 (fun b _ hb => .inr ⟨g, 0, rfl, hb⟩)
  clear hX hone c1 f1 hbx
  have d1 := hbp.c1
  have fp := hbp.frozen 1
  have a0 := hb4.cell 0
  have a1 := hb4.cell 1
  have a2 := hb4.cell 2
  have b0 := hb4.frozen 0
  have b1 := hb4.frozen 1
  have b2 := hb4.frozen 2
  have e0 := hb6.cell 0
  have e1 := hb6.cell 1
  have e2 := hb6.cell 2
  go_wp2
  have hne1 : g1 ≠ w.heap.size := by simp at hge; omega
  have hnep : w.heap.size ≠ p := by omega
  have hnp : p ≠ w.heap.size := by omega
  have hng : g ≠ w.heap.size := by omega
  have hng1 : g1 ≠ p := by simp at hge; omega
  have hw : w.heap.size < w.heap.size → (fun k => k = p ∨ At (some ⟨g, 0, none⟩) k) w.heap.size := fun h => absurd h (Nat.lt_irrefl _)
  have hkf := (((hk12.setCell (a := ⟨p, 1, none⟩) (fun _ => .inl rfl) (.slice (some ⟨g, 0, none⟩) (l.length - 1) cap)).setCell (a := ⟨w.heap.size, 0, none⟩) hw (.int .u8 m.f)).setCell (a := ⟨w.heap.size, 1, none⟩) hw (.int .u8 m.t)).setCell (a := ⟨w.heap.size, 2, none⟩) hw (.slice (some ⟨g1, 0, none⟩) m.b.length m.b.length)
  refine bodyPost_ret (v := .tuple #[.agg #[.int .u8 m.f, .int .u8 m.t, .slice (some ⟨g1, 0, none⟩) m.b.length m.b.length], .int .i64 0]) (by simp [results, Try.results30, go_sem, a0, a1, a2]) rfl
    ⟨g1, rfl, by simp at hge; omega, ?_, ?_, ?_⟩
  · exact (((hgb2.setOther hng1 _).setOther hne1 _).setOther hne1 _).setOther hne1 _
  · refine h.erased hlt ?_ ?_ hkf
    · exact (((Blk.set hbp 1 _).setOther hnp _).setOther hnp _).setOther hnp _
    · rw [mcells_eraseIdx l i hlt]
      have hk3 : Kept (fun k => k = p ∨ k = w.heap.size) w2 _ := (((Kept.setCell (S := fun k => k = p ∨ k = w.heap.size) (Kept.refl _ w2) (a := ⟨p, 1, none⟩) (fun _ => .inl rfl) (.slice (some ⟨g, 0, none⟩) (l.length - 1) cap)).setCell (a := ⟨w.heap.size, 0, none⟩) (fun _ => .inr rfl) (.int .u8 m.f)).setCell (a := ⟨w.heap.size, 1, none⟩) (fun _ => .inr rfl) (.int .u8 m.t)).setCell (a := ⟨w.heap.size, 2, none⟩) (fun _ => .inr rfl) (.slice (some ⟨g1, 0, none⟩) m.b.length m.b.length)
      exact ho2.kept hk3 (by rintro b ⟨b', o, hb', rfl⟩ hh; cases hb'; exact hh.elim hgp hng)
  · exact hkf.mono fun b _ hb => hb.elim (fun e => e ▸ h.sp) (fun e => (h.sa b e).1)
end
end Go.Proofs.Ytdolddgmemlofaa
