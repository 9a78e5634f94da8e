/- What is refused; what is dropped, doubled, late; where a node's wires lie. -/
import Derived.Test.YtdolddgmemlofaaNetD
namespace Go.Proofs.Ytdolddgmemlofaa
open Go.RowKit Go.PM

def MW.w (m : MW) : Int × Int × List UInt8 := (m.f, m.t, m.b)

section
variable {w : World} {p : Nat} {room : Int} {a : Option Addr} {cap : Nat} {lost : Int} {l : List MW} {S : Nat → Prop}

theorem NetX.same (h : NetX w p room a cap lost l S) {w' : World} (hk : Kept No w w') (code : Int) : NetPost w p room lost (l.map MW.w) S code (.returned (.int .i64 code)) w' :=
  ⟨a, cap, l, S, rfl, h.keptNo hk, rfl, hk.no, fun _ h => .inl h⟩

theorem more_le (h0 : 0 ≤ lost) (h1 : lost ≤ 4294967295) : 0 ≤ more lost ∧ more lost ≤ 4294967295 := by
  unfold more; split <;> omega

theorem NetX.lose {w' : World} (h : NetX w p room a cap lost l S) (hb : NetB w' p room a l.length cap (more lost)) (hk : Kept (· = p) w w') : NetX w' p room a cap (more lost) l S :=
  ⟨hb, h.own.kept hk (fun b hb' e => (h.sa b hb').2 e), h.room1, h.room2, h.fits, (more_le h.lost0 h.lost1).1, (more_le h.lost0 h.lost1).2, h.sp, h.sa,
    fun m hm => let r := h.bytes m hm; ⟨r.1, r.2.1, r.2.2.1, r.2.2.2.1.kept hk r.2.1, r.2.2.2.2⟩, fun b hb' => hk.lt (h.lt b hb')⟩

set_option maxRecDepth 100000 in
set_option maxHeartbeats 400000 in
theorem send_arg (hN : NetX w p room a cap lost l S) (f t : Int) (ad : Option Addr) (c n : Nat) (hf : ¬ max f t < 8) :
    Calls Try.prog 19 #[.pointer (some ⟨p, 0, none⟩), .agg #[.int .u8 f, .int .u8 t, .slice ad n c]] w (NetPost w p room lost (l.map MW.w) S 1) := by
  have hr0 : 0 < room := by have := hN.room1; omega
  have hbx : ∀ X, NetX (w.alloc X) p room a cap lost l S := fun X => hN.keptNo ((Kept.refl No w).alloc X)
  have hf' : 8 ≤ f ∨ 8 ≤ t := by omega
  go_enter Try.func19, Try.ntmps19
  go_wp2_with (go_at_call 56; go_must (refine (ok_calls (hbx _).box hr0).mono ?_; rintro e w' ⟨rfl, rfl⟩))
  all_goals
    go_ret
    exact hN.same ((Kept.refl No w).alloc _) 1

set_option maxRecDepth 100000 in
set_option maxHeartbeats 400000 in
theorem send_many (hN : NetX w p room a cap lost l S) (f t : Int) (ad : Option Addr) (c n : Nat) (hf : max f t < 8) (hn : 4096 < n) :
    Calls Try.prog 19 #[.pointer (some ⟨p, 0, none⟩), .agg #[.int .u8 f, .int .u8 t, .slice ad n c]] w (NetPost w p room lost (l.map MW.w) S 5) := by
  have hr0 : 0 < room := by have := hN.room1; omega
  have hbx : ∀ X, NetX (w.alloc X) p room a cap lost l S := fun X => hN.keptNo ((Kept.refl No w).alloc X)
  go_enter Try.func19, Try.ntmps19
  go_wp2_with (go_at_call 56; go_must (refine (ok_calls (hbx _).box hr0).mono ?_; rintro e w' ⟨rfl, rfl⟩))
  all_goals
    go_ret
    exact hN.same ((Kept.refl No w).alloc _) 5

set_option maxRecDepth 100000 in
set_option maxHeartbeats 400000 in
theorem send_full (hN : NetX w p room a cap lost l S) (f t : Int) (ad : Option Addr) (c n : Nat) (hf : max f t < 8) (hn : n ≤ 4096) (hfull : (l.length : Int) = room) :
    Calls Try.prog 19 #[.pointer (some ⟨p, 0, none⟩), .agg #[.int .u8 f, .int .u8 t, .slice ad n c]] w (NetPost w p room (more lost) (l.map MW.w) S 9) := by
  have hr0 : 0 < room := by have := hN.room1; omega
  have hbx : ∀ X, NetX (w.alloc X) p room a cap lost l S := fun X => hN.keptNo ((Kept.refl No w).alloc X)
  have hfull' : decide ((l.length : Int) = room) = true := by simp; omega
  clear hfull
  go_enter Try.func19, Try.ntmps19
  go_wp2_with (first
    | (go_at_call 56; go_must (refine (ok_calls (hbx _).box hr0).mono ?_; rintro e w' ⟨rfl, rfl⟩))
    | (go_at_call 59; go_must (refine (isFull_calls (hbx _).box).mono ?_; rintro e w' ⟨rfl, k, rfl⟩; rw [hfull']))
    | (go_at_call 60; go_must (refine (lose_calls (Blk.drewN (hbx _).box _) hN.lost0).mono ?_; rintro e w' ⟨rfl, hb', hk'⟩)))
  all_goals
    go_ret
    have hk0 := ((Kept.refl No w).alloc (Obj.cells #[Value.int IntKind.u8 f, Value.int IntKind.u8 t, Value.slice ad n c] 36)).drewN k
    exact ⟨a, cap, l, S, rfl, (hN.keptNo hk0).lose hb' hk', rfl, hk0.no.trans hk' (fun b _ e => e ▸ hN.sp), fun _ h => .inl h⟩

set_option maxRecDepth 100000 in
set_option maxHeartbeats 400000 in
theorem take_none (hN : NetX w p room a cap lost l S) (i : Int) (hi : i < 0 ∨ (l.length : Int) ≤ i) :
    Calls Try.prog 30 #[.pointer (some ⟨p, 0, none⟩), .int .i64 i] w (NonePost w 6) := by
  have hp := hN.lt p hN.sp
  go_enter Try.func30, Try.ntmps30
  go_wp2_with (go_at_call 17; go_must (refine (at_none (hN.keptNo ((Kept.refl No w).alloc _)) i hi).mono ?_))
  rintro e w1 ⟨rfl, hk⟩
  have hbx : Blk w1 w.heap.size 36 [.int .u8 0, .int .u8 0, .slice none 0 0] := (Blk.new w _ _).kept hk id
  have hk1 : Kept No w w1 := ((Kept.refl No w).alloc _).transNo hk
  have x0 := hbx.cell 0
  have x1 := hbx.cell 1
  have x2 := hbx.cell 2
  have y0 := hbx.frozen 0
  have y1 := hbx.frozen 1
  have y2 := hbx.frozen 2
  have hlt := hbx.lt
  go_wp2
  have hw : w.heap.size < w.heap.size → No w.heap.size := fun h => absurd h (Nat.lt_irrefl _)
  refine bodyPost_ret (v := .tuple #[.agg #[.int .u8 0, .int .u8 0, .slice none 0 0], .int .i64 6]) (by simp [results, Try.results30, go_sem, x0, x1, x2, hlt]) rfl
      ⟨rfl, ?_⟩
  exact (((hk1.setCell (a := ⟨w.heap.size, 0, none⟩) hw (.int .u8 0)).setCell (a := ⟨w.heap.size, 1, none⟩) hw (.int .u8 0)).setCell (a := ⟨w.heap.size, 2, none⟩) hw (.slice none 0 0)).alloc _

set_option maxRecDepth 100000 in
set_option maxHeartbeats 400000 in
theorem drop_calls (hN : NetX w p room a cap lost l S) (i : Nat) (m : MW) (hm : l[i]? = some m) :
    Calls Try.prog 58 #[.pointer (some ⟨p, 0, none⟩), .int .i64 i] w (NetPost w p room (more lost) ((l.eraseIdx i).map MW.w) S 0) := by
  have HM := Lib.hid hm
  clear hm
  go_enter Try.func58, Try.ntmps58
  go_wp2_with (go_at_call 30; go_must (refine (take_calls hN i m HM.out).mono ?_))
  rintro e w1 ⟨g1, rfl, hge, hgb, h1, hk⟩
  have h2 := fun X => h1.keptNo ((Kept.refl No w1).alloc X)
  go_wp2_with (go_at_call 60; go_must (refine (lose_calls (h2 _).box hN.lost0).mono ?_; rintro e w' ⟨rfl, hb', hk'⟩))
  go_ret
  exact ⟨a, cap, _, S, rfl, (h2 _).lose hb' hk', rfl, (hk.alloc _).trans hk' (fun b _ e => e ▸ hN.sp), fun _ h => .inl h⟩

set_option maxRecDepth 100000 in
set_option maxHeartbeats 400000 in
theorem drop_none (hN : NetX w p room a cap lost l S) (i : Int) (hi : i < 0 ∨ (l.length : Int) ≤ i) :
    Calls Try.prog 58 #[.pointer (some ⟨p, 0, none⟩), .int .i64 i] w (NetPost w p room lost (l.map MW.w) S 6) := by
  go_enter Try.func58, Try.ntmps58
  go_wp2_with (go_at_call 30; go_must (refine (take_none hN i hi).mono ?_))
  rintro e w1 ⟨rfl, hk⟩
  go_wp2
  go_ret
  exact hN.same (hk.alloc _) 6

set_option maxRecDepth 100000 in
set_option maxHeartbeats 400000 in
theorem late_none (hN : NetX w p room a cap lost l S) (i : Int) (hi : i < 0 ∨ (l.length : Int) ≤ i) :
    Calls Try.prog 55 #[.pointer (some ⟨p, 0, none⟩), .int .i64 i] w (NetPost w p room lost (l.map MW.w) S 6) := by
  go_enter Try.func55, Try.ntmps55
  go_wp2_with (go_at_call 30; go_must (refine (take_none hN i hi).mono ?_))
  rintro e w1 ⟨rfl, hk⟩
  go_wp2
  go_ret
  exact hN.same (hk.alloc _) 6

set_option maxRecDepth 100000 in
set_option maxHeartbeats 400000 in
theorem twice_none (hN : NetX w p room a cap lost l S) (i : Int) (hi : i < 0 ∨ (l.length : Int) ≤ i) :
    Calls Try.prog 29 #[.pointer (some ⟨p, 0, none⟩), .int .i64 i] w (NetPost w p room lost (l.map MW.w) S 6) := by
  go_enter Try.func29, Try.ntmps29
  go_wp2_with (go_at_call 17; go_must (refine (at_none hN i hi).mono ?_))
  rintro e w1 ⟨rfl, hk⟩
  go_wp2
  go_ret
  exact hN.same (hk.alloc _) 6

set_option maxRecDepth 100000 in
set_option maxHeartbeats 400000 in
theorem twice_full (hN : NetX w p room a cap lost l S) (i : Nat) (m : MW) (hm : l[i]? = some m) (hfull : (l.length : Int) = room) :
    Calls Try.prog 29 #[.pointer (some ⟨p, 0, none⟩), .int .i64 i] w (NetPost w p room lost (l.map MW.w) S 9) := by
  have HM := Lib.hid hm
  have hfull' : decide ((l.length : Int) = room) = true := by simp; omega
  clear hfull hm
  go_enter Try.func29, Try.ntmps29
  go_wp2_with (go_at_call 17; go_must (refine (at_calls hN i m HM.out).mono ?_))
  rintro e w1 ⟨g1, rfl, hge, hgb, hk⟩
  have hbx := fun X => hN.keptNo (hk.alloc X)
  go_wp2_with (go_at_call 59; go_must (refine (isFull_calls (hbx _).box).mono ?_; rintro e w' ⟨rfl, k, rfl⟩; rw [hfull']))
  go_ret
  exact hN.same ((hk.alloc _).drewN k) 9

set_option maxRecDepth 100000 in
set_option maxHeartbeats 1000000 in
theorem twice_calls (hN : NetX w p room a cap lost l S) (i : Nat) (m : MW) (hm : l[i]? = some m) (hfull : (l.length : Int) < room) :
    Calls Try.prog 29 #[.pointer (some ⟨p, 0, none⟩), .int .i64 i] w (NetPost w p room lost (l.map MW.w ++ [m.w]) S 0) := by
  obtain ⟨i0, hi0, hz0, hz1, hz2⟩ := info_parts Try.inf_wire
  have hmb := (hN.bytes m (List.mem_of_getElem? hm)).2.2.2.2
  have HM := Lib.hid hm
  have hfull' : decide ((l.length : Int) = room) = false := by simp; omega
  have hpa : ¬ At a p := fun h' => (hN.sa p h').2 rfl
  clear hm
  go_enter Try.func29, Try.ntmps29
  go_wp2_with (go_at_call 17; go_must (refine (at_calls hN i m HM.out).mono ?_))
  rintro e w1 ⟨g1, rfl, hge, hgb, hk⟩
  have hbx := fun X => hN.keptNo (hk.alloc X)
  go_wp2_with (go_at_call 59; go_must (refine (isFull_calls (hbx _).box).mono ?_; rintro e w' ⟨rfl, k, rfl⟩; rw [hfull']))
  have hk2 := ((Kept.refl No w1).alloc (Obj.cells #[.int .u8 m.f, .int .u8 m.t, .slice (some ⟨g1, 0, none⟩) m.b.length m.b.length] 36)).drewN (k + 1)
  have h1 := (hN.keptNo hk).keptNo hk2
  have hgb2 := hgb.kept hk2 id
  have hOX := fun X => h1.own.keptNo ((Kept.refl No _).alloc X)
  have hNX := fun vs => Rd.ofBlk' (Blk.new' (g := w1.heap.size + 1) (w := (w1.alloc (Obj.cells #[.int .u8 m.f, .int .u8 m.t, .slice (some ⟨g1, 0, none⟩) m.b.length m.b.length] 36)).drewN (k + 1)) (by simp) 36 vs)
  have hN1 : ∀ u ∈ [Value.int .u8 m.f, .int .u8 m.t, .slice (some ⟨g1, 0, none⟩) m.b.length m.b.length], u.oneCell' = true := by simp [Value.oneCell']
  have hl256 : l.length ≤ 256 := by have := hN.room2; omega
  have hlm : l.length + 1 ≤ maxLen := by unfold maxLen; omega
  have hz : (Value.agg #[.int .u8 0, .int .u8 0, .slice none 0 0]).cells.size = 3 := rfl
  have c1 := (hN.keptNo hk).box.c1
  have hp1 := (hN.keptNo hk).lt p hN.sp
  go_region_law (first
      | (refine step_wp rfl ?_; try simp only [List.getElem_toArray, List.getElem_cons_zero, List.getElem_cons_succ, Act.put, List.setIfInBounds_toArray, List.set_cons_zero, List.set_cons_succ]
         go_loud (refine wp_append (.tmp 24) (.tmp 26) 62 rfl 36 i0 _ 3 32 Try.u_wires hi0 hz0 hz1 hz2 hz (by decide) a l.length cap (mcells l) rfl (hOX _) _ 1 1 _ rfl (fun h => nomatch h) rfl (hNX _) hN1 hlm (by omega) ?_)
         intro a' cap' w2 hap
         have q := (Blk.alloc h1.box _).kept hap.kept hpa
         have q1 := NetB.c1 q
         have qf := q.frozen 1))
  all_goals
    go_wp2
    go_ret
    refine push_post h1 ?_ hfull ?_ ?_ hgb2 hmb hap
    · exact (hk.transNo hk2).no
    · omega
    · exact fun e => by have := hN.lt _ e; omega

set_option maxRecDepth 100000 in
set_option maxHeartbeats 1000000 in
theorem late_calls (hN : NetX w p room a cap lost l S) (i : Nat) (m : MW) (hm : l[i]? = some m) :
    Calls Try.prog 55 #[.pointer (some ⟨p, 0, none⟩), .int .i64 i] w (NetPost w p room lost ((l.eraseIdx i).map MW.w ++ [m.w]) S 0) := by
  obtain ⟨i0, hi0, hz0, hz1, hz2⟩ := info_parts Try.inf_wire
  have hmb := (hN.bytes m (List.mem_of_getElem? hm)).2.2.2.2
  have hlt : i < l.length := (List.getElem?_eq_some_iff.1 hm).1
  have hle : (l.eraseIdx i).length + 1 = l.length := by rw [List.length_eraseIdx_of_lt hlt]; omega
  have hfull : ((l.eraseIdx i).length : Int) < room := by have := hN.fits; omega
  have hpa : ¬ At a p := fun h' => (hN.sa p h').2 rfl
  have HM := Lib.hid hm
  have hl256 : (l.eraseIdx i).length ≤ 256 := by have := hN.room2; omega
  clear hm hle
  obtain ⟨l', hl'⟩ : ∃ l', l' = l.eraseIdx i := ⟨_, rfl⟩
  rw [← hl'] at hl256 hfull ⊢
  have HL := Lib.hid hl'
  clear hl'
  go_enter Try.func55, Try.ntmps55
  go_wp2_with (go_at_call 30; go_must (refine (take_calls hN i m HM.out).mono ?_))
  rw [← HL.out]
  rintro e w1 ⟨g1, rfl, hge, hgb, hT, hk⟩
  have hk2 := ((Kept.refl No w1).alloc (Obj.cells #[.int .u8 m.f, .int .u8 m.t, .slice (some ⟨g1, 0, none⟩) m.b.length m.b.length] 36)).drewN 1
  have h1 := hT.keptNo hk2
  have hgb2 := hgb.kept hk2 id
  have hOX := fun X => h1.own.keptNo ((Kept.refl No _).alloc X)
  have hNX := fun vs => Rd.ofBlk' (Blk.new' (g := w1.heap.size + 1) (w := (w1.alloc (Obj.cells #[.int .u8 m.f, .int .u8 m.t, .slice (some ⟨g1, 0, none⟩) m.b.length m.b.length] 36)).drewN 1) (by simp) 36 vs)
  have hN1 : ∀ u ∈ [Value.int .u8 m.f, .int .u8 m.t, .slice (some ⟨g1, 0, none⟩) m.b.length m.b.length], u.oneCell' = true := by simp [Value.oneCell']
  have hlm : l'.length + 1 ≤ maxLen := by unfold maxLen; omega
  have hz : (Value.agg #[.int .u8 0, .int .u8 0, .slice none 0 0]).cells.size = 3 := rfl
  have c1 := hT.box.c1
  have hp1 := hT.lt p hN.sp
  go_wp2_with fail
  go_region_law (first
      | (refine step_wp rfl ?_; try simp only [List.getElem_toArray, List.getElem_cons_zero, List.getElem_cons_succ, Act.put, List.setIfInBounds_toArray, List.set_cons_zero, List.set_cons_succ]
         go_loud (refine wp_append (.tmp 19) (.tmp 21) 62 rfl 36 i0 _ 3 32 Try.u_wires hi0 hz0 hz1 hz2 hz (by decide) a l'.length cap (mcells l') rfl (hOX _) _ 1 1 _ rfl (fun h => nomatch h) rfl (hNX _) hN1 hlm (by omega) ?_)
         intro a' cap' w2 hap
         have q := (Blk.alloc h1.box _).kept hap.kept hpa
         have q1 := NetB.c1 q
         have qf := q.frozen 1))
  all_goals
    go_wp2
    go_ret
    refine push_post h1 ?_ hfull ?_ ?_ hgb2 hmb hap
    · exact hk.transNo hk2
    · omega
    · exact fun e => by have := hN.lt _ e; omega
end
end Go.Proofs.Ytdolddgmemlofaa
