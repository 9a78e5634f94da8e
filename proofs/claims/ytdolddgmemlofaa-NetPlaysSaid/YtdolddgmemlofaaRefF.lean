/- Each call of the document's network, by the pure network; would. Printed by wip/tools/gen_reff.py. -/
import Derived.Test.YtdolddgmemlofaaRefE
namespace Go.Proofs.Ytdolddgmemlofaa
open Go.RowKit Go.PM

/-- The document's network at p is s; T are its blocks. -/
def RS (w : World) (p : Nat) (s : PN) (T : Nat → Prop) : Prop := ∃ a cap ml, RX w p s.room a cap s.lost ml T ∧ ml.map RW.w = s.l

def RCd (w : World) (p : Nat) (T : Nat → Prop) (r : Int × PN) (e : Ending) (w' : World) : Prop :=
  ∃ T', e = .returned (.int .i64 r.1) ∧ RS w' p r.2 T' ∧ Kept T w w' ∧ ∀ k, T' k → T k ∨ w.heap.size ≤ k

def RGot (w : World) (p : Nat) (T : Nat → Prop) (x : PW) (code : Int) (s : PN) (e : Ending) (w' : World) : Prop :=
  ∃ (m : RW) (T' : Nat → Prop), m.w = x ∧ e = .returned (.tuple #[.agg #[.int .u8 m.f, .int .u8 m.t, .slice m.a m.b.length m.c], .int .i64 code]) ∧ Rd w' m.a (bcells m.b) ∧ (∀ k, At m.a k → T k) ∧ RS w' p s T' ∧ Kept T w w' ∧ ∀ k, T' k → T k ∨ w.heap.size ≤ k

theorem RS.kept {w w' : World} {p : Nat} {s : PN} {S T : Nat → Prop} (h : RS w p s T) (k : Kept S w w') (hd : ∀ b, T b → ¬ S b) : RS w' p s T :=
  let ⟨a, cap, ml, hN, e⟩ := h; ⟨a, cap, ml, hN.kept k hd, e⟩
theorem RS.keptNo {w w' : World} {p : Nat} {s : PN} {T : Nat → Prop} (h : RS w p s T) (k : Kept No w w') : RS w' p s T := h.kept k fun _ _ h => h
theorem RS.lt {w : World} {p : Nat} {s : PN} {T : Nat → Prop} (h : RS w p s T) : ∀ k, T k → k < w.heap.size := let ⟨_, _, _, hN, _⟩ := h; hN.lt
theorem RS.sp {w : World} {p : Nat} {s : PN} {T : Nat → Prop} (h : RS w p s T) : T p := let ⟨_, _, _, hN, _⟩ := h; hN.sp
theorem RS.box {w : World} {p : Nat} {s : PN} {T : Nat → Prop} (h : RS w p s T) : ∃ a cap, Blk w p 47 [.int .i64 s.room, .slice a s.l.length cap, .int .i64 s.lost] := by
  obtain ⟨a, cap, ml, hN, e⟩ := h
  have hlen : s.l.length = ml.length := by rw [← e]; simp
  exact ⟨a, cap, by rw [hlen]; exact hN.box⟩

theorem RCode.cd {w : World} {p : Nat} {room lost : Int} {l' : List RW} {T : Nat → Prop} {code : Int} {e : Ending} {w' : World} (h : RCode w p room lost l' T code e w') : RCd w p T (code, ⟨room, lost, l'.map RW.w⟩) e w' := by
  obtain ⟨a, cap, T', rfl, hR, hk, hg⟩ := h
  exact ⟨T', rfl, ⟨a, cap, l', hR, rfl⟩, hk, hg⟩

theorem RTook.got {w : World} {p : Nat} {room lost : Int} {l' : List RW} {T : Nat → Prop} {m : RW} {e : Ending} {w' : World} (h : RTook w p room lost l' T m e w') (ht : ∀ k, At m.a k → T k) : RGot w p T m.w 0 ⟨room, lost, l'.map RW.w⟩ e w' := by
  obtain ⟨a, cap, T', rfl, hR, hk, hg, ho⟩ := h
  exact ⟨m, T', rfl, rfl, ho.1, ht, ⟨a, cap, l', hR, rfl⟩, hk, hg⟩

section
variable {w : World} {p : Nat} {s : PN} {T : Nat → Prop}

theorem RWire.got (h : RS w p s T) {m : RW} {code : Int} {e : Ending} {w' : World} (hr : Rd w m.a (bcells m.b)) (ht : ∀ k, At m.a k → T k) (hw : RWire w m code e w') : RGot w p T m.w code s e w' := by
  obtain ⟨rfl, hk⟩ := hw
  exact ⟨m, T, rfl, rfl, hr.keptNo hk, ht, h.keptNo hk, hk.no, fun _ h => .inl h⟩

theorem rinside_get {ml : List RW} (e : ml.map RW.w = s.l) {i : Int} (hi : s.inside i) : ∃ (n : Nat) (m : RW), i = n ∧ ml[n]? = some m ∧ (s.at i).1 = m.w ∧ s.l.eraseIdx n = (ml.eraseIdx n).map RW.w := by
  obtain ⟨h0, h1⟩ := hi
  have hlen : s.l.length = ml.length := by rw [← e]; simp
  have hn : i.toNat < ml.length := by omega
  refine ⟨i.toNat, ml[i.toNat], by omega, by simp [hn], ?_, ?_⟩
  · unfold PN.at; rw [if_pos ⟨h0, h1⟩, ← e]; simp [hn]
  · rw [← e]; simp [List.eraseIdx_eq_take_drop_succ, List.map_take, List.map_drop]

theorem rs_at (h : RS w p s T) (i : Int) :
    Calls Try.prog 62 #[.pointer (some ⟨p, 0, none⟩), .int .i64 i] w (RGot w p T (s.at i).1 (s.at i).2 s) := by
  have hS := h
  obtain ⟨a, cap, ml, hN, e⟩ := h
  have hlen : s.l.length = ml.length := by rw [← e]; simp
  by_cases hi : s.inside i
  · obtain ⟨n, m, hin, hm, hat, he⟩ := rinside_get e hi
    have h2 : (s.at i).2 = 0 := by unfold PN.at; rw [if_pos (show 0 ≤ i ∧ _ from hi)]
    rw [hat, h2, hin]
    exact (r_at_ok hN n m hm).mono fun _ _ h => h.got hS (hN.bytes m (List.mem_of_getElem? hm)).1 (fun k hk => ((hN.bytes m (List.mem_of_getElem? hm)).2.2.2 k hk).1)
  · have h2 : s.at i = ((0, 0, []), 6) := by unfold PN.at; rw [if_neg (show ¬ (0 ≤ i ∧ _) from hi)]
    rw [h2]
    exact (r_at_none hN i (by unfold PN.inside at hi; omega)).mono fun _ _ h => h.got hS (Rd.nil _ _) (fun _ h => at_none_no h)

theorem rs_take (h : RS w p s T) (i : Int) :
    Calls Try.prog 61 #[.pointer (some ⟨p, 0, none⟩), .int .i64 i] w (RGot w p T (s.take i).1 (s.take i).2.1 (s.take i).2.2) := by
  have hS := h
  obtain ⟨a, cap, ml, hN, e⟩ := h
  have hlen : s.l.length = ml.length := by rw [← e]; simp
  unfold PN.take
  by_cases hi : s.inside i
  · rw [if_pos hi]
    obtain ⟨n, m, hin, hm, hat, he⟩ := rinside_get e hi
    simp only [hat]
    rw [hin]
    have := (r_take_ok hN n m hm).mono fun _ _ h => h.got (fun k hk => ((hN.bytes m (List.mem_of_getElem? hm)).2.2.2 k hk).1)
    rw [← he] at this; simpa [PN.without] using this
  · rw [if_neg hi]
    exact (r_take_none hN i (by unfold PN.inside at hi; omega)).mono fun _ _ h => h.got hS (Rd.nil _ _) (fun _ h => at_none_no h)

theorem lmore_eq {n : Int} (h : n < 2147483647) : n + 1 = lmore n := by unfold lmore; rw [if_pos h]

theorem rs_drop (h : RS w p s T) (i : Int) (hl : s.lost < 2147483647) :
    Calls Try.prog 63 #[.pointer (some ⟨p, 0, none⟩), .int .i64 i] w (RCd w p T (s.drop i)) := by
  obtain ⟨a, cap, ml, hN, e⟩ := h
  have hlen : s.l.length = ml.length := by rw [← e]; simp
  unfold PN.drop
  by_cases hi : s.inside i
  · obtain ⟨n, m, rfl, hm, _, he⟩ := rinside_get e hi
    rw [if_pos hi]
    have := (r_drop_ok hN n m hm hl).mono fun _ _ h => h.cd
    rw [← he, lmore_eq hl] at this; simpa [PN.without] using this
  · rw [if_neg hi]
    have := (r_drop_none hN i (by unfold PN.inside at hi; omega)).mono fun _ _ h => h.cd
    rw [e] at this; exact this

theorem rs_late (h : RS w p s T) (i : Int) :
    Calls Try.prog 65 #[.pointer (some ⟨p, 0, none⟩), .int .i64 i] w (RCd w p T (s.late i)) := by
  obtain ⟨a, cap, ml, hN, e⟩ := h
  have hlen : s.l.length = ml.length := by rw [← e]; simp
  unfold PN.late
  by_cases hi : s.inside i
  · rw [if_pos hi]
    obtain ⟨n, m, hin, hm, hat, he⟩ := rinside_get e hi
    rw [hat]
    have := (r_late_ok hN n m hm).mono fun _ _ h => h.cd
    rw [List.map_append, ← he, ← hin] at this; simpa [PN.without, hin] using this
  · rw [if_neg hi]
    have := (r_late_none hN i (by unfold PN.inside at hi; omega)).mono fun _ _ h => h.cd
    rw [e] at this; exact this

theorem rs_twice (h : RS w p s T) (i : Int) :
    Calls Try.prog 64 #[.pointer (some ⟨p, 0, none⟩), .int .i64 i] w (RCd w p T (s.twice i)) := by
  obtain ⟨a, cap, ml, hN, e⟩ := h
  have hlen : s.l.length = ml.length := by rw [← e]; simp
  unfold PN.twice
  by_cases hi : s.inside i
  · rw [if_pos hi]
    obtain ⟨n, m, hin, hm, hat, he⟩ := rinside_get e hi
    rw [hat]
    by_cases hf : (s.l.length : Int) < s.room
    · rw [if_pos hf]
      have := (r_twice_ok hN n m hm (by omega)).mono fun _ _ h => h.cd
      rw [List.map_append, e, ← hin] at this; exact this
    · rw [if_neg hf]
      have := (r_twice_full hN n m hm (by have := hN.fits; omega)).mono fun _ _ h => h.cd
      rw [e, ← hin] at this; exact this
  · rw [if_neg hi]
    have := (r_twice_none hN i (by unfold PN.inside at hi; omega)).mono fun _ _ h => h.cd
    rw [e] at this; exact this

theorem rs_to (h : RS w p s T) (n : Int) : Calls Try.prog 27 #[.pointer (some ⟨p, 0, none⟩), .int .u8 n] w (FreshI w (placesTo (s.l.map fun x => x.2.1) n s.l.length)) := by
  obtain ⟨a, cap, ml, hN, e⟩ := h
  have hlen : s.l.length = ml.length := by rw [← e]; simp
  have hm : (s.l.map fun x => x.2.1) = ml.map RW.t := by rw [← e]; simp [RW.w]
  rw [hlen, hm]
  exact r_to hN n

/-- Behind a call: the answer is stored into the result's cell. -/
theorem would_end {w wb w1 : World} {r : Nat} {T1 : Nat → Prop} {s1 : PN} {m : RW} {code : Int} {v0 v1 v2 : Value}
    (h : RS w p s T) (hwb : Kept No w wb) (hr0 : w.heap.size ≤ r) (hr1 : r < wb.heap.size) (hg : Kept T wb w1) (hT : ∀ k, T1 k → T k ∨ wb.heap.size ≤ k) (hS1 : RS w1 p s1 T1)
    (hr : Rd w1 m.a (bcells m.b)) (ht : ∀ k, At m.a k → T k) :
    RGot w p T m.w code s1 (.returned (.tuple #[.agg #[.int .u8 m.f, .int .u8 m.t, .slice m.a m.b.length m.c], .int .i64 code])) (((w1.setCell ⟨r, 0, none⟩ v0).setCell ⟨r, 1, none⟩ v1).setCell ⟨r, 2, none⟩ v2) := by
  have hlt := h.lt
  have kk : Kept (· = r) w1 (((w1.setCell ⟨r, 0, none⟩ v0).setCell ⟨r, 1, none⟩ v1).setCell ⟨r, 2, none⟩ v2) :=
    ((Kept.setCell (S := (· = r)) (Kept.refl _ _) (a := ⟨r, 0, none⟩) (fun _ => rfl) v0).setCell (a := ⟨r, 1, none⟩) (fun _ => rfl) v1).setCell (a := ⟨r, 2, none⟩) (fun _ => rfl) v2
  have hs := hwb.size
  refine ⟨m, T1, rfl, rfl, hr.kept kk (fun b hb (e : b = r) => by have := hlt b (ht b hb); omega), ht, hS1.kept kk (fun b hb (e : b = r) => ?_), ?_, fun k hk => (hT k hk).imp id (by omega)⟩
  · rcases hT b hb with h' | h'
    · have := hlt b h'; omega
    · omega
  · exact (hwb.no.trans hg (fun b _ e => e)).trans kk (fun b hb (e : b = r) => by omega)

set_option maxRecDepth 100000 in
set_option maxHeartbeats 400000 in
theorem would_take (h : RS w p s T) (a : PAct) (ad : Option Addr) (c : Nat) (_hr : Rd w ad (bcells a.b)) (_hc : ad = none → c = 0) (_hl : s.lost < 2147483647) (hk0 : 0 ≤ a.kind) (hk : a.kind % 6 = 1) :
    Calls Try.prog 22 #[.pointer (some ⟨p, 0, none⟩), .agg #[.int .u8 a.kind, .int .u8 a.f, .int .u8 a.t, .int .i64 a.i, .slice ad a.b.length c]] w (RGot w p T (s.does a).1 (s.does a).2.1 (s.does a).2.2) := by
  have hlt := h.lt
  have hwb := ((Kept.refl No w).alloc (.cells #[.int .u8 a.kind, .int .u8 a.f, .int .u8 a.t, .int .i64 a.i, .slice ad a.b.length c] 34)).alloc (.cells #[.int .u8 0, .int .u8 0, .slice none 0 0] 39)
  have hd : s.does a = s.take a.i := by unfold PN.does; simp [hk]
  rw [hd]
  go_enter Try.func22, Try.ntmps22
  go_wp2_with (go_at_call 61; go_must (refine (rs_take (h.keptNo hwb) a.i).mono ?_))
  rintro e w1 ⟨m, T1, hm, rfl, hrd, ht, hS1, hg, hT⟩
  have HMW := Lib.hid hm
  clear hm
  have hn4 : ¬ T (w.heap.size + 1) := fun h' => by have := hlt _ h'; omega
  have b4 := (Blk.new' (w := (w.alloc (.cells #[.int .u8 a.kind, .int .u8 a.f, .int .u8 a.t, .int .i64 a.i, .slice ad a.b.length c] 34))) (g := w.heap.size + 1) (by simp) 39 [.int .u8 0, .int .u8 0, .slice none 0 0]).kept hg hn4
  have y0 := b4.cell 0
  have y1 := b4.cell 1
  have y2 := b4.cell 2
  have z0 := b4.frozen 0
  have z1 := b4.frozen 1
  have z2 := b4.frozen 2
  have zl := b4.lt
  go_wp2
  refine bodyPost_ret (v := .tuple #[.agg #[.int .u8 m.f, .int .u8 m.t, .slice m.a m.b.length m.c], .int .i64 (s.take a.i).2.1]) (by simp [results, Try.results22, go_sem, y0, y1, y2]) rfl ?_
  rw [← HMW.out]
  exact would_end h hwb (by omega) (by simp) hg hT hS1 hrd ht

set_option maxRecDepth 100000 in
set_option maxHeartbeats 400000 in
theorem would_at (h : RS w p s T) (a : PAct) (ad : Option Addr) (c : Nat) (_hr : Rd w ad (bcells a.b)) (_hc : ad = none → c = 0) (_hl : s.lost < 2147483647) (hk0 : 0 ≤ a.kind) (hk : a.kind % 6 = 2) :
    Calls Try.prog 22 #[.pointer (some ⟨p, 0, none⟩), .agg #[.int .u8 a.kind, .int .u8 a.f, .int .u8 a.t, .int .i64 a.i, .slice ad a.b.length c]] w (RGot w p T (s.does a).1 (s.does a).2.1 (s.does a).2.2) := by
  have hlt := h.lt
  have hwb := ((Kept.refl No w).alloc (.cells #[.int .u8 a.kind, .int .u8 a.f, .int .u8 a.t, .int .i64 a.i, .slice ad a.b.length c] 34)).alloc (.cells #[.int .u8 0, .int .u8 0, .slice none 0 0] 39)
  have hd : s.does a = ((s.at a.i).1, (s.at a.i).2, s) := by unfold PN.does; simp [hk]
  rw [hd]
  go_enter Try.func22, Try.ntmps22
  go_wp2_with (go_at_call 62; go_must (refine (rs_at (h.keptNo hwb) a.i).mono ?_))
  rintro e w1 ⟨m, T1, hm, rfl, hrd, ht, hS1, hg, hT⟩
  have HMW := Lib.hid hm
  clear hm
  have hn4 : ¬ T (w.heap.size + 1) := fun h' => by have := hlt _ h'; omega
  have b4 := (Blk.new' (w := (w.alloc (.cells #[.int .u8 a.kind, .int .u8 a.f, .int .u8 a.t, .int .i64 a.i, .slice ad a.b.length c] 34))) (g := w.heap.size + 1) (by simp) 39 [.int .u8 0, .int .u8 0, .slice none 0 0]).kept hg hn4
  have y0 := b4.cell 0
  have y1 := b4.cell 1
  have y2 := b4.cell 2
  have z0 := b4.frozen 0
  have z1 := b4.frozen 1
  have z2 := b4.frozen 2
  have zl := b4.lt
  go_wp2
  refine bodyPost_ret (v := .tuple #[.agg #[.int .u8 m.f, .int .u8 m.t, .slice m.a m.b.length m.c], .int .i64 (s.at a.i).2]) (by simp [results, Try.results22, go_sem, y0, y1, y2]) rfl ?_
  rw [← HMW.out]
  exact would_end h hwb (by omega) (by simp) hg hT hS1 hrd ht

set_option maxRecDepth 100000 in
set_option maxHeartbeats 400000 in
theorem would_drop (h : RS w p s T) (a : PAct) (ad : Option Addr) (c : Nat) (_hr : Rd w ad (bcells a.b)) (_hc : ad = none → c = 0) (hl : s.lost < 2147483647) (hk0 : 0 ≤ a.kind) (hk : a.kind % 6 = 3) :
    Calls Try.prog 22 #[.pointer (some ⟨p, 0, none⟩), .agg #[.int .u8 a.kind, .int .u8 a.f, .int .u8 a.t, .int .i64 a.i, .slice ad a.b.length c]] w (RGot w p T (s.does a).1 (s.does a).2.1 (s.does a).2.2) := by
  have hlt := h.lt
  have hwb := ((Kept.refl No w).alloc (.cells #[.int .u8 a.kind, .int .u8 a.f, .int .u8 a.t, .int .i64 a.i, .slice ad a.b.length c] 34)).alloc (.cells #[.int .u8 0, .int .u8 0, .slice none 0 0] 39)
  have hd : s.does a = ((0, 0, []), s.drop a.i) := by unfold PN.does; simp [hk]
  rw [hd]
  go_enter Try.func22, Try.ntmps22
  go_wp2_with (go_at_call 63; go_must (refine (rs_drop (h.keptNo hwb) a.i hl).mono ?_))
  rintro e w1 ⟨T1, rfl, hS1, hg, hT⟩
  have hn4 : ¬ T (w.heap.size + 1) := fun h' => by have := hlt _ h'; omega
  have b4 := (Blk.new' (w := (w.alloc (.cells #[.int .u8 a.kind, .int .u8 a.f, .int .u8 a.t, .int .i64 a.i, .slice ad a.b.length c] 34))) (g := w.heap.size + 1) (by simp) 39 [.int .u8 0, .int .u8 0, .slice none 0 0]).kept hg hn4
  have y0 := b4.cell 0
  have y1 := b4.cell 1
  have y2 := b4.cell 2
  have z0 := b4.frozen 0
  have z1 := b4.frozen 1
  have z2 := b4.frozen 2
  have zl := b4.lt
  go_wp2
  refine bodyPost_ret (v := .tuple #[.agg #[.int .u8 0, .int .u8 0, .slice none 0 0], .int .i64 (s.drop a.i).1]) (by simp [results, Try.results22, go_sem, y0, y1, y2]) rfl ?_
  exact would_end (m := RW.zero) h hwb (by omega) (by simp) hg hT hS1 (Rd.nil _ _) (fun k h => at_none_no h)

set_option maxRecDepth 100000 in
set_option maxHeartbeats 400000 in
theorem would_twice (h : RS w p s T) (a : PAct) (ad : Option Addr) (c : Nat) (_hr : Rd w ad (bcells a.b)) (_hc : ad = none → c = 0) (_hl : s.lost < 2147483647) (hk0 : 0 ≤ a.kind) (hk : a.kind % 6 = 4) :
    Calls Try.prog 22 #[.pointer (some ⟨p, 0, none⟩), .agg #[.int .u8 a.kind, .int .u8 a.f, .int .u8 a.t, .int .i64 a.i, .slice ad a.b.length c]] w (RGot w p T (s.does a).1 (s.does a).2.1 (s.does a).2.2) := by
  have hlt := h.lt
  have hwb := ((Kept.refl No w).alloc (.cells #[.int .u8 a.kind, .int .u8 a.f, .int .u8 a.t, .int .i64 a.i, .slice ad a.b.length c] 34)).alloc (.cells #[.int .u8 0, .int .u8 0, .slice none 0 0] 39)
  have hd : s.does a = ((0, 0, []), s.twice a.i) := by unfold PN.does; simp [hk]
  rw [hd]
  go_enter Try.func22, Try.ntmps22
  go_wp2_with (go_at_call 64; go_must (refine (rs_twice (h.keptNo hwb) a.i).mono ?_))
  rintro e w1 ⟨T1, rfl, hS1, hg, hT⟩
  have hn4 : ¬ T (w.heap.size + 1) := fun h' => by have := hlt _ h'; omega
  have b4 := (Blk.new' (w := (w.alloc (.cells #[.int .u8 a.kind, .int .u8 a.f, .int .u8 a.t, .int .i64 a.i, .slice ad a.b.length c] 34))) (g := w.heap.size + 1) (by simp) 39 [.int .u8 0, .int .u8 0, .slice none 0 0]).kept hg hn4
  have y0 := b4.cell 0
  have y1 := b4.cell 1
  have y2 := b4.cell 2
  have z0 := b4.frozen 0
  have z1 := b4.frozen 1
  have z2 := b4.frozen 2
  have zl := b4.lt
  go_wp2
  refine bodyPost_ret (v := .tuple #[.agg #[.int .u8 0, .int .u8 0, .slice none 0 0], .int .i64 (s.twice a.i).1]) (by simp [results, Try.results22, go_sem, y0, y1, y2]) rfl ?_
  exact would_end (m := RW.zero) h hwb (by omega) (by simp) hg hT hS1 (Rd.nil _ _) (fun k h => at_none_no h)

set_option maxRecDepth 100000 in
set_option maxHeartbeats 400000 in
theorem would_late (h : RS w p s T) (a : PAct) (ad : Option Addr) (c : Nat) (_hr : Rd w ad (bcells a.b)) (_hc : ad = none → c = 0) (_hl : s.lost < 2147483647) (hk0 : 0 ≤ a.kind) (hk : a.kind % 6 = 5) :
    Calls Try.prog 22 #[.pointer (some ⟨p, 0, none⟩), .agg #[.int .u8 a.kind, .int .u8 a.f, .int .u8 a.t, .int .i64 a.i, .slice ad a.b.length c]] w (RGot w p T (s.does a).1 (s.does a).2.1 (s.does a).2.2) := by
  have hlt := h.lt
  have hwb := ((Kept.refl No w).alloc (.cells #[.int .u8 a.kind, .int .u8 a.f, .int .u8 a.t, .int .i64 a.i, .slice ad a.b.length c] 34)).alloc (.cells #[.int .u8 0, .int .u8 0, .slice none 0 0] 39)
  have hd : s.does a = ((0, 0, []), s.late a.i) := by unfold PN.does; simp [hk]
  rw [hd]
  go_enter Try.func22, Try.ntmps22
  go_wp2_with (go_at_call 65; go_must (refine (rs_late (h.keptNo hwb) a.i).mono ?_))
  rintro e w1 ⟨T1, rfl, hS1, hg, hT⟩
  have hn4 : ¬ T (w.heap.size + 1) := fun h' => by have := hlt _ h'; omega
  have b4 := (Blk.new' (w := (w.alloc (.cells #[.int .u8 a.kind, .int .u8 a.f, .int .u8 a.t, .int .i64 a.i, .slice ad a.b.length c] 34))) (g := w.heap.size + 1) (by simp) 39 [.int .u8 0, .int .u8 0, .slice none 0 0]).kept hg hn4
  have y0 := b4.cell 0
  have y1 := b4.cell 1
  have y2 := b4.cell 2
  have z0 := b4.frozen 0
  have z1 := b4.frozen 1
  have z2 := b4.frozen 2
  have zl := b4.lt
  go_wp2
  refine bodyPost_ret (v := .tuple #[.agg #[.int .u8 0, .int .u8 0, .slice none 0 0], .int .i64 (s.late a.i).1]) (by simp [results, Try.results22, go_sem, y0, y1, y2]) rfl ?_
  exact would_end (m := RW.zero) h hwb (by omega) (by simp) hg hT hS1 (Rd.nil _ _) (fun k h => at_none_no h)

end
end Go.Proofs.Ytdolddgmemlofaa
