/- Package code's writer, as walks. Package bits' short numbers, as walks; and how a writer writes them. Package code's texts and the bytes of a writer; bits' Long, as walks. Package code's writer: Text and Bytes, as walks. Package code's writer: Text, as a walk. -/
import Derived.Test.YtjfmidcaekhhgaaGreatDoorRows
import Derived.Test.YtjfmidcaekhhgaaGreatDoorBase
import Derived.Test.YtjfmidcaekhhgaaGreatDoorCdP
import Derived.OwnWalk
import Derived.Lib.ConvBytes
namespace Go.Proofs.YtjfmidcaekhhgaaGreatDoor
open Go.RowKit Go.PM

theorem Tryz.cinf_byte : (Tryz.prog.info? 5).map (fun i => (i.zero, i.size, i.bytes)) = some (some (.int .u8 0), 1, 1) := by kernel_rfl
theorem Tryz.cu_bytes : Tryz.prog.underlying 38 = some (.slice 5) := by kernel_rfl
theorem Tryz.cu_byte : Tryz.prog.underlying 5 = some (.int .u8) := by kernel_rfl

/-- What a clone answers: nil, or a slice of an array of its own. -/
def ClonePost (w : World) (xs : List UInt8) (e : Ending) (w' : World) : Prop :=
  ∃ a cap, e = .returned (.slice a xs.length cap) ∧ Owns w' 5 1 a xs.length cap (bcells xs) ∧ Kept No w w' ∧ ∀ b, At a b → w.heap.size ≤ b

set_option maxRecDepth 100000 in
set_option maxHeartbeats 400000 in
theorem clone_calls (a : Option Addr) (c : Nat) (xs : List UInt8) (w : World) (hr : Rd w a (bcells xs)) (hn : xs.length ≤ 1099511627776) (hc : a = none → c = 0) :
    Calls Tryz.prog 84 #[.slice a xs.length c] w (ClonePost w xs) := by
  obtain ⟨i0, hi0, hz0, hz1, hz2⟩ := info_parts Tryz.cinf_byte
  have hone := bcells_one xs
  have q := fun (w : World) (a : Option Addr) (n c : Nat) => Lib.run_eql_slice_nil (P := Tryz.prog) w 38 5 a n c 0 0 Tryz.cu_bytes
  cases a with
  | none =>
    have hx : xs = [] := by
      cases xs with
      | nil => rfl
      | cons b l => obtain ⟨_, _, h, _⟩ := hr.addr (by simp); cases h
    subst hx
    go_enter Tryz.func84, Tryz.ntmps84
    go_wp2
    go_ret
    exact ⟨none, 0, rfl, Owns.nil _ _ _, Kept.refl _ _, fun b ⟨_, _, h, _⟩ => nomatch h⟩
  | some ad =>
    have ho : Owns (w.alloc (.cells #[] 5)) 5 1 (some ⟨w.heap.size, 0, none⟩) 0 0 [] := (Own.full (Blk.new w 5 []) (by simp) (by simp [maxLen])).owns
    have hr' := hr.keptNo ((Kept.refl No w).alloc (.cells #[] 5))
    have hmx : 0 + xs.length ≤ maxLen := by unfold maxLen; omega
    go_enter Tryz.func84, Tryz.ntmps84
    go_wp2_with (at_builtin; go_must (refine wpList_onto rfl (.tmp 5) (.tmp 6) 38 rfl 5 i0 _ 1 1 Tryz.cu_bytes hi0 hz0 hz1 hz2 rfl (by decide) _ 0 0 [] rfl ho (some ad) xs.length c (bcells xs) rfl (fun h => nomatch h) (by simp) hr' hone hmx (by omega) ?_; intro a2 cap2 w2 hap))
    rw [Nat.zero_add, List.nil_append] at hap
    go_ret
    refine ⟨a2, cap2, rfl, hap.own, ((Kept.refl No w).alloc _).trans hap.kept (fun b hb hat => ?_), fun b hb => ?_⟩
    · obtain ⟨_, _, h, rfl⟩ := hat
      cases h
      exact absurd hb (Nat.lt_irrefl _)
    · rcases hap.at_ b hb with ⟨_, _, h, rfl⟩ | h
      · cases h; exact Nat.le_refl _
      · rw [World.size_alloc] at h; omega

/-- A writer: its cell, and its bytes. -/
structure Wr (w : World) (T : TypeId) (g : Nat) (l : List UInt8) (a : Option Addr) (cap : Nat) : Prop where
  box : Blk w g T [.slice a l.length cap]
  own : Owns w 5 1 a l.length cap (bcells l)
  off : ∀ k, At a k → k ≠ g
/-- The blocks of a writer. -/
def WrS (w : World) (T : TypeId) (g : Nat) (k : Nat) : Prop := k = g ∨ ∃ a n cap, Blk w g T [.slice a n cap] ∧ At a k
/-- What a writing makes of a writer. -/
structure WrTo (w w' : World) (T : TypeId) (g : Nat) (l : List UInt8) : Prop where
  wr : ∃ a cap, Wr w' T g l a cap
  kept : Kept (WrS w T g) w w'
  foot : ∀ k, WrS w' T g k → WrS w T g k ∨ w.heap.size ≤ k
section
variable {w w' w'' : World} {T : TypeId} {g : Nat} {l l' : List UInt8} {a : Option Addr} {cap : Nat}
theorem Wr.foot (h : Wr w T g l a cap) (k : Nat) : WrS w T g k ↔ k = g ∨ At a k := by
  constructor
  · rintro (h1 | ⟨a', n', c', hb, ha⟩)
    · exact .inl h1
    · have hb' := h.box
      unfold Blk at hb hb'
      rw [hb] at hb'
      simp only [Option.some.injEq, Obj.cells.injEq] at hb'
      have := congrArg Array.toList hb'.1
      simp at this
      rw [this.1] at ha
      exact .inr ha
  · rintro (h1 | h1)
    · exact .inl h1
    · exact .inr ⟨a, _, cap, h.box, h1⟩
theorem Wr.keptOff {S : Nat → Prop} (h : Wr w T g l a cap) (k : Kept S w w') (hS : ∀ k, WrS w T g k → ¬ S k) : Wr w' T g l a cap :=
  ⟨h.box.kept k (hS g (.inl rfl)), h.own.kept k fun b hb => hS b ((h.foot b).2 (.inr hb)), h.off⟩
theorem Wr.lt (h : Wr w T g l a cap) {k : Nat} (hk : WrS w T g k) : k < w.heap.size := by
  rcases (h.foot k).1 hk with rfl | h1
  · exact h.box.lt
  · exact h.own.lt k h1
theorem Wr.stays {S : Nat → Prop} (h : Wr w T g l a cap) (k : Kept S w w') (hS : ∀ k, WrS w T g k → ¬ S k) (hk : Kept No w w') : WrTo w w' T g l :=
  ⟨⟨a, cap, h.keptOff k hS⟩, hk.no, fun b hb => .inl ((h.foot b).2 (((h.keptOff k hS).foot b).1 hb))⟩
theorem Wr.no (h : Wr w T g l a cap) (k : Kept No w w') : WrTo w w' T g l := h.stays k (fun _ _ h => h) k
theorem WrTo.trans (h : WrTo w w' T g l) (k : WrTo w' w'' T g l') : WrTo w w'' T g l' :=
  ⟨k.wr, h.kept.trans k.kept fun b hb hs => (h.foot b hs).elim id fun h1 => absurd hb (by omega), fun b hb => (k.foot b hb).elim (h.foot b) fun h1 => .inr (Nat.le_trans h.kept.size h1)⟩

set_option maxRecDepth 100000 in
set_option maxHeartbeats 400000 in
theorem put_calls {T : TypeId} (hT : T = 73) (h : Wr w T g l a cap) (a2 : Option Addr) (m c : Nat) (x : List UInt8) (hx : x.length = m) (hr : Rd w a2 (bcells x)) (hc : a2 = none → c = 0) (hl : l.length + m ≤ 1099511627776) :
    Calls Tryz.prog 77 #[.pointer (some ⟨g, 0, none⟩), .slice a2 m c] w fun e w' => e = .returned (.tuple #[]) ∧ WrTo w w' T g (l ++ x) := by
  subst hT
  obtain ⟨i0, hi0, hz0, hz1, hz2⟩ := info_parts Tryz.cinf_byte
  have c0 : w.cell? ⟨g, 0, none⟩ = some (.slice a l.length cap) := h.box.cell 0
  have hone := bcells_one x
  have hmx : l.length + m ≤ maxLen := by unfold maxLen; omega
  have hby : (l.length + m) * 1 ≤ 140737488355328 := by omega
  have hlx : (bcells x).length = m * 1 := by rw [bcells_length, hx, Nat.mul_one]
  have H := Lib.hid h
  have HX := Lib.hid hx
  clear h hx
  go_enter Tryz.func77, Tryz.ntmps77
  go_wp2_with (at_builtin; go_must (refine wpList_onto rfl (.tmp 10) (.tmp 11) 38 rfl 5 i0 _ 1 1 Tryz.cu_bytes hi0 hz0 hz1 hz2 rfl (by decide) a l.length cap (bcells l) rfl H.out.own a2 m c (bcells x) rfl hc hlx hr hone hmx hby ?_; intro a3 cap3 w3 hap; have b3 := H.out.box.kept hap.kept (fun h' => H.out.off g h' rfl); have f3 := b3.frozen 0; have d3 := b3.cell 0))
  go_end0
  have hap := hap
  have h3 := H.out
  have e3 : (l ++ x).length = l.length + m := by rw [List.length_append, HX.out]
  have ec : bcells (l ++ x) = bcells l ++ bcells x := by simp [bcells]
  have hat : ∀ k, At a3 k → k ≠ g := fun k hk e => by
    rcases hap.at_ k hk with h1 | h1
    · exact h3.off k h1 e
    · have := h3.box.lt; omega
  have hw : Wr (w3.setCell ⟨g, 0, none⟩ (.slice a3 (l.length + m) cap3)) 73 g (l ++ x) a3 cap3 := by
    refine ⟨?_, ?_, hat⟩
    · rw [e3]; exact b3.set 0 _
    · rw [e3, ec]; exact hap.own.kept ((Kept.refl (· = g) w3).setCell (fun _ => rfl) _) hat
  refine ⟨rfl, ⟨a3, cap3, hw⟩, (hap.kept.mono fun b _ hb => (h3.foot b).2 (.inr hb)).setCell (fun _ => .inl rfl) _, fun k hk => ?_⟩
  rcases (hw.foot k).1 hk with h1 | h1
  · exact .inl (.inl h1)
  · rcases hap.at_ k h1 with h2 | h2
    · exact .inl ((h3.foot k).2 (.inr h2))
    · exact .inr h2

set_option maxHeartbeats 400000 in
theorem wbyte_calls (h : Wr w 73 g l a cap) (n : Nat) (hn : n < 256) (hl : l.length + 1 ≤ 1099511627776) :
    Calls Tryz.prog 33 #[.pointer (some ⟨g, 0, none⟩), .int .u8 n] w fun e w' => e = .returned (.tuple #[]) ∧ WrTo w w' 73 g (l ++ [UInt8.ofNat n]) := by
  have hk := (Kept.refl No w).alloc (.cells #[.int .u8 (n : Int)] 5)
  have h1 := h.no hk
  have h2 := h.keptOff hk fun _ _ h => h
  have hr : Rd (w.alloc (.cells #[.int .u8 (n : Int)] 5)) (some ⟨w.heap.size, 0, none⟩) (bcells [UInt8.ofNat n]) := by
    have e : bcells [UInt8.ofNat n] = [.int .u8 (n : Int)] := by
      simp only [bcells, List.map_cons, List.map_nil]
      rw [UInt8.toNat_ofNat', Nat.mod_eq_of_lt (by simpa using hn)]
    rw [e]
    exact Rd.ofBlk' (Blk.new w 5 [.int .u8 (n : Int)])
  have HT := Lib.hid (put_calls rfl h2 (some ⟨w.heap.size, 0, none⟩) 1 1 [UInt8.ofNat n] rfl hr (fun h => nomatch h) hl)
  clear hr h2
  go_enter Tryz.func33, Tryz.ntmps33
  go_wp2_with (go_at_call 77; refine HT.out.mono ?_; rintro _ w2 ⟨rfl, k2⟩)
  go_end0
  exact ⟨rfl, h1.trans k2⟩

set_option maxHeartbeats 400000 in
theorem wkey_calls (h : Wr w 73 g l a cap) (k : List UInt8) (hn : k.length = 8) (hl : l.length + 8 ≤ 1099511627776) :
    Calls Tryz.prog 81 #[.pointer (some ⟨g, 0, none⟩), .agg (bcells k).toArray] w fun e w' => e = .returned (.tuple #[]) ∧ WrTo w w' 73 g (l ++ k) := by
  have hk := (Kept.refl No w).alloc (.cells (bcells k).toArray 28)
  have h1 := h.no hk
  have h2 := h.keptOff hk fun _ _ h => h
  have hr : Rd (w.alloc (.cells (bcells k).toArray 28)) (some ⟨w.heap.size, 0, none⟩) (bcells k) := Rd.ofBlk' (Blk.new w 28 (bcells k))
  have HT := Lib.hid (put_calls rfl h2 (some ⟨w.heap.size, 0, none⟩) 8 8 k hn hr (fun h => nomatch h) hl)
  clear hr h2
  go_enter Tryz.func81, Tryz.ntmps81
  go_wp2_with (go_at_call 77; refine HT.out.mono ?_; rintro _ w2 ⟨rfl, k2⟩)
  go_end0
  exact ⟨rfl, h1.trans k2⟩
end
end Go.Proofs.YtjfmidcaekhhgaaGreatDoor

namespace Go.Proofs.YtjfmidcaekhhgaaGreatDoor
open Go.RowKit Go.PM

theorem or128 : ∀ x : Fin 256, bits BinOp.or IntKind.u8 ((x.1 : Nat) : Int) 128 = ((x.1 % 128 + 128 : Nat) : Int) := by decide +kernel

/-- What Short answers: the bytes, of an array of its own. -/
def FreshPost (w : World) (xs : List UInt8) (e : Ending) (w' : World) : Prop :=
  ∃ a cap, e = .returned (.slice a xs.length cap) ∧ Owns w' 5 1 a xs.length cap (bcells xs) ∧ Kept No w w' ∧ ∀ b, At a b → w.heap.size ≤ b
def ShRel (w : World) (n : Nat) (t o : Value) (wr : World) : Prop :=
  ∃ (m : Nat) (l : List UInt8) (a : Option Addr) (cap : Nat), t = .int .u64 m ∧ o = .slice a l.length cap ∧ short n = l ++ short m ∧ m ≤ n ∧ l.length + (short m).length ≤ 10 ∧ Owns wr 5 1 a l.length cap (bcells l) ∧ Kept No w wr ∧ ∀ b, At a b → w.heap.size ≤ b

section
variable {w : World}
theorem onto_fresh {w w1 w2 : World} {T : TypeId} {a a2 : Option Addr} {n cap2 : Nat} {ys : List Value} (k : Kept No w w1) (ha : ∀ b, At a b → w.heap.size ≤ b) (h : Onto w1 w2 T 1 a a2 n cap2 ys) :
    Kept No w w2 ∧ ∀ b, At a2 b → w.heap.size ≤ b :=
  ⟨k.trans h.kept fun b hb hat => absurd (ha b hat) (by omega), fun b hb => (h.at_ b hb).elim (ha b) fun h1 => Nat.le_trans k.size h1⟩

set_option maxRecDepth 100000 in
set_option maxHeartbeats 1000000 in
theorem short_calls (n : Nat) (hn : n < 18446744073709551616) :
    Calls Tryz.prog 114 #[.slice none 0 0, .int .u64 n] w (FreshPost w (short n)) := by
  obtain ⟨i0, hi0, hz0, hz1, hz2⟩ := info_parts Tryz.cinf_byte
  have hs10 : (short n).length ≤ 10 := short_le (k := 9) (by omega)
  have HC := Lib.hid (clone_calls none 0 [] w (Rd.nil _ _) (by simp) fun _ => rfl)
  go_enter Tryz.func114, Tryz.ntmps114
  go_wp2_with (go_at_call 84; refine HC.out.mono ?_; rintro _ w1 ⟨a1, cap1, rfl, o1, k1, t1⟩)
  go_loopw [1, 5] (fun t o wr => ShRel w n t o wr) (fun t _ _ => (intOf t).toNat)
  case atStart => exact ⟨n, [], a1, cap1, rfl, rfl, rfl, Nat.le_refl _, by simpa using hs10, o1, k1, t1⟩
  case round =>
    obtain ⟨m, l, a, cap, rfl, rfl, e1, e2, e3, ho, hk, ht⟩ := hrel
    have hmx : l.length + 1 ≤ maxLen := by unfold maxLen; omega
    have hby : (l.length + 1) * 1 ≤ 140737488355328 := by omega
    by_cases hlt : 128 ≤ m
    · have h1 : (128 : Int) ≤ m := by omega
      have q1 : bits BinOp.or IntKind.u8 ((m : Int) % 256) 128 = ((m % 128 + 128 : Nat) : Int) := by
        have h := or128 ⟨m % 256, Nat.mod_lt _ (by decide)⟩
        have e : ((m : Int) % 256) = ((m % 256 : Nat) : Int) := by omega
        rw [e]
        refine h.trans ?_
        show ((m % 256 % 128 + 128 : Nat) : Int) = _
        omega
      have hbig := short_big hlt
      have hlen : (short m).length = (short (m / 128)).length + 1 := by rw [hbig, List.length_cons]
      have hcell : [Value.int .u8 ((m % 128 + 128 : Nat) : Int)] = bcells [UInt8.ofNat (m % 128 + 128)] := by
        simp only [bcells, List.map_cons, List.map_nil]
        rw [UInt8.toNat_ofNat', Nat.mod_eq_of_lt (show m % 128 + 128 < 2 ^ 8 by omega)]
      have hr1 : Rd (wr.alloc (.cells #[.int .u8 ((m % 128 + 128 : Nat) : Int)] 5)) (some ⟨wr.heap.size, 0, none⟩) (bcells [UInt8.ofNat (m % 128 + 128)]) := by
        rw [← hcell]; exact Rd.ofBlk' (Blk.new wr 5 [.int .u8 ((m % 128 + 128 : Nat) : Int)])
      have hk1 := (Kept.refl No wr).alloc (.cells #[.int .u8 ((m % 128 + 128 : Nat) : Int)] 5)
      have ho1 := ho.keptNo hk1
      have hone := bcells_one [UInt8.ofNat (m % 128 + 128)]
      clear hcell
      go_wp2_with (at_builtin; go_must (refine wpList_onto rfl (.tmp 12) (.tmp 16) 38 rfl 5 i0 _ 1 1 Tryz.cu_bytes hi0 hz0 hz1 hz2 rfl (by decide) a l.length cap (bcells l) rfl ho1 (some ⟨wr.heap.size, 0, none⟩) 1 1 (bcells [UInt8.ofNat (m % 128 + 128)]) rfl (fun h => nomatch h) rfl hr1 hone hmx hby ?_; intro a3 cap3 w3 hap))
      have hap := hap
      obtain ⟨k3, t3⟩ := onto_fresh (hk.trans hk1 fun _ _ h => h) ht hap
      refine ⟨⟨m / 128, l ++ [UInt8.ofNat (m % 128 + 128)], a3, cap3, by go_num, ?_, ?_, by omega, ?_, ?_, k3, t3⟩, ?_⟩
      · simp
      · rw [e1, hbig, List.append_assoc]; rfl
      · rw [List.length_append, List.length_singleton]; omega
      · have := hap.own
        rw [List.length_append, List.length_singleton]
        simpa [bcells] using this
      · simp [intOf]; omega
    · have h1 : (m : Int) < 128 := by omega
      have hsm := short_small (show m < 128 by omega)
      have hcell : [Value.int .u8 (m : Int)] = bcells [UInt8.ofNat m] := by
        simp only [bcells, List.map_cons, List.map_nil]
        rw [UInt8.toNat_ofNat', Nat.mod_eq_of_lt (show m < 2 ^ 8 by omega)]
      have hr1 : Rd (wr.alloc (.cells #[.int .u8 (m : Int)] 5)) (some ⟨wr.heap.size, 0, none⟩) (bcells [UInt8.ofNat m]) := by
        rw [← hcell]; exact Rd.ofBlk' (Blk.new wr 5 [.int .u8 (m : Int)])
      have hk1 := (Kept.refl No wr).alloc (.cells #[.int .u8 (m : Int)] 5)
      have ho1 := ho.keptNo hk1
      have hone := bcells_one [UInt8.ofNat m]
      have HE := Lib.hid (show short n = l ++ [UInt8.ofNat m] by rw [e1, hsm])
      clear hcell e1 hsm e3
      go_wp2_with (at_builtin; go_must (refine wpList_onto rfl (.tmp 18) (.tmp 21) 38 rfl 5 i0 _ 1 1 Tryz.cu_bytes hi0 hz0 hz1 hz2 rfl (by decide) a l.length cap (bcells l) rfl ho1 (some ⟨wr.heap.size, 0, none⟩) 1 1 (bcells [UInt8.ofNat m]) rfl (fun h => nomatch h) rfl hr1 hone hmx hby ?_; intro a3 cap3 w3 hap))
      go_ret
      have hap := hap
      obtain ⟨k3, t3⟩ := onto_fresh (hk.trans hk1 fun _ _ h => h) ht hap
      refine ⟨a3, cap3, ?_, ?_, k3, t3⟩
      · rw [HE.out]; simp
      · have := hap.own
        rw [HE.out, List.length_append, List.length_singleton]
        simpa [bcells] using this

set_option maxHeartbeats 400000 in
theorem wnum_calls {g : Nat} {l : List UInt8} {a : Option Addr} {cap : Nat} (h : Wr w 73 g l a cap) (n : Nat) (hn : n < 18446744073709551616) (hl : l.length + 10 ≤ 1099511627776) :
    Calls Tryz.prog 79 #[.pointer (some ⟨g, 0, none⟩), .int .u64 n] w fun e w' => e = .returned (.tuple #[]) ∧ WrTo w w' 73 g (l ++ short n) := by
  have hs10 : (short n).length ≤ 10 := short_le (k := 9) (by omega)
  have HS := Lib.hid (short_calls (w := w) n hn)
  have HT := Lib.hid (fun (w1 : World) (a1 : Option Addr) (c1 : Nat) (k : Kept No w w1) (hr : Rd w1 a1 (bcells (short n))) (hc : a1 = none → c1 = 0) => put_calls rfl (h.keptOff k fun _ _ h => h) a1 (short n).length c1 (short n) rfl hr hc (by omega))
  have HN := Lib.hid (fun (w1 : World) (k : Kept No w w1) => h.no k)
  clear h
  go_enter Tryz.func79, Tryz.ntmps79
  go_wp2_with (first
    | (go_at_call 114; refine HS.out.mono ?_; rintro _ w1 ⟨a1, c1, rfl, o1, k1, _⟩; have hc1 : a1 = none → c1 = 0 := (fun e => by rcases o1.row with ⟨_, _, h3⟩ | ⟨_, _, h3, _⟩; exact h3; rw [e] at h3; cases h3))
    | (go_at_call 77; refine (HT.out w1 a1 c1 k1 o1.rd hc1).mono ?_; rintro _ w2 ⟨rfl, k2⟩))
  go_end0
  exact ⟨rfl, (HN.out w1 k1).trans k2⟩
end
end Go.Proofs.YtjfmidcaekhhgaaGreatDoor

namespace Go.Proofs.YtjfmidcaekhhgaaGreatDoor
open Go.RowKit Go.PM

theorem andNot128 : ∀ x : Fin 256, bits BinOp.andNot IntKind.u8 ((x.1 : Nat) : Int) 128 = ((x.1 % 128 : Nat) : Int) := by decide +kernel
theorem or_add (n x i : Nat) (hn : n < 2 ^ (7 * i)) (h : n + x * 2 ^ (7 * i) < 18446744073709551616) : bits BinOp.or IntKind.u64 (n : Int) ((x * 2 ^ (7 * i) : Nat) : Int) = ((n + x * 2 ^ (7 * i) : Nat) : Int) := by
  rw [bits_or_u64_nat _ _ (by omega) (by omega)]
  congr 1
  rw [Nat.or_comm, Nat.mul_comm x, ← Nat.two_pow_add_eq_or_of_lt hn, Nat.add_comm]

section
variable {w : World}
/-- What Long answers, of what is left. -/
def LgRel (w : World) (l : List UInt8) (n i : Value) (wr : World) : Prop :=
  ∃ (k m : Nat), k ≤ 9 ∧ k ≤ l.length ∧ n = .int .u64 m ∧ i = .int .i64 k ∧ m < 2 ^ (7 * k) ∧ long l = longAt k m (l.drop k) ∧ w = wr

set_option maxRecDepth 100000 in
set_option maxHeartbeats 1000000 in
theorem long_calls (a : Option Addr) (c n : Nat) (l : List UInt8) (hn : l.length = n) (hr : Rd w a (bcells l)) (hl : n ≤ 1099511627776) :
    Calls Tryz.prog 139 #[.slice a n c] w fun e w' => e = .returned (.tuple #[.int .u64 (long l).1, .int .i64 (long l).2.1, .int .i64 (long l).2.2]) ∧ w = w' := by
  subst hn
  obtain ⟨R, hR⟩ : ∃ R, long l = R := ⟨_, rfl⟩
  have HR := Lib.hid hR
  rw [hR]
  clear hR
  go_enter Tryz.func139, Tryz.ntmps139
  go_wp2
  go_loopw [5, 10] (fun n i wr => LgRel w l n i wr) (fun _ i _ => l.length - (intOf i).toNat)
  case atStart => exact ⟨0, 0, by omega, by omega, rfl, rfl, by decide, rfl, rfl⟩
  case round =>
    obtain ⟨k, m, hk9, hkl, rfl, rfl, hm, hlo, rfl⟩ := hrel
    have HLO := Lib.hid (show R = longAt k m (l.drop k) by rw [← HR.out, hlo])
    clear hlo
    by_cases hlt : k < l.length
    · have i0 : (0 : Int) ≤ k := by omega
      have i1 : (k : Int) < l.length := by omega
      obtain ⟨b, o, rfl, hb⟩ := hr k _ (bcells_get l k hlt)
      have hd : l.drop k = l[k] :: l.drop (k + 1) := List.drop_eq_getElem_cons hlt
      have c256 : l[k].toNat < 256 := UInt8.toNat_lt _
      have HL2 := Lib.hid (show R = longAt k m (l[k] :: l.drop (k + 1)) by rw [HLO.out, hd])
      clear hd
      generalize hx : l[k].toNat = x at *
      have q2 : bits BinOp.andNot IntKind.u8 (x : Int) 128 = ((x % 128 : Nat) : Int) := andNot128 ⟨x, c256⟩
      by_cases h1 : k = 9 ∧ 1 < x
      · obtain ⟨rfl, h1⟩ := h1
        have HV := Lib.hid (show R = (0, 0, 3) by rw [HL2.out, longAt, hx, if_pos ⟨rfl, h1⟩])
        go_wp2
        go_ret3
        exact ⟨by rw [HV.out]; rfl, rfl⟩
      · have hfit : m + x % 128 * 2 ^ (7 * k) < 2 ^ (7 * (k + 1)) := by
          have p : 2 ^ (7 * (k + 1)) = 128 * 2 ^ (7 * k) := by rw [show 7 * (k + 1) = 7 + 7 * k by omega, Nat.pow_add]
          have : x % 128 * 2 ^ (7 * k) ≤ 127 * 2 ^ (7 * k) := Nat.mul_le_mul_right _ (by omega)
          omega
        have h64 : m + x % 128 * 2 ^ (7 * k) < 18446744073709551616 := by
          rcases Nat.lt_or_ge k 9 with h9 | h9
          · have : 2 ^ (7 * (k + 1)) ≤ 2 ^ 63 := Nat.pow_le_pow_right (by omega) (by omega)
            omega
          · have : k = 9 := by omega
            subst this
            have : x % 128 * 2 ^ (7 * 9) ≤ 1 * 2 ^ (7 * 9) := Nat.mul_le_mul_right _ (by omega)
            omega
        have q3 := or_add m (x % 128) k hm h64
        have qe : ((x % 128 * 2 ^ (7 * k) : Nat) : Int) = (x : Int) % 128 * 2 ^ (7 * k) := by push_cast; rfl
        have q4 : IntKind.u64.wrap ((x : Int) % 128 * 2 ^ (7 * k)) = ((x % 128 * 2 ^ (7 * k) : Nat) : Int) := by
          rw [← qe, IntKind.wrap_u64]
          omega
        have qv : bits BinOp.or IntKind.u64 (m : Int) ((x : Int) % 128 * 2 ^ (7 * k)) = ((m + x % 128 * 2 ^ (7 * k) : Nat) : Int) := by rw [← qe, q3]
        have qc : ((m + x % 128 * 2 ^ (7 * k) : Nat) : Int) = (m : Int) + (x : Int) % 128 * 2 ^ (7 * k) := by rw [Int.natCast_add, qe]
        have hk : k ≤ 8 ∨ k = 9 ∧ x ≤ 1 := by omega
        by_cases h2 : 128 ≤ x
        · have HV := Lib.hid (show R = longAt (k + 1) (m + x % 128 * 2 ^ (7 * k)) (l.drop (k + 1)) by rw [HL2.out, longAt, hx, if_neg h1, if_pos h2])
          have k8 : k ≤ 8 := by omega
          have k8' : (k : Int) * 7 ≤ 57 := by omega
          go_wp2
          refine ⟨⟨k + 1, m + x % 128 * 2 ^ (7 * k), by omega, by omega, ?_, by go_num, hfit, by rw [HR.out]; exact HV.out, rfl⟩, by simp [intOf]; omega⟩
          rw [qc]
        · by_cases h3 : x = 0 ∧ 0 < k
          · have HV := Lib.hid (show R = (0, 0, 3) by rw [HL2.out, longAt, hx, if_neg h1, if_neg h2, if_pos h3])
            obtain ⟨rfl, h3⟩ := h3
            have h3' : (0 : Int) < k := by omega
            clear q2 q3 q4 qe qv qc hfit h64 HL2 HLO
            rcases hk with k8 | ⟨k9, _⟩
            · have k8' : (k : Int) * 7 ≤ 57 := by omega
              go_wp2
              go_ret3
              exact ⟨by rw [HV.out]; rfl, rfl⟩
            · have k9' : (57 : Int) < (k : Int) * 7 := by omega
              clear k9
              go_wp2
              go_ret3
              exact ⟨by rw [HV.out]; rfl, rfl⟩
          · have HV := Lib.hid (show R = (m + x % 128 * 2 ^ (7 * k), k + 1, 0) by rw [HL2.out, longAt, hx, if_neg h1, if_neg h2, if_neg h3])
            rcases hk with k8 | ⟨k9, hx1⟩
            · have k8' : (k : Int) * 7 ≤ 57 := by omega
              by_cases hx0 : x = 0
              · obtain rfl : k = 0 := by omega
                subst hx0
                obtain rfl : m = 0 := by simpa using hm
                clear q2 q3 q4 qe qv qc hfit h64 HL2 HLO
                rw [Nat.add_zero] at hb
                go_wp2
                go_ret3
                refine ⟨?_, rfl⟩
                rw [HV.out]
                simp
                decide +kernel
              · have hx0' : ¬ (x : Int) = 0 := by omega
                go_wp2
                go_ret3
                refine ⟨?_, rfl⟩
                rw [HV.out]
                first | (simp only [qc]; rfl) | (rw [← qc]; rfl) | rfl
            · have hx0' : ¬ (x : Int) = 0 := by omega
              have k9' : (57 : Int) < (k : Int) * 7 := by omega
              clear k9
              go_wp2
              go_ret3
              refine ⟨?_, rfl⟩
              rw [HV.out]
              first | (simp only [qc]; rfl) | (rw [← qc]; rfl) | rfl
    · have i1 : (l.length : Int) ≤ k := by omega
      have e0 : l.drop k = [] := List.drop_eq_nil_of_le (by omega)
      have HV := Lib.hid (show R = (0, 0, 4) by rw [HLO.out, e0]; rfl)
      go_wp2
      go_ret3
      exact ⟨by rw [HV.out]; rfl, rfl⟩
end
end Go.Proofs.YtjfmidcaekhhgaaGreatDoor

namespace Go.Proofs.YtjfmidcaekhhgaaGreatDoor
open Go.RowKit Go.PM

section
variable {w : World} {g : Nat} {l : List UInt8} {a : Option Addr} {cap : Nat}
set_option maxHeartbeats 400000 in
theorem wbytes_calls (h : Wr w 73 g l a cap) (hl : l.length ≤ 1099511627776) :
    Calls Tryz.prog 37 #[.pointer (some ⟨g, 0, none⟩)] w (FreshPost w l) := by
  have c0 : w.cell? ⟨g, 0, none⟩ = some (.slice a l.length cap) := h.box.cell 0
  have hc : a = none → cap = 0 := fun e => by
    rcases h.own.row with ⟨_, _, h3⟩ | ⟨_, _, h3, _⟩
    · exact h3
    · rw [e] at h3; cases h3
  have HC := Lib.hid (clone_calls a cap l w h.own.rd hl hc)
  clear h hc
  go_enter Tryz.func37, Tryz.ntmps37
  go_wp2_with (go_at_call 84; refine HC.out.mono ?_; rintro _ w1 ⟨a1, c1, rfl, o1, k1, t1⟩)
  go_ret
  exact ⟨a1, c1, rfl, o1, k1, t1⟩
end
end Go.Proofs.YtjfmidcaekhhgaaGreatDoor

namespace Go.PM
open Go.RowKit
theorem kept_bytesWorld (w : World) (e : TypeId) (s : ByteArray) : Kept No w (Lib.bytesWorld w e s) :=
  ⟨rfl, rfl, rfl, by rw [Lib.bytesWorld_size]; omega, fun k hk _ => Lib.bytesWorld_at_old w e s k hk⟩
theorem rd_bytesWorld (w : World) (e : TypeId) (l : List UInt8) : Rd (Lib.bytesWorld w e ⟨l.toArray⟩) (some ⟨w.heap.size, 0, none⟩) (bcells l) := by
  intro j x hj
  have hl : j < l.length := by have := (List.getElem?_eq_some_iff.1 hj).1; simpa using this
  refine ⟨_, _, rfl, ?_⟩
  rw [Nat.zero_add, Lib.bytesWorld_cell w e ⟨l.toArray⟩ j (by simpa [ByteArray.size] using hl)]
  rw [bcells_get l j hl] at hj
  rw [← hj]
  simp [List.getD, hl]
section
variable {P : Program} {w : World} {ops : Array Oper} {rest : List Oper} {o : Oper} {a : Act} {Q : Exit → Act → World → Prop}
theorem wpList_conv_string (hg : o.guard = none) (src dst : TypeId) (x : Operand) (hop : o.op = Op.convert src dst x) (e : TypeId) (hs : P.underlying src = some .string) (hd : P.underlying dst = some (.slice e)) (he : P.underlying e = some (.int .u8))
    (l : List UInt8) (hx : a.eval x = .string ⟨l.toArray⟩)
    (h : ∀ c w', Kept No w w' → Rd w' (some ⟨w.heap.size, 0, none⟩) (bcells l) → wpList P ops Q rest (a.put o.dst (.slice (some ⟨w.heap.size, 0, none⟩) l.length c)) w') : wpList P ops Q (o :: rest) a w := by
  refine wpList_plain hg fun K hK => ?_
  have hrun := Lib.run_convert_string_bytes (P := P) w src dst e ⟨l.toArray⟩ hs hd he
  have hsz : (⟨l.toArray⟩ : ByteArray).size = l.length := by simp [ByteArray.size]
  rw [hsz] at hrun
  unfold Oper.wp
  simp only [execOp, hop, hx, hrun, Sem.run_bind, Result.andThen_ok, Sem.run_pure]
  exact hK _ _ (h _ _ (kept_bytesWorld w e _) (rd_bytesWorld w e l))
end
end Go.PM
namespace Go.Proofs.YtjfmidcaekhhgaaGreatDoor
open Go.RowKit Go.PM

theorem Tryz.cu_string : Tryz.prog.underlying 9 = some .string := by kernel_rfl
section
variable {w : World} {g : Nat} {l : List UInt8} {a : Option Addr} {cap : Nat}
set_option maxHeartbeats 1000000 in
theorem wtext_calls (h : Wr w 73 g l a cap) (x : List UInt8) (hx : x.length ≤ 1099511627776) (hl : l.length + 10 + x.length ≤ 1099511627776) :
    Calls Tryz.prog 115 #[.pointer (some ⟨g, 0, none⟩), .string ⟨x.toArray⟩] w fun e w' => e = .returned (.tuple #[]) ∧ WrTo w w' 73 g (l ++ (short x.length ++ x)) := by
  have HN := Lib.hid (wnum_calls h x.length (by omega) (by omega))
  have hs10 : (short x.length).length ≤ 10 := short_le (k := 9) (by omega)
  have hlen : (l ++ short x.length).length + x.length ≤ 1099511627776 := by rw [List.length_append]; omega
  clear h
  go_enter Tryz.func115, Tryz.ntmps115
  go_wp2_with (first
    | (go_at_call 79; refine HN.out.mono ?_; rintro _ w1 ⟨rfl, k1⟩)
    | (refine wpList_conv_string rfl 9 38 (.tmp 10) rfl 5 Tryz.cu_string Tryz.cu_bytes Tryz.cu_byte x rfl ?_; intro c2 w2 k2 hr2)
    | (go_at_call 77; refine (put_calls rfl (k1.wr.choose_spec.choose_spec.keptOff k2 fun _ _ h => h) _ x.length _ x rfl hr2 (fun h => nomatch h) hlen).mono ?_; rintro _ w3 ⟨rfl, k3⟩))
  go_end0
  refine ⟨rfl, ?_⟩
  rw [← List.append_assoc]
  exact k1.trans ((k1.wr.choose_spec.choose_spec.no k2).trans k3)
end
end Go.Proofs.YtjfmidcaekhhgaaGreatDoor
