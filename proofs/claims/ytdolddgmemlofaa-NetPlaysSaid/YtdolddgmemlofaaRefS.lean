/- The document's network: Send, where there is room. -/
import Derived.Test.YtdolddgmemlofaaRefC
namespace Go.Proofs.Ytdolddgmemlofaa
open Go.RowKit Go.PM

section
variable {w : World} {p : Nat} {room : Int} {a : Option Addr} {cap : Nat} {lost : Int} {l : List RW} {T : Nat → Prop}

def RSent (w : World) (p : Nat) (room lost : Int) (l : List RW) (T : Nat → Prop) (x : PW) (e : Ending) (w' : World) : Prop := ∃ m : RW, m.w = x ∧ RCode w p room lost (l ++ [m]) T 0 e w'

set_option maxRecDepth 100000 in
set_option maxHeartbeats 0 in
theorem r_send_ok (h : RX w p room a cap lost l T) (f t : Int) (ad : Option Addr) (c : Nat) (b : List UInt8) (hr : Rd w ad (bcells b)) (hc : ad = none → c = 0) (hf : max f t < 8) (hb : b.length ≤ 4096) (hfull : (l.length : Int) < room) :
    Calls Try.prog 66 #[.pointer (some ⟨p, 0, none⟩), .agg #[.int .u8 f, .int .u8 t, .slice ad b.length c]] w (RSent w p room lost l T (f, t, b)) := by
  obtain ⟨i0, hi0, hz0, hz1, hz2⟩ := info_parts Try.inf_rwire
  obtain ⟨i1, hi1, hy0, hy1, hy2⟩ := info_parts Try.inf_byte
  have hz : (Value.agg #[.int .u8 0, .int .u8 0, .slice none 0 0]).cells.size = 3 := rfl
  have hf0 : f < 8 := by omega
  have hf1 : t < 8 := by omega
  have hle : (l.length : Int) ≤ room - 1 := by omega
  have hl256 : l.length ≤ 256 := by have := h.room2; omega
  have hfull' := hfull
  clear hf hfull
  have hnil := own_none h.own
  have hlm : l.length ≤ maxLen := by unfold maxLen; omega
  have hlm1 : l.length + 1 ≤ maxLen := by unfold maxLen; omega
  have hbm : b.length ≤ maxLen := by unfold maxLen; omega
  have hlr := rcells_length l
  have hor := rcells_one l
  have hbl := bcells_length b
  have hbo := bcells_one b
  have hR := h.keptNo ((Kept.refl No w).alloc (.cells #[.int .u8 f, .int .u8 t, .slice ad b.length c] 39))
  have hR1 := fun n => hR.keptNo ((Kept.refl No _).drewN n)
  have hbx := fun n => Blk.drewN (Blk.new' (w := w) rfl 39 [.int .u8 f, .int .u8 t, .slice ad b.length c]) n
  have hsz : ∀ n, ((w.alloc (.cells #[.int .u8 f, .int .u8 t, .slice ad b.length c] 39)).drewN n).heap.size = w.heap.size + 1 := fun n => World.size_alloc _ _
  have c0 := h.box.cell 0
  have c1 := h.box.cell 1
  have hp1 := h.box.lt
  go_enter Try.func66, Try.ntmps66
  go_wp2_with fail
  go_quiet (fail)
  go_wp2_with fail
  go_region_law (first
      | (refine step_wp rfl ?_; try simp only [List.getElem_toArray, List.getElem_cons_zero, List.getElem_cons_succ, Act.put, List.setIfInBounds_toArray, List.set_cons_zero, List.set_cons_succ]
         refine wp_append (.const (.slice none 0 0)) (.tmp 41) 45 rfl 39 i0 _ 3 32 Try.u_rwires hi0 hz0 hz1 hz2 hz (by decide) none 0 0 [] rfl (Own.nil _ _ _) a l.length cap (rcells l) rfl hnil hlr (hR1 (nq + 1)).own.rd hor (by omega) (by omega) ?_
         intro a5 cap5 w5 hap5
         have k5 : Kept No ((w.alloc (.cells #[.int .u8 f, .int .u8 t, .slice ad b.length c] 39)).drewN (nq + 1)) w5 := hap5.kept.mono (fun _ _ h => at_none_no h)
         have at5 : ∀ k, At a5 k → w.heap.size + 1 ≤ k := fun k hk => (hap5.at_ k hk).elim (fun h => at_none_no h) (fun h => Nat.le_trans (Nat.le_of_eq (hsz (nq + 1)).symm) h)
         have b5 := (hbx (nq + 1)).kept k5 id
         have b50 := b5.cell 0
         have b51 := b5.cell 1
         have b52 := b5.cell 2
         have b5l := b5.lt
         have q5 := Blk.kept (hR1 (nq + 1)).box k5 id
         have q51 := q5.cell 1
         have s5 := k5.size)
      | (refine step_wp rfl ?_; try simp only [List.getElem_toArray, List.getElem_cons_zero, List.getElem_cons_succ, Act.put, List.setIfInBounds_toArray, List.set_cons_zero, List.set_cons_succ]
         refine wp_append (.const (.slice none 0 0)) (.tmp 48) 32 rfl 5 i1 _ 1 1 Try.u_bytes hi1 hy0 hy1 hy2 rfl (by decide) none 0 0 [] rfl (Own.nil _ _ _) ad b.length c (bcells b) rfl hc (by simp) ((hr.keptNo (((Kept.refl No w).alloc (.cells #[.int .u8 f, .int .u8 t, .slice ad b.length c] 39)).drewN (nq + 1))).keptNo k5) hbo (by omega) (by omega) ?_
         intro a7 cap7 w7 hap7
         have k57 : Kept No w5 w7 := hap7.kept.mono (fun _ _ h => at_none_no h)
         have k7 := k5.transNo k57
         have at7 : ∀ k, At a7 k → w5.heap.size ≤ k := fun k hk => (hap7.at_ k hk).elim (fun h => at_none_no h) id
         have o5 := hap5.own.keptNo k57
         have lt5 := hap5.own.lt
         have lt7 := hap7.own.lt
         have rd7 := hap7.own.rd
         have nil7 := own_none hap7.own
         have b7 := (hbx (nq + 1)).kept k7 id
         have b70 := b7.cell 0
         have b71 := b7.cell 1
         have b72 := b7.cell 2
         have b7l := b7.lt
         have q7 := Blk.kept (hR1 (nq + 1)).box k7 id
         have q71 := q7.cell 1
         have s7 := k57.size)
      | (refine step_wp rfl ?_; try simp only [List.getElem_toArray, List.getElem_cons_zero, List.getElem_cons_succ, Act.put, List.setIfInBounds_toArray, List.set_cons_zero, List.set_cons_succ]
         refine wp_append (.tmp 42) (.tmp 51) 45 rfl 39 i0 _ 3 32 Try.u_rwires hi0 hz0 hz1 hz2 hz (by decide) a5 l.length cap5 (rcells l) rfl (by simpa using o5.keptNo ((Kept.refl No w7).alloc _)) _ 1 1 [.int .u8 f, .int .u8 t, .slice a7 b.length cap7] rfl (fun h => nomatch h) rfl (Rd.ofBlk' (Blk.new' rfl _ _)) (by simp [Value.oneCell']) hlm1 (by omega) ?_
         intro a6 cap6 w6 hap6
         have k76 : Kept (At a5) w7 w6 := ((Kept.refl (At a5) w7).alloc _).trans hap6.kept (fun _ _ h => h)
         have k6 : Kept No ((w.alloc (.cells #[.int .u8 f, .int .u8 t, .slice ad b.length c] 39)).drewN (nq + 1)) w6 := k7.trans k76 (fun b hb hb' => by have := at5 b hb'; rw [hsz] at hb; omega)
         have at6 : ∀ k, At a6 k → At a5 k ∨ w7.heap.size + 1 ≤ k := (by have h1 := hap6.at_; simp only [World.size_alloc] at h1; exact h1)
         have q6 := Blk.kept (hR1 (nq + 1)).box k6 id
         have q61 := q6.cell 1
         have q6f := q6.frozen 1
         have q6l := q6.lt
         have b6 := (hbx (nq + 1)).kept k6 id
         have b60 := b6.cell 0
         have b61 := b6.cell 1
         have b62 := b6.cell 2))
  all_goals
    go_wp2
    go_ret
    rw [hsz] at s5
    refine ⟨⟨f, t, a7, cap7, b⟩, rfl, rcode_push (((Kept.refl T w).alloc _).drewN (nq + 1)) (fun _ h => .inl h) (hR1 (nq + 1)) k6.no (.inl ⟨?_, nil7, hb, fun k hk => ⟨?_, ?_, ?_⟩⟩) ?_ (fun k hk => .inr ?_) hfull'⟩
    · rw [List.nil_append] at rd7
      exact rd7.kept k76 (fun k hk h5 => by have := at7 k hk; have := lt5 k h5; omega)
    · rw [hsz]; have := at7 k hk; omega
    · exact k76.lt (lt7 k hk)
    · intro h6
      have := at7 k hk
      have := lt7 k hk
      rcases at6 k h6 with h5 | h5
      · have := lt5 k h5; omega
      · omega
    · rw [rcells_append]; exact hap6.own
    · rw [hsz]
      rcases at6 k hk with h5 | h5
      · exact at5 k h5
      · omega
end
end Go.Proofs.Ytdolddgmemlofaa
