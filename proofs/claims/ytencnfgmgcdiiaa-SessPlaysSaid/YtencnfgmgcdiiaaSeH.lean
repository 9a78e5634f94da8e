/- Package sess: All. -/
import Derived.Test.YtencnfgmgcdiiaaSeZ
import Derived.Test.YtencnfgmgcdiiaaSeD
namespace Go.PM
/-- The open calls of the clients in S. -/
def openOf (D : List (UInt8 × PC)) (S : List UInt8) : List (UInt8 × Int) :=
  S.filterMap fun c => if ((getK D c).getD .zero).opn = true then some (c, ((getK D c).getD .zero).last) else none
theorem openOf_take (D : List (UInt8 × PC)) (S : List UInt8) (k : Nat) (hk : k < S.length) :
    openOf D (S.take (k + 1)) = openOf D (S.take k) ++ if ((getK D S[k]).getD .zero).opn = true then [(S[k], ((getK D S[k]).getD .zero).last)] else [] := by
  rw [List.take_succ_eq_append_getElem hk]
  unfold openOf
  rw [List.filterMap_append]
  by_cases h : ((getK D S[k]).getD .zero).opn = true <;> simp [h]
def ccells (L : List (UInt8 × Int)) : List Value := L.flatMap fun c => [.int .u8 c.1.toNat, .int .u32 c.2]
theorem ccells_length (L : List (UInt8 × Int)) : (ccells L).length = L.length * 2 := by
  induction L with
  | nil => rfl
  | cons c L ih => simp only [ccells, List.flatMap_cons, List.length_append, List.length_cons, List.length_nil] at ih ⊢; omega
theorem ccells_snoc (L : List (UInt8 × Int)) (c : UInt8 × Int) : ccells (L ++ [c]) = ccells L ++ [.int .u8 c.1.toNat, .int .u32 c.2] := by simp [ccells]
theorem openOf_len (D : List (UInt8 × PC)) (S : List UInt8) : (openOf D S).length ≤ S.length := List.length_filterMap_le _ _
end Go.PM
namespace Go.Proofs.Ytencnfgmgcdiiaa
open Go.RowKit Go.PM

theorem Try.su_calls : Try.prog.underlying 72 = some (.slice 39) := by kernel_rfl
theorem Try.si_call : (Try.prog.info? 39).map (fun i => (i.zero, i.size, i.bytes)) = some (some (.agg #[.int .u8 0, .int .u32 0]), 2, 8) := by kernel_rfl

theorem BSl.rd {w0 w : World} {v : Value} {S : List UInt8} (h : BSl w0 w v S) : ∃ a cap, v = .slice a S.length cap ∧ Rd w a (bcells S) := by
  rcases h with ⟨rfl, rfl⟩ | ⟨g, cap, tail, rfl, _, hB⟩
  · exact ⟨none, 0, rfl, Rd.nil _ _⟩
  · exact ⟨_, cap, rfl, Rd.ofBlk hB fun j x hj => by rw [List.getElem?_append_left (List.getElem?_eq_some_iff.1 hj).1]; exact hj⟩

def AllPost (w : World) (D : List (UInt8 × PC)) (e : Ending) (w' : World) : Prop :=
  ∃ (S : List UInt8) (a : Option Addr) (cap : Nat), e = .returned (.slice a (openOf D S).length cap) ∧ S.Perm (D.map (·.1)) ∧ SrtW 0 S.length S ∧ Rd w' a (ccells (openOf D S)) ∧ Kept No w w'

section
variable {w : World} {p b : Nat} {D : List (UInt8 × PC)}
def AllRel (w : World) (D : List (UInt8 × PC)) (S : List UInt8) (t k : Value) (wr : World) : Prop :=
  ∃ (j : Nat) (a : Option Addr) (cap : Nat), j ≤ S.length ∧ k = .int .i64 j ∧ t = .slice a (openOf D (S.take j)).length cap ∧ Owns wr 39 2 a (openOf D (S.take j)).length cap (ccells (openOf D (S.take j))) ∧ (∀ c, At a c → w.heap.size ≤ c) ∧ Kept No w wr

set_option maxRecDepth 100000 in
set_option maxHeartbeats 2000000 in
theorem se_All {N : Nat} (HS : SortsTo N) (hN : N ≤ 256) (h : DeskB w p b D) (hl : D.length ≤ N) :
    Calls Try.prog 33 #[.pointer (some ⟨p, 0, none⟩)] w (AllPost w D) := by
  obtain ⟨i0, hi, hz0, hz1, hz2⟩ := info_parts Try.si_call
  have c0 := h.c0
  have ho := se_ok h
  have HD := Lib.hid h
  have HL := Lib.hid hl
  have HS' := Lib.hid HS
  clear h hl HS
  go_enter Try.func33, Try.ntmps33
  have HK : Hid (∀ w b, Calls Try.prog 52 #[.map (some b)] w fun e w' =>
      e = .returned (.func (.func 66) #[] #[.pointer (some ⟨w.heap.size, 0, none⟩)]) ∧ w' = w.alloc (.cells #[.map (some b)] 77)) := Lib.hid fun w b => keys_calls w b
  have B1 := Blk.new w 77 [.map (some b)]
  have K1 := (Kept.refl No w).alloc (.cells #[.map (some b)] 77)
  have hc1 : (w.alloc (.cells #[.map (some b)] 77)).cell? ⟨w.heap.size, 0, none⟩ = some (.map (some b)) := B1.cell 0
  have HT := Lib.hid (sorted_calls HS'.out hN w.heap.size b D HL.out hc1 (HD.out.mp.kept K1 id))
  clear B1 hc1
  go_wp2_with (first
    | (go_at_call 43; refine ho.mono ?_; rintro _ _ ⟨rfl, rfl⟩)
    | (go_at_call 52; refine (HK.out _ _).mono ?_; rintro _ _ ⟨rfl, rfl⟩)
    | (go_at_call 51; refine HT.out.mono ?_; rintro _ w2 ⟨v, S, rfl, hB, hp, hs, k2⟩; obtain ⟨sa, sc, rfl, hR⟩ := BSl.rd hB))
  have K2 : Kept No w w2 := K1.transNo k2
  have hSl : S.length = D.length := by rw [hp.length_eq, List.length_map]
  clear HT k2 K1 ho c0 hB
  go_loopw [3, 17] (fun t k wr => AllRel w2 D S t k wr) (fun _ k _ => S.length - (intOf k).toNat)
  case atStart => exact ⟨0, none, 0, Nat.zero_le _, rfl, rfl, Owns.nil _ _ _, (fun c ⟨_, _, h, _⟩ => nomatch h), Kept.refl _ _⟩
  case round =>
    obtain ⟨j, a, cap, hj, rfl, rfl, ho, hat, kw⟩ := hrel
    have hNL := HL.out
    by_cases hlt : j < S.length
    · have j1 : (j : Int) < S.length := by omega
      have j0 : (0 : Int) ≤ j := by omega
      have hRr := hR.keptNo kw
      obtain ⟨sb, so, rfl, _⟩ := hRr.addr (by simpa using (by omega : 0 < S.length))
      have cj := hRr.at j (by simpa using hlt)
      have ej : (bcells S)[j]'(by simpa using hlt) = .int .u8 S[j].toNat := by simp [bcells]
      rw [ej] at cj
      have hd := HD.out.kept (K2.transNo kw) id id
      have c0 := hd.c0
      have hlk := hd.mp.look Try.skey Try.su_map (Try.sz_client wr) S[j]
      have htake := openOf_take D S j hlt
      have hlen := openOf_len D (S.take j)
      rw [List.length_take] at hlen
      generalize hx : (getK D S[j]).getD .zero = x at *
      unfold PC.e ekb at hlk
      generalize hLj : openOf D (S.take j) = Lj at *
      clear hd
      cases hop : x.opn with
      | false =>
        rw [hop] at hlk
        rw [hop, if_neg (by decide), List.append_nil] at htake
        have HT := Lib.hid htake
        clear htake
        have K5 := (Kept.refl No wr).alloc (.cells #[.int .u32 x.last, .bool false, .int .i64 x.a.why, .int .u8 x.a.node, .int .u32 x.a.boot, .int .u32 x.a.num, .string x.a.val, .int .u32 x.a.ver] 98)
        go_wp2
        exact ⟨⟨j + 1, a, cap, by omega, by go_num, by rw [HT.out], by rw [HT.out]; exact ho.keptNo K5, hat, kw.transNo K5⟩, by simp [intOf]; omega⟩
      | true =>
        rw [hop] at hlk
        rw [hop, if_pos rfl] at htake
        have HT := Lib.hid htake
        clear htake
        have K5 := (Kept.refl No wr).alloc (.cells #[.int .u32 x.last, .bool true, .int .i64 x.a.why, .int .u8 x.a.node, .int .u32 x.a.boot, .int .u32 x.a.num, .string x.a.val, .int .u32 x.a.ver] 98)
        have K6 := K5.alloc (.cells #[.int .u8 S[j].toNat, .int .u32 x.last] 39)
        have e6 : (wr.alloc (.cells #[.int .u32 x.last, .bool true, .int .i64 x.a.why, .int .u8 x.a.node, .int .u32 x.a.boot, .int .u32 x.a.num, .string x.a.val, .int .u32 x.a.ver] 98)).heap.size = wr.heap.size + 1 := World.size_alloc _ _
        have B6 := Blk.new (wr.alloc (.cells #[.int .u32 x.last, .bool true, .int .i64 x.a.why, .int .u8 x.a.node, .int .u32 x.a.boot, .int .u32 x.a.num, .string x.a.val, .int .u32 x.a.ver] 98)) 39 [.int .u8 S[j].toNat, .int .u32 x.last]
        rw [e6] at B6
        have hn6 := Rd.ofBlk' B6
        have ho6 := ho.keptNo K6
        have hLj256 : Lj.length ≤ 256 := by omega
        have hS256 : S.length ≤ 256 := by omega
        clear e6 B6 hSl ho
        have hone : ∀ u ∈ [Value.int .u8 S[j].toNat, Value.int .u32 x.last], u.oneCell' = true := by simp [Value.oneCell']
        go_wp2_with (at_builtin; go_must (refine wpList_onto rfl (.tmp 29) (.tmp 34) 72 rfl 39 i0 _ 2 8 Try.su_calls hi hz0 hz1 hz2 rfl (by decide) a Lj.length cap (ccells Lj) rfl ho6 (some ⟨wr.heap.size + 1, 0, none⟩) 1 1 [.int .u8 S[j].toNat, .int .u32 x.last] rfl (by simp) rfl hn6 hone (by unfold maxLen; omega) (by omega) ?_; intro a3 cap3 w3 hap3))
        have e7 : (Lj ++ [(S[j], x.last)]).length = Lj.length + 1 := by simp
        have hw6 : wr.heap.size ≤ (((wr.alloc (.cells #[.int .u32 x.last, .bool true, .int .i64 x.a.why, .int .u8 x.a.node, .int .u32 x.a.boot, .int .u32 x.a.num, .string x.a.val, .int .u32 x.a.ver] 98)).alloc (.cells #[.int .u8 S[j].toNat, .int .u32 x.last] 39))).heap.size := K6.size
        have hsz := kw.size
        exact ⟨⟨j + 1, a3, cap3, by omega, by go_num, by rw [HT.out, e7], by rw [HT.out, e7, ccells_snoc]; exact hap3.own, fun c hc => (hap3.at_ c hc).elim (hat c) (fun h => by omega), (kw.transNo K6).trans hap3.kept fun c hc h => absurd (hat c h) (by omega)⟩, by simp [intOf]; omega⟩
    · have j1 : ¬ ((j : Int) < S.length) := by omega
      have HT : Hid (S.take j = S) := Lib.hid (List.take_of_length_le (by omega))
      rw [HT.out] at ho ⊢
      go_wp2
      go_ret
      exact ⟨S, a, cap, rfl, hp, hs, ho.rd, K2.transNo kw⟩
end
end Go.Proofs.Ytencnfgmgcdiiaa
