/- append(b, s...) of a string to bytes of one's own. Helper lemmas alone, over any program. The document's writer: Byte, Short, Num, Key, Text: walks. The document's writer: Num, Key, Text; PutReg, PutTx: walks. The document's writer: votes.Put, PutItem, PutWrites: walks. -/
import Derived.Test.YtjfmidcaekhhgaaGreatDoorBase
import Derived.Lib.AppendStr
import Derived.Test.YtjfmidcaekhhgaaGreatDoorCdWr
import Derived.Test.YtjfmidcaekhhgaaGreatDoorCfM
import Derived.Test.YtjfmidcaekhhgaaGreatDoorIdP
namespace Go.PM
open Go.RowKit
section
variable {P : Program} (w : World)
theorem str_size (l : List UInt8) : (⟨l.toArray⟩ : ByteArray).size = l.length := rfl
theorem str_cells (l : List UInt8) : Lib.strCells ⟨l.toArray⟩ = bcells l := by simp [Lib.strCells, bcells]
theorem run_onto_str (t u ty e : TypeId) (i : TypeInfo) (ht : P.underlying t = some (.slice e)) (hu : P.underlying u = some .string) (hi : P.info? e = some i) (hz : i.zero = some (.int .u8 0))
    (hsize : i.size = 1) (hby : i.bytes = 1) (a : Option Addr) (n cap : Nat) (xs : List Value) (hown : Owns w e 1 a n cap xs) (l : List UInt8) (h63 : n + l.length ≤ 1099511627776) :
    ∃ a' cap' w', (Builtin.append_ #[t, u] ty #[.slice a n cap, .string ⟨l.toArray⟩]).run P w = .ok (.slice a' (n + l.length) cap') w' ∧ Onto w w' e 1 a a' (n + l.length) cap' (xs ++ bcells l) := by
  have hle := hown.le
  have hs := str_size l
  have hcl' := str_cells l
  have hbl : (bcells l).length = l.length * 1 := by rw [bcells_length]; omega
  have hmx : n + l.length ≤ maxLen := by unfold maxLen; omega
  rcases hown.row with ⟨rfl, rfl, rfl⟩ | ⟨g, cur, rfl, hb, hcl, htk⟩
  · have hx0 : xs = [] := List.eq_nil_of_length_eq_zero (by simpa using hown.len)
    subst hx0
    by_cases hm : l.length = 0
    · have hl0 : l = [] := List.eq_nil_of_length_eq_zero hm
      subst hl0
      refine ⟨none, 0, w, ?_, hown, Kept.refl _ _, fun k h => .inl h⟩
      simp [Builtin.append_, run_underlying ht, run_underlying hu, sizeOf, typeInfo, hi, Builtin.lenOf, Builtin.firstCells, ByteArray.size]
    · have hr := run_append_nil_string (P := P) w t u ty e i (.int .u8 0) ht hu hi hz ⟨l.toArray⟩ (by rw [hs]; omega) (by rw [hs]; omega) (by rw [hs, hby]; omega)
      have ho := owns_grown w e (.int .u8 0) 1 rfl 0 l.length 0 [] (bcells l) (by simp) hbl hmx
      rw [hs] at hr
      have e2 : ((⟨l.toArray⟩ : ByteArray).data.map (fun b => Value.int .u8 b.toNat)) = (bcells l).toArray := by simp [bcells]
      rw [e2] at hr
      simp only [Nat.zero_add, List.nil_append, Array.empty_append] at ho ⊢
      exact ⟨_, _, _, hr, ho, ((Kept.refl _ w).drew).alloc _, fun k ⟨g, o, h, h2⟩ => .inr (by cases h; omega)⟩
  · by_cases hroom : n + l.length ≤ cap
    · have hfit : n + l.length ≤ cur.length := by omega
      have hr := Lib.run_append_room_string (P := P) w t u ty e i ht hu hi hsize g n cap cur.toArray hb ⟨l.toArray⟩ (by rw [hs]; exact hroom) (by rw [hs]; simpa using hfit)
      rw [hs, hcl'] at hr
      refine ⟨_, _, _, hr, ⟨?_, hroom, hown.max, .inr ⟨g, _, rfl, hb.setRow _, ?_, ?_⟩⟩, (Kept.refl _ w).setRow (fun _ => ⟨g, 0, rfl, rfl⟩) _, fun k h => .inl h⟩
      · rw [List.length_append, hown.len, hbl, Nat.add_mul]
      · simp only [List.length_append, List.length_take, List.length_drop, bcells_length]; omega
      · have htk' : List.take n cur = xs := by simpa using htk
        rw [show (cur.toArray.toList.take n) = xs from htk']
        have : (n + l.length) * 1 = (xs ++ bcells l).length := by rw [List.length_append, hown.len, hbl, Nat.add_mul]
        rw [this]; exact List.take_left
    · have holds : ∀ j u, xs[j]? = some u → w.cell? ((⟨g, 0, none⟩ : Addr).add j) = some u := by
        intro j u hj
        have h0 : 0 < xs.length := by have := (List.getElem?_eq_some_iff.1 hj).1; omega
        obtain ⟨ad', e', h'⟩ := hown.rd.src h0
        cases e'; exact h' j u hj
      have hr := Lib.run_append_grow_string (P := P) w t u ty e i (.int .u8 0) ht hu hi hz ⟨g, 0, none⟩ n cap xs (by rw [hsize]; exact hown.len) holds ⟨l.toArray⟩ (by rw [hs]; omega) (by rw [hs]; omega) (by rw [hs, hby]; exact growslice_fits (by omega) (by omega))
      rw [hs, hcl'] at hr
      exact ⟨_, _, _, hr, owns_grown w e (.int .u8 0) 1 rfl n l.length cap xs (bcells l) hown.len hbl hmx, ((Kept.refl _ w).drew).alloc _, fun k ⟨g', o, h, h2⟩ => .inr (by cases h; omega)⟩
end
section
variable {P : Program} {w : World} {ops : Array Oper} {rest : List Oper} {o : Oper} {a : Act} {K : Act → World → Prop} {Q : Exit → Act → World → Prop}
theorem wpList_onto_str (hg : o.guard = none) (s x : Operand) (t u : TypeId) (ho : o.op = .call { callee := .builtin .append, args := #[s, x], argTypes := #[t, u] })
    (e : TypeId) (i : TypeInfo) (ht : P.underlying t = some (.slice e)) (hu : P.underlying u = some .string) (hi : P.info? e = some i) (hz : i.zero = some (.int .u8 0)) (hsize : i.size = 1) (hby : i.bytes = 1)
    (ad : Option Addr) (n cap : Nat) (xs : List Value) (hs : a.eval s = .slice ad n cap) (hown : Owns w e 1 ad n cap xs) (l : List UInt8) (hx : a.eval x = .string ⟨l.toArray⟩) (h63 : n + l.length ≤ 1099511627776)
    (h : ∀ a' cap' w', Onto w w' e 1 ad a' (n + l.length) cap' (xs ++ bcells l) → wpList P ops Q rest (a.put o.dst (.slice a' (n + l.length) cap')) w') : wpList P ops Q (o :: rest) a w := by
  refine wpList_plain hg fun K hK => ?_
  obtain ⟨a', cap', w', hr, hap⟩ := run_onto_str (P := P) w t u o.type e i ht hu hi hz hsize hby ad n cap xs hown l h63
  unfold Oper.wp execOp
  simp only [ho, resolve, invoke, builtin, Sem.run_bind, Sem.run_pure, Result.andThen_ok, List.map_toArray, List.map_cons, List.map_nil, hs, hx, hr]
  exact hK _ _ (h a' cap' w' hap)
end
end Go.PM

namespace Go.Proofs.YtjfmidcaekhhgaaGreatDoor
open Go.RowKit Go.PM

theorem Tryz.ru_string : Tryz.prog.underlying 9 = some .string := by kernel_rfl
section
variable {w w' : World} {T : TypeId} {g : Nat} {l l' : List UInt8} {a a' : Option Addr} {cap cap' : Nat}
/-- A writer's bytes in a new array. -/
theorem Wr.anew (h : Wr w T g l a cap) (k : Kept No w w') (n : Nat) (hn : l'.length = n) (o : Owns w' 5 1 a' n cap' (bcells l')) (hf : ∀ q, At a' q → w.heap.size ≤ q) :
    WrTo w (w'.setCell ⟨g, 0, none⟩ (.slice a' n cap')) T g l' := by
  subst hn
  have hlt := h.box.lt
  have hat : ∀ q, At a' q → q ≠ g := fun q hq e => by have := hf q hq; omega
  have hw : Wr (w'.setCell ⟨g, 0, none⟩ (.slice a' l'.length cap')) T g l' a' cap' := ⟨(h.box.kept k fun h => h).set 0 _, o.kept ((Kept.refl (· = g) w').setCell (fun _ => rfl) _) hat, hat⟩
  refine ⟨⟨a', cap', hw⟩, k.no.setCell (fun _ => .inl rfl) _, fun q hq => ?_⟩
  rcases (hw.foot q).1 hq with h1 | h1
  · exact .inl (.inl h1)
  · exact .inr (hf q h1)
theorem Wr.nil' (h : Wr w T g l a cap) : a = none → cap = 0 := fun e => by rcases h.own.row with ⟨_, _, h3⟩ | ⟨_, _, h3, _⟩; exact h3; rw [e] at h3; cases h3
theorem none_kept {w1 w2 : World} (k : Kept (At none) w1 w2) : Kept No w1 w2 := k.mono fun _ _ ⟨_, _, e, _⟩ => nomatch e
theorem fresh_kept {w1 w2 : World} (k : Kept (At a') w1 w2) (h : Kept No w w1) (hf : ∀ q, At a' q → w.heap.size ≤ q) : Kept No w w2 := h.trans k fun q hq hs => absurd (hf q hs) (by omega)
theorem bcells_one1 (c : Nat) (hc : c < 256) : bcells [UInt8.ofNat c] = [.int .u8 (c : Nat)] := by simp [bcells, UInt8.toNat_ofNat', Nat.mod_eq_of_lt hc]
end
section
variable {w : World} {g : Nat} {l : List UInt8} {a : Option Addr} {cap : Nat}
set_option maxRecDepth 100000 in
set_option maxHeartbeats 1000000 in
theorem refByte_calls (h : Wr w 82 g l a cap) (c : Nat) (hc : c < 256) (hl : l.length + 1 ≤ 1099511627776) :
    Calls Tryz.prog 38 #[.pointer (some ⟨g, 0, none⟩), .int .u8 c] w fun e w' => e = .returned (.tuple #[]) ∧ WrTo w w' 82 g (l ++ [UInt8.ofNat c]) := by
  obtain ⟨i0, hi0, hz0, hz1, hz2⟩ := info_parts Tryz.cinf_byte
  have c0 := h.box.cell 0
  have hglt := h.box.lt
  have hnil := h.nil'
  have hrd := h.own.rd
  have hone := bcells_one l
  have hlen : (bcells l).length = l.length * 1 := by rw [bcells_length]; omega
  have hcc : ∀ u ∈ [Value.int .u8 (c : Nat)], u.oneCell' = true := fun u hu => by rw [List.mem_singleton.1 hu]; rfl
  go_enter Tryz.func38, Tryz.ntmps38
  go_wp2_with (first
    | (at_builtin; refine wpList_onto rfl (.tmp 9) (.tmp 11) 38 rfl 5 i0 _ 1 1 Tryz.cu_bytes hi0 hz0 hz1 hz2 rfl (by decide) a2 l.length cap2 (bcells l) rfl o3 (some ⟨w2.heap.size, 0, none⟩) 1 1 [.int .u8 (c : Nat)] rfl (fun h => nomatch h) rfl y3 hcc (by unfold maxLen; omega) (by omega) ?_; intro a4 cap4 w4 hap4; have k4 := fresh_kept hap4.kept (k2.alloc (.cells #[.int .u8 (c : Nat)] 5)) f2; have f4 : ∀ q, At a4 q → w.heap.size ≤ q := (fun q hq => (hap4.at_ q hq).elim (f2 q) (fun h => by rw [World.size_alloc] at h; have := k2.size; omega)); have c4 := ((h.box.kept k4 fun h => h).cell 0); have g4 := ((h.box.kept k4 fun h => h).frozen 0))
    | (at_builtin; refine wpList_onto rfl (.const (.slice none 0 0)) (.tmp 8) 38 rfl 5 i0 _ 1 1 Tryz.cu_bytes hi0 hz0 hz1 hz2 rfl (by decide) none 0 0 [] rfl (Owns.nil _ _ _) a l.length cap (bcells l) rfl hnil hlen hrd hone (by unfold maxLen; omega) (by omega) ?_; intro a2 cap2 w2 hap2; rw [Nat.zero_add, List.nil_append] at hap2; have k2 := none_kept hap2.kept; have f2 : ∀ q, At a2 q → w.heap.size ≤ q := (fun q hq => (hap2.at_ q hq).elim (fun ⟨_, _, e, _⟩ => nomatch e) id); have o3 := hap2.own.keptNo ((Kept.refl No w2).alloc (.cells #[.int .u8 (c : Nat)] 5)); have y3 := Rd.ofBlk' (Blk.new w2 5 [.int .u8 (c : Nat)])))
  go_end0
  refine ⟨rfl, h.anew k4 (l.length + 1) (by simp) ?_ f4⟩
  have := hap4.own
  rwa [show bcells (l ++ [UInt8.ofNat c]) = bcells l ++ [.int .u8 (c : Nat)] by rw [← bcells_one1 c hc]; simp [bcells]]

/-- What the document's Short answers: the bytes, and the number, in a new array. -/
def RsPost (w : World) (l : List UInt8) (n : Nat) (e : Ending) (w' : World) : Prop :=
  ∃ a' cap', e = .returned (.slice a' (l ++ short n).length cap') ∧ Owns w' 5 1 a' (l ++ short n).length cap' (bcells (l ++ short n)) ∧ Kept No w w' ∧ ∀ q, At a' q → w.heap.size ≤ q
def RsRel (w0 : World) (l : List UInt8) (n : Nat) (nv out : Value) (wr : World) : Prop :=
  ∃ (m : Nat) (pre : List UInt8) (a1 : Option Addr) (cap1 : Nat), nv = .int .u64 m ∧ m ≤ n ∧ short n = pre ++ short m ∧ pre.length ≤ 10 ∧ out = .slice a1 (l ++ pre).length cap1 ∧ Owns wr 5 1 a1 (l ++ pre).length cap1 (bcells (l ++ pre)) ∧ Kept No w0 wr ∧ (∀ q, At a1 q → w0.heap.size ≤ q) ∧ m < 128 ^ (10 - pre.length)
set_option maxRecDepth 100000 in
set_option maxHeartbeats 1000000 in
theorem refShort_calls (l : List UInt8) (n N : Nat) (hN : l.length = N) (hn : n < 18446744073709551616) (a : Option Addr) (c : Nat) (hrd : Rd w a (bcells l)) (hnil : a = none → c = 0) (hl : N + 12 ≤ 1099511627776) :
    Calls Tryz.prog 85 #[.slice a N c, .int .u64 n] w (RsPost w l n) := by
  subst hN
  obtain ⟨i0, hi0, hz0, hz1, hz2⟩ := info_parts Tryz.cinf_byte
  have hone := bcells_one l
  have hlen : (bcells l).length = l.length * 1 := by rw [bcells_length]; omega
  have hmx : 0 + l.length ≤ maxLen := by unfold maxLen; omega
  have hmx2 : (0 + l.length) * 1 ≤ 140737488355328 := by omega
  go_enter Tryz.func85, Tryz.ntmps85
  go_wp2_with (at_builtin; go_must (refine wpList_onto rfl (.const (.slice none 0 0)) (.tmp 6) 38 rfl 5 i0 _ 1 1 Tryz.cu_bytes hi0 hz0 hz1 hz2 rfl (by decide) none 0 0 [] rfl (Owns.nil _ _ _) a l.length c (bcells l) rfl hnil hlen hrd hone hmx hmx2 ?_; intro a2 cap2 w2 hap2; rw [Nat.zero_add, List.nil_append] at hap2; have k2 := none_kept hap2.kept; have f2 : ∀ q, At a2 q → w.heap.size ≤ q := (fun q hq => (hap2.at_ q hq).elim (fun ⟨_, _, e, _⟩ => nomatch e) id)))
  go_loopw [1, 5] (fun nv out wr => RsRel w l n nv out wr) (fun nv _ _ => (intOf nv).toNat)
  case atStart => exact ⟨n, [], a2, cap2, rfl, Nat.le_refl _, rfl, Nat.zero_le _, by rw [List.append_nil], by rw [List.append_nil]; exact hap2.own, k2, f2, Nat.lt_of_lt_of_le hn (by decide)⟩
  case round =>
    clear k2 f2 hap2 hrd hnil
    obtain ⟨m, pre, a1, cap1, rfl, hmn, hsh, hpre, rfl, ho, hk, hf, hm10⟩ := hrel
    have hL : (l ++ pre).length ≤ l.length + 10 := by rw [List.length_append]; omega
    have m64 : (m : Int) < 18446744073709551616 := by omega
    have HSH := Lib.hid hsh
    generalize hLL : (l ++ pre) = L at *
    have HLL := Lib.hid hLL
    clear hLL hsh
    by_cases hb : 128 ≤ m
    · have i1 : (128 : Int) ≤ m := by omega
      have hp1 : pre.length + 1 ≤ 10 := by
        rcases Nat.lt_or_ge pre.length 10 with h | h
        · omega
        · have : 10 - pre.length = 0 := by omega
          rw [this] at hm10; omega
      have hd10 : m / 128 < 128 ^ (10 - (pre.length + 1)) := by
        have : 10 - pre.length = (10 - (pre.length + 1)) + 1 := by omega
        rw [this, Nat.pow_succ] at hm10
        exact Nat.div_lt_of_lt_mul (by rw [Nat.mul_comm]; exact hm10)
      have hsb0 := short_big hb
      obtain ⟨r, hr⟩ : ∃ r : Nat, m % 128 = r := ⟨_, rfl⟩
      have hr2 : r < 128 := by omega
      have hmod : (m : Int) % 128 = (r : Int) := by omega
      rw [hr] at hsb0
      have hcell : [Value.int .u8 ((r : Int) + 128)] = bcells [UInt8.ofNat (r + 128)] := by
        simp only [bcells, List.map_cons, List.map_nil]
        rw [UInt8.toNat_ofNat', Nat.mod_eq_of_lt (show r + 128 < 2 ^ 8 by omega)]
        simp
      have hr1 : Rd (wr.alloc (.cells #[.int .u8 ((r : Int) + 128)] 5)) (some ⟨wr.heap.size, 0, none⟩) (bcells [UInt8.ofNat (r + 128)]) := by
        rw [← hcell]; exact Rd.ofBlk' (Blk.new wr 5 [.int .u8 ((r : Int) + 128)])
      have hk1 := (Kept.refl No wr).alloc (.cells #[.int .u8 ((r : Int) + 128)] 5)
      have ho1 := ho.keptNo hk1
      have hone1 := bcells_one [UInt8.ofNat (r + 128)]
      have hmx1 : L.length + 1 ≤ maxLen := by unfold maxLen; omega
      have hby1 : (L.length + 1) * 1 ≤ 140737488355328 := by omega
      have q1 : IntKind.u8.wrap ((r : Int)) = (r : Int) := by rw [IntKind.wrap_u8]; omega
      have q2 : IntKind.u8.wrap ((r : Int) + 128) = (r : Int) + 128 := by rw [IntKind.wrap_u8]; omega
      have HSB := Lib.hid hsb0
      have HM := Lib.hid hm10
      have HD := Lib.hid hd10
      clear hcell hm10 hd10 hr hone hsb0
      go_wp2_with (at_builtin; go_must (refine wpList_onto rfl (.tmp 10) (.tmp 15) 38 rfl 5 i0 _ 1 1 Tryz.cu_bytes hi0 hz0 hz1 hz2 rfl (by decide) a1 L.length cap1 (bcells L) rfl ho1 (some ⟨wr.heap.size, 0, none⟩) 1 1 (bcells [UInt8.ofNat (r + 128)]) rfl (fun h => nomatch h) rfl hr1 hone1 hmx1 hby1 ?_; intro a3 cap3 w3 hap))
      obtain ⟨k3, t3⟩ := onto_fresh (hk.trans hk1 fun _ _ h => h) hf hap
      have hap := hap
      have e1 : l ++ (pre ++ [UInt8.ofNat (r + 128)]) = L ++ [UInt8.ofNat (r + 128)] := by rw [← HLL.out, List.append_assoc]
      refine ⟨⟨m / 128, pre ++ [UInt8.ofNat (r + 128)], a3, cap3, by go_num, by omega, ?_, ?_, ?_, ?_, k3, t3, ?_⟩, ?_⟩
      · rw [HSH.out, HSB.out, List.append_assoc]; rfl
      · rw [List.length_append, List.length_singleton]; exact hp1
      · rw [e1, List.length_append, List.length_singleton]
      · have := hap.own
        rw [e1, List.length_append, List.length_singleton]
        simpa [bcells] using this
      · rw [List.length_append, List.length_singleton]; exact HD.out
      · simp [intOf]; omega
    · have hsm := short_small (show m < 128 by omega)
      have i1 : decide ((128 : Int) ≤ (m : Int)) = false := decide_eq_false (by omega)
      have hcell : [Value.int .u8 (m : Int)] = bcells [UInt8.ofNat m] := by
        simp only [bcells, List.map_cons, List.map_nil]
        rw [UInt8.toNat_ofNat', Nat.mod_eq_of_lt (show m < 2 ^ 8 by omega)]
      have hr1 : Rd (wr.alloc (.cells #[.int .u8 (m : Int)] 5)) (some ⟨wr.heap.size, 0, none⟩) (bcells [UInt8.ofNat m]) := by
        rw [← hcell]; exact Rd.ofBlk' (Blk.new wr 5 [.int .u8 (m : Int)])
      have hk1 := (Kept.refl No wr).alloc (.cells #[.int .u8 (m : Int)] 5)
      have ho1 := ho.keptNo hk1
      have hone1 := bcells_one [UInt8.ofNat m]
      have hmx1 : L.length + 1 ≤ maxLen := by unfold maxLen; omega
      have hby1 : (L.length + 1) * 1 ≤ 140737488355328 := by omega
      have HE := Lib.hid (show short n = pre ++ [UInt8.ofNat m] by rw [← hsm]; exact HSH.out)
      clear hcell hsm hm10 hone
      go_wp2_with (at_builtin; go_must (refine wpList_onto rfl (.tmp 19) (.tmp 22) 38 rfl 5 i0 _ 1 1 Tryz.cu_bytes hi0 hz0 hz1 hz2 rfl (by decide) a1 L.length cap1 (bcells L) rfl ho1 (some ⟨wr.heap.size, 0, none⟩) 1 1 (bcells [UInt8.ofNat m]) rfl (fun h => nomatch h) rfl hr1 hone1 hmx1 hby1 ?_; intro a3 cap3 w3 hap))
      go_ret
      obtain ⟨k3, t3⟩ := onto_fresh (hk.trans hk1 fun _ _ h => h) hf hap
      have hap := hap
      have e1 : l ++ short n = L ++ [UInt8.ofNat m] := by rw [HE.out, ← HLL.out, List.append_assoc]
      refine ⟨a3, cap3, ?_, ?_, k3, t3⟩
      · rw [e1, List.length_append, List.length_singleton]; rfl
      · have := hap.own
        rw [e1, List.length_append, List.length_singleton]
        simpa [bcells] using this
end
end Go.Proofs.YtjfmidcaekhhgaaGreatDoor

namespace Go.Proofs.YtjfmidcaekhhgaaGreatDoor
open Go.RowKit Go.PM
section
variable {w w3 : World} {T : TypeId} {g : Nat} {l l' : List UInt8} {a a3 : Option Addr} {cap cap3 m : Nat} {xs : List Value}
theorem Wr.ontoWr (h3 : Wr w T g l a cap) (hap : Onto w w3 5 1 a a3 m cap3 xs) (e3 : l'.length = m) (ec : bcells l' = xs) :
    WrTo w (w3.setCell ⟨g, 0, none⟩ (.slice a3 m cap3)) T g l' := by
  subst e3
  subst ec
  have b3 := h3.box.kept hap.kept fun h' => h3.off g h' rfl
  have hat : ∀ k, At a3 k → k ≠ g := fun k hk e => by
    rcases hap.at_ k hk with h1 | h1
    · exact h3.off k h1 e
    · have := h3.box.lt; omega
  have hw : Wr (w3.setCell ⟨g, 0, none⟩ (.slice a3 l'.length cap3)) T g l' a3 cap3 := by
    refine ⟨b3.set 0 _, hap.own.kept ((Kept.refl (· = g) w3).setCell (fun _ => rfl) _) hat, hat⟩
  refine ⟨⟨a3, cap3, hw⟩, (hap.kept.mono fun b _ hb => (h3.foot b).2 (.inr hb)).setCell (fun _ => .inl rfl) _, fun k hk => ?_⟩
  rcases (hw.foot k).1 hk with h1 | h1
  · exact .inl (.inl h1)
  · rcases hap.at_ k h1 with h2 | h2
    · exact .inl ((h3.foot k).2 (.inr h2))
    · exact .inr h2
end
section
variable {w : World} {g : Nat} {l : List UInt8} {a : Option Addr} {cap : Nat}
set_option maxRecDepth 100000 in
set_option maxHeartbeats 1000000 in
theorem refNum_calls (h : Wr w 82 g l a cap) (n : Nat) (hn : n < 18446744073709551616) (hl : l.length + 12 ≤ 1099511627776) :
    Calls Tryz.prog 41 #[.pointer (some ⟨g, 0, none⟩), .int .u64 n] w fun e w' => e = .returned (.tuple #[]) ∧ WrTo w w' 82 g (l ++ short n) := by
  have c0 := h.box.cell 0
  have hglt := h.box.lt
  have HS := Lib.hid (refShort_calls l n l.length rfl hn a cap h.own.rd h.nil' hl)
  go_enter Tryz.func41, Tryz.ntmps41
  go_wp2_with (go_at_call 85; refine HS.out.mono ?_; rintro _ w1 ⟨a1, c1, rfl, o1, k1, f1⟩; have b1 := h.box.kept k1 (fun h => h); have c2 := b1.cell 0; have g2 := b1.frozen 0)
  go_end0
  exact ⟨rfl, h.anew k1 _ List.length_append (by rw [← List.length_append]; exact o1) f1⟩

def RkRel (w0 : World) (g : Nat) (l x : List UInt8) (b : Nat) (TB : TypeId) (i : Value) (wr : World) : Prop :=
  ∃ k : Nat, k ≤ 8 ∧ i = .int .i64 k ∧ WrTo w0 wr 82 g (l ++ x.take k) ∧ Blk wr b TB (bcells x) ∧ ¬ WrS wr 82 g b
set_option maxRecDepth 100000 in
set_option maxHeartbeats 1000000 in
theorem refKey_calls (h : Wr w 82 g l a cap) (x : List UInt8) (hx : x.length = 8) (hl : l.length + 12 ≤ 1099511627776) :
    Calls Tryz.prog 43 #[.pointer (some ⟨g, 0, none⟩), .agg (bcells x).toArray] w fun e w' => e = .returned (.tuple #[]) ∧ WrTo w w' 82 g (l ++ x) := by
  have K0 := (Kept.refl No w).alloc (.cells (bcells x).toArray 28)
  have B0 := Blk.new w 28 (bcells x)
  have hnx := h.fresh K0 (Nat.le_refl _)
  have k0 := h.no K0
  clear h
  go_enter Tryz.func43, Tryz.ntmps43
  go_wp2
  generalize w.alloc (.cells (bcells x).toArray 28) = ws at *
  generalize w.heap.size = b at *
  go_loopw [4, 13] (fun i _ wr => RkRel w g l x b 28 i wr) (fun i _ _ => 8 - (intOf i).toNat)
  case atStart => exact ⟨0, by omega, rfl, by simpa using k0, B0, hnx⟩
  case round =>
    obtain ⟨k, hk, rfl, hv, hb, hn⟩ := hrel
    by_cases hlt : k < 8
    · have i0 : (0 : Int) ≤ k := by omega
      have i1 : (k : Int) < 8 := by omega
      have hc0 : wr.cell? ⟨b, k, none⟩ = some (.int .u8 (vsOf x k)) := by
        rw [hb.cell]; exact upcell _ (by omega)
      have v1 := vsOf_lt x k
      have HC := Lib.hid (refByte_calls hv.wr.choose_spec.choose_spec (vsOf x k) v1 (by rw [List.length_append, List.length_take]; omega))
      have st : x.take (k + 1) = x.take k ++ [UInt8.ofNat (vsOf x k)] := by
        rw [List.take_succ_eq_append_getElem (by omega)]
        simp [vsOf, List.getD_eq_getElem?_getD, show k < x.length by omega]
      rw [List.append_assoc, ← st] at HC
      have hblt := hb.lt
      clear st
      go_wp2_with (go_at_call 38; refine HC.out.mono ?_; rintro _ w2 ⟨rfl, k2⟩)
      refine ⟨⟨k + 1, by omega, by go_num, hv.trans k2, hb.kept k2.kept hn, k2.offs hn hblt⟩, by simp [intOf]; omega⟩
    · obtain rfl : k = 8 := by omega
      go_wp2
      go_end0
      refine ⟨rfl, ?_⟩
      rw [List.take_of_length_le (by omega)] at hv
      exact hv

set_option maxRecDepth 100000 in
set_option maxHeartbeats 1000000 in
theorem refText_calls (h : Wr w 82 g l a cap) (x : List UInt8) (hx : x.length ≤ 1099511627776) (hl : l.length + 12 + x.length ≤ 1099511627776) :
    Calls Tryz.prog 86 #[.pointer (some ⟨g, 0, none⟩), .string ⟨x.toArray⟩] w fun e w' => e = .returned (.tuple #[]) ∧ WrTo w w' 82 g (l ++ (short x.length ++ x)) := by
  have HN := Lib.hid (refNum_calls h x.length (by omega) (by omega))
  have hs10 : (short x.length).length ≤ 10 := short_le (k := 9) (by omega)
  have hlen : (l ++ short x.length).length + x.length ≤ 1099511627776 := by rw [List.length_append]; omega
  obtain ⟨i0, hi0, hz0, hz1, hz2⟩ := info_parts Tryz.cinf_byte
  clear h
  generalize hL : l ++ short x.length = L at *
  have HL := Lib.hid hL
  clear hL
  go_enter Tryz.func86, Tryz.ntmps86
  go_wp2_with fail
  refine HN.out.mono ?_
  rintro _ w1 ⟨rfl, k1⟩
  obtain ⟨a1, cap1, h1⟩ := k1.wr
  have c1 := h1.box.cell 0
  have ho := h1.own
  have hb := Lib.hid h1.box
  have hof := Lib.hid h1.off
  go_wp2_with (refine wpList_onto_str rfl (.tmp 13) (.tmp 14) 38 9 rfl 5 i0 Tryz.cu_bytes Tryz.ru_string hi0 hz0 hz1 hz2 a1 L.length cap1 (bcells L) rfl ho x rfl hlen ?_; intro a3 cap3 w3 hap; have b3 := hb.out.kept hap.kept (fun h' => hof.out g h' rfl); have f3 := b3.frozen 0; have d3 := b3.cell 0)
  go_end0
  refine ⟨rfl, ?_⟩
  rw [← List.append_assoc, HL.out]
  refine k1.trans ?_
  have e3 : (L ++ x).length = L.length + x.length := by rw [List.length_append]
  have ec : bcells (L ++ x) = bcells L ++ bcells x := by simp [bcells]
  exact h1.ontoWr hap e3 ec
end
section
variable {w : World} {g : Nat} {l : List UInt8} {a : Option Addr} {cap : Nat}
set_option maxRecDepth 100000 in
set_option maxHeartbeats 1000000 in
theorem refPutReg_calls (h : Wr w 82 g l a cap) (x : PReg) (hx : wfReg x) (hl : l.length + 30 ≤ 1099511627776) :
    Calls Tryz.prog 42 #[.pointer (some ⟨g, 0, none⟩), .agg #[.int .u32 x.1, .int .u32 x.2]] w fun e w' => e = .returned (.tuple #[]) ∧ WrTo w w' 82 g (l ++ regC.put x) := by
  obtain ⟨i, j⟩ := x
  obtain ⟨h1, h2⟩ := hx
  simp only at h1 h2
  show Calls Tryz.prog 42 #[.pointer (some ⟨g, 0, none⟩), .agg #[.int .u32 i, .int .u32 j]] w fun e w' => e = .returned (.tuple #[]) ∧ WrTo w w' 82 g (l ++ (short i ++ short j))
  have h1' : (i : Int) < 4294967296 := by omega
  have h2' : (j : Int) < 4294967296 := by omega
  have s1 : (short i).length ≤ 10 := short_le (k := 9) (by omega)
  have K0 := (Kept.refl No w).alloc (.cells #[.int .u32 (i : Int), .int .u32 (j : Int)] 26)
  have k0 := h.no K0
  have B0 := Blk.new w 26 [.int .u32 (i : Int), .int .u32 (j : Int)]
  have hnx : ¬ WrS (w.alloc (.cells #[.int .u32 (i : Int), .int .u32 (j : Int)] 26)) 82 g w.heap.size := fun hs => by
    rcases ((h.keptOff K0 fun _ _ h => h).foot _).1 hs with e | e
    · have := h.box.lt; omega
    · exact absurd (h.own.lt _ e) (Nat.lt_irrefl _)
  have HN := Lib.hid (refNum_calls (h.keptOff K0 fun _ _ h => h) i (by omega) (by omega))
  have HJ := Lib.hid (show j < 18446744073709551616 ∧ (l ++ short i).length + 12 ≤ 1099511627776 by rw [List.length_append]; omega)
  clear h
  go_enter Tryz.func42, Tryz.ntmps42
  go_wp2_with fail
  refine HN.out.mono ?_
  rintro _ w1 ⟨rfl, k1⟩
  have b1 := B0.kept k1.kept hnx
  have c1 : w1.cell? ⟨w.heap.size, 1, none⟩ = some (.int .u32 (j : Int)) := b1.cell 1
  go_wp2_with fail
  refine (refNum_calls k1.wr.choose_spec.choose_spec j HJ.out.1 HJ.out.2).mono ?_
  rintro _ w2 ⟨rfl, k2⟩
  go_wp2
  go_end0
  refine ⟨rfl, ?_⟩
  rw [← List.append_assoc]
  exact k0.trans (k1.trans k2)
set_option maxRecDepth 100000 in
set_option maxHeartbeats 1000000 in
theorem refPutTx_calls (h : Wr w 82 g l a cap) (x : PTx) (hx : wfTx x) (hl : l.length + 40 ≤ 1099511627776) :
    Calls Tryz.prog 40 #[.pointer (some ⟨g, 0, none⟩), .agg #[.int .u8 x.1, .int .u32 x.2.1, .int .u32 x.2.2]] w fun e w' => e = .returned (.tuple #[]) ∧ WrTo w w' 82 g (l ++ txC.put x) := by
  obtain ⟨n, i, j⟩ := x
  obtain ⟨h0, h1, h2⟩ := hx
  simp only at h0 h1 h2
  show Calls Tryz.prog 40 #[.pointer (some ⟨g, 0, none⟩), .agg #[.int .u8 n, .int .u32 i, .int .u32 j]] w fun e w' => e = .returned (.tuple #[]) ∧ WrTo w w' 82 g (l ++ ([UInt8.ofNat n] ++ (short i ++ short j)))
  have h1' : (i : Int) < 4294967296 := by omega
  have h2' : (j : Int) < 4294967296 := by omega
  have s1 : (short i).length ≤ 10 := short_le (k := 9) (by omega)
  have K0 := (Kept.refl No w).alloc (.cells #[.int .u8 (n : Int), .int .u32 (i : Int), .int .u32 (j : Int)] 24)
  have k0 := h.no K0
  have B0 := Blk.new w 24 [.int .u8 (n : Int), .int .u32 (i : Int), .int .u32 (j : Int)]
  have hnx := h.fresh K0 (Nat.le_refl _)
  have HN := Lib.hid (refByte_calls (h.keptOff K0 fun _ _ h => h) n h0 (by omega))
  have HI := Lib.hid (show i < 18446744073709551616 ∧ (l ++ [UInt8.ofNat n]).length + 12 ≤ 1099511627776 by rw [List.length_append]; simp; omega)
  have HJ := Lib.hid (show j < 18446744073709551616 ∧ (l ++ [UInt8.ofNat n] ++ short i).length + 12 ≤ 1099511627776 by rw [List.length_append, List.length_append]; simp; omega)
  clear h
  go_enter Tryz.func40, Tryz.ntmps40
  go_wp2_with fail
  refine HN.out.mono ?_
  rintro _ w1 ⟨rfl, k1⟩
  have b1 := B0.kept k1.kept hnx
  have c1 : w1.cell? ⟨w.heap.size, 1, none⟩ = some (.int .u32 (i : Int)) := b1.cell 1
  have n1 := k1.offs hnx B0.lt
  go_wp2_with fail
  refine (refNum_calls k1.wr.choose_spec.choose_spec i HI.out.1 HI.out.2).mono ?_
  rintro _ w2 ⟨rfl, k2⟩
  clear c1
  have b2 := b1.kept k2.kept n1
  have c2 : w2.cell? ⟨w.heap.size, 2, none⟩ = some (.int .u32 (j : Int)) := b2.cell 2
  go_wp2_with fail
  refine (refNum_calls k2.wr.choose_spec.choose_spec j HJ.out.1 HJ.out.2).mono ?_
  rintro _ w3 ⟨rfl, k3⟩
  go_wp2
  go_end0
  refine ⟨rfl, ?_⟩
  have hk := k0.trans (k1.trans (k2.trans k3))
  simpa using hk

end
end Go.Proofs.YtjfmidcaekhhgaaGreatDoor

namespace Go.Proofs.YtjfmidcaekhhgaaGreatDoor
open Go.RowKit Go.PM
section
variable {w : World} {g : Nat} {l : List UInt8} {a : Option Addr} {cap : Nat}
def RvRel (w0 : World) (g : Nat) (l u : List UInt8) (b : Nat) (cs : List Value) (TB : TypeId) (i : Value) (wr : World) : Prop :=
  ∃ k : Nat, k ≤ 8 ∧ i = .int .i64 k ∧ WrTo w0 wr 82 g (l ++ u.take k) ∧ Blk wr b TB cs ∧ ¬ WrS wr 82 g b
set_option maxRecDepth 100000 in
set_option maxHeartbeats 1000000 in
theorem refPutCfg_calls (h : Wr w 82 g l a cap) (c : PCfg) (hc : wfCfg c) (hl : l.length + 80 ≤ 1099511627776) :
    Calls Tryz.prog 87 #[.pointer (some ⟨g, 0, none⟩), .agg (cfgc c.1 c.2.1 c.2.2.1 c.2.2.2).toArray] w fun e w' => e = .returned (.tuple #[]) ∧ WrTo w w' 82 g (l ++ cfgC.put c) := by
  obtain ⟨e, r, v, u⟩ := c
  obtain ⟨w1, w2, w3, w4⟩ := hc
  simp only at w1 w2 w3 w4 ⊢
  have hp : cfgC.put (e, r, v, u) = short e ++ short r ++ short v ++ u := by
    show short e ++ (short r ++ (short v ++ byteU.puts u)) = _
    have : byteU.puts u = u := by simp [Codec.puts, byteU]
    rw [this]
    simp only [List.append_assoc]
  rw [hp, ← List.append_assoc, ← List.append_assoc, ← List.append_assoc]
  clear hp
  have K0 := (Kept.refl No w).alloc (.cells (cfgc e r v u).toArray 30)
  have B0 := Blk.new w 30 (cfgc e r v u)
  have hnx := h.fresh K0 (Nat.le_refl _)
  have k0 := h.no K0
  obtain ⟨c0, _⟩ := cfg_cells B0 w4
  have l1 : (short e).length ≤ 10 := short_le (k := 9) (by omega)
  have l2 : (short r).length ≤ 10 := short_le (k := 9) (by omega)
  have l3 : (short v).length ≤ 10 := short_le (k := 9) (by omega)
  have r0 : (e : Int) < 4294967296 := by omega
  have r1 : (r : Int) < 256 := by omega
  have r2 : (v : Int) < 256 := by omega
  have HN := Lib.hid (refNum_calls (h.keptOff K0 fun _ _ h => h) e (by omega) (by omega))
  have HR := Lib.hid (show r < 18446744073709551616 ∧ (l ++ short e).length + 12 ≤ 1099511627776 by rw [List.length_append]; omega)
  have HV := Lib.hid (show v < 18446744073709551616 ∧ (l ++ short e ++ short r).length + 12 ≤ 1099511627776 by simp only [List.length_append]; omega)
  have HB := Lib.hid (show (l ++ short e ++ short r ++ short v).length + 12 ≤ 1099511627776 by simp only [List.length_append]; omega)
  clear h
  obtain ⟨L, hL⟩ : ∃ L, L = l ++ short e ++ short r ++ short v := ⟨_, rfl⟩
  rw [← hL]
  have HL := Lib.hid hL
  clear hL
  go_enter Tryz.func87, Tryz.ntmps87
  go_wp2_with fail
  refine HN.out.mono ?_
  rintro _ w1 ⟨rfl, k1⟩
  clear c0
  have b1 := B0.kept k1.kept hnx
  have n1 := k1.offs hnx B0.lt
  obtain ⟨_, c1, _⟩ := cfg_cells b1 w4
  go_wp2_with fail
  refine (refNum_calls k1.wr.choose_spec.choose_spec r HR.out.1 HR.out.2).mono ?_
  rintro _ w2 ⟨rfl, k2⟩
  clear c1
  have b2 := b1.kept k2.kept n1
  have n2 := k2.offs n1 b1.lt
  obtain ⟨_, _, c2, _⟩ := cfg_cells b2 w4
  go_wp2_with fail
  refine (refNum_calls k2.wr.choose_spec.choose_spec v HV.out.1 HV.out.2).mono ?_
  rintro _ w3 ⟨rfl, k3⟩
  clear c2
  go_wp2
  have b3 := b2.kept k3.kept n2
  have n3 := k3.offs n2 b2.lt
  have k4 := k0.trans (k1.trans (k2.trans k3))
  clear k0 k1 k2 k3 b1 b2 n1 n2 hnx B0 K0
  have HB' := HB.out
  rw [← HL.out] at k4 HB'
  clear HL HB HN HR HV
  go_loopw [4, 29] (fun i _ wr => RvRel w g L u w.heap.size (cfgc e r v u) 30 i wr) (fun i _ _ => 8 - (intOf i).toNat)
  case atStart => exact ⟨0, by omega, rfl, by simpa using k4, b3, n3⟩
  case round =>
    obtain ⟨k, hk, rfl, hv, hb, hn⟩ := hrel
    by_cases hlt : k < 8
    · have i0 : (0 : Int) ≤ k := by omega
      have i1 : (k : Int) < 8 := by omega
      have hc0 : wr.cell? ⟨w.heap.size, 3 + k, none⟩ = some (.int .u8 (vsOf u k)) := by
        rw [hb.cell, Nat.add_comm]
        show (bcells u)[k]? = _
        exact upcell _ (by omega)
      have v1 := vsOf_lt u k
      have HC := Lib.hid (refByte_calls hv.wr.choose_spec.choose_spec (vsOf u k) v1 (by rw [List.length_append, List.length_take]; omega))
      have st : u.take (k + 1) = u.take k ++ [UInt8.ofNat (vsOf u k)] := by
        rw [List.take_succ_eq_append_getElem (by omega)]
        simp [vsOf, List.getD_eq_getElem?_getD, show k < u.length by omega]
      rw [List.append_assoc, ← st] at HC
      have hblt := hb.lt
      clear st
      go_wp2_with (go_at_call 38; refine HC.out.mono ?_; rintro _ w2 ⟨rfl, k2⟩)
      refine ⟨⟨k + 1, by omega, by go_num, hv.trans k2, hb.kept k2.kept hn, k2.offs hn hblt⟩, by simp [intOf]; omega⟩
    · obtain rfl : k = 8 := by omega
      go_wp2
      go_end0
      refine ⟨rfl, ?_⟩
      rw [List.take_of_length_le (by omega)] at hv
      exact hv

set_option maxRecDepth 100000 in
set_option maxHeartbeats 1000000 in
theorem refPutItem_calls (h : Wr w 82 g l a cap) (i : PItem) (hi : wfItem i) (hl : l.length + 150 + i.2.1.length ≤ 1099511627776) :
    Calls Tryz.prog 44 #[.pointer (some ⟨g, 0, none⟩), .agg (itemv i).toArray] w fun e w' => e = .returned (.tuple #[]) ∧ WrTo w w' 82 g (l ++ itemC.put i) := by
  show Calls Tryz.prog 44 #[.pointer (some ⟨g, 0, none⟩), .agg (itemv i).toArray] w fun e w' => e = .returned (.tuple #[]) ∧ WrTo w w' 82 g (l ++ (short i.1 ++ (short i.2.1.length ++ i.2.1 ++ cfgC.put i.2.2)))
  have s1 := countC_put_le i.1 hi.1
  have s2 : (short i.2.1.length).length ≤ 10 := short_le (k := 9) (by omega)
  have i1 := hi.1
  have i1' : ((i.1 : Nat) : Int) < 4294967296 := by omega
  have hil := itemv_length hi
  have B0 := Blk.new w 32 (itemv i)
  have K0 := (Kept.refl No w).alloc (.cells (itemv i).toArray 32)
  have k0 := h.no K0
  have hnx := h.fresh K0 (Nat.le_refl _)
  have HN := Lib.hid (refNum_calls (h.keptOff K0 fun _ _ h => h) i.1 (by omega) (by omega))
  have L1 : (l ++ short i.1).length + 12 + i.2.1.length ≤ 1099511627776 := by rw [List.length_append]; omega
  have L2 : (l ++ short i.1 ++ (short i.2.1.length ++ i.2.1)).length + 80 ≤ 1099511627776 := by simp only [List.length_append]; omega
  have q0 : (w.alloc (.cells (itemv i).toArray 32)).cell? ⟨w.heap.size, 0, none⟩ = some (.int .u32 (i.1 : Nat)) := B0.cell 0
  clear h
  go_enter Tryz.func44, Tryz.ntmps44
  go_wp2_with fail
  refine HN.out.mono ?_
  rintro _ w1 ⟨rfl, k1⟩
  clear q0
  have b1 := B0.kept k1.kept hnx
  have n1 := k1.offs hnx B0.lt
  have c1 : w1.cell? ⟨w.heap.size, 1, none⟩ = some (.string ⟨i.2.1.toArray⟩) := b1.cell 1
  go_wp2_with fail
  refine (refText_calls k1.wr.choose_spec.choose_spec i.2.1 (by omega) L1).mono ?_
  rintro _ w2 ⟨rfl, k2⟩
  clear c1
  have b2 := b1.kept k2.kept n1
  have n2 := k2.offs n1 b1.lt
  have sg : Seg w2 w.heap.size 2 (cfgv i.2.2) := b2.seg 2 _ (by simp [itemv])
  have hcl := cfgv_length hi.2
  go_wp2_with (first
    | (with_reducible refine wpList_ld rfl 30 _ rfl Tryz.isAgg30 11 Tryz.sizeOf30 w.heap.size 2 rfl (cfgv i.2.2) hcl sg ?_)
    | (go_at_call 87; refine (refPutCfg_calls k2.wr.choose_spec.choose_spec i.2.2 hi.2 L2).mono ?_; rintro _ w3 ⟨rfl, k3⟩))
  go_end0
  refine ⟨rfl, ?_⟩
  have hk := k0.trans (k1.trans (k2.trans k3))
  simpa using hk


set_option maxRecDepth 100000 in
set_option maxHeartbeats 1000000 in
theorem refPutWrites_calls (h : Wr w 82 g l a cap) (ws : List PW) (n : Nat) (hn : ws.length = n) (ad : Option Addr) (c : Nat) (hw : ∀ x ∈ ws, wfPW x) (hr : Rd w ad (pwsv ws)) (hoff : ∀ b, At ad b → b < w.heap.size ∧ ¬ WrS w 82 g b)
    (hl : l.length + (writesC.put ws).length + 300 ≤ 1099511627776) (hws : n ≤ 1099511627776) :
    Calls Tryz.prog 45 #[.pointer (some ⟨g, 0, none⟩), .slice ad n c] w fun e w' => e = .returned (.tuple #[]) ∧ WrTo w w' 82 g (l ++ writesC.put ws) := by
  subst hn
  have hput : writesC.put ws = short ws.length ++ writeC.puts ws := rfl
  rw [hput] at hl ⊢
  clear hput
  rw [List.length_append] at hl
  have s1 : (short ws.length).length ≤ 10 := short_le (k := 9) (by omega)
  have HN := Lib.hid (refNum_calls h ws.length (by omega) (by omega))
  clear h
  go_enter Tryz.func45, Tryz.ntmps45
  go_wp2_with (go_at_call 41; refine HN.out.mono ?_; rintro _ w1 ⟨rfl, k1⟩)
  have R1 := hr.kept k1.kept fun b hb => (hoff b hb).2
  have O1 : ∀ b, At ad b → b < w1.heap.size ∧ ¬ WrS w1 82 g b := fun b hb => ⟨k1.kept.lt (hoff b hb).1, k1.offs (hoff b hb).2 (hoff b hb).1⟩
  clear hr hoff HN
  go_loopw [4, 10] (fun i _ wr => PwRel w 82 g l ws ad i wr) (fun i _ _ => ws.length - (intOf i).toNat)
  case atStart => exact ⟨0, by omega, rfl, by simpa [Codec.puts] using k1, R1, O1⟩
  case round =>
    obtain ⟨k, hk, rfl, hv, hr, hoff⟩ := hrel
    by_cases hlt : k < ws.length
    · have i0 : (0 : Int) ≤ k := by omega
      have i1 : (k : Int) < ws.length := by omega
      obtain ⟨x, hx⟩ : ∃ x, ws[k] = x := ⟨_, rfl⟩
      have wx : wfPW x := hx ▸ hw _ (List.getElem_mem hlt)
      have xl := pwv_length wx
      have fa := flat_at pwv 21 ws (fun y hy => pwv_length (hw y hy)) k hlt
      rw [hx] at fa
      obtain ⟨b, o, rfl, hbl⟩ := hr.addr (by
        have : pwv x ≠ [] := fun e => by rw [e] at xl; simp at xl
        cases e : pwsv ws with
        | nil => unfold pwsv at e; rw [e] at fa; simp at fa; exact absurd fa this
        | cons y z => simp)
      have sg : Seg wr b (o + k * 21) (pwv x) := (Seg.ofRd hr).sub (k * 21) _ (by rw [xl]; exact fa)
      have hpl := puts_take_len writeC ws k hlt
      have hst := puts_step writeC ws k hlt
      rw [hx] at hpl hst
      have hige := itemC_put_ge x.2
      rw [writeC_put, List.length_append, wx.1] at hpl
      have hw0 := hv.wr.choose_spec.choose_spec
      have HK := Lib.hid (refKey_calls hw0 x.1 wx.1 (by simp only [List.length_append]; omega))
      have L2 : (l ++ (short ws.length ++ writeC.puts (List.take k ws)) ++ x.1).length + 150 + x.2.2.1.length ≤ 1099511627776 := by simp only [List.length_append, wx.1]; omega
      have sk : Seg wr b (o + k * 21) (bcells x.1) := by
        have := sg.sub 0 (bcells x.1) (by simp [pwv])
        simpa using this
      have l8 : (bcells x.1).length = 8 := by rw [bcells_length, wx.1]
      have l13 := itemv_length wx.2
      have HX := Lib.hid hx
      have HP := Lib.hid hst
      have HO := Lib.hid (hoff b ⟨b, o, rfl, rfl⟩)
      have si : Seg wr b (o + k * 21 + 8) (itemv x.2) := sg.sub 8 (itemv x.2) (by simp [pwv, wx.1])
      have SI := Lib.hid si
      clear fa hx hpl hst sg hw0 si
      go_wp2_with (first
        | (with_reducible refine wpList_ld rfl 28 _ rfl Tryz.isAgg28 8 Tryz.sizeOf28 b (o + k * 21) rfl (bcells x.1) l8 sk ?_)
        | (go_at_call 43; refine HK.out.mono ?_; rintro _ w2 ⟨rfl, k2⟩; have s2 : Seg w2 b (o + k * 21 + 8) (itemv x.2) := SI.out.kept k2.kept HO.out.2)
        | (with_reducible refine wpList_ld rfl 32 _ rfl Tryz.isAgg32 13 Tryz.sizeOf32 b (o + k * 21 + 8) rfl (itemv x.2) l13 s2 ?_)
        | (go_at_call 44; refine (refPutItem_calls k2.wr.choose_spec.choose_spec x.2 wx.2 L2).mono ?_; rintro _ w3 ⟨rfl, k3⟩))
      have hk := k2.trans k3
      refine ⟨⟨k + 1, by omega, by go_num, ?_, hr.kept hk.kept fun b hb => (hoff b hb).2, fun b hb => ⟨hk.kept.lt (hoff b hb).1, hk.offs (hoff b hb).2 (hoff b hb).1⟩⟩, by simp [intOf]; omega⟩
      have := hv.trans hk
      rw [HP.out, writeC_put]
      simpa using this
    · have i1 : (ws.length : Int) ≤ k := by omega
      go_wp2
      go_end0
      rw [show ws.take k = ws from List.take_of_length_le (by omega)] at hv
      exact ⟨rfl, hv⟩
end
end Go.Proofs.YtjfmidcaekhhgaaGreatDoor
