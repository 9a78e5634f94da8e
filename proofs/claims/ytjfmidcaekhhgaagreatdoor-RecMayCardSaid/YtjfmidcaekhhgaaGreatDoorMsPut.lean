/- How the fields of a message are written, as walks. Printed by gen_msj.py. Encode of a message, as a walk. -/
import Derived.Test.YtjfmidcaekhhgaaGreatDoorMsMay
namespace Go.Proofs.YtjfmidcaekhhgaaGreatDoor
open Go.RowKit Go.PM

/-- A message and a writer, apart. -/
structure MsWr (w : World) (b : Nat) (m : PMsg) (ad : Option Addr) (c : Nat) (g : Nat) : Prop where
  ms : Ms w 42 b m ad c
  off : ¬ WrS w 73 g b
  offs : ∀ k, At ad k → ¬ WrS w 73 g k
section
variable {w w' : World} {b g c cap : Nat} {m : PMsg} {ad a : Option Addr} {l l' : List UInt8}
theorem MsWr.to (h : MsWr w b m ad c g) (k : WrTo w w' 73 g l) : MsWr w' b m ad c g :=
  ⟨h.ms.kept k.kept h.off h.offs, k.offs h.off h.ms.box.lt, fun x hx => k.offs (h.offs x hx) (h.ms.lt x hx)⟩
set_option maxRecDepth 100000 in
set_option maxHeartbeats 400000 in
theorem put_tx (h : Wr w 73 g l a cap) (hm : MsWr w b m ad c g) (hmay : Fd.may m .tx = true) (hl : l.length ≤ 549755813888) :
    Calls Tryz.prog 36 #[.pointer (some ⟨b, 0, none⟩), .pointer (some ⟨g, 0, none⟩), .int .u64 1] w fun e w' => e = .returned (.tuple #[]) ∧ WrTo w w' 73 g (l ++ txC.put m.tx) := by
  have hM := hm.ms
  have hle := Fd.put_le .tx m (Fd.may_may hm.ms.wf .tx hmay)
  have sg := hM.tx
  have HC := Lib.hid (putTx_calls h m.tx hM.wf.tx (by omega))
  clear h hm hM
  go_enter Tryz.func36, Tryz.ntmps36
  go_wp2_with (first
    | (with_reducible refine wpList_ld rfl 24 _ rfl Tryz.isAgg24 3 Tryz.sizeOf24 b 1 rfl (txv m.tx) rfl sg ?_)
    | (go_at_call 78; refine HC.out.mono ?_; rintro _ w2 ⟨rfl, k2⟩))
  go_end0
  exact ⟨rfl, k2⟩
set_option maxRecDepth 100000 in
set_option maxHeartbeats 400000 in
theorem put_time (h : Wr w 73 g l a cap) (hm : MsWr w b m ad c g) (hmay : Fd.may m .time = true) (hl : l.length ≤ 549755813888) :
    Calls Tryz.prog 36 #[.pointer (some ⟨b, 0, none⟩), .pointer (some ⟨g, 0, none⟩), .int .u64 2] w fun e w' => e = .returned (.tuple #[]) ∧ WrTo w w' 73 g (l ++ short m.time) := by
  have hM := hm.ms
  have hle := Fd.put_le .time m (Fd.may_may hm.ms.wf .time hmay)
  have c0 := hM.time
  have t0 := hM.wf.time
  have t1 : ((m.time : Nat) : Int) < 4294967296 := by omega
  have HC := Lib.hid (wnum_calls h m.time (by omega) (by omega))
  clear h hm hM
  go_enter Tryz.func36, Tryz.ntmps36
  go_wp2_with ((go_at_call 79; refine HC.out.mono ?_; rintro _ w2 ⟨rfl, k2⟩))
  go_end0
  exact ⟨rfl, k2⟩
set_option maxRecDepth 100000 in
set_option maxHeartbeats 400000 in
theorem put_no (h : Wr w 73 g l a cap) (hm : MsWr w b m ad c g) (hmay : Fd.may m .no = true) (hl : l.length ≤ 549755813888) :
    Calls Tryz.prog 36 #[.pointer (some ⟨b, 0, none⟩), .pointer (some ⟨g, 0, none⟩), .int .u64 32] w fun e w' => e = .returned (.tuple #[]) ∧ WrTo w w' 73 g (l ++ short m.no) := by
  have hM := hm.ms
  have hle := Fd.put_le .no m (Fd.may_may hm.ms.wf .no hmay)
  have c0 := hM.no_
  have t0 := hM.wf.no
  have t1 : ((m.no : Nat) : Int) < 4294967296 := by omega
  have HC := Lib.hid (wnum_calls h m.no (by omega) (by omega))
  clear h hm hM
  go_enter Tryz.func36, Tryz.ntmps36
  go_wp2_with ((go_at_call 79; refine HC.out.mono ?_; rintro _ w2 ⟨rfl, k2⟩))
  go_end0
  exact ⟨rfl, k2⟩
set_option maxRecDepth 100000 in
set_option maxHeartbeats 400000 in
theorem put_why (h : Wr w 73 g l a cap) (hm : MsWr w b m ad c g) (hmay : Fd.may m .why = true) (hl : l.length ≤ 549755813888) :
    Calls Tryz.prog 36 #[.pointer (some ⟨b, 0, none⟩), .pointer (some ⟨g, 0, none⟩), .int .u64 64] w fun e w' => e = .returned (.tuple #[]) ∧ WrTo w w' 73 g (l ++ short m.why) := by
  have hM := hm.ms
  have hle := Fd.put_le .why m (Fd.may_may hm.ms.wf .why hmay)
  have c0 := hM.why
  have t0 := hM.wf.why
  have t1 : ((m.why : Nat) : Int) < 256 := by omega
  have HC := Lib.hid (wnum_calls h m.why (by omega) (by omega))
  clear h hm hM
  go_enter Tryz.func36, Tryz.ntmps36
  go_wp2_with ((go_at_call 79; refine HC.out.mono ?_; rintro _ w2 ⟨rfl, k2⟩))
  go_end0
  exact ⟨rfl, k2⟩
set_option maxRecDepth 100000 in
set_option maxHeartbeats 400000 in
theorem put_reg (h : Wr w 73 g l a cap) (hm : MsWr w b m ad c g) (hmay : Fd.may m .reg = true) (hl : l.length ≤ 549755813888) :
    Calls Tryz.prog 36 #[.pointer (some ⟨b, 0, none⟩), .pointer (some ⟨g, 0, none⟩), .int .u64 4] w fun e w' => e = .returned (.tuple #[]) ∧ WrTo w w' 73 g (l ++ regC.put m.reg) := by
  have hM := hm.ms
  have hle := Fd.put_le .reg m (Fd.may_may hm.ms.wf .reg hmay)
  have sg := hM.reg
  have HC := Lib.hid (putReg_calls h m.reg hM.wf.reg (by omega))
  clear h hm hM
  go_enter Tryz.func36, Tryz.ntmps36
  go_wp2_with (first
    | (with_reducible refine wpList_ld rfl 26 _ rfl Tryz.isAgg26 2 Tryz.sizeOf26 b 5 rfl (regv m.reg) rfl sg ?_)
    | (go_at_call 80; refine HC.out.mono ?_; rintro _ w2 ⟨rfl, k2⟩))
  go_end0
  exact ⟨rfl, k2⟩
set_option maxRecDepth 100000 in
set_option maxHeartbeats 400000 in
theorem put_key (h : Wr w 73 g l a cap) (hm : MsWr w b m ad c g) (hmay : Fd.may m .key = true) (hl : l.length ≤ 549755813888) :
    Calls Tryz.prog 36 #[.pointer (some ⟨b, 0, none⟩), .pointer (some ⟨g, 0, none⟩), .int .u64 8] w fun e w' => e = .returned (.tuple #[]) ∧ WrTo w w' 73 g (l ++ m.key) := by
  have hM := hm.ms
  have hle := Fd.put_le .key m (Fd.may_may hm.ms.wf .key hmay)
  have sg := hM.key
  have l8 : (bcells m.key).length = 8 := by rw [bcells_length, hM.wf.key]
  have HC := Lib.hid (wkey_calls h m.key hM.wf.key (by omega))
  clear h hm hM
  go_enter Tryz.func36, Tryz.ntmps36
  go_wp2_with (first
    | (with_reducible refine wpList_ld rfl 28 _ rfl Tryz.isAgg28 8 Tryz.sizeOf28 b 7 rfl (bcells m.key) l8 sg ?_)
    | (go_at_call 81; refine HC.out.mono ?_; rintro _ w2 ⟨rfl, k2⟩))
  go_end0
  exact ⟨rfl, k2⟩
set_option maxRecDepth 100000 in
set_option maxHeartbeats 400000 in
theorem put_mode (h : Wr w 73 g l a cap) (hm : MsWr w b m ad c g) (hmay : Fd.may m .mode = true) (hl : l.length ≤ 549755813888) :
    Calls Tryz.prog 36 #[.pointer (some ⟨b, 0, none⟩), .pointer (some ⟨g, 0, none⟩), .int .u64 16] w fun e w' => e = .returned (.tuple #[]) ∧ WrTo w w' 73 g (l ++ [UInt8.ofNat m.mode]) := by
  have hM := hm.ms
  have hle := Fd.put_le .mode m (Fd.may_may hm.ms.wf .mode hmay)
  have c0 := hM.mode
  have HC := Lib.hid (wbyte_calls h m.mode hM.wf.mode (by omega))
  clear h hm hM
  go_enter Tryz.func36, Tryz.ntmps36
  go_wp2_with ((go_at_call 33; refine HC.out.mono ?_; rintro _ w2 ⟨rfl, k2⟩))
  go_end0
  exact ⟨rfl, k2⟩
set_option maxRecDepth 100000 in
set_option maxHeartbeats 400000 in
theorem put_yes (h : Wr w 73 g l a cap) (hm : MsWr w b m ad c g) (hmay : Fd.may m .yes = true) (hl : l.length ≤ 549755813888) :
    Calls Tryz.prog 36 #[.pointer (some ⟨b, 0, none⟩), .pointer (some ⟨g, 0, none⟩), .int .u64 128] w fun e w' => e = .returned (.tuple #[]) ∧ WrTo w w' 73 g (l ++ [UInt8.ofNat m.yes]) := by
  have hM := hm.ms
  have hle := Fd.put_le .yes m (Fd.may_may hm.ms.wf .yes hmay)
  have c0 := hM.yes
  have HC := Lib.hid (wbyte_calls h m.yes hM.wf.yes (by omega))
  clear h hm hM
  go_enter Tryz.func36, Tryz.ntmps36
  go_wp2_with ((go_at_call 33; refine HC.out.mono ?_; rintro _ w2 ⟨rfl, k2⟩))
  go_end0
  exact ⟨rfl, k2⟩
set_option maxRecDepth 100000 in
set_option maxHeartbeats 400000 in
theorem put_item (h : Wr w 73 g l a cap) (hm : MsWr w b m ad c g) (hmay : Fd.may m .item = true) (hl : l.length ≤ 549755813888) :
    Calls Tryz.prog 36 #[.pointer (some ⟨b, 0, none⟩), .pointer (some ⟨g, 0, none⟩), .int .u64 256] w fun e w' => e = .returned (.tuple #[]) ∧ WrTo w w' 73 g (l ++ itemC.put m.item) := by
  have hM := hm.ms
  have hle := Fd.put_le .item m (Fd.may_may hm.ms.wf .item hmay)
  have sg := hM.item
  have l13 := itemv_length hM.wf.item
  have hv := (itemMay_may hM.wf.item hmay).2.1
  have hv : m.item.2.1.length ≤ 64 := hv
  have HC := Lib.hid (putItem_calls h m.item hM.wf.item (by omega))
  clear h hm hM
  go_enter Tryz.func36, Tryz.ntmps36
  go_wp2_with (first
    | (with_reducible refine wpList_ld rfl 32 _ rfl Tryz.isAgg32 13 Tryz.sizeOf32 b 19 rfl (itemv m.item) l13 sg ?_)
    | (go_at_call 82; refine HC.out.mono ?_; rintro _ w2 ⟨rfl, k2⟩))
  go_end0
  exact ⟨rfl, k2⟩
set_option maxRecDepth 100000 in
set_option maxHeartbeats 400000 in
theorem put_writes (h : Wr w 73 g l a cap) (hm : MsWr w b m ad c g) (hmay : Fd.may m .writes = true) (hl : l.length ≤ 549755813888) :
    Calls Tryz.prog 36 #[.pointer (some ⟨b, 0, none⟩), .pointer (some ⟨g, 0, none⟩), .int .u64 512] w fun e w' => e = .returned (.tuple #[]) ∧ WrTo w w' 73 g (l ++ writesC.put m.writes) := by
  have hM := hm.ms
  have hle := Fd.put_le .writes m (Fd.may_may hm.ms.wf .writes hmay)
  have c0 := hM.writes
  have hle : (writesC.put m.writes).length ≤ 1521 := hle
  have HC := Lib.hid (putWrites_calls h m.writes m.writes.length rfl ad c hM.wf.writes hM.rd (fun x hx => ⟨hM.lt x hx, hm.offs x hx⟩) (by omega) (by have h2 := hmay; unfold Fd.may writesMay at h2; rw [Bool.and_eq_true, decide_eq_true_eq] at h2; have := h2.2; omega))
  clear h hm hM
  go_enter Tryz.func36, Tryz.ntmps36
  go_wp2_with ((go_at_call 83; refine HC.out.mono ?_; rintro _ w2 ⟨rfl, k2⟩))
  go_end0
  exact ⟨rfl, k2⟩
theorem mput_calls (h : Wr w 73 g l a cap) (hm : MsWr w b m ad c g) (f : Fd) (hmay : f.may m = true) (hl : l.length ≤ 549755813888) :
    Calls Tryz.prog 36 #[.pointer (some ⟨b, 0, none⟩), .pointer (some ⟨g, 0, none⟩), .int .u64 (f.num : Nat)] w fun e w' => e = .returned (.tuple #[]) ∧ WrTo w w' 73 g (l ++ f.put m) := by
  cases f
  · exact put_tx h hm hmay hl
  · exact put_time h hm hmay hl
  · exact put_reg h hm hmay hl
  · exact put_key h hm hmay hl
  · exact put_mode h hm hmay hl
  · exact put_no h hm hmay hl
  · exact put_why h hm hmay hl
  · exact put_yes h hm hmay hl
  · exact put_item h hm hmay hl
  · exact put_writes h hm hmay hl

set_option maxHeartbeats 400000 in
theorem encFn_calls (h : Wr w 73 g l a cap) (hm : MsWr w b m ad c g) (f : Fd) (hmay : f.may m = true) (hl : l.length ≤ 549755813888) :
    Calls Tryz.prog 35 #[.int .u64 (f.num : Nat), .pointer (some ⟨b, 0, none⟩), .pointer (some ⟨g, 0, none⟩)] w fun e w' => e = .returned (.tuple #[]) ∧ WrTo w w' 73 g (l ++ f.put m) := by
  have HC := Lib.hid (mput_calls h hm f hmay hl)
  clear h hm
  generalize f.num = n at *
  go_enter Tryz.func35, Tryz.ntmps35
  go_wp2_with (go_at_call 36; refine HC.out.mono ?_; rintro _ w2 ⟨rfl, k2⟩)
  go_end0
  exact ⟨rfl, k2⟩
end
end Go.Proofs.YtjfmidcaekhhgaaGreatDoor

namespace Go.Proofs.YtjfmidcaekhhgaaGreatDoor
open Go.RowKit Go.PM

/-- The first fields of a kind. -/
def idxTo (k : Nat) : Nat → List Fd
  | 0 => []
  | i + 1 => idxTo k i ++ if Fd.at_ i ∈ idx k then [Fd.at_ i] else []
theorem idxTo_all (k : Nat) : idxTo k 10 = idx k := by
  rcases idx_cases k with h | h | h | h | h | h | h | h | h | h | h | h
  · rw [h]; simp [idxTo, h]
  all_goals subst h; decide
theorem idxTo_mem (k i : Nat) {f : Fd} (h : f ∈ idxTo k i) : f ∈ idx k := by
  induction i with
  | zero => cases h
  | succ i ih =>
    rw [idxTo, List.mem_append] at h
    rcases h with h | h
    · exact ih h
    · split at h
      · simp only [List.mem_singleton] at h; subst h; assumption
      · cases h
theorem Fd.most_le (f : Fd) : f.most ≤ 1521 := by cases f <;> decide
theorem puts_to_le {m : PMsg} (hw : m.Wf) (h : mMay m = true) (i : Nat) : (Fd.puts (idxTo m.kind i) m).length ≤ 1521 * i := by
  have hmay : ∀ f ∈ idx m.kind, f.may m = true := fun f hf => by
    have := mMay_ok h f
    unfold Fd.ok at this
    rwa [if_pos hf] at this
  induction i with
  | zero => exact Nat.le_refl _
  | succ i ih =>
    have e : Fd.puts (idxTo m.kind (i + 1)) m = Fd.puts (idxTo m.kind i) m ++ Fd.puts (if Fd.at_ i ∈ idx m.kind then [Fd.at_ i] else []) m := by simp [idxTo, Fd.puts]
    rw [e, List.length_append]
    split
    · rename_i hin
      have h1 := Fd.put_le (Fd.at_ i) m (Fd.may_may hw _ (hmay _ hin))
      have h2 := (Fd.at_ i).most_le
      simp only [Fd.puts, List.flatMap_cons, List.flatMap_nil, List.append_nil] at *
      omega
    · simp only [Fd.puts, List.flatMap_nil, List.length_nil]; simp only [Fd.puts] at ih; omega

section
variable {w : World} {b g c cap : Nat} {m : PMsg} {ad a : Option Addr} {l : List UInt8}
def EaRel (w0 : World) (b : Nat) (m : PMsg) (ad : Option Addr) (c g : Nat) (l : List UInt8) (f : Value) (wr : World) : Prop :=
  ∃ i : Nat, i ≤ 10 ∧ f = .int .u64 ((2 ^ i : Nat) : Int) ∧ WrTo w0 wr 73 g (l ++ Fd.puts (idxTo m.kind i) m) ∧ MsWr wr b m ad c g

set_option maxRecDepth 100000 in
set_option maxHeartbeats 1000000 in
theorem each_enc (h : Wr w 73 g l a cap) (hm : MsWr w b m ad c g) (hmay : mMay m = true) (hl : l.length ≤ 1000) :
    Calls Tryz.prog 34 #[.int .u8 m.kind, .func (.func 35) #[] #[.pointer (some ⟨b, 0, none⟩), .pointer (some ⟨g, 0, none⟩)]] w fun e w' => e = .returned (.tuple #[]) ∧ WrTo w w' 73 g (l ++ Fd.puts (idx m.kind) m) := by
  have hwf := hm.ms.wf
  have HP := Lib.hid (puts_to_le hwf hmay)
  have HMY := Lib.hid (fun (f : Fd) (hf : f ∈ idx m.kind) => show f.may m = true by
    have := mMay_ok hmay f
    unfold Fd.ok at this
    rwa [if_pos hf] at this)
  have HF := Lib.hid (fun w => fields_calls (w := w) m.kind hwf.kind)
  have k0 : WrTo w w 73 g (l ++ Fd.puts (idxTo m.kind 0) m) := by
    have := h.no (Kept.refl No w)
    simpa [idxTo, Fd.puts] using this
  clear h hmay
  go_enter Tryz.func34, Tryz.ntmps34
  go_wp2_with (go_at_call 48; refine (HF.out _).mono ?_; rintro _ _ ⟨rfl, rfl⟩)
  go_loopw [5] (fun f wr => EaRel w b m ad c g l f wr) (fun f _ => logOf f)
  case atStart => exact ⟨0, by omega, rfl, k0, hm⟩
  case round =>
    clear k0 hm
    obtain ⟨i, hi, rfl, hv, hm⟩ := hrel
    by_cases hlt : i < 10
    · have hn := Fd.at_n hlt
      have hand := mask_and m.kind (Fd.at_ i)
      have hpow : 2 ^ i = (Fd.at_ i).num := by unfold Fd.num; rw [hn]
      have hle : (Fd.at_ i).num ≤ 512 := by cases Fd.at_ i <;> decide
      have hpos : 0 < (Fd.at_ i).num := by cases Fd.at_ i <;> decide
      have hnext : 2 ^ (i + 1) = 2 * (Fd.at_ i).num := by rw [Nat.pow_succ, hpow, Nat.mul_comm]
      have hp := HP.out i
      have HE := fun hf => Lib.hid (encFn_calls hv.wr.choose_spec.choose_spec hm (Fd.at_ i) (HMY.out _ hf) (by rw [List.length_append]; omega))
      have hto : Fd.puts (idxTo m.kind (i + 1)) m = Fd.puts (idxTo m.kind i) m ++ if Fd.at_ i ∈ idx m.kind then (Fd.at_ i).put m else [] := by
        simp only [idxTo, Fd.puts, List.flatMap_append]
        split <;> simp
      rw [hpow]
      generalize hF : (Fd.at_ i) = F at *
      generalize hN : F.num = N at *
      have l1 : (N : Int) < 1024 := by omega
      have hval : (N : Int) * 2 = ((2 ^ (i + 1) : Nat) : Int) := by rw [hnext]; omega
      have HV := Lib.hid hval
      have hlog : logOf (.int .u64 ((N : Int) * 2)) < logOf (.int .u64 (N : Int)) := by simp only [logOf, intOf]; omega
      have HL := Lib.hid hlog
      clear hval hlog hnext hF hpow hp
      by_cases hin : F ∈ idx m.kind
      · rw [if_pos hin] at hand hto
        have hne : ((N : Int) == 0) = false := beq_eq_false_iff_ne.2 (by omega)
        have HT := Lib.hid hto
        have HE2 := HE hin
        clear hto HE hin
        go_wp2_with (go_at_call 35; refine HE2.out.mono ?_; rintro _ w2 ⟨rfl, k2⟩)
        exact ⟨⟨i + 1, by omega, by rw [HV.out], by rw [HT.out, ← List.append_assoc]; exact hv.trans k2, hm.to k2⟩, HL.out⟩
      · rw [if_neg hin, List.append_nil] at hto
        rw [if_neg hin] at hand
        have HT := Lib.hid hto
        clear hto HE hin
        go_wp2
        exact ⟨⟨i + 1, by omega, by rw [HV.out], by rw [HT.out]; exact hv, hm⟩, HL.out⟩
    · obtain rfl : i = 10 := by omega
      rw [idxTo_all] at hv
      go_wp2
      go_end0
      exact ⟨rfl, hv⟩

/-- What Encode answers. -/
def EncPost (w : World) (m : PMsg) (e : Ending) (w' : World) : Prop :=
  if mMay m = true then ∃ a cap, e = .returned (.tuple #[.slice a (mEnc m).length cap, .int .i64 0]) ∧ Owns w' 5 1 a (mEnc m).length cap (bcells (mEnc m)) ∧ Kept No w w' ∧ ∀ k, At a k → w.heap.size ≤ k
  else e = .returned (.tuple #[.slice none 0 0, .int .i64 1]) ∧ Kept No w w'

set_option maxRecDepth 100000 in
set_option maxHeartbeats 1000000 in
theorem encode_calls (m : PMsg) (hm : m.Wf) (hs : m.Sm) (hr : Rd w ad (pwsv m.writes)) (hat : ∀ b, At ad b → b < w.heap.size) :
    Calls Tryz.prog 10 #[.agg (msgv m ad c).toArray] w (EncPost w m) := by
  have B0 := Blk.new w 42 (msgv m ad c)
  have K0 := (Kept.refl No w).alloc (.cells (msgv m ad c).toArray 42)
  have M0 : Ms (w.alloc (.cells (msgv m ad c).toArray 42)) 42 w.heap.size m ad c := ⟨B0, hr.keptNo K0, fun b hb => by rw [World.size_alloc]; exact Nat.lt_succ_of_lt (hat b hb), hm, hs⟩
  have l33 := msgv_length hm ad c
  have S0 := B0.seg0
  have HM := Lib.hid (mMay_calls (w := w.alloc (.cells (msgv m ad c).toArray 42)) (c := c) m hm hs M0.rd M0.lt)
  cases hmay : mMay m
  · have HP : ∀ e w', (e = .returned (.tuple #[.slice none 0 0, .int .i64 1]) ∧ Kept No w w') → EncPost w m e w' := fun e w' h => by unfold EncPost; rw [hmay, if_neg (by decide)]; exact h
    have HP := Lib.hid HP
    rw [hmay] at HM
    clear hr hat M0 hmay
    go_enter Tryz.func10, Tryz.ntmps10
    go_wp2_with (first
      | (with_reducible refine wpList_ld rfl 42 _ rfl Tryz.isAgg42 33 Tryz.sizeOf42 w.heap.size 0 rfl (msgv m ad c) l33 S0 ?_)
      | (go_at_call 19; refine HM.out.mono ?_; rintro _ w2 ⟨rfl, k2⟩))
    go_ret2
    exact HP.out _ _ ⟨rfl, K0.trans k2 fun _ _ h => h⟩
  · have HP : ∀ e w', (∃ a cap, e = .returned (.tuple #[.slice a (mEnc m).length cap, .int .i64 0]) ∧ Owns w' 5 1 a (mEnc m).length cap (bcells (mEnc m)) ∧ Kept No w w' ∧ ∀ k, At a k → w.heap.size ≤ k) → EncPost w m e w' := fun e w' h => by unfold EncPost; rw [hmay, if_pos rfl]; exact h
    have HP := Lib.hid HP
    rw [hmay] at HM
    have hk := hm.kind
    have hlen := rfl (a := (mEnc m).length)
    have henc := mEnc_le hm hmay
    have HE := Lib.hid (show [UInt8.ofNat m.kind] ++ Fd.puts (idx m.kind) m = mEnc m from rfl)
    have HMY := Lib.hid hmay
    have HWr := Lib.hid (fun (w2 : World) (k2 : Kept No (w.alloc (.cells (msgv m ad c).toArray 42)) w2) => (show Wr (w2.alloc (.cells #[.slice none 0 0] 73)) 73 w2.heap.size [] none 0 from
      ⟨Blk.new w2 73 [.slice none 0 0], Owns.nil _ _ _, fun k ⟨_, _, h, _⟩ => nomatch h⟩))
    have HMW := Lib.hid (fun (w2 : World) (k2 : Kept No (w.alloc (.cells (msgv m ad c).toArray 42)) w2) => (show MsWr (w2.alloc (.cells #[.slice none 0 0] 73)) w.heap.size m ad c w2.heap.size from by
      have h1 := HWr.out w2 k2
      have hm2 := M0.keptNo (k2.alloc (.cells #[.slice none 0 0] 73))
      have hof : ∀ k, k < w2.heap.size → ¬ WrS (w2.alloc (.cells #[.slice none 0 0] 73)) 73 w2.heap.size k := fun k hk hs => by
        rcases (h1.foot k).1 hs with e | ⟨_, _, e, _⟩
        · omega
        · cases e
      exact ⟨hm2, hof _ (k2.lt M0.box.lt), fun k hk => hof _ (k2.lt (M0.lt k hk))⟩))
    have hmf : ∀ (fn : Fn) (first cap : Array Value) (w : World), (Instr.makeFunc fn first cap).run Tryz.prog w = .ok (.func fn first cap) w := fun _ _ _ _ => rfl
    clear hr hat hmay
    go_enter Tryz.func10, Tryz.ntmps10
    go_wp2_with (first
      | (with_reducible refine wpList_ld rfl 42 _ rfl Tryz.isAgg42 33 Tryz.sizeOf42 w.heap.size 0 rfl (msgv m ad c) l33 S0 ?_)
      | (go_at_call 19; refine HM.out.mono ?_; rintro _ w2 ⟨rfl, k2⟩; have m2 := HMW.out w2 k2; have c2 := m2.ms.kind)
      | (go_at_call 33; refine (wbyte_calls (HWr.out w2 k2) m.kind hk (by simp)).mono ?_; rintro _ w3 ⟨rfl, k3⟩; have m3 := m2.to k3; clear c2; have c3 := m3.ms.kind)
      | (go_at_call 34; refine (each_enc k3.wr.choose_spec.choose_spec m3 HMY.out (by simp)).mono ?_; rintro _ w4 ⟨rfl, k4⟩; clear c3)
      | (go_at_call 37; refine (wbytes_calls k4.wr.choose_spec.choose_spec (by rw [List.nil_append, HE.out]; omega)).mono ?_; rintro _ w5 ⟨a5, c5, rfl, o5, k5, t5⟩))
    rw [List.nil_append, HE.out] at o5
    go_ret2
    have hwr := HWr.out w2 k2
    have hge : w.heap.size ≤ w2.heap.size := by have := k2.size; rw [World.size_alloc] at this; omega
    have k6 := ((K0.trans k2 fun _ _ h => h).alloc (.cells #[.slice none 0 0] 73)).above (k3.trans k4).kept fun b hb => by
      rcases (hwr.foot b).1 hb with e | ⟨_, _, e, _⟩
      · omega
      · cases e
    refine HP.out _ _ ⟨a5, c5, ?_, o5, k6.trans k5 fun _ _ h => h, fun k hk => Nat.le_trans k6.size (t5 k hk)⟩
    rw [← HE.out]; rfl
end
end Go.Proofs.YtjfmidcaekhhgaaGreatDoor
