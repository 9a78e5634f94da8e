/- The document's Encode of a message: a walk. Printed by gen_rfn.py. -/
import Derived.Test.YtjfmidcaekhhgaaGreatDoorRfM
namespace Go.Proofs.YtjfmidcaekhhgaaGreatDoor
open Go.RowKit Go.PM

/-- A message and a writer, apart (the document's). -/
structure MsRw (w : World) (b : Nat) (m : PMsg) (ad : Option Addr) (c : Nat) (g : Nat) : Prop where
  ms : Ms w 35 b m ad c
  off : ¬ WrS w 82 g b
  offs : ∀ k, At ad k → ¬ WrS w 82 g k
theorem MsRw.to {w w' : World} {b g c : Nat} {m : PMsg} {ad : Option Addr} {l : List UInt8} (h : MsRw w b m ad c g) (k : WrTo w w' 82 g l) : MsRw w' b m ad c g :=
  ⟨h.ms.kept k.kept h.off h.offs, k.offs h.off h.ms.box.lt, fun x hx => k.offs (h.offs x hx) (h.ms.lt x hx)⟩
theorem puts_take_le (l : List Fd) (m : PMsg) (j : Nat) : (Fd.puts (l.take j) m).length ≤ (Fd.puts l m).length := by
  have e : Fd.puts l m = Fd.puts (l.take j) m ++ Fd.puts (l.drop j) m := by
    unfold Fd.puts
    rw [← List.flatMap_append, List.take_append_drop]
  rw [e, List.length_append]; omega
theorem fdputs_step (l : List Fd) (m : PMsg) {j : Nat} {f : Fd} (h : l[j]? = some f) : Fd.puts (l.take (j + 1)) m = Fd.puts (l.take j) m ++ f.put m := by
  obtain ⟨hlt, hf⟩ := List.getElem?_eq_some_iff.1 h
  rw [List.take_succ_eq_append_getElem hlt, hf]
  simp [Fd.puts]
def reL (m : PMsg) (j : Nat) : List UInt8 := [UInt8.ofNat m.kind] ++ Fd.puts ((idx m.kind).take j) m
structure ReRel (w0 : World) (b : Nat) (m : PMsg) (ad : Option Addr) (c g : Nat) (i : Value) (wr : World) : Prop where
  ex : ∃ j : Nat, j ≤ (idx m.kind).length ∧ i = .int .i64 j ∧ WrTo w0 wr 82 g (reL m j)
  ms : MsRw wr b m ad c g
section
variable {w : World} {b g c cap : Nat} {m : PMsg} {ad a : Option Addr}
set_option maxRecDepth 100000 in
set_option maxHeartbeats 2000000 in
theorem refEncode_calls (m : PMsg) (hm : m.Wf) (hs : m.Sm) (hr : Rd w ad (pwsv m.writes)) (hat : ∀ b, At ad b → b < w.heap.size) :
    Calls Tryz.prog 12 #[.agg (msgv m ad c).toArray] w (EncPost w m) := by
  have B0 := Blk.new w 35 (msgv m ad c)
  have K0 := (Kept.refl No w).alloc (.cells (msgv m ad c).toArray 35)
  have M0 : Ms (w.alloc (.cells (msgv m ad c).toArray 35)) 35 w.heap.size m ad c := ⟨B0, hr.keptNo K0, fun b hb => by rw [World.size_alloc]; exact Nat.lt_succ_of_lt (hat b hb), hm, hs⟩
  have l33 := msgv_length hm ad c
  have S0 := B0.seg0
  have HM := Lib.hid (refMay_msg (w := w.alloc (.cells (msgv m ad c).toArray 35)) m hm hs ad c M0.rd M0.lt)
  cases hmay : mMay m
  · have HP : ∀ e w', (e = .returned (.tuple #[.slice none 0 0, .int .i64 1]) ∧ Kept No w w') → EncPost w m e w' := fun e w' h => by unfold EncPost; rw [hmay, if_neg (by decide)]; exact h
    have HP := Lib.hid HP
    rw [hmay] at HM
    clear hr hat M0 hmay
    go_enter Tryz.func12, Tryz.ntmps12
    go_wp2_with (first
      | (with_reducible refine wpList_ld rfl 35 _ rfl Tryz.isAgg35 33 Tryz.sizeOf35 w.heap.size 0 rfl (msgv m ad c) l33 S0 ?_)
      | (go_at_call 20; refine HM.out.mono ?_; rintro _ w2 ⟨rfl, k2⟩))
    go_ret2
    exact HP.out _ _ ⟨rfl, K0.trans k2 fun _ _ h => h⟩
  have HP : ∀ e w', (∃ a cap, e = .returned (.tuple #[.slice a (mEnc m).length cap, .int .i64 0]) ∧ Owns w' 5 1 a (mEnc m).length cap (bcells (mEnc m)) ∧ Kept No w w' ∧ ∀ k, At a k → w.heap.size ≤ k) → EncPost w m e w' := fun e w' h => by unfold EncPost; rw [hmay, if_pos rfl]; exact h
  have HP := Lib.hid HP
  rw [hmay] at HM
  have hk := hm.kind
  have henc := mEnc_le hm hmay
  have HMY := Lib.hid (fun (f : Fd) (hf : f ∈ idx m.kind) => (show f.may m = true from by
    have := mMay_ok hmay f
    unfold Fd.ok at this
    rwa [if_pos hf] at this))
  have HWr := Lib.hid (fun (w2 : World) (k2 : Kept No (w.alloc (.cells (msgv m ad c).toArray 35)) w2) => (show Wr (w2.alloc (.cells #[.slice none 0 0] 82)) 82 w2.heap.size [] none 0 from
    ⟨Blk.new w2 82 [.slice none 0 0], Owns.nil _ _ _, fun k ⟨_, _, h, _⟩ => nomatch h⟩))
  have HMW := Lib.hid (fun (w2 : World) (k2 : Kept No (w.alloc (.cells (msgv m ad c).toArray 35)) w2) => (show MsRw (w2.alloc (.cells #[.slice none 0 0] 82)) w.heap.size m ad c w2.heap.size from by
    have h1 := HWr.out w2 k2
    have hm2 := M0.keptNo (k2.alloc (.cells #[.slice none 0 0] 82))
    have hof : ∀ k, k < w2.heap.size → ¬ WrS (w2.alloc (.cells #[.slice none 0 0] 82)) 82 w2.heap.size k := fun k hk hs => by
      rcases (h1.foot k).1 hs with e | ⟨_, _, e, _⟩
      · omega
      · cases e
    exact ⟨hm2, hof _ (k2.lt M0.box.lt), fun k hk => hof _ (k2.lt (M0.lt k hk))⟩))
  have HF := Lib.hid (fun w => refFields_calls (w := w) m.kind)
  have hfl : (fstr m.kind).length = (idx m.kind).length := by simp [fstr]
  have HJ := Lib.hid (fun (j : Nat) (f : Fd) (hf : (idx m.kind)[j]? = some f) => (show (fstr m.kind)[j]? = some f.ch by simp [fstr, hf]))
  generalize fstr m.kind = fs at *
  clear hr hat hmay
  go_enter Tryz.func12, Tryz.ntmps12
  go_wp2_with (first
    | (with_reducible refine wpList_ld rfl 35 _ rfl Tryz.isAgg35 33 Tryz.sizeOf35 w.heap.size 0 rfl (msgv m ad c) l33 S0 ?_)
    | (go_at_call 20; refine HM.out.mono ?_; rintro _ w2 ⟨rfl, k2⟩; have m2 := HMW.out w2 k2; have c2 := m2.ms.kind)
    | (go_at_call 38; refine (refByte_calls (HWr.out w2 k2) m.kind hk (by simp)).mono ?_; rintro _ w3 ⟨rfl, k3⟩; have m3 := m2.to k3; clear c2; have c3 := m3.ms.kind)
    | (go_at_call 39; refine (HF.out _).mono ?_; rintro _ w4 ⟨rfl, rfl⟩))
  have hwr := HWr.out w2 k2
  have hge : w.heap.size ≤ w2.heap.size := by have := k2.size; rw [World.size_alloc] at this; omega
  have k6 := (K0.trans k2 fun _ _ h => h).alloc (.cells #[.slice none 0 0] 82)
  have HEND := Lib.hid (show ∀ (wr : World), WrTo (w2.alloc (.cells #[.slice none 0 0] 82)) wr 82 w2.heap.size (mEnc m) → ∃ a cap, wr.cell? ⟨w2.heap.size, 0, none⟩ = some (.slice a (mEnc m).length cap) ∧ EncPost w m (.returned (.tuple #[.slice a (mEnc m).length cap, .int .i64 0])) wr from fun wr hT => by
    obtain ⟨a, cap, hW⟩ := hT.wr
    refine ⟨a, cap, hW.box.cell 0, HP.out _ _ ⟨a, cap, rfl, hW.own, k6.above hT.kept fun b hb => ?_, fun k hk => ?_⟩⟩
    · rcases (hwr.foot b).1 hb with e | ⟨_, _, e, _⟩
      · omega
      · cases e
    · rcases hT.foot k ((hW.foot k).2 (.inr hk)) with h1 | h1
      · rcases (hwr.foot k).1 h1 with e | ⟨_, _, e, _⟩
        · omega
        · cases e
      · rw [World.size_alloc] at h1; omega)
  clear HM HWr HMW HF S0 B0 M0 hwr k6 HP c3 m2 l33
  generalize w.heap.size = b at *
  generalize hg : w2.heap.size = g at *
  generalize (w2.alloc (.cells #[.slice none 0 0] 82)) = w0 at *
  go_loopw [6] (fun i wr => ReRel w0 b m ad c g i wr) (fun i _ => (idx m.kind).length - (intOf i).toNat)
  case atStart => exact ⟨⟨0, Nat.zero_le _, rfl, k3⟩, m3⟩
  case round =>
    clear k3 m3
    obtain ⟨⟨j, hj, rfl, hT⟩, hM⟩ := hrel
    have hL6 := idx_le m.kind
    by_cases hlt : j < (idx m.kind).length
    · obtain ⟨f, hf⟩ : ∃ f, (idx m.kind)[j]? = some f := ⟨_, List.getElem?_eq_getElem hlt⟩
      have hix := fun w' => run_index_str (P := Tryz.prog) (w := w') 9 fs j f.ch Tryz.ru_string (HJ.out j f hf)
      have hf64 := HMY.out f (List.mem_of_getElem? hf)
      have hLl : (reL m j).length ≤ 4096 := by
        have h1 := puts_take_le (idx m.kind) m j
        unfold mEnc at henc
        rw [List.length_cons] at henc
        unfold reL
        rw [List.length_append, List.length_singleton]
        omega
      have hstep : reL m (j + 1) = reL m j ++ f.put m := by unfold reL; rw [fdputs_step _ m hf, List.append_assoc]
      have HFIN := Lib.hid (show ∀ (wq : World) (i : Value), i = .int .i64 ((j + 1 : Nat) : Int) → WrTo wr wq 82 g (reL m j ++ f.put m) → ReRel w0 b m ad c g i wq from
        fun wq i h0 h1 => ⟨⟨j + 1, hlt, h0, by rw [hstep]; exact hT.trans h1⟩, hM.to h1⟩)
      obtain ⟨al, cap, hW⟩ := hT.wr
      have l8 : (bcells m.key).length = 8 := by rw [bcells_length, hm.key]
      have l13 := itemv_length hm.item
      have hltc : (j : Int) < fs.length := by omega
      clear hstep hT hf HJ HMY HEND
      generalize (idx m.kind).length = L at *
      generalize reL m j = R at *
      cases f
      case tx =>
        have hx : ∀ w', (Instr.index 9 (.string ⟨fs.toArray⟩) (.int .i64 j)).run Tryz.prog w' = .ok (.int .u8 116) w' := hix
        clear hix
        have sg := hM.ms.tx
        have HC := Lib.hid (refPutTx_calls hW m.tx hm.tx (by omega))
        clear hM hW
        go_wp2_with (first
          | (with_reducible refine wpList_ld rfl 24 _ rfl Tryz.isAgg24 3 Tryz.sizeOf24 b 1 rfl (txv m.tx) rfl sg ?_)
          | (go_at_call 40; refine HC.out.mono ?_; rintro _ w7 ⟨rfl, k7⟩))
        exact ⟨HFIN.out _ _ (by go_num) k7, by simp [intOf]; omega⟩
      case time =>
        have hx : ∀ w', (Instr.index 9 (.string ⟨fs.toArray⟩) (.int .i64 j)).run Tryz.prog w' = .ok (.int .u8 99) w' := hix
        clear hix
        have c1 := hM.ms.time
        have i1 : (m.time : Int) < 4294967296 := by have := hm.time; omega
        have HC := Lib.hid (refNum_calls hW m.time (by have := hm.time; omega) (by omega))
        clear hM hW
        go_wp2_with (go_at_call 41; refine HC.out.mono ?_; rintro _ w7 ⟨rfl, k7⟩)
        exact ⟨HFIN.out _ _ (by go_num) k7, by simp [intOf]; omega⟩
      case reg =>
        have hx : ∀ w', (Instr.index 9 (.string ⟨fs.toArray⟩) (.int .i64 j)).run Tryz.prog w' = .ok (.int .u8 103) w' := hix
        clear hix
        have sg := hM.ms.reg
        have HC := Lib.hid (refPutReg_calls hW m.reg hm.reg (by omega))
        clear hM hW
        go_wp2_with (first
          | (with_reducible refine wpList_ld rfl 26 _ rfl Tryz.isAgg26 2 Tryz.sizeOf26 b 5 rfl (regv m.reg) rfl sg ?_)
          | (go_at_call 42; refine HC.out.mono ?_; rintro _ w7 ⟨rfl, k7⟩))
        exact ⟨HFIN.out _ _ (by go_num) k7, by simp [intOf]; omega⟩
      case key =>
        have hx : ∀ w', (Instr.index 9 (.string ⟨fs.toArray⟩) (.int .i64 j)).run Tryz.prog w' = .ok (.int .u8 107) w' := hix
        clear hix
        have sg := hM.ms.key
        have HC := Lib.hid (refKey_calls hW m.key hm.key (by omega))
        clear hM hW
        go_wp2_with (first
          | (with_reducible refine wpList_ld rfl 28 _ rfl Tryz.isAgg28 8 Tryz.sizeOf28 b 7 rfl (bcells m.key) l8 sg ?_)
          | (go_at_call 43; refine HC.out.mono ?_; rintro _ w7 ⟨rfl, k7⟩))
        exact ⟨HFIN.out _ _ (by go_num) k7, by simp [intOf]; omega⟩
      case mode =>
        have hx : ∀ w', (Instr.index 9 (.string ⟨fs.toArray⟩) (.int .i64 j)).run Tryz.prog w' = .ok (.int .u8 109) w' := hix
        clear hix
        have c1 := hM.ms.mode
        have HC := Lib.hid (refByte_calls hW m.mode hm.mode (by omega))
        clear hM hW
        go_wp2_with (go_at_call 38; refine HC.out.mono ?_; rintro _ w7 ⟨rfl, k7⟩)
        exact ⟨HFIN.out _ _ (by go_num) k7, by simp [intOf]; omega⟩
      case no =>
        have hx : ∀ w', (Instr.index 9 (.string ⟨fs.toArray⟩) (.int .i64 j)).run Tryz.prog w' = .ok (.int .u8 110) w' := hix
        clear hix
        have c1 := hM.ms.no_
        have i1 : (m.no : Int) < 4294967296 := by have := hm.no; omega
        have HC := Lib.hid (refNum_calls hW m.no (by have := hm.no; omega) (by omega))
        clear hM hW
        go_wp2_with (go_at_call 41; refine HC.out.mono ?_; rintro _ w7 ⟨rfl, k7⟩)
        exact ⟨HFIN.out _ _ (by go_num) k7, by simp [intOf]; omega⟩
      case why =>
        have hx : ∀ w', (Instr.index 9 (.string ⟨fs.toArray⟩) (.int .i64 j)).run Tryz.prog w' = .ok (.int .u8 119) w' := hix
        clear hix
        have c1 := hM.ms.why
        have i1 : (m.why : Int) < 256 := by have := hm.why; omega
        have HC := Lib.hid (refNum_calls hW m.why (by have := hm.why; omega) (by omega))
        clear hM hW
        go_wp2_with (go_at_call 41; refine HC.out.mono ?_; rintro _ w7 ⟨rfl, k7⟩)
        exact ⟨HFIN.out _ _ (by go_num) k7, by simp [intOf]; omega⟩
      case yes =>
        have hx : ∀ w', (Instr.index 9 (.string ⟨fs.toArray⟩) (.int .i64 j)).run Tryz.prog w' = .ok (.int .u8 121) w' := hix
        clear hix
        have c1 := hM.ms.yes
        have HC := Lib.hid (refByte_calls hW m.yes hm.yes (by omega))
        clear hM hW
        go_wp2_with (go_at_call 38; refine HC.out.mono ?_; rintro _ w7 ⟨rfl, k7⟩)
        exact ⟨HFIN.out _ _ (by go_num) k7, by simp [intOf]; omega⟩
      case item =>
        have hx : ∀ w', (Instr.index 9 (.string ⟨fs.toArray⟩) (.int .i64 j)).run Tryz.prog w' = .ok (.int .u8 105) w' := hix
        clear hix
        have sg := hM.ms.item
        have HC := Lib.hid (refPutItem_calls hW m.item hm.item (by have h2 := hf64; have : m.item.2.1.length ≤ 64 := (itemMay_may hm.item h2).2.1; omega))
        clear hM hW
        go_wp2_with (first
          | (with_reducible refine wpList_ld rfl 32 _ rfl Tryz.isAgg32 13 Tryz.sizeOf32 b 19 rfl (itemv m.item) l13 sg ?_)
          | (go_at_call 44; refine HC.out.mono ?_; rintro _ w7 ⟨rfl, k7⟩))
        exact ⟨HFIN.out _ _ (by go_num) k7, by simp [intOf]; omega⟩
      case writes =>
        have hx : ∀ w', (Instr.index 9 (.string ⟨fs.toArray⟩) (.int .i64 j)).run Tryz.prog w' = .ok (.int .u8 108) w' := hix
        clear hix
        have c1 := hM.ms.writes
        have HC := Lib.hid (refPutWrites_calls hW m.writes m.writes.length rfl ad c hm.writes hM.ms.rd (fun x hx => ⟨hM.ms.lt x hx, hM.offs x hx⟩) (by have : (writesC.put m.writes).length ≤ 1521 := Fd.put_le .writes m (Fd.may_may hm .writes hf64); omega) (by have h2 := hf64; unfold Fd.may writesMay at h2; rw [Bool.and_eq_true, decide_eq_true_eq] at h2; have := h2.2; omega))
        clear hM hW
        go_wp2_with (go_at_call 45; refine HC.out.mono ?_; rintro _ w7 ⟨rfl, k7⟩)
        exact ⟨HFIN.out _ _ (by go_num) k7, by simp [intOf]; omega⟩
    · have hge : (fs.length : Int) ≤ j := by omega
      have hR : reL m j = mEnc m := by unfold reL; rw [List.take_of_length_le (by omega)]; rfl
      rw [hR] at hT
      obtain ⟨a, cp, cw, hE⟩ := HEND.out wr hT
      have HE := Lib.hid hE
      clear hE hR hT HEND
      generalize (mEnc m).length = E at *
      go_wp2
      go_ret2
      exact HE.out
end
end Go.Proofs.YtjfmidcaekhhgaaGreatDoor
