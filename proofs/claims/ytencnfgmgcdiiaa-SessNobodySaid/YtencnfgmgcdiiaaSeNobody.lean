/- SessNobody: the walk. -/
import Derived.Test.YtencnfgmgcdiiaaSePA
import Derived.Test.YtencnfgmgcdiiaaSeOnce
import Derived.Test.YtencnfgmgcdiiaaSoG
namespace Go.Proofs.Ytencnfgmgcdiiaa
open Go.RowKit Go.PM
set_option maxRecDepth 100000

/-- Sixteen clients that come. -/
def ddOf (i : Nat) : List (UInt8 × PC) := (List.range (min i 16)).map fun k => (UInt8.ofNat k, ⟨1, true, .zero⟩)
theorem dd_keys (i : Nat) {c : UInt8} : c ∈ (ddOf i).map (·.1) ↔ c.toNat < min i 16 := by
  simp only [ddOf, List.map_map, List.mem_map, List.mem_range, Function.comp]
  constructor
  · rintro ⟨k, hk, rfl⟩
    rw [UInt8.toNat_ofNat']; omega
  · intro h
    exact ⟨c.toNat, h, by simp⟩
theorem getK_in {κ ν : Type} [DecidableEq κ] {D : List (κ × ν)} {k : κ} {v : ν} (h : getK D k = some v) : (k, v) ∈ D := by
  induction D with
  | nil => simp at h
  | cons p D ih =>
    rw [getK_cons] at h
    by_cases e : p.1 = k
    · rw [if_pos e] at h; cases h; subst e; exact .head _
    · rw [if_neg e] at h; exact .tail _ (ih h)
theorem dd_opn (i : Nat) {c : UInt8} (h : c ∈ (ddOf i).map (·.1)) : (lk (ddOf i) c).opn = true := by
  have hs := getK_mem.2 h
  obtain ⟨v, hv⟩ := Option.isSome_iff_exists.1 hs
  have hm := getK_in hv
  simp only [ddOf, List.mem_map, Prod.mk.injEq] at hm
  obtain ⟨k, _, _, e⟩ := hm
  unfold lk; rw [hv, ← e]; rfl
theorem dd_ok (i : Nat) : DOk (ddOf i) := by
  refine ⟨by simp [ddOf]; omega, fun c => ?_⟩
  cases hg : getK (ddOf i) c with
  | none => unfold lk; rw [hg]; simp [PC.zero]
  | some v =>
    have hm := getK_in hg
    simp only [ddOf, List.mem_map, Prod.mk.injEq] at hm
    obtain ⟨k, _, _, e⟩ := hm
    unfold lk; rw [hg, ← e]; simp
theorem dd_none {i : Nat} (hi : i < 256) (h : min i 16 ≤ i) : getK (ddOf i) (UInt8.ofNat i) = none := by
  cases hs : (getK (ddOf i) (UInt8.ofNat i)).isSome with
  | false => simpa using hs
  | true =>
    have := (dd_keys i).1 (getK_mem.1 hs)
    rw [UInt8.toNat_ofNat'] at this; omega
theorem dd_come_lt {i : Nat} (hi : i < 16) : pCome (ddOf i) (UInt8.ofNat i) 1 = (1, .zero, 0, ddOf (i + 1)) := by
  have hn := dd_none (i := i) (by omega) (by omega)
  have hl : (ddOf i).length = i := by simp [ddOf]; omega
  have e : putK (ddOf i) (UInt8.ofNat i) ⟨1, true, .zero⟩ = ddOf (i + 1) := by
    rw [putK_new (getK_none.1 hn)]
    have e1 : min i 16 = i := by omega
    have e2 : min (i + 1) 16 = i + 1 := by omega
    simp only [ddOf, e1, e2, List.range_succ, List.map_append, List.map_cons, List.map_nil]
  unfold pCome
  rw [hn, hl, e]
  have : ¬ i = 16 := by omega
  simp [PC.zero, this]
theorem dd_come_ge {i : Nat} (hi : 16 ≤ i) (h2 : i < 256) : pCome (ddOf i) (UInt8.ofNat i) 1 = (0, .zero, 5, ddOf (i + 1)) := by
  have hn := dd_none (i := i) h2 (by omega)
  have hl : (ddOf i).length = 16 := by simp [ddOf]; omega
  have e : ddOf (i + 1) = ddOf i := by
    have e1 : min i 16 = 16 := by omega
    have e2 : min (i + 1) 16 = 16 := by omega
    simp only [ddOf, e1, e2]
  unfold pCome
  rw [hn, hl, e]
  simp
theorem dd_all {S : List UInt8} (hp : S.Perm ((ddOf 18).map (·.1))) : (openOf (ddOf 18) S).length = 16 := by
  have h1 : S.length = 16 := by rw [hp.length_eq]; simp [ddOf]
  have h2 : ∀ S : List UInt8, (∀ c ∈ S, (lk (ddOf 18) c).opn = true) → (openOf (ddOf 18) S).length = S.length := by
    intro S
    induction S with
    | nil => intro _; rfl
    | cons c S ih =>
      intro h
      have hc : ((getK (ddOf 18) c).getD .zero).opn = true := h c (.head _)
      have := ih fun d hd => h d (.tail _ hd)
      simp only [openOf, List.filterMap_cons, hc, if_true, List.length_cons] at this ⊢
      omega
  rw [h2 S fun c hc => dd_opn 18 (hp.subset hc), h1]

def NobRel (w0 : World) (i : Value) (wr : World) : Prop := ∃ j : Nat, j ≤ 2 ∧ i = .int .i64 j ∧ Kept No w0 wr
def ManyRel (w0 : World) (p b : Nat) (i : Value) (wr : World) : Prop := ∃ j : Nat, j ≤ 18 ∧ i = .int .u8 j ∧ DeskB wr p b (ddOf j) ∧ Kept No w0 wr

set_option maxHeartbeats 8000000 in
theorem nobody_calls (c : UInt8) (s : Int) (a : PA) (w : World) (_hs0 : 0 ≤ s) (_hs1 : s < 4294967296) :
    Calls Try.prog 9 #[.agg #[.int .u8 c.toNat, .int .u32 s], .agg #[.int .i64 a.why, .int .u8 a.node, .int .u32 a.boot, .int .u32 a.num, .string a.val, .int .u32 a.ver]] w fun e w' => e = .returned (.bool true) ∧ Kept No w w' := by
  go_enter Try.func9, Try.ntmps9
  have B2 := Blk.new w 39 [.int .u8 c.toNat, .int .u32 s]
  have K2 := (Kept.refl No w).alloc (.cells #[.int .u8 c.toNat, .int .u32 s] 39)
  have s2 : (w.alloc (.cells #[.int .u8 c.toNat, .int .u32 s] 39)).heap.size = w.heap.size + 1 := World.size_alloc _ _
  have B3 := Blk.new (w.alloc (.cells #[.int .u8 c.toNat, .int .u32 s] 39)) 33 [.int .i64 a.why, .int .u8 a.node, .int .u32 a.boot, .int .u32 a.num, .string a.val, .int .u32 a.ver]
  have K3 := (Kept.refl No (w.alloc (.cells #[.int .u8 c.toNat, .int .u32 s] 39))).alloc (.cells #[.int .i64 a.why, .int .u8 a.node, .int .u32 a.boot, .int .u32 a.num, .string a.val, .int .u32 a.ver] 33)
  rw [s2] at B3
  go_upto_region 1 with (fail)
  have B2' := B2.kept K3 id
  have K23 := K2.transNo K3
  clear B2 K2 K3 s2
  simp only [List.toArray] at B3
  generalize World.alloc _ _ = w3 at *
  have hg3 : w.heap.size + 1 < w3.heap.size := B3.lt
  generalize w.heap.size = g2 at *
  have B4 := Blk.new w3 79 [.map none]
  have K4 := (Kept.refl No w3).alloc (.cells #[.map none] 79)
  have s4 : (w3.alloc (.cells #[.map none] 79)).heap.size = w3.heap.size + 1 := World.size_alloc _ _
  have B5 := Blk.new (w3.alloc (.cells #[.map none] 79)) 23 [.pointer none, .pointer (some ⟨w3.heap.size, 0, none⟩)]
  have K5 := (Kept.refl No (w3.alloc (.cells #[.map none] 79))).alloc (.cells #[.pointer none, .pointer (some ⟨w3.heap.size, 0, none⟩)] 23)
  rw [s4] at B5
  go_wp2
  have B4' := B4.kept K5 id
  have K45 := K4.transNo K5
  have K25 := K23.transNo K45
  have C2 := B2'.kept K45 id
  have C3 := B3.kept K45 id
  clear B4 K4 K5 s4 B2' B3 K23 K45
  generalize (w3.alloc _).alloc _ = w5 at *
  generalize w3.heap.size = g4 at *
  go_loopw [19] (fun i wr => NobRel w5 i wr) (fun i _ => 2 - (intOf i).toNat)
  case atStart => exact ⟨0, by omega, rfl, Kept.refl _ _⟩
  case round =>
    obtain ⟨j, hj, rfl, kr⟩ := hrel
    by_cases hlt : j < 2
    · have j0 : (0 : Int) ≤ j := by omega
      have j1 : (j : Int) < 2 := by omega
      have B5r := B5.kept kr id
      have B4r := B4'.kept kr id
      obtain ⟨qv, hcell, hno⟩ : ∃ qv, wr.cell? ⟨g4 + 1, j, none⟩ = some qv ∧ NoDesk wr qv := by
        have h01 : j = 0 ∨ j = 1 := by omega
        rcases h01 with rfl | rfl
        · exact ⟨_, B5r.cell 0, .inl rfl⟩
        · exact ⟨_, B5r.cell 1, .inr ⟨g4, rfl, B4r⟩⟩
      have D2 := C2.kept kr id
      have D3 := C3.kept kr id
      have e0 : wr.cell? ⟨g2, 0, none⟩ = some (.int .u8 c.toNat) := D2.cell 0
      have e1 : wr.cell? ⟨g2, 1, none⟩ = some (.int .u32 s) := D2.cell 1
      clear B5r B4r
      go_wp2_with fail
      refine (no_Come hno c s).mono ?_
      rintro _ w6 ⟨rfl, k6⟩
      clear e0 e1
      have K7 := k6.alloc (.cells #[.int .i64 0, .int .u8 0, .int .u32 0, .int .u32 0, .string ⟨#[]⟩, .int .u32 0] 40)
      have A7 := Blk.new w6 40 [.int .i64 0, .int .u8 0, .int .u32 0, .int .u32 0, .string ⟨#[]⟩, .int .u32 0]
      have hne := neqAns_same .zero (w6.alloc (.cells #[.int .i64 0, .int .u8 0, .int .u32 0, .int .u32 0, .string ⟨#[]⟩, .int .u32 0] 40))
      unfold PA.zero at hne
      dsimp only at hne
      have D2' := D2.kept K7 id
      have D3' := D3.kept K7 id
      have hno' := hno.kept K7 (fun _ => id)
      have e0 : (w6.alloc (.cells #[.int .i64 0, .int .u8 0, .int .u32 0, .int .u32 0, .string ⟨#[]⟩, .int .u32 0] 40)).cell? ⟨g2, 0, none⟩ = some (.int .u8 c.toNat) := D2'.cell 0
      have e1 : (w6.alloc (.cells #[.int .i64 0, .int .u8 0, .int .u32 0, .int .u32 0, .string ⟨#[]⟩, .int .u32 0] 40)).cell? ⟨g2, 1, none⟩ = some (.int .u32 s) := D2'.cell 1
      have e3 : (w6.alloc (.cells #[.int .i64 0, .int .u8 0, .int .u32 0, .int .u32 0, .string ⟨#[]⟩, .int .u32 0] 40)).cell? ⟨g2 + 1, 0, none⟩ = some (.int .i64 a.why) := D3'.cell 0
      obtain ⟨a0, a1, a2, a3, a4, a5⟩ := get6 A7
      go_wp2_with fail
      clear e0 e1 e3 a0 a1 a2 a3 a4 a5 hne A7
      generalize w6.alloc _ = w7 at *
      refine (no_Tell hno' c s ⟨a.why, 0, 0, 0, ⟨#[]⟩, 0⟩).mono ?_
      rintro _ w8 ⟨rfl, k8⟩
      have e0 : w8.cell? ⟨g2, 0, none⟩ = some (.int .u8 c.toNat) := (D2'.kept k8 id).cell 0
      have hno8 := hno'.kept k8 (fun _ => id)
      have HA := Lib.hid (no_All hno8)
      have HL := Lib.hid (no_Last hno8 c)
      have HV := Lib.hid (no_Leave hno8 c)
      clear hno hno' hno8 D2 D3 D2' D3'
      go_wp2_with fail
      refine HA.out.mono ?_
      rintro _ _ ⟨rfl, rfl⟩
      go_wp2_with fail
      refine HL.out.mono ?_
      rintro _ _ ⟨rfl, rfl⟩
      go_wp2_with fail
      refine HV.out.mono ?_
      rintro _ _ ⟨rfl, rfl⟩
      go_wp2
      go_roundw
      case rel => exact ⟨j + 1, by omega, by go_num, (kr.transNo K7).transNo k8⟩
      case measure => simp [intOf]; omega
    · have j1 : ¬ (j : Int) < 2 := by omega
      have KR := K25.transNo kr
      clear B5 B4' C2 C3 kr K25 hg3
      go_wp2_with fail
      refine (se_New wr).mono ?_
      rintro _ w2 ⟨p, b, rfl, d2, k2, hp, hb⟩
      have hwb : w.heap.size ≤ b := by have := KR.size; omega
      have K2 := KR.transNo k2
      clear k2 KR
      go_wp2
      go_loopw [71] (fun i wr => ManyRel w p b i wr) (fun i _ => 18 - (intOf i).toNat)
      case atStart => exact ⟨0, by omega, rfl, d2, K2⟩
      case round =>
        clear d2 K2
        obtain ⟨i, hi, rfl, dd, kk⟩ := hrel
        by_cases hi18 : i < 18
        · have i18 : (i : Int) < 18 := by omega
          have ei : ((UInt8.ofNat i).toNat : Int) = i := by rw [UInt8.toNat_ofNat']; omega
          have wi : IntKind.u8.wrap ((i : Int) + 1) = (i : Int) + 1 := by rw [IntKind.wrap_u8]; exact Int.emod_eq_of_lt (by omega) (by omega)
          by_cases h16 : i < 16
          · have i16 : decide ((i : Int) < 16) = true := decide_eq_true (by omega)
            have HC := come_eq dd (dd_ok i) (by decide) (by decide) (dd_come_lt h16)
            rw [ei] at HC
            unfold PA.zero at HC
            dsimp only at HC
            have HC' := Lib.hid HC
            clear HC
            go_wp2_with fail
            refine HC'.out.mono ?_
            rintro _ w6 ⟨rfl, d6, k6⟩
            have K7 := (Kept.refl No w6).alloc (.cells #[.int .i64 0, .int .u8 0, .int .u32 0, .int .u32 0, .string ⟨#[]⟩, .int .u32 0] 40)
            go_wp2
            go_roundw
            case rel => exact ⟨i + 1, by omega, by push_cast; rfl, d6.kept K7 id id, (kk.above k6 fun c e => by rw [e]; exact hwb).transNo K7⟩
            case measure => simp [intOf]; omega
          · have i16 : decide ((i : Int) < 16) = false := decide_eq_false (by omega)
            have HC := come_eq dd (dd_ok i) (by decide) (by decide) (dd_come_ge (by omega) (by omega))
            rw [ei] at HC
            unfold PA.zero at HC
            dsimp only at HC
            have HC' := Lib.hid HC
            clear HC
            go_wp2_with fail
            refine HC'.out.mono ?_
            rintro _ w6 ⟨rfl, d6, k6⟩
            have K7 := (Kept.refl No w6).alloc (.cells #[.int .i64 0, .int .u8 0, .int .u32 0, .int .u32 0, .string ⟨#[]⟩, .int .u32 0] 40)
            go_wp2
            go_roundw
            case rel => exact ⟨i + 1, by omega, by push_cast; rfl, d6.kept K7 id id, (kk.above k6 fun c e => by rw [e]; exact hwb).transNo K7⟩
            case measure => simp [intOf]; omega
        · have i18 : ¬ (i : Int) < 18 := by omega
          obtain rfl : i = 18 := by omega
          have HA := Lib.hid (se_All sortsTo16 (by decide) dd (dd_ok 18).len)
          go_wp2_with fail
          refine HA.out.mono ?_
          rintro _ w6 ⟨S, sa, sc, rfl, hpS, _, _, k6⟩
          rw [dd_all hpS]
          have d6 := dd.kept k6 id id
          have e3 : (getK (ddOf 18) 3).isSome = true := getK_mem.2 ((dd_keys 18).2 (by decide))
          have HL := se_Leave d6 3
          rw [e3] at HL
          have HL' := Lib.hid HL
          clear HL HA
          go_wp2_with fail
          refine HL'.out.mono ?_
          rintro _ w7 ⟨rfl, d7, k7⟩
          have e4 : (getK (delK (ddOf 18) 3) 3).isSome = false := by rw [getK_del]; rfl
          have HL := se_Leave d7 3
          rw [e4] at HL
          have HL' := Lib.hid HL
          clear HL
          go_wp2_with fail
          refine HL'.out.mono ?_
          rintro _ w8 ⟨rfl, d8, k8⟩
          go_wp2_with fail
          refine (alive_calls _).mono ?_
          rintro _ w9 ⟨rfl, k9⟩
          go_wp2
          go_ret
          exact ⟨rfl, (((kk.transNo k6).above k7 fun c e => by rw [e]; exact hwb).above k8 fun c e => by rw [e]; exact hwb).transNo k9⟩
end Go.Proofs.Ytencnfgmgcdiiaa
