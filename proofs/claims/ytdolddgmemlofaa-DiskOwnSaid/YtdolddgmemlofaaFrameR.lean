/- The frame of a law's row, with the reach: what came in weighs no more than a machine bears. -/
import Derived.Test.YtdolddgmemlofaaFrame
import Derived.SizedLaws
namespace Go.Proofs.Ytdolddgmemlofaa
open Go.ChangeShapes Go.WideShapes Go.ChangeAt Go.RowKit Go.PM
set_option maxRecDepth 100000

/-- From a contract over readings to the row's step; the contract may lean on the arguments' weights. -/
theorem law_lifted_sized (F : Nat) (fn : Func) (s : ChangeSpec) (hfn : Try.prog.funcs[F]? = some fn) (hinit : Try.prog.inits.idxOf? F = none) (hrt : fn.resultTypes = #[4]) (hvars : s.vars = [])
    (hread : ∀ t ∈ fn.params.toList, Try.prog.readableRec t = true ∧ t < Try.prog.types.size)
    (hspec : ∀ (H : Type) (ds : List (DataW H)), ds.length = fn.params.toList.length → (s.fn H ds).results = [.lit (.bool true)] ∧ (s.fn H ds).args = ds ∧ (s.fn H ds).vars = [])
    (contract : ∀ (H : Type) (enc : TypeId × Value → H) (W : World) (base : Nat) (args : Array Value) (ds : List (DataW H)) (ps : List MemPlace), (∀ (j : Nat) t v, fn.params[j]? = some t → args[j]? = some v → Value.okWide Try.prog W .any base t v) →
      DataW.TrodAll enc Try.prog W 0 (fun _ => true) true fn.params.toList args.toList ds ps → (DataW.weightsEach Try.prog fn.params.toList ds).all (· ≤ reachBytes) = true → Calls Try.prog F args W fun e W' => e = .returned (.bool true) ∧ Kept No W W')
    (os : Os) (started : os.Started) (H : Type) (enc : TypeId × Value → H)
    (witness : ∃ (w : World) (tape : Tape) (i : Input), w.os = os ∧ (w.forCall tape i).Shaped Try.checked.prog ∧ i.vars = [] ∧ Input.okWide Try.checked.prog (w.forCall tape i) .any w.heap.size F i ∧
      s.pre6 enc Try.checked.prog fn [] false (w.forCall tape i).memory i.args ∧ ({} : Assume).holds Try.checked.prog (lone (Frame.enter Try.checked.prog F i.args .normal) [] (w.forCall tape i))) :
    ReturnsInHanded {} Try.checked os F .any (s.pre6 enc Try.prog fn [] false) (s.post enc Try.prog fn false true false false) := by
  refine returnsInHanded_of_change_sized (C := Try.checked) Try.own started hinit hfn witness ?_
  intro W base args ds gs before hval0 hW _ hz _
  have hval : ∀ (j : Nat) t v, fn.params[j]? = some t → args[j]? = some v → Value.okWide Try.prog W .any base t v := hval0
  have hW0 : DataW.Whole enc Try.prog fn.params.toList s.vars false W args.toList ds gs before := hW
  obtain ⟨p, q, hA, hV, hpq, _⟩ := hW0
  rw [hvars] at hV
  obtain ⟨hgs, _⟩ := trodVars_none hV
  have hz0 : (DataW.weightsEach Try.prog fn.params.toList ds).all (· ≤ reachBytes) = true := by
    have h1 : (DataW.weightsEach Try.prog (fn.params.toList ++ s.plain.varTypes Try.prog) (ds ++ gs)).all (· ≤ reachBytes) = true := hz
    have hv : s.plain.varTypes Try.prog = [] := by simp [ChangeSpec.plain, DataSpec.varTypes, hvars]
    rw [hgs, hv, List.append_nil, List.append_nil] at h1
    exact h1
  refine (contract H enc W base args ds p hval hA hz0).mono fun e W' ⟨he, hk⟩ => ?_
  have hlen := (trodAll_length hA).2
  exact ⟨_, he, law_post hrt hvars hread (by rw [hgs, List.append_nil]; exact hspec H ds hlen) hW hk⟩

section
variable {H : Type} {enc : TypeId × Value → H} {P : Program} {W : World} {fuel : Nat} {ts : List TypeId} {ds : List (DataW H)}
/-- How long a slice of bytes that came in may be. -/
theorem bytes_reach {t e : TypeId} {cs : List Value} {d : DataW H} {ps : List MemPlace} {j : Nat} {a : Option Addr} {n c : Nat} (ht : P.underlying t = some (.slice e)) (he : P.underlying e = some (.int .u8)) (hc : P.cellsOf e = 1) (hb : P.bytesOf e = 1)
    (h : DataW.trod enc P W 0 (fun _ => true) true fuel t cs = some (d, ps)) (hz : (DataW.weightsEach P ts ds).all (· ≤ reachBytes) = true) (hts : ts[j]? = some t) (hds : ds[j]? = some d) (hcs : cs = [.slice a n c]) : n ≤ 140737488351232 := by
  rcases open_ints ht he hc h with ⟨h1, _⟩ | ⟨ad, len, cap, zs, h1, _, hl, _, hzl, hx, _⟩
  · rw [hcs] at h1; simp at h1; omega
  · rw [hcs] at h1
    simp at h1 hzl
    simp only [Prod.mk.injEq] at hx
    obtain ⟨hx, _⟩ := hx
    subst hx
    have := sized_slice hz hts hds ht
    rw [hb] at this
    unfold reachBytes at this
    simp [lits] at this
    omega
end
end Go.Proofs.Ytdolddgmemlofaa
