/- The bools of DiskCuts, as they lie in the argument; no condition. -/
import Derived.Test.YtapoeegnnkfgiaaDCuts
set_option linter.unusedVariables false
set_option linter.unusedSimpArgs false
namespace Go.Proofs.Ytapoeegnnkfgiaa
open Go.ChangeShapes Go.WideShapes Go.RowKit Go.Deep

theorem row_bls {H : Type} {enc : TypeId × Value → H} {P : Program} {W : World} {base : Nat} {t e : Nat} {v : Value} {d : DataW H} {ps : List MemPlace} (hu : P.underlying t = some (.slice e)) (he : P.underlying e = some .bool) (hc : P.cellsOf e = 1)
    (hv : Value.okWide P W .any base t v) (h : DataW.Trod enc P W 0 (fun _ => true) true t v d ps) :
    ∃ (a : Option Addr) (len cap : Nat), v = .slice a len cap ∧ Bls W a len ∧ len ≤ 9223372036854775807 := by
  obtain ⟨a, len, cap, rfl⟩ := okSlice hu hv
  obtain ⟨fuel, hf⟩ := h
  rcases open_bools hu he hc hf with ⟨hcs, _⟩ | ⟨x, l, c, zs, hcs, _, hl, hm, _, hcell⟩
  · simp [Value.cells] at hcs
    obtain ⟨rfl, rfl, rfl⟩ := hcs
    exact ⟨none, 0, 0, rfl, fun i hi => by omega, by omega⟩
  · simp [Value.cells] at hcs
    obtain ⟨rfl, rfl, rfl⟩ := hcs
    refine ⟨some x, len, cap, rfl, fun k hk => ?_, by unfold maxLen at hm; omega⟩
    have h1 := hcell k (by omega)
    refine ⟨x, rfl, ?_, _, h1⟩
    have := World.block_lt_of_cell? W _ h1
    rwa [add_block] at this
end Go.Proofs.Ytapoeegnnkfgiaa
