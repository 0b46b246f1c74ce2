/- The calls of ThrottlePlays, as they lie in the argument; no condition. -/
import Derived.Test.YtbbmopekolgalaaTPlays
import Derived.Test.YtbbmopekolgalaaStr
set_option linter.unusedVariables false
set_option linter.unusedSimpArgs false
namespace Go.Proofs.Ytbbmopekolgalaa
open Go.ChangeShapes Go.WideShapes Go.RowKit Go.Deep

/-- The number that stands in a cell. -/
def numAt (w : World) (p : Addr) : Int := match w.cell? p with | some (.int _ z) => z | _ => 0

theorem call_fields : ∃ fs : Array Field, Try.prog.underlying 39 = some (.struct fs) ∧ fs.size = 4 ∧ oneCellFields Try.prog fs = true ∧ ∀ (j : Nat) (f : Field), fs[j]? = some f → f.type = 3 :=
  ⟨_, Try.underlying39, by kernel_rfl, by kernel_rfl, fun j f h => by
    match j, h with
    | 0, h => cases h; rfl
    | 1, h => cases h; rfl
    | 2, h => cases h; rfl
    | 3, h => cases h; rfl
    | j + 4, h => simp at h⟩

theorem row_calls {H : Type} {enc : TypeId × Value → H} {W : World} {base : Nat} {v : Value} {d : DataW H} {ps : List MemPlace} (hv : Value.okWide Try.prog W .any base 35 v) (h : DataW.Trod enc Try.prog W 0 (fun _ => true) true 35 v d ps) :
    ∃ (a : Option Addr) (len cap : Nat) (f : Nat → Nat → Int), v = .slice a len cap ∧ CallsAt W W.heap.size a len f := by
  obtain ⟨a, len, cap, rfl⟩ := okSlice Try.underlying35 hv
  obtain ⟨fuel, hf⟩ := h
  obtain ⟨fs, hu, hs, hone, hty⟩ := call_fields
  rcases row_structs Try.underlying35 hu hone (by rw [hs]; kernel_rfl) hf with hcs | ⟨x, l, c, hcs, hl, hm, hcell⟩
  · simp [Value.cells] at hcs
    obtain ⟨rfl, rfl, rfl⟩ := hcs
    exact ⟨none, 0, 0, fun _ _ => 0, rfl, by omega, fun i hi => by omega⟩
  · simp [Value.cells] at hcs
    obtain ⟨rfl, rfl, rfl⟩ := hcs
    rw [hs] at hcell
    refine ⟨some x, len, cap, fun i j => numAt W (x.add (i * 4 + j)), rfl, by unfold maxLen at hm; omega, fun i hi => ?_⟩
    have hx : x.block < W.heap.size := by
      obtain ⟨v, y, n, hc, _⟩ := hcell i (by omega) 0 _ (Array.getElem?_eq_getElem (by omega))
      have := World.block_lt_of_cell? W _ hc
      rwa [add_block] at this
    refine ⟨x, rfl, hx, fun j hj => ?_⟩
    have hj' : j < fs.size := by omega
    obtain ⟨v, y, n, hc, ht⟩ := hcell i (by omega) j _ (Array.getElem?_eq_getElem hj')
    rw [hty j _ (Array.getElem?_eq_getElem hj')] at ht
    obtain ⟨z, rfl, _⟩ := trod_num Try.underlying3 ht
    simp only [numAt, hc]
end Go.Proofs.Ytbbmopekolgalaa
