/- Arguments that are slices of whole numbers, read as lists; no condition. -/
import Derived.Test.YtapoeegnnkfgiaaProg
import Derived.WalkKit
import Derived.KernelRfl
import Derived.SizedLaws
import Derived.ChangeSlices
import Derived.Deep.Grids
import Derived.Lib.Hide
set_option linter.unusedVariables false
set_option linter.unusedSimpArgs false
namespace Go.Proofs.Ytapoeegnnkfgiaa
open Go.ChangeShapes Go.WideShapes Go.RowKit

/-- The slice (a, n) reads as the list zs of whole numbers of kind k, below block B. -/
def IntsAt (k : IntKind) (w : World) (B : Nat) (a : Option Addr) (n : Nat) (zs : List Int) : Prop :=
  zs.length = n ∧ n ≤ 9223372036854775807 ∧ ∀ j, j < n → ∃ ad, a = some ad ∧ ad.block < B ∧ w.cell? (ad.add j) = some (.int k (zs.getD j 0)) ∧ (Lit.int k (zs.getD j 0)).wf = true
theorem add_block (a : Addr) (n : Nat) : (a.add n).block = a.block := by unfold Addr.add; split <;> rfl
theorem IntsAt.below {k : IntKind} {w w' : World} {B n : Nat} {a : Option Addr} {zs : List Int} (h : IntsAt k w B a n zs) (hb : Below B w w') : IntsAt k w' B a n zs :=
  ⟨h.1, h.2.1, fun j hj => by
    obtain ⟨ad, e, hB, hc, hw⟩ := h.2.2 j hj
    exact ⟨ad, e, hB, (hb.cell (p := ad.add j) (by rw [add_block]; exact hB)).trans hc, hw⟩⟩
theorem okSlice {P : Program} {W : World} {base : Nat} {t e : TypeId} {v : Value} (hu : P.underlying t = some (.slice e)) (hv : Value.okWide P W .any base t v) : ∃ a len cap, v = .slice a len cap := okWide_slice hu hv

theorem row_ints {H : Type} {enc : TypeId × Value → H} {P : Program} {W : World} {base : Nat} {ts : List TypeId} {ds : List (DataW H)} {j t e : Nat} {k : IntKind} {b : Nat} {v : Value} {d : DataW H} {ps : List MemPlace}
    (hsz : (DataW.weightsEach P ts ds).all (· ≤ reachBytes) = true) (ht : ts[j]? = some t) (hd : ds[j]? = some d) (hu : P.underlying t = some (.slice e)) (he : P.underlying e = some (.int k)) (hc : P.cellsOf e = 1) (hB : P.bytesOf e = b)
    (hv : Value.okWide P W .any base t v) (h : DataW.Trod enc P W 0 (fun _ => true) true t v d ps) :
    ∃ (a : Option Addr) (len cap : Nat) (zs : List Int), v = .slice a len cap ∧ IntsAt k W W.heap.size a len zs ∧ (len * b ≤ 140737488351232 ∧ len ≤ cap) := by
  obtain ⟨a, len, cap, rfl⟩ := okSlice hu hv
  obtain ⟨fuel, hf⟩ := h
  rcases open_ints hu he hc hf with ⟨hcs, _⟩ | ⟨x, l, c, zs, hcs, _, hl, hm, hz, hx, hcell, hwf⟩
  · simp [Value.cells] at hcs
    obtain ⟨rfl, rfl, rfl⟩ := hcs
    exact ⟨none, 0, 0, [], rfl, ⟨rfl, by omega, fun j hj => by omega⟩, by simp, by omega⟩
  · simp [Value.cells] at hcs
    obtain ⟨rfl, rfl, rfl⟩ := hcs
    obtain ⟨hx, _⟩ := Prod.mk.inj hx
    subst hx
    have hz' : zs.length = cap := by simpa using hz
    refine ⟨some x, len, cap, zs.take len, rfl, ⟨by simp; omega, by unfold maxLen at hm; omega, fun j hj => ?_⟩, ?_, hl⟩
    · have hg : (zs.take len).getD j 0 = zs.getD j 0 := by simp [List.getD_eq_getElem?_getD, List.getElem?_take, hj]
      have hcj := hcell j (by omega)
      refine ⟨x, rfl, ?_, by rw [hg]; exact hcj, ?_⟩
      · have := World.block_lt_of_cell? W _ hcj
        rwa [add_block] at this
      · rw [hg]
        apply hwf
        rw [List.getD_eq_getElem?_getD, List.getElem?_eq_getElem (by omega)]
        exact List.getElem_mem _
    · have z := sized_slice hsz ht hd hu
      rw [hB] at z
      have h1 : (lits (H := H) k (zs.take len)).length + (lits (H := H) k (zs.drop len)).length = zs.length := by
        simp [lits]
        omega
      rw [h1] at z
      exact Nat.le_trans (Nat.mul_le_mul_right _ (by omega)) z
end Go.Proofs.Ytapoeegnnkfgiaa
