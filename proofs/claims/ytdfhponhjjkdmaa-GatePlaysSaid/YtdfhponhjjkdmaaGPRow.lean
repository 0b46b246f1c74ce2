/- The calls of GatePlays, as they lie in the argument; no condition. -/
import Derived.Test.YtdfhponhjjkdmaaGPlays
import Derived.Test.YtdfhponhjjkdmaaStr
set_option linter.unusedVariables false
set_option linter.unusedSimpArgs false
namespace Go.Proofs.Ytdfhponhjjkdmaa
open Go.ChangeShapes Go.WideShapes Go.RowKit Go.Deep

theorem call_fields : ∃ (fs : Array Field) (f0 f1 f2 : Field), Try.prog.underlying 39 = some (.struct fs) ∧ fs.size = 3 ∧ oneCellFields Try.prog fs = true ∧ fs[0]? = some f0 ∧ fs[1]? = some f1 ∧ fs[2]? = some f2 ∧ f0.type = 4 ∧ f1.type = 9 ∧ f2.type = 9 :=
  ⟨_, _, _, _, Try.underlying39, by kernel_rfl, by kernel_rfl, rfl, rfl, rfl, rfl, rfl, rfl⟩
theorem off_add {x : Addr} {w : World} {v : Value} (i : Nat) (h : w.cell? x = some v) : x.add i = ⟨x.block, x.off + i, none⟩ := by
  obtain ⟨_, _, _, _, hs⟩ := World.shape?_of_cell? h
  unfold Addr.add
  split
  · rename_i h0
    subst h0
    obtain ⟨b, o, s⟩ := x
    have hs' : s = none := hs
    rw [hs']
    rfl
  · rfl
theorem row_calls {H : Type} {enc : TypeId × Value → H} {W : World} {base : Nat} {v : Value} {d : DataW H} {ps : List MemPlace} (hv : Value.okWide Try.prog W .any base 34 v) (h : DataW.Trod enc Try.prog W 0 (fun _ => true) true 34 v d ps) :
    ∃ (a : Option Addr) (len cap : Nat), v = .slice a len cap ∧ Cls W a len ∧ len ≤ 9223372036854775807 := by
  obtain ⟨a, len, cap, rfl⟩ := okSlice Try.underlying34 hv
  obtain ⟨fuel, hf⟩ := h
  obtain ⟨fs, f0, f1, f2, hu, hs, hone, e0, e1, e2, t0, t1, t2⟩ := call_fields
  rcases row_structs Try.underlying34 hu hone (by rw [hs]; kernel_rfl) hf with hcs | ⟨x, l, c, hcs, hl, hm, hcell⟩
  · simp [Value.cells] at hcs
    obtain ⟨rfl, rfl, rfl⟩ := hcs
    exact ⟨none, 0, 0, rfl, fun i hi => by omega, by omega⟩
  · simp [Value.cells] at hcs
    obtain ⟨rfl, rfl, rfl⟩ := hcs
    rw [hs] at hcell
    refine ⟨some x, len, cap, rfl, fun k hk => ?_, by unfold maxLen at hm; omega⟩
    obtain ⟨v0, y0, n0, hc0, ht0⟩ := hcell k (by omega) 0 f0 e0
    obtain ⟨v1, y1, n1, hc1, ht1⟩ := hcell k (by omega) 1 f1 e1
    obtain ⟨v2, y2, n2, hc2, ht2⟩ := hcell k (by omega) 2 f2 e2
    rw [t0] at ht0
    rw [t1] at ht1
    rw [t2] at ht2
    obtain ⟨b, hb, _⟩ := DataW.trod_bool Try.underlying4 ht0
    obtain ⟨s1, hs1, _, hz1⟩ := DataW.trod_string Try.underlying9 ht1
    obtain ⟨s2, hs2, _, hz2⟩ := DataW.trod_string Try.underlying9 ht2
    have hx : x.block < W.heap.size := by
      have := World.block_lt_of_cell? W _ hc0
      rwa [add_block] at this
    simp at hb hs1 hs2
    subst hb hs1 hs2
    rw [Nat.add_zero] at hc0
    refine ⟨x, rfl, hx, b, s1, s2, hz1, hz2, hc0, ?_, ?_⟩
    · rw [← off_add 1 hc0, Go.Deep.add_add]; exact hc1
    · rw [← off_add 2 hc0, Go.Deep.add_add]; exact hc2
end Go.Proofs.Ytdfhponhjjkdmaa
