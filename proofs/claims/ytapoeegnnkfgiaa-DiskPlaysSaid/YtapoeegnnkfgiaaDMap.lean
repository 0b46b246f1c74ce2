/- A map from numbers to rows of 512 bytes, told by the rows' blocks; no condition. -/
import Derived.Test.YtapoeegnnkfgiaaDBy
import Derived.Maps.Own
import Derived.Maps.OwnSet
import Derived.Maps.Views
set_option linter.unusedVariables false
set_option linter.unusedSimpArgs false
namespace Go.Proofs.Ytapoeegnnkfgiaa
open Go.ChangeMaps Go.RowKit Go.WideMaps Go.Proofs.YtapoeegnnkfgiaaW.PrintWords

/-- How an element reads: by its block. -/
def Rs (v : Value) : Option (DataW Unit × List MemPlace) :=
  match v with
  | .slice (some ⟨g, 0, none⟩) 512 _ => some (.lit (.int .i64 (g : Int)), [])
  | .slice none 0 0 => some (.nil, [])
  | _ => none
theorem Rs_mk (g c : Nat) : Rs (.slice (some ⟨g, 0, none⟩) 512 c) = some (.lit (.int .i64 (g : Int)), []) := rfl
theorem Rs_inv {v : Value} {g : Nat} {ps : List MemPlace} (h : Rs v = some (.lit (.int .i64 (g : Int)), ps)) : ∃ c, v = .slice (some ⟨g, 0, none⟩) 512 c := by
  unfold Rs at h
  split at h
  · rename_i g' c
    simp at h
    obtain ⟨h1, _⟩ := h
    have : g' = g := by omega
    subst this
    exact ⟨c, rfl⟩
  · simp at h
  · cases h
theorem Rs_nil {v : Value} {ps : List MemPlace} (h : Rs v = some (.nil, ps)) : v = .slice none 0 0 := by
  unfold Rs at h
  split at h
  · simp at h
  · rfl
  · cases h
/-- Block b is a map: at most n rows, their blocks as f has them. -/
def Dm (w : World) (b n : Nat) (f : Int → Option Nat) : Prop :=
  ∃ D : DataW Unit, w.ownsMap Try.prog 3 Rs b n D ∧ ∀ k : Int, (Lit.int .i64 k).wf = true → Maps.has D (.int .i64 k) = (f k).isSome ∧ ∀ g, f k = some g → ∀ z, D.atKey (.int .i64 k) z = .lit (.int .i64 (g : Int))
def noneD : Int → Option Nat := fun _ => none
theorem Dm.made (w : World) : Dm (w.alloc (.map #[] 0)) w.heap.size 0 noneD :=
  ⟨.map [], World.ownsMap_made w _ _ _, fun s hs => ⟨rfl, fun x hx => by cases hx⟩⟩
theorem Dm.lt {w : World} {b n : Nat} {f : Int → Option Nat} (h : Dm w b n f) : b < w.heap.size := by
  obtain ⟨D, h, _⟩ := h; exact h.lt
theorem Dm.kept {w w' : World} {b n : Nat} {f : Int → Option Nat} {row : Option Nat} (h : Dm w b n f) (hg : w.grownBy w' row) (hne : some b ≠ row) : Dm w' b n f := by
  obtain ⟨D, h, hf⟩ := h; exact ⟨D, h.kept hg hne, hf⟩
theorem Dm.none_ {w : World} {b n : Nat} {f : Int → Option Nat} (h : Dm w b n f) (k : Int) (hk : (Lit.int .i64 k).wf = true) (hf : f k = none) :
    (Instr.lookup 65 (.map (some b)) (.int .i64 k) true).run Try.prog w = .ok (.tuple #[.slice none 0 0, .bool false]) w := by
  obtain ⟨D, h, h0⟩ := h
  obtain ⟨h1, h2⟩ := h0 k hk
  rw [hf] at h1
  obtain ⟨v, ps, hrun, hv⟩ := h.look_ok (Maps.int_keyed Try.underlying3) Try.underlying65 (z := .slice none 0 0) (by kernel_rfl) (zd := .nil) (zp := []) rfl (Maps.keyOf_int_mk Try.underlying3 hk)
  rw [Maps.atKey_of_not_has (z := (.nil : DataW Unit)) h1] at hv
  rw [hrun, h1, Rs_nil hv]
  rfl
theorem Dm.some_ {w : World} {b n g : Nat} {f : Int → Option Nat} (h : Dm w b n f) (k : Int) (hk : (Lit.int .i64 k).wf = true) (hf : f k = some g) :
    ∃ c, (Instr.lookup 65 (.map (some b)) (.int .i64 k) true).run Try.prog w = .ok (.tuple #[.slice (some ⟨g, 0, none⟩) 512 c, .bool true]) w := by
  obtain ⟨D, h, h0⟩ := h
  obtain ⟨h1, h2⟩ := h0 k hk
  rw [hf] at h1
  obtain ⟨v, ps, hrun, hv⟩ := h.look_ok (Maps.int_keyed Try.underlying3) Try.underlying65 (z := .slice none 0 0) (by kernel_rfl) (zd := .nil) (zp := []) rfl (Maps.keyOf_int_mk Try.underlying3 hk)
  rw [h2 g hf] at hv
  obtain ⟨c, rfl⟩ := Rs_inv hv
  exact ⟨c, by rw [hrun, h1]; rfl⟩
def updD (f : Int → Option Nat) (k : Int) (g : Nat) : Int → Option Nat := fun s => if s = k then some g else f s
theorem Dm.put {w : World} {b n : Nat} {f : Int → Option Nat} (h : Dm w b n f) (k : Int) (g c : Nat) (hk : (Lit.int .i64 k).wf = true) (hn : n < maxLen) :
    ∃ w', (Instr.mapUpdate 65 (.map (some b)) (.int .i64 k) (.slice (some ⟨g, 0, none⟩) 512 c)).run Try.prog w = .ok () w' ∧ Dm w' b (n + 1) (updD f k g) ∧ w.grownBy w' (some b) := by
  obtain ⟨D, h, hf⟩ := h
  have hi := h.isMap
  obtain ⟨w', hrun, h2, hg⟩ := h.update (Maps.int_keyed Try.underlying3) Try.underlying65 hn (Maps.keyOf_int_mk Try.underlying3 hk) (Rs_mk g c)
  refine ⟨w', hrun, ⟨_, h2, fun s hs => ?_⟩, hg⟩
  by_cases e : s = k
  · subst e
    refine ⟨?_, fun y hy => ?_⟩
    · rw [Maps.has_put_same hi (show WideAt.IsKeyLit (Lit.int .i64 s) from trivial)]; simp [updD]
    · have : y = g := by simp [updD] at hy; exact hy.symm
      subst this
      exact fun z => Maps.atKey_put_same hi (show WideAt.IsKeyLit (Lit.int .i64 s) from trivial) _ _
  · have hne : (Lit.int .i64 s) ≠ Lit.int .i64 k := by
      intro h; injection h with _ h; exact e h
    obtain ⟨h3, h4⟩ := hf s hs
    refine ⟨?_, fun y hy => ?_⟩
    · rw [Maps.has_put_other hne, h3]; simp [updD, e]
    · have : f s = some y := by simp [updD, e] at hy; exact hy
      exact fun z => by rw [Maps.atKey_put_other hne]; exact h4 y this z
end Go.Proofs.Ytapoeegnnkfgiaa
