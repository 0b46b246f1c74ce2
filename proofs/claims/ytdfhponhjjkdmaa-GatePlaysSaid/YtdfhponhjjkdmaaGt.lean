/- A Gate's block, its map, sync.Once of a Gate; no condition. -/
import Derived.Test.YtdfhponhjjkdmaaOnce
import Derived.Maps.Own
import Derived.Maps.OwnSet
import Derived.Maps.Views
set_option linter.unusedVariables false
set_option linter.unusedSimpArgs false
namespace Go.Proofs.Ytdfhponhjjkdmaa
open Go.ChangeMaps Go.RowKit Go.WideMaps Go.Proofs.YtdfhponhjjkdmaaW.PrintWords

/-- Block g is a Gate. -/
def Gb (w : World) (g : Nat) (adm : ByteArray) (d m : Int) (mp : Value) (asked refused : Int) : Prop :=
  w.heap[g]? = some (.cells #[.string adm, .int .u32 d, .int .i32 m, .int .u32 0, mp, .int .i64 asked, .int .i64 refused] 69 (0, 0))
section
variable {w w' : World} {g : Nat} {adm : ByteArray} {d m x y : Int} {mp : Value}
theorem Gb.c0 (h : Gb w g adm d m mp x y) : w.cell? ⟨g, 0, none⟩ = some (.string adm) := blk_cell h 0
theorem Gb.c1 (h : Gb w g adm d m mp x y) : w.cell? ⟨g, 1, none⟩ = some (.int .u32 d) := blk_cell h 1
theorem Gb.c2 (h : Gb w g adm d m mp x y) : w.cell? ⟨g, 2, none⟩ = some (.int .i32 m) := blk_cell h 2
theorem Gb.c4 (h : Gb w g adm d m mp x y) : w.cell? ⟨g, 4, none⟩ = some mp := blk_cell h 4
theorem Gb.c5 (h : Gb w g adm d m mp x y) : w.cell? ⟨g, 5, none⟩ = some (.int .i64 x) := blk_cell h 5
theorem Gb.c6 (h : Gb w g adm d m mp x y) : w.cell? ⟨g, 6, none⟩ = some (.int .i64 y) := blk_cell h 6
theorem Gb.fz (h : Gb w g adm d m mp x y) (i : Nat) : w.frozen? ⟨g, i, none⟩ = false := blk_frozen h i
theorem Gb.s1 (h : Gb w g adm d m mp x y) (z : Int) : Gb (w.setCell ⟨g, 1, none⟩ (.int .u32 z)) g adm z m mp x y := blk_put h 1 _ rfl
theorem Gb.s2 (h : Gb w g adm d m mp x y) (z : Int) : Gb (w.setCell ⟨g, 2, none⟩ (.int .i32 z)) g adm d z mp x y := blk_put h 2 _ rfl
theorem Gb.s4 (h : Gb w g adm d m mp x y) (z : Value) : Gb (w.setCell ⟨g, 4, none⟩ z) g adm d m z x y := blk_put h 4 _ rfl
theorem Gb.s5 (h : Gb w g adm d m mp x y) (z : Int) : Gb (w.setCell ⟨g, 5, none⟩ (.int .i64 z)) g adm d m mp z y := blk_put h 5 _ rfl
theorem Gb.s6 (h : Gb w g adm d m mp x y) (z : Int) : Gb (w.setCell ⟨g, 6, none⟩ (.int .i64 z)) g adm d m mp x z := blk_put h 6 _ rfl
theorem Gb.lt (h : Gb w g adm d m mp x y) : g < w.heap.size := blk_lt h
theorem Gb.grown {row : Option Nat} (h : Gb w g adm d m mp x y) (hg : w.grownBy w' row) (hne : some g ≠ row) : Gb w' g adm d m mp x y := blk_grown h hg hne
end

/-- Block b is a map from texts to texts: at most n entries, as f has them. -/
def Mp (w : World) (b n : Nat) (f : ByteArray → Option ByteArray) : Prop :=
  ∃ D : DataW Unit, w.ownsMap Try.prog 9 (plainElem Try.prog 9) b n D ∧ ∀ s : ByteArray, s.size ≤ maxLen → Maps.has D (.string s.data.toList) = (f s).isSome ∧ ∀ x, f s = some x → x.size ≤ maxLen ∧ ∀ z, D.atKey (.string s.data.toList) z = .lit (.string x.data.toList)
theorem Mp.made (w : World) : Mp (w.alloc (.map #[] 0)) w.heap.size 0 (fun _ => none) :=
  ⟨.map [], World.ownsMap_made w _ _ _, fun s hs => ⟨rfl, fun x hx => by cases hx⟩⟩
theorem Mp.lt {w : World} {b n : Nat} {f : ByteArray → Option ByteArray} (h : Mp w b n f) : b < w.heap.size := by
  obtain ⟨D, h, _⟩ := h; exact h.lt
theorem Mp.kept {w w' : World} {b n : Nat} {f : ByteArray → Option ByteArray} {row : Option Nat} (h : Mp w b n f) (hg : w.grownBy w' row) (hne : some b ≠ row) : Mp w' b n f := by
  obtain ⟨D, h, hf⟩ := h; exact ⟨D, h.kept hg hne, hf⟩
theorem string_inj {s x : ByteArray} (h : s.data.toList = x.data.toList) : s = x := by
  cases s; cases x; congr; exact Array.toList_inj.1 h
theorem plain_str_inv {v : Value} {l : List UInt8} {ps : List MemPlace} (h : plainElem (H := Unit) Try.prog 9 v = some (.lit (.string l), ps)) : ∃ u, v = .string u ∧ u.data.toList = l := by
  cases v <;> simp [plainElem, Try.underlying9] at h
  rename_i u
  exact ⟨u, rfl, h.2.1⟩
theorem Mp.look {w : World} {b n : Nat} {f : ByteArray → Option ByteArray} (h : Mp w b n f) (s : ByteArray) (hs : s.size ≤ maxLen) :
    (Instr.lookup 64 (.map (some b)) (.string s) true).run Try.prog w = .ok (.tuple #[.string ((f s).getD ByteArray.empty), .bool (f s).isSome]) w := by
  obtain ⟨D, h, hf⟩ := h
  obtain ⟨h1, h2⟩ := hf s hs
  obtain ⟨v, ps, hrun, hv⟩ := h.look_ok (Maps.string_keyed Try.underlying9) Try.underlying64 (z := .string ByteArray.empty) (by kernel_rfl) (zd := .lit (.string [])) (zp := []) (plainElem_string (s := ByteArray.empty) Try.underlying9 (by decide)) (keyOf_string_mk Try.underlying9 hs)
  rw [hrun, h1]
  rcases hfs : f s with _ | x
  · rw [hfs] at h1
    have h3 := Maps.atKey_of_not_has (z := (.lit (.string []) : DataW Unit)) h1
    rw [h3] at hv
    obtain ⟨u, rfl, hu⟩ := plain_str_inv hv
    rw [show u = ByteArray.empty from string_inj hu]; rfl
  · obtain ⟨hx, h3⟩ := h2 x hfs
    rw [h3] at hv
    obtain ⟨u, rfl, hu⟩ := plain_str_inv hv
    rw [show u = x from string_inj hu]; rfl
def updS (f : ByteArray → Option ByteArray) (k x : ByteArray) : ByteArray → Option ByteArray := fun s => if s = k then some x else f s
theorem Mp.put {w : World} {b n : Nat} {f : ByteArray → Option ByteArray} (h : Mp w b n f) (k x : ByteArray) (hk : k.size ≤ maxLen) (hx : x.size ≤ maxLen) (hn : n < maxLen) :
    ∃ w', (Instr.mapUpdate 64 (.map (some b)) (.string k) (.string x)).run Try.prog w = .ok () w' ∧ Mp w' b (n + 1) (updS f k x) ∧ w.grownBy w' (some b) := by
  obtain ⟨D, h, hf⟩ := h
  have hi := h.isMap
  obtain ⟨w', hrun, h2, hg⟩ := h.update (Maps.string_keyed Try.underlying9) Try.underlying64 hn (keyOf_string_mk Try.underlying9 hk) (plainElem_string Try.underlying9 hx)
  refine ⟨w', hrun, ⟨_, h2, fun s hs => ?_⟩, hg⟩
  by_cases e : s = k
  · subst e
    refine ⟨?_, fun y hy => ?_⟩
    · rw [Maps.has_put_same hi (show WideAt.IsKeyLit (Lit.string s.data.toList) from trivial)]; simp [updS]
    · have : y = x := by simp [updS] at hy; exact hy.symm
      subst this
      exact ⟨hx, fun z => Maps.atKey_put_same hi (show WideAt.IsKeyLit (Lit.string s.data.toList) from trivial) _ _⟩
  · have hne : (Lit.string s.data.toList) ≠ Lit.string k.data.toList := by
      intro h; injection h with h; exact e (string_inj h)
    obtain ⟨h3, h4⟩ := hf s hs
    refine ⟨?_, fun y hy => ?_⟩
    · rw [Maps.has_put_other hne, h3]; simp [updS, e]
    · have : f s = some y := by simp [updS, e] at hy; exact hy
      obtain ⟨h5, h6⟩ := h4 y this
      exact ⟨h5, fun z => by rw [Maps.atKey_put_other hne]; exact h6 z⟩
end Go.Proofs.Ytdfhponhjjkdmaa
