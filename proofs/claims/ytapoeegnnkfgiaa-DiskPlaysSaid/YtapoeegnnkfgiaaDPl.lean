/- What each call of one disk leaves of the other, and of a row of the call's own; no condition. -/
import Derived.Test.YtapoeegnnkfgiaaDRw
import Derived.Test.YtapoeegnnkfgiaaDCallRow
set_option linter.unusedVariables false
set_option linter.unusedSimpArgs false
namespace Go.Proofs.Ytapoeegnnkfgiaa
open Go.RowKit Go.Proofs.YtapoeegnnkfgiaaW.PrintWords

/-- Two disks lie apart: their four blocks, below T. -/
structure Far (T g b x t : Nat) : Prop where
  l1 : g < T
  l2 : b < T
  l3 : x < T
  l4 : t < T
  n1 : g ≠ x
  n2 : g ≠ t
  n3 : b ≠ x
  n4 : b ≠ t
theorem ne_some {a b : Nat} (h : a ≠ b) : some a ≠ some b := fun e => h (Option.some.inj e)
section
variable {w w' : World} {T g b x t n m : Nat} {av : Option Nat} {s : DS}
theorem Pd.tr (h : Pd w T av g b n m s) (hf : Far T g b x t) (ht : Tr w w' x (some t)) : Pd w' T av g b n m s := by
  obtain ⟨f1, f2, f3, f4, f5, f6, f7, f8⟩ := hf
  refine h.frame (fun i hi hc => ht.block i hi ?_ ?_)
  · rcases hc with rfl | rfl | ⟨h1, _⟩ <;> omega
  · refine ne_some ?_
    rcases hc with rfl | rfl | ⟨h1, _⟩ <;> omega
theorem Rd.tr (h : Rd w T av x t n s) (hf : Far T g b x t) (ht : Tr w w' g (some b)) : Rd w' T av x t n s := by
  obtain ⟨f1, f2, f3, f4, f5, f6, f7, f8⟩ := hf
  refine h.frame (fun i hi hc => ht.block i hi ?_ ?_)
  · rcases hc with rfl | rfl | ⟨h1, _⟩ <;> omega
  · refine ne_some ?_
    rcases hc with rfl | rfl | ⟨h1, _⟩ <;> omega
theorem Pd.scrib {p : Nat} (h : Pd w T (some p) g b n m s) (hp : T ≤ p) (ho : w.grownBy w' (some p)) : Pd w' T (some p) g b n m s := by
  have h2 := h.2.1
  have h3 := h.2.2.1
  refine h.frame (fun i hi hc => ho.block i hi ?_)
  rcases hc with rfl | rfl | ⟨_, h1⟩
  · exact ne_some (by omega)
  · exact ne_some (by omega)
  · exact h1
theorem Rd.scrib {p : Nat} (h : Rd w T (some p) x t n s) (hp : T ≤ p) (ho : w.grownBy w' (some p)) : Rd w' T (some p) x t n s := by
  have h2 := h.2.1
  have h3 := h.2.2.1
  refine h.frame (fun i hi hc => ho.block i hi ?_)
  rcases hc with rfl | rfl | ⟨_, h1⟩
  · exact ne_some (by omega)
  · exact ne_some (by omega)
  · exact h1
end
theorem Bts.tr0 {w w' : World} {a : Option Addr} {n g : Nat} {mo : Option Nat} {bs : List Nat} (h : Bts w a n bs) (ht : Tr w w' g mo) (hne : 0 < n → ∀ ad, a = some ad → ad.block ≠ g ∧ some ad.block ≠ mo) : Bts w' a n bs :=
  h.same (fun ad e hn => ht.block ad.block (h.old hn ad e) (hne hn ad e).1 (hne hn ad e).2)
theorem OwnB.same {w w' : World} {B n c : Nat} {A : Option Addr} {xs : List Nat} (h : OwnB w B (.slice A n c) xs) (hs : ∀ ad, A = some ad → B ≤ ad.block → ad.block < w.heap.size → w'.heap[ad.block]? = w.heap[ad.block]?) : OwnB w' B (.slice A n c) xs := by
  unfold OwnB at h ⊢
  obtain ⟨h0, h1⟩ := h
  refine ⟨h0, ?_⟩
  rcases h1 with h1 | ⟨g, cap, cur, e, hg, hh, h2⟩
  · exact .inl h1
  · injection e with e1 e2 e3
    subst e1
    refine .inr ⟨g, cap, cur, by rw [e2, e3], hg, (hs _ rfl hg (blk_lt hh)).trans hh, h2⟩
/-- A row of the call's own has a block, p, be it empty. -/
theorem mine_at {w0 w : World} {n c : Nat} {A : Option Addr} {xs : List Nat} (h : OwnB w w0.heap.size (.slice A n c) xs) (hs : w0.heap.size < w.heap.size) : ∃ p, w0.heap.size ≤ p ∧ p < w.heap.size ∧ (0 < n → A = some ⟨p, 0, none⟩) := by
  by_cases h0 : 0 < n
  · obtain ⟨q, e⟩ := h.form h0
    subst e
    exact ⟨q, h.base q rfl, h.lt q rfl, fun _ => rfl⟩
  · exact ⟨w0.heap.size, Nat.le_refl _, hs, fun h1 => absurd h1 h0⟩
/-- Where a block's bytes lie: as the call's, or from sz on. -/
theorem blk_far2 {A' Ab : Option Addr} {m' bl sz B T g b x t : Nat} (hA : (A' = Ab ∧ m' = bl) ∨ (m' = 512 ∧ ∀ ad, A' = some ad → sz ≤ ad.block)) (hZ : 0 < bl → ∀ p, Ab = some p → p.block < B) (hf : Far T g b x t) (gE : B ≤ g) (bE : B ≤ b) (xE : B ≤ x) (tE : B ≤ t) (hT : T ≤ sz) :
    0 < m' → ∀ ad, A' = some ad → ad.block ≠ g ∧ ad.block ≠ b ∧ ad.block ≠ x ∧ ad.block ≠ t := by
  obtain ⟨f1, f2, f3, f4, f5, f6, f7, f8⟩ := hf
  intro h0 ad e
  rcases hA with ⟨h1, h2⟩ | ⟨_, h2⟩
  · have := hZ (by omega) ad (h1 ▸ e); omega
  · have := h2 ad e; omega
theorem len_one (n m : Nat) (h : n = ([] : List Nat).length + m) : n = m := by simpa using h
theorem bd_m {A A' : Option Addr} {m bl sz : Nat} (hA : (A' = A ∧ m = bl) ∨ (m = 512 ∧ ∀ ad, A' = some ad → sz ≤ ad.block)) (hb : bl ≤ 140737488351232) : m ≤ 140737488351232 := by
  rcases hA with ⟨_, h⟩ | ⟨h, _⟩ <;> omega
theorem far_mk {S T g b x t : Nat} (g2 : g < S) (b2 : b < S) (hx : S ≤ x) (ht : S ≤ t) (hS : S ≤ T) (x3 : x < T) (t3 : t < T) : Far T g b x t := ⟨by omega, by omega, x3, t3, by omega, by omega, by omega, by omega⟩
theorem bd_app {m : Nat} (h : m ≤ 140737488351232) : ([] : List Nat).length + m ≤ 140737488355328 := by simp; omega
theorem lt_alloc (w : World) (o : Obj) : w.heap.size < (w.alloc o).heap.size := by simp
theorem mine_far {A2 : Option Addr} {m1 p T g b x t : Nat} (h : 0 < m1 → A2 = some ⟨p, 0, none⟩) (hp : T ≤ p) (hf : Far T g b x t) : 0 < m1 → ∀ ad, A2 = some ad → ad.block ≠ g := by
  intro h0 ad e
  rw [h h0] at e
  have := hf.l1
  rw [← Option.some.inj e]
  show p ≠ g
  omega
theorem OwnB.tr {w w' : World} {B n c T g : Nat} {mo : Nat} {A : Option Addr} {xs : List Nat} (h : OwnB w B (.slice A n c) xs) (ht : Tr w w' g (some mo)) (hB : T ≤ B) (hg : g < T) (hm : mo < T) : OwnB w' B (.slice A n c) xs :=
  h.same (fun ad e hb hl => ht.block ad.block hl (by omega) (ne_some (by omega)))
theorem av_lt {p S : Nat} (h : p < S) : ∀ p', some p = some p' → p' < S := fun p' e => by
  have := Option.some.inj e
  omega
end Go.Proofs.Ytapoeegnnkfgiaa
