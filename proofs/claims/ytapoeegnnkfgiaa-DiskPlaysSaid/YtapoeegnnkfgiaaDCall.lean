/- The disk's calls, as they lie; a literal byte; what each call keeps; no condition. -/
import Derived.Test.YtapoeegnnkfgiaaDRd
import Derived.Test.YtapoeegnnkfgiaaKn
set_option linter.unusedVariables false
set_option linter.unusedSimpArgs false
namespace Go.Proofs.Ytapoeegnnkfgiaa
open Go.RowKit Go.Proofs.YtapoeegnnkfgiaaW.PrintWords

/-- Each call of a slice of calls: where its fields stand, and its bytes. -/
def Cls (w : World) (a : Option Addr) (n : Nat) : Prop :=
  ∀ k, k < n → ∃ ad, a = some ad ∧ ad.block < w.heap.size ∧ ∃ (kind N : Int) (A : Option Addr) (bl bc : Nat) (bs : List Nat), N ≤ 9223372036854775807 ∧ bl ≤ 140737488351232 ∧ Bts w A bl bs ∧
    w.cell? (ad.add (k * 3)) = some (.int .i64 kind) ∧ w.cell? ⟨(ad.add (k * 3)).block, (ad.add (k * 3)).off + 1, none⟩ = some (.int .i64 N) ∧ w.cell? ⟨(ad.add (k * 3)).block, (ad.add (k * 3)).off + 2, none⟩ = some (.slice A bl bc)
/-- A call's own block. -/
def Kb (w : World) (h : Nat) (kind N : Int) (A : Option Addr) (bl bc : Nat) : Prop :=
  w.heap[h]? = some (.cells #[.int .i64 kind, .int .i64 N, .slice A bl bc] 51 (0, 0))
section
variable {w w' : World} {h bl bc : Nat} {kind N : Int} {A : Option Addr}
theorem Kb.c0 (hk : Kb w h kind N A bl bc) : w.cell? ⟨h, 0, none⟩ = some (.int .i64 kind) := blk_cell hk 0
theorem Kb.c1 (hk : Kb w h kind N A bl bc) : w.cell? ⟨h, 1, none⟩ = some (.int .i64 N) := blk_cell hk 1
theorem Kb.c2 (hk : Kb w h kind N A bl bc) : w.cell? ⟨h, 2, none⟩ = some (.slice A bl bc) := blk_cell hk 2
theorem Kb.lt (hk : Kb w h kind N A bl bc) : h < w.heap.size := blk_lt hk
theorem Kb.below (hk : Kb w h kind N A bl bc) (hb : Below w.heap.size w w') : Kb w' h kind N A bl bc := blk_below hk hb
theorem Kb.tr {g : Nat} {mo : Option Nat} (hk : Kb w h kind N A bl bc) (ht : Tr w w' g mo) (h1 : h ≠ g) (h2 : some h ≠ mo) : Kb w' h kind N A bl bc := (ht.block h hk.lt h1 h2).trans hk
end
theorem lit1 (w : World) (B : Nat) (hb : B ≤ w.heap.size) : OwnB (w.alloc (.cells #[.int .u8 1] 5)) B (.slice (some ⟨w.heap.size, 0, none⟩) 1 1) [1] := own_lit w B 5 .u8 [1] hb (by decide)
theorem Bts.tr {w w' : World} {a : Option Addr} {n g : Nat} {mo : Option Nat} {bs : List Nat} (h : Bts w a n bs) (ht : Tr w w' g mo) (hne : ∀ ad, a = some ad → ad.block ≠ g ∧ some ad.block ≠ mo) : Bts w' a n bs :=
  h.same (fun ad e hn => ht.block ad.block (h.old hn ad e) (hne ad e).1 (hne ad e).2)
theorem wr_other {s s' : DS} {n k j r : Int} {len : Nat} {ys : List Nat} (h : s.wr n k len ys = (r, s')) (hj : j ≠ k) : s'.f j = s.f j := by
  unfold DS.wr at h
  split at h
  · injection h with _ h; rw [← h]
  · split at h
    · injection h with _ h; rw [← h]
    · split at h
      · injection h with _ h; rw [← h]
      · injection h with _ h; rw [← h]; exact if_neg hj
theorem at_T {T g b : Nat} (h1 : g < T) (h2 : b < T) {a : Option Addr} (h : ∀ ad, a = some ad → T ≤ ad.block) : ∀ ad, a = some ad → ad.block ≠ g ∧ some ad.block ≠ some b :=
  fun ad e => ⟨by have := h ad e; omega, fun e2 => by have := h ad e; have := Option.some.inj e2; omega⟩
theorem mo_le2 {B b : Nat} (h : B ≤ b) : ∀ b', some b = some b' → B ≤ b' := by
  intro b' e
  have := Option.some.inj e
  omega
theorem below_drew1 {B : Nat} {a w : World} (h : Below B a w) : Below B a w.drew := ⟨h.os, h.tape, h.output, h.size, h.block⟩
theorem tr_le {w w' : World} {g : Nat} {mo : Option Nat} {T : Nat} (h : Tr w w' g mo) (hT : T ≤ w.heap.size) : T ≤ w'.heap.size := Nat.le_trans hT h.size
end Go.Proofs.Ytapoeegnnkfgiaa
