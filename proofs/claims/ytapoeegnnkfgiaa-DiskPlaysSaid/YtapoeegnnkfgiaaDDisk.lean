/- A Disk's block; slices.Clone; the small calls; no condition. -/
import Derived.Test.YtapoeegnnkfgiaaDMap
import Derived.Test.YtapoeegnnkfgiaaProg
import Derived.WalkKit
import Derived.KernelRfl
import Derived.Laws.LoneSync
import Derived.Deep.QuietTactic
import Derived.BigQuiet
import Derived.StillTailTactics
import Derived.Lib.Hide
set_option linter.unusedVariables false
set_option linter.unusedSimpArgs false
namespace Go.Proofs.Ytapoeegnnkfgiaa
open Go.RowKit Go.Proofs.YtapoeegnnkfgiaaW.PrintWords

/-- Block g is a Disk. -/
def Db (w : World) (g : Nat) (blocks : Int) (b : Nat) (writes left : Int) (dead : Bool) : Prop :=
  w.heap[g]? = some (.cells #[.int .i64 blocks, .map (some b), .int .i64 writes, .int .i64 left, .bool dead] 72 (0, 0))
section
variable {w w' : World} {g b : Nat} {n x l : Int} {d : Bool}
theorem Db.c0 (h : Db w g n b x l d) : w.cell? ⟨g, 0, none⟩ = some (.int .i64 n) := blk_cell h 0
theorem Db.c1 (h : Db w g n b x l d) : w.cell? ⟨g, 1, none⟩ = some (.map (some b)) := blk_cell h 1
theorem Db.c2 (h : Db w g n b x l d) : w.cell? ⟨g, 2, none⟩ = some (.int .i64 x) := blk_cell h 2
theorem Db.c3 (h : Db w g n b x l d) : w.cell? ⟨g, 3, none⟩ = some (.int .i64 l) := blk_cell h 3
theorem Db.c4 (h : Db w g n b x l d) : w.cell? ⟨g, 4, none⟩ = some (.bool d) := blk_cell h 4
theorem Db.fz (h : Db w g n b x l d) (i : Nat) : w.frozen? ⟨g, i, none⟩ = false := blk_frozen h i
theorem Db.s2 (h : Db w g n b x l d) (z : Int) : Db (w.setCell ⟨g, 2, none⟩ (.int .i64 z)) g n b z l d := blk_put h 2 _ rfl
theorem Db.s3 (h : Db w g n b x l d) (z : Int) : Db (w.setCell ⟨g, 3, none⟩ (.int .i64 z)) g n b x z d := blk_put h 3 _ rfl
theorem Db.s4 (h : Db w g n b x l d) (z : Bool) : Db (w.setCell ⟨g, 4, none⟩ (.bool z)) g n b x l z := blk_put h 4 _ rfl
theorem Db.lt (h : Db w g n b x l d) : g < w.heap.size := blk_lt h
theorem Db.grown {row : Option Nat} (h : Db w g n b x l d) (hg : w.grownBy w' row) (hne : some g ≠ row) : Db w' g n b x l d := blk_grown h hg hne
end

set_option maxHeartbeats 1000000 in
/-- Clone: a row of the call's own that reads as the bytes do; it lies above. -/
theorem clone_any (a : Option Addr) (n c : Nat) (bs : List Nat) (w : World) (hB : Bts w a n bs) (hn : 0 < n) (hl : n ≤ 140737488355328) :
    Calls Try.prog 38 #[.slice a n c] w fun e w' => ∃ g c', e = .returned (.slice (some ⟨g, 0, none⟩) n c') ∧ w.heap.size ≤ g ∧ OwnB w' w.heap.size (.slice (some ⟨g, 0, none⟩) n c') bs ∧ Below w.heap.size w w' := by
  obtain ⟨ad, rfl, _⟩ := hB.2.2.2 0 hn
  have hlen := hB.1
  have HL : Hid (OwnB (w.alloc (.cells #[] 5)) w.heap.size (.slice (some ⟨w.heap.size, 0, none⟩) 0 0) []) := ownB_lit w _ (Nat.le_refl _)
  have HBL : Hid (Below w.heap.size w (w.alloc (.cells #[] 5))) := (Below.refl _ _).alloc (Nat.le_refl _) _
  have HB : Hid (Bts (w.alloc (.cells #[] 5)) (some ad) n bs) := hB.below HBL.out
  have hnil : ∀ w : World, (binOp .eql 31 (.slice (some ad) n c) (.slice none 0 0)).run Try.prog w = .ok (.bool false) w := fun _ => by kernel_rfl
  clear hB
  go_enter Try.func38, Try.ntmps38
  go_wp2_with (first
    | (at_builtin; refine app_bytes (w0 := w) w.heap.size (Nat.le_refl _) rfl (.tmp 5) (.tmp 6) rfl (.slice (some ⟨w.heap.size, 0, none⟩) 0 0) [] bs (some ad) n c rfl rfl HL.out HB.out HBL.out (by simp; omega) ?_; intro A1 n1 c1 w2 hn1 ho1 hb1 hg1 hf1; have HN := Lib.hid hn1; have HO := Lib.hid ho1; have HQ := Lib.hid hb1; clear hn1 ho1 hb1 hg1 hf1))
  go_ret
  obtain rfl : n1 = n := by have := HN.out; simpa using this
  have ho := HO.out
  rw [List.nil_append] at ho
  have e := ho.len
  obtain ⟨g, c', e1, hg⟩ := own_form (n := n1) (by have h := ho; unfold OwnB at h; rw [← e] at h; exact h) hn
  injection e1 with e1 e2 e3
  subst e1
  exact ⟨g, c1, rfl, hg, ho, HQ.out⟩
theorem dadd (p : Addr) (x : Int) (w : World) (hc : w.cell? p = some (.int .i64 x)) (hz : w.frozen? p = false) (h0 : 0 ≤ x) (h1 : x ≤ 1000) :
    Calls Try.prog 39 #[.pointer (some p), .int .i64 1] w fun e w' => e = .returned (.int .i64 (x + 1)) ∧ w' = w.setCell p (.int .i64 (x + 1)) := by
  have hw : wrap64 (x + 1) = x + 1 := by unfold wrap64; omega
  have hl := run_call_add (P := Try.prog) Try.func43 (by kernel_rfl) (by kernel_rfl) (by kernel_rfl) .i64 (by kernel_rfl) (y := 1) (s := wrap64 (x + 1)) hc hz (by simp [go_sem, wrap64, IntKind.wrap_i64])
  rw [hw] at hl
  go_enter Try.func39, Try.ntmps39
  go_wp2
  go_ret
  exact ⟨rfl, rfl⟩
theorem dload (p : Addr) (x : Int) (w : World) (hc : w.cell? p = some (.int .i64 x)) :
    Calls Try.prog 40 #[.pointer (some p)] w fun e w' => e = .returned (.int .i64 x) ∧ w' = w := by
  have hl := run_call_load (P := Try.prog) Try.func44 (by kernel_rfl) (by kernel_rfl) (by kernel_rfl) .i64 (by kernel_rfl) hc
  go_enter Try.func40, Try.ntmps40
  go_wp2
  go_ret
  exact ⟨rfl, rfl⟩
end Go.Proofs.Ytapoeegnnkfgiaa
