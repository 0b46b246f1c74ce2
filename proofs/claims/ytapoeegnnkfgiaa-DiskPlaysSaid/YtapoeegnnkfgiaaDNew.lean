/- Disk's New and Cut; no condition. -/
import Derived.Test.YtapoeegnnkfgiaaDSmall
set_option linter.unusedVariables false
set_option linter.unusedSimpArgs false
namespace Go.Proofs.Ytapoeegnnkfgiaa
open Go.RowKit Go.Proofs.YtapoeegnnkfgiaaW.PrintWords

theorem cut_any (g : Nat) (n : Int) (b : Nat) (x l k : Int) (d : Bool) (w : World) (h : Db w g n b x l d) (hk : 0 ≤ k) :
    Calls Try.prog 15 #[.pointer (some ⟨g, 0, none⟩), .int .i64 k] w fun e w' => e = .returned (.tuple #[]) ∧ Db w' g n b x k d ∧ w.grownBy w' (some g) := by
  have k3 := h.c3
  have f3 := h.fz 3
  have HD : Hid (Db (w.setCell ⟨g, 3, none⟩ (.int .i64 k)) g n b x k d) := h.s3 k
  have hmx : (if k < -1 then (-1 : Int) else k) = k := if_neg (by omega)
  clear h
  go_enter Try.func15, Try.ntmps15
  go_wp2
  go_end0
  exact ⟨rfl, HD.out, only_set (only_refl _ _) _ _⟩
theorem new_any (n : Int) (w : World) (h1 : 1 ≤ n) (h2 : n ≤ 16384) :
    Calls Try.prog 13 #[.int .i64 n] w fun e w' => ∃ g b, e = .returned (.tuple #[.pointer (some ⟨g, 0, none⟩), .int .i64 0]) ∧ w.heap.size ≤ g ∧ w.heap.size ≤ b ∧ b ≠ g ∧ Db w' g n b 0 (-1) false ∧ Dm w' b 0 noneD ∧ Below w.heap.size w w' := by
  have hmm := @run_makeMap Try.prog
  have d1 : decide (n < 1) = false := decide_eq_false (by omega)
  have d2 : decide (16384 < n) = false := decide_eq_false (by omega)
  go_enter Try.func13, Try.ntmps13
  go_wp2
  go_ret2
  refine ⟨_, _, rfl, by simp, Nat.le_refl _, by simp, heap_alloc2_new _ _ _, (Dm.made w).kept (World.grownBy_alloc _ _ none) (by simp), ((Below.refl _ _).alloc (Nat.le_refl _) _).alloc (by simp) _⟩
end Go.Proofs.Ytapoeegnnkfgiaa
