/- Disk's small calls; no condition. -/
import Derived.Test.YtapoeegnnkfgiaaDPos
import Derived.Carry
set_option linter.unusedVariables false
set_option linter.unusedSimpArgs false
namespace Go.Proofs.Ytapoeegnnkfgiaa
open Go.RowKit Go.Proofs.YtapoeegnnkfgiaaW.PrintWords

theorem start_any (g : Nat) (n : Int) (b : Nat) (x l : Int) (d : Bool) (w : World) (h : Db w g n b x l d) :
    Calls Try.prog 19 #[.pointer (some ⟨g, 0, none⟩)] w fun e w' => e = .returned (.tuple #[]) ∧ Db w' g n b x (-1) false ∧ w.grownBy w' (some g) := by
  have k4 := h.c4
  have f4 := h.fz 4
  have h2 := h.s4 false
  have k3 := h2.c3
  have f3 := h2.fz 3
  have HD : Hid (Db ((w.setCell ⟨g, 4, none⟩ (.bool false)).setCell ⟨g, 3, none⟩ (.int .i64 (-1))) g n b x (-1) false) := h2.s3 (-1)
  clear h h2
  go_enter Try.func19, Try.ntmps19
  go_wp2
  go_end0
  exact ⟨rfl, HD.out, only_set (only_set (only_refl _ _) _ _) _ _⟩
theorem dead_any (g : Nat) (n : Int) (b : Nat) (x l : Int) (d : Bool) (w : World) (h : Db w g n b x l d) :
    Calls Try.prog 17 #[.pointer (some ⟨g, 0, none⟩)] w fun e w' => e = .returned (.bool d) ∧ w' = w := by
  have k4 := h.c4
  go_enter Try.func17, Try.ntmps17
  go_wp2
  go_ret
  exact ⟨rfl, rfl⟩
theorem writes_any (g : Nat) (n : Int) (b : Nat) (x l : Int) (d : Bool) (w : World) (h : Db w g n b x l d) :
    Calls Try.prog 18 #[.pointer (some ⟨g, 0, none⟩)] w fun e w' => e = .returned (.int .i64 x) ∧ w' = w := by
  have k2 := h.c2
  go_enter Try.func18, Try.ntmps18
  go_wp2_with (first | (go_at_call 40; refine (dload _ x _ k2).mono ?_; rintro e w' ⟨rfl, rfl⟩))
  go_ret
  exact ⟨rfl, rfl⟩
theorem blocks_any (g : Nat) (n : Int) (b : Nat) (x l : Int) (d : Bool) (w : World) (h : Db w g n b x l d) :
    Calls Try.prog 37 #[.pointer (some ⟨g, 0, none⟩)] w fun e w' => e = .returned (.int .i64 n) ∧ w' = w := by
  have k0 := h.c0
  go_enter Try.func37, Try.ntmps37
  go_wp2
  go_ret
  exact ⟨rfl, rfl⟩
end Go.Proofs.Ytapoeegnnkfgiaa
