/- The bucket's own functions, each as a contract; no condition. -/
import Derived.Test.YtbbmopekolgalaaProg
import Derived.WalkKit
import Derived.KernelRfl
import Derived.Laws.LoneSync
import Derived.Deep.QuietTactic
import Derived.BigQuiet
import Derived.StillTailTactics
import Derived.Lib.Hide
import Derived.Deep.RegionWith
import Derived.Deep.RegionHeld3
set_option linter.unusedVariables false
set_option linter.unusedSimpArgs false
namespace Go.Proofs.Ytbbmopekolgalaa
open Go.RowKit

/-- Block g is a bucket. -/
def Bk (w : World) (g : Nat) (has burst rate last : Int) : Prop :=
  w.heap[g]? = some (.cells #[.int .i64 has, .int .i64 burst, .int .i64 rate, .int .i64 last] 47 (0, 0))

theorem Bk.c0 {w : World} {g : Nat} {a b c d : Int} (h : Bk w g a b c d) : w.cell? ⟨g, 0, none⟩ = some (.int .i64 a) := by
  unfold Bk at h; simp [World.cell?, h]
theorem Bk.c1 {w : World} {g : Nat} {a b c d : Int} (h : Bk w g a b c d) : w.cell? ⟨g, 1, none⟩ = some (.int .i64 b) := by
  unfold Bk at h; simp [World.cell?, h]
theorem Bk.c2 {w : World} {g : Nat} {a b c d : Int} (h : Bk w g a b c d) : w.cell? ⟨g, 2, none⟩ = some (.int .i64 c) := by
  unfold Bk at h; simp [World.cell?, h]
theorem Bk.c3 {w : World} {g : Nat} {a b c d : Int} (h : Bk w g a b c d) : w.cell? ⟨g, 3, none⟩ = some (.int .i64 d) := by
  unfold Bk at h; simp [World.cell?, h]
theorem Bk.fz {w : World} {g : Nat} {a b c d : Int} (h : Bk w g a b c d) (i : Nat) : w.frozen? ⟨g, i, none⟩ = false := by
  unfold Bk at h; simp [World.frozen?, h]

theorem load_any (g : Nat) (x : Int) (w : World) (hc : w.cell? ⟨g, 0, none⟩ = some (.int .i64 x)) :
    Calls Try.prog 20 #[.pointer (some ⟨g, 0, none⟩)] w fun e w' => e = .returned (.int .i64 x) ∧ w' = w := by
  have hl := run_call_load (P := Try.prog) Try.func24 (by kernel_rfl) (by kernel_rfl) (by kernel_rfl) .i64 (by kernel_rfl) hc
  go_enter Try.func20, Try.ntmps20
  go_wp2
  go_ret
  exact ⟨rfl, rfl⟩

theorem store_any (g : Nat) (u : Value) (y : Int) (w : World) (hc : w.cell? ⟨g, 0, none⟩ = some u) (hz : w.frozen? ⟨g, 0, none⟩ = false) :
    Calls Try.prog 19 #[.pointer (some ⟨g, 0, none⟩), .int .i64 y] w fun e w' => e = .returned (.tuple #[]) ∧ w' = w.setCell ⟨g, 0, none⟩ (.int .i64 y) := by
  have hl := run_call_store (P := Try.prog) Try.func23 (by kernel_rfl) (by kernel_rfl) (by kernel_rfl) (by kernel_rfl) (k := .i64) (y := y) hc hz
  go_enter Try.func19, Try.ntmps19
  go_wp2
  go_end0
  exact ⟨rfl, rfl⟩

theorem add_any (g : Nat) (x y : Int) (w : World) (hc : w.cell? ⟨g, 0, none⟩ = some (.int .i64 x)) (hz : w.frozen? ⟨g, 0, none⟩ = false) :
    Calls Try.prog 21 #[.pointer (some ⟨g, 0, none⟩), .int .i64 y] w fun e w' => e = .returned (.int .i64 (wrap64 (x + y))) ∧ w' = w.setCell ⟨g, 0, none⟩ (.int .i64 (wrap64 (x + y))) := by
  have hl := run_call_add (P := Try.prog) Try.func25 (by kernel_rfl) (by kernel_rfl) (by kernel_rfl) .i64 (by kernel_rfl) (y := y) (s := wrap64 (x + y)) hc hz (by simp [go_sem, wrap64, IntKind.wrap_i64])
  go_enter Try.func21, Try.ntmps21
  go_wp2
  go_ret
  exact ⟨rfl, rfl⟩


theorem bk_set0 {w : World} {g : Nat} {a b c d : Int} (h : Bk w g a b c d) (x : Int) : Bk (w.setCell ⟨g, 0, none⟩ (.int .i64 x)) g x b c d := by
  unfold Bk at h ⊢; simp [World.setCell, Array.getElem?_modify, h]
theorem bk_set1 {w : World} {g : Nat} {a b c d : Int} (h : Bk w g a b c d) (x : Int) : Bk (w.setCell ⟨g, 1, none⟩ (.int .i64 x)) g a x c d := by
  unfold Bk at h ⊢; simp [World.setCell, Array.getElem?_modify, h]
theorem bk_set2 {w : World} {g : Nat} {a b c d : Int} (h : Bk w g a b c d) (x : Int) : Bk (w.setCell ⟨g, 2, none⟩ (.int .i64 x)) g a b x d := by
  unfold Bk at h ⊢; simp [World.setCell, Array.getElem?_modify, h]
theorem bk_set3 {w : World} {g : Nat} {a b c d : Int} (h : Bk w g a b c d) (x : Int) : Bk (w.setCell ⟨g, 3, none⟩ (.int .i64 x)) g a b c x := by
  unfold Bk at h ⊢; simp [World.setCell, Array.getElem?_modify, h]
theorem only_set {a w : World} {g : Nat} (h : a.grownBy w (some g)) (i : Nat) (u : Value) : a.grownBy (w.setCell ⟨g, i, none⟩ u) (some g) :=
  ⟨h.os, h.tape, h.output, by simpa [World.setCell] using h.size, fun k hk hne => (Below.heap_setCell w _ u k (fun e => hne (by rw [e]))).trans (h.block k hk hne)⟩
theorem only_drew {a w : World} {row : Option Nat} (h : a.grownBy w row) : a.grownBy w.drew row := ⟨h.os, h.tape, h.output, h.size, h.block⟩
theorem only_refl (w : World) (row : Option Nat) : w.grownBy w row := World.grownBy.refl w row
theorem only_trans {a b c : World} {row : Option Nat} (h : a.grownBy b row) (k : b.grownBy c row) : a.grownBy c row :=
  ⟨k.os.trans h.os, k.tape.trans h.tape, k.output.trans h.output, Nat.le_trans h.size k.size, fun i hi hn => (k.block i (Nat.lt_of_lt_of_le hi h.size) hn).trans (h.block i hi hn)⟩
theorem Bk.drew {w : World} {g : Nat} {a b c d : Int} (h : Bk w g a b c d) : Bk w.drew g a b c d := h
theorem Bk.lt {w : World} {g : Nat} {a b c d : Int} (h : Bk w g a b c d) : g < w.heap.size := lt_of_block h

theorem load_bk (g : Nat) (a b c d : Int) (w : World) (h : Bk w g a b c d) :
    Calls Try.prog 20 #[.pointer (some ⟨g, 0, none⟩)] w fun e w' => e = .returned (.int .i64 a) ∧ w' = w := load_any g a w h.c0
theorem store_bk (g : Nat) (a b c d y : Int) (w : World) (h : Bk w g a b c d) :
    Calls Try.prog 19 #[.pointer (some ⟨g, 0, none⟩), .int .i64 y] w fun e w' => e = .returned (.tuple #[]) ∧ Bk w' g y b c d ∧ w.grownBy w' (some g) :=
  (store_any g _ y w h.c0 (h.fz 0)).mono fun e w' ⟨he, hw⟩ => ⟨he, by rw [hw]; exact bk_set0 h y, by rw [hw]; exact only_set (only_refl _ _) _ _⟩
theorem add_bk (g : Nat) (a b c d y : Int) (w : World) (h : Bk w g a b c d) :
    Calls Try.prog 21 #[.pointer (some ⟨g, 0, none⟩), .int .i64 y] w fun e w' => e = .returned (.int .i64 (wrap64 (a + y))) ∧ Bk w' g (wrap64 (a + y)) b c d ∧ w.grownBy w' (some g) :=
  (add_any g a y w h.c0 (h.fz 0)).mono fun e w' ⟨he, hw⟩ => ⟨he, by rw [hw]; exact bk_set0 h _, by rw [hw]; exact only_set (only_refl _ _) _ _⟩

/-- What a bucket has behind some ticks. -/
def hasUp (a b c d now : Int) : Int :=
  if IntKind.i64.wrap (a + IntKind.i64.wrap (c * IntKind.i64.wrap (now - d))) < b then IntKind.i64.wrap (a + IntKind.i64.wrap (c * IntKind.i64.wrap (now - d))) else b

set_option maxHeartbeats 400000 in
theorem has_still (g : Nat) (a b c d now : Int) (w : World) (h : Bk w g a b c d) (hle : now ≤ d) :
    Calls Try.prog 13 #[.pointer (some ⟨g, 0, none⟩), .int .i64 now] w fun e w' => e = .returned (.int .i64 a) ∧ w' = w := by
  have h0 := h.c0
  have h3 := h.c3
  have hd : decide (d < now) = false := decide_eq_false (by omega)
  clear hle h
  go_enter Try.func13, Try.ntmps13
  go_wp2_with (first | (go_at_call 20; refine (load_any _ _ _ h0).mono ?_; rintro e w' ⟨rfl, rfl⟩))
  go_ret
  exact ⟨rfl, rfl⟩

set_option maxHeartbeats 400000 in
theorem has_more (g : Nat) (a b c d now : Int) (w : World) (h : Bk w g a b c d) (hlt : d < now) :
    Calls Try.prog 13 #[.pointer (some ⟨g, 0, none⟩), .int .i64 now] w fun e w' => e = .returned (.int .i64 (hasUp a b c d now)) ∧ Bk w' g (hasUp a b c d now) b c now ∧ w.grownBy w' (some g) := by
  have h0 := h.c0
  have h1 := h.c1
  have h2 := h.c2
  have h3 := h.c3
  have hd : decide (d < now) = true := decide_eq_true hlt
  have HB : Hid (Bk w g a b c d) := h
  clear h hlt
  go_enter Try.func13, Try.ntmps13
  go_wp2_with fail
  refine wp_region_still_tail 24 (by kernel_rfl) (by kernel_rfl) ?_
  simp only [List.take_succ_cons, List.take_zero, List.drop_succ_cons, List.drop_zero]
  repeat still_step
  refine wpStill_step (fun K hK => ?_)
  go_simp
  refine ⟨_, load_any _ a _ h0, hK _ ?_⟩
  clear hK K
  go_simp
  repeat still_step
  refine wpStill_nil ?_
  rw [show (if IntKind.i64.wrap (a + IntKind.i64.wrap (c * IntKind.i64.wrap (now - d))) < b then IntKind.i64.wrap (a + IntKind.i64.wrap (c * IntKind.i64.wrap (now - d))) else b) = hasUp a b c d now from rfl]
  generalize hr : hasUp a b c d now = r
  have HR := Lib.hid hr
  clear hr
  have HG : Hid (w.grownBy w.drew (some g)) := only_drew (only_refl _ _)
  have HB2 : Hid (Bk w.drew g a b c d) := HB.out
  clear HB h0 h1 h2 h3
  generalize w.drew = w2 at HG HB2 ⊢
  go_wp2_with (first | (go_at_call 19; refine (store_bk g a b c d r _ HB2.out).mono ?_; rintro e w3 ⟨rfl, hb3, hg3⟩; have k3 := hb3.c3; have f3 := hb3.fz 3; have k0 := (bk_set3 hb3 now).c0; have HB3 := Lib.hid hb3; have HG3 := Lib.hid hg3; clear hb3 hg3) | (go_at_call 20; refine (load_any _ _ _ k0).mono ?_; rintro e w' ⟨rfl, rfl⟩))
  go_ret
  have hr := HR.out
  subst hr
  exact ⟨rfl, bk_set3 HB3.out now, only_set (only_trans HG.out HG3.out) _ _⟩

/-- The last tick, and what there is, behind Has. -/
def hasL (d now : Int) : Int := if d < now then now else d
def hasV (a b c d now : Int) : Int := if d < now then hasUp a b c d now else a
theorem has_bk (g : Nat) (a b c d now : Int) (w : World) (h : Bk w g a b c d) :
    Calls Try.prog 13 #[.pointer (some ⟨g, 0, none⟩), .int .i64 now] w fun e w' => e = .returned (.int .i64 (hasV a b c d now)) ∧ Bk w' g (hasV a b c d now) b c (hasL d now) ∧ w.grownBy w' (some g) := by
  unfold hasV hasL
  by_cases hlt : d < now
  · rw [if_pos hlt, if_pos hlt]; exact has_more g a b c d now w h hlt
  · rw [if_neg hlt, if_neg hlt]
    exact (has_still g a b c d now w h (by omega)).mono fun e w' ⟨he, hw⟩ => ⟨he, by rw [hw]; exact h, by rw [hw]; exact only_refl _ _⟩

theorem new_bk (burst rate now : Int) (w : World) :
    Calls Try.prog 11 #[.int .i64 burst, .int .i64 rate, .int .i64 now] w fun e w' => ∃ g, e = .returned (.pointer (some ⟨g, 0, none⟩)) ∧ w.heap.size ≤ g ∧ Bk w' g 0 burst rate now ∧ Below w.heap.size w w' := by
  go_enter Try.func11, Try.ntmps11
  go_wp2
  go_ret
  exact ⟨_, rfl, Nat.le_refl _, heap_alloc_new w _, (Below.refl _ _).alloc (Nat.le_refl _) _⟩

set_option maxHeartbeats 400000 in
theorem pass_no (g : Nat) (a b c d now : Int) (w : World) (h : Bk w g a b c d) (hn : hasV a b c d now < 1) :
    Calls Try.prog 14 #[.pointer (some ⟨g, 0, none⟩), .int .i64 now] w fun e w' => e = .returned (.bool false) ∧ Bk w' g (hasV a b c d now) b c (hasL d now) ∧ w.grownBy w' (some g) := by
  have HH : Hid (∀ w, Bk w g a b c d → Calls Try.prog 13 #[.pointer (some ⟨g, 0, none⟩), .int .i64 now] w fun e w' => e = .returned (.int .i64 (hasV a b c d now)) ∧ Bk w' g (hasV a b c d now) b c (hasL d now) ∧ w.grownBy w' (some g)) := fun w h => has_bk g a b c d now w h
  generalize hv : hasV a b c d now = v at *
  generalize hl : hasL d now = l at *
  clear hv hl
  have hd : decide (v < 1) = true := decide_eq_true hn
  have HB := Lib.hid h
  clear h hn
  go_enter Try.func14, Try.ntmps14
  go_wp2_with (first | (go_at_call 13; refine (HH.out _ HB.out).mono ?_; rintro e w3 ⟨rfl, hb3, hg3⟩; have HB3 := Lib.hid hb3; have HG3 := Lib.hid hg3; clear hb3 hg3))
  go_ret
  exact ⟨rfl, HB3.out, HG3.out⟩

set_option maxHeartbeats 400000 in
theorem pass_yes (g : Nat) (a b c d now : Int) (w : World) (h : Bk w g a b c d) (hn : 1 ≤ hasV a b c d now) :
    Calls Try.prog 14 #[.pointer (some ⟨g, 0, none⟩), .int .i64 now] w fun e w' => e = .returned (.bool true) ∧ Bk w' g (wrap64 (hasV a b c d now + -1)) b c (hasL d now) ∧ w.grownBy w' (some g) := by
  have HH : Hid (∀ w, Bk w g a b c d → Calls Try.prog 13 #[.pointer (some ⟨g, 0, none⟩), .int .i64 now] w fun e w' => e = .returned (.int .i64 (hasV a b c d now)) ∧ Bk w' g (hasV a b c d now) b c (hasL d now) ∧ w.grownBy w' (some g)) := fun w h => has_bk g a b c d now w h
  generalize hv : hasV a b c d now = v at *
  generalize hl : hasL d now = l at *
  clear hv hl
  have hd : decide (v < 1) = false := decide_eq_false (by omega)
  have HB := Lib.hid h
  clear h hn
  go_enter Try.func14, Try.ntmps14
  go_wp2_with (first | (go_at_call 13; refine (HH.out _ HB.out).mono ?_; rintro e w3 ⟨rfl, hb3, hg3⟩; have HB3 := Lib.hid hb3; have HG3 := Lib.hid hg3; clear hb3 hg3) | (go_at_call 21; refine (add_bk g v b c l (-1) _ HB3.out).mono ?_; rintro e w4 ⟨rfl, hb4, hg4⟩; have HB4 := Lib.hid hb4; have HG4 := Lib.hid hg4; clear hb4 hg4))
  go_ret
  exact ⟨rfl, HB4.out, only_trans HG3.out HG4.out⟩

/-- The lesser of the two, as the code reckons it. -/
def lesser (x y : Int) : Int := if y < x then y else x

set_option maxHeartbeats 2000000 in
theorem set_bk (g : Nat) (a b c d u v now : Int) (w : World) (h : Bk w g a b c d) :
    Calls Try.prog 12 #[.pointer (some ⟨g, 0, none⟩), .int .i64 u, .int .i64 v, .int .i64 now] w fun e w' => e = .returned (.tuple #[]) ∧ Bk w' g (lesser u (hasV a b c d now)) u v (hasL d now) ∧ w.grownBy w' (some g) := by
  have HH : Hid (∀ w, Bk w g a b c d → Calls Try.prog 13 #[.pointer (some ⟨g, 0, none⟩), .int .i64 now] w fun e w' => e = .returned (.int .i64 (hasV a b c d now)) ∧ Bk w' g (hasV a b c d now) b c (hasL d now) ∧ w.grownBy w' (some g)) := fun w h => has_bk g a b c d now w h
  generalize hv : hasV a b c d now = x at *
  generalize hl : hasL d now = l at *
  clear hv hl
  have HB := Lib.hid h
  clear h
  unfold lesser
  by_cases hx : x < u
  · rw [if_pos hx]
    go_enter Try.func12, Try.ntmps12
    go_wp2_with fail
    go_region_with (first | (go_at_call 13; refine (HH.out _ HB.out.drew).mono ?_; rintro e w3 ⟨rfl, hb3, hg3⟩; have HB3 := Lib.hid hb3; have HG3 := Lib.hid hg3; clear hb3 hg3) | (go_at_call 19; refine (store_bk g x b c l x _ HB3.out).mono ?_; rintro e w4 ⟨rfl, hb4, hg4⟩; have HB4 := Lib.hid hb4; have HG4 := Lib.hid hg4; clear hb4 hg4))
    have k1 := HB4.out.c1
    have f1 := HB4.out.fz 1
    have k2 := HB4.out.c2
    have f2 := HB4.out.fz 2
    go_wp2
    go_end0
    exact ⟨rfl, bk_set2 (bk_set1 HB4.out u) v, only_set (only_set (only_trans (only_trans (only_drew (only_refl _ _)) HG3.out) HG4.out) _ _) _ _⟩
  · rw [if_neg hx]
    go_enter Try.func12, Try.ntmps12
    go_wp2_with fail
    go_region_with (first | (go_at_call 13; refine (HH.out _ HB.out.drew).mono ?_; rintro e w3 ⟨rfl, hb3, hg3⟩; have HB3 := Lib.hid hb3; have HG3 := Lib.hid hg3; clear hb3 hg3) | (go_at_call 19; refine (store_bk g x b c l u _ HB3.out).mono ?_; rintro e w4 ⟨rfl, hb4, hg4⟩; have HB4 := Lib.hid hb4; have HG4 := Lib.hid hg4; clear hb4 hg4))
    have k1 := HB4.out.c1
    have f1 := HB4.out.fz 1
    have k2 := HB4.out.c2
    have f2 := HB4.out.fz 2
    go_wp2
    go_end0
    exact ⟨rfl, bk_set2 (bk_set1 HB4.out u) v, only_set (only_set (only_trans (only_trans (only_drew (only_refl _ _)) HG3.out) HG4.out) _ _) _ _⟩

end Go.Proofs.Ytbbmopekolgalaa
