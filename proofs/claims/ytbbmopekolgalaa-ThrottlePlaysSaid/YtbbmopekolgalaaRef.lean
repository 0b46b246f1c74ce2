/- The document's bucket (the reference's functions), each as a contract; no condition. -/
import Derived.Test.YtbbmopekolgalaaThk
set_option linter.unusedVariables false
set_option linter.unusedSimpArgs false
namespace Go.Proofs.Ytbbmopekolgalaa
open Go.RowKit

/-- Block g is the reference's bucket. -/
def Rk (w : World) (g : Nat) (has burst rate last : Int) : Prop :=
  w.heap[g]? = some (.cells #[.int .i64 burst, .int .i64 rate, .int .i64 last, .int .i64 has] 52 (0, 0))
section
variable {w : World} {g : Nat} {a b c d : Int}
theorem Rk.c0 (h : Rk w g a b c d) : w.cell? ⟨g, 0, none⟩ = some (.int .i64 b) := by unfold Rk at h; simp [World.cell?, h]
theorem Rk.c1 (h : Rk w g a b c d) : w.cell? ⟨g, 1, none⟩ = some (.int .i64 c) := by unfold Rk at h; simp [World.cell?, h]
theorem Rk.c2 (h : Rk w g a b c d) : w.cell? ⟨g, 2, none⟩ = some (.int .i64 d) := by unfold Rk at h; simp [World.cell?, h]
theorem Rk.c3 (h : Rk w g a b c d) : w.cell? ⟨g, 3, none⟩ = some (.int .i64 a) := by unfold Rk at h; simp [World.cell?, h]
theorem Rk.fz (h : Rk w g a b c d) (i : Nat) : w.frozen? ⟨g, i, none⟩ = false := by unfold Rk at h; simp [World.frozen?, h]
theorem rk_set0 (h : Rk w g a b c d) (x : Int) : Rk (w.setCell ⟨g, 0, none⟩ (.int .i64 x)) g a x c d := by
  unfold Rk at h ⊢; simp [World.setCell, Array.getElem?_modify, h]
theorem rk_set1 (h : Rk w g a b c d) (x : Int) : Rk (w.setCell ⟨g, 1, none⟩ (.int .i64 x)) g a b x d := by
  unfold Rk at h ⊢; simp [World.setCell, Array.getElem?_modify, h]
theorem rk_set2 (h : Rk w g a b c d) (x : Int) : Rk (w.setCell ⟨g, 2, none⟩ (.int .i64 x)) g a b c x := by
  unfold Rk at h ⊢; simp [World.setCell, Array.getElem?_modify, h]
theorem rk_set3 (h : Rk w g a b c d) (x : Int) : Rk (w.setCell ⟨g, 3, none⟩ (.int .i64 x)) g x b c d := by
  unfold Rk at h ⊢; simp [World.setCell, Array.getElem?_modify, h]
theorem Rk.lt (h : Rk w g a b c d) : g < w.heap.size := lt_of_block h
end

theorem rnew (burst rate now : Int) (w : World) :
    Calls Try.prog 15 #[.int .i64 burst, .int .i64 rate, .int .i64 now] w fun e w' => ∃ g, e = .returned (.pointer (some ⟨g, 0, none⟩)) ∧ w.heap.size ≤ g ∧ Rk w' g 0 burst rate now ∧ Below w.heap.size w w' := by
  go_enter Try.func15, Try.ntmps15
  go_wp2
  go_ret
  exact ⟨_, rfl, Nat.le_refl _, heap_alloc_new w _, (Below.refl _ _).alloc (Nat.le_refl _) _⟩

set_option maxHeartbeats 400000 in
theorem rto_no (g : Nat) (a b c d now : Int) (w : World) (h : Rk w g a b c d) (hle : now ≤ d) :
    Calls Try.prog 22 #[.pointer (some ⟨g, 0, none⟩), .int .i64 now] w fun e w' => e = .returned (.tuple #[]) ∧ w' = w := by
  have h2 := h.c2
  have hd : decide (d < now) = false := decide_eq_false (by omega)
  clear hle h
  go_enter Try.func22, Try.ntmps22
  go_wp2
  go_end0
  exact ⟨rfl, rfl⟩

set_option maxHeartbeats 400000 in
theorem rto_yes (g : Nat) (a b c d now : Int) (w : World) (h : Rk w g a b c d) (hlt : d < now) :
    Calls Try.prog 22 #[.pointer (some ⟨g, 0, none⟩), .int .i64 now] w fun e w' => e = .returned (.tuple #[]) ∧ Rk w' g (hasUp a b c d now) b c now ∧ w.grownBy w' (some g) := by
  have h0 := h.c0
  have h1 := h.c1
  have h2 := h.c2
  have h3 := h.c3
  have hd : decide (d < now) = true := decide_eq_true hlt
  have HB : Hid (Rk w g a b c d) := h
  clear h hlt
  go_enter Try.func22, Try.ntmps22
  go_wp2_with fail
  refine wp_region_still_tail 24 (by kernel_rfl) (by kernel_rfl) ?_
  simp only [List.take_succ_cons, List.take_zero, List.drop_succ_cons, List.drop_zero]
  repeat still_step
  refine wpStill_nil ?_
  rw [show (if IntKind.i64.wrap (a + IntKind.i64.wrap (c * IntKind.i64.wrap (now - d))) < b then IntKind.i64.wrap (a + IntKind.i64.wrap (c * IntKind.i64.wrap (now - d))) else b) = hasUp a b c d now from rfl]
  generalize hr : hasUp a b c d now = r
  have HR := Lib.hid hr
  clear hr
  have HG : Hid (w.grownBy w.drew (some g)) := only_drew (only_refl _ _)
  have HB2 : Hid (Rk w.drew g a b c d) := HB.out
  clear HB h0 h1 h2 h3
  change wpList _ _ _ _ _ w.drew
  generalize w.drew = w2 at HG HB2 ⊢
  have k2 := HB2.out.c2
  have k3 := HB2.out.c3
  have f2 := HB2.out.fz 2
  have f3 := HB2.out.fz 3
  go_wp2
  go_end0
  have hr := HR.out
  subst hr
  exact ⟨rfl, rk_set2 (rk_set3 HB2.out _) now, only_set (only_set HG.out _ _) _ _⟩

theorem rto (g : Nat) (a b c d now v l : Int) (w : World) (h : Rk w g a b c d) (hv : hasV a b c d now = v) (hl : hasL d now = l) :
    Calls Try.prog 22 #[.pointer (some ⟨g, 0, none⟩), .int .i64 now] w fun e w' => e = .returned (.tuple #[]) ∧ Rk w' g v b c l ∧ w.grownBy w' (some g) := by
  subst hv; subst hl
  unfold hasV hasL
  by_cases hlt : d < now
  · rw [if_pos hlt, if_pos hlt]; exact rto_yes g a b c d now w h hlt
  · rw [if_neg hlt, if_neg hlt]
    exact (rto_no g a b c d now w h (by omega)).mono fun e w' ⟨he, hw⟩ => ⟨he, by rw [hw]; exact h, by rw [hw]; exact only_refl _ _⟩

set_option maxHeartbeats 400000 in
theorem rleft (g : Nat) (a b c d now v l : Int) (w : World) (h : Rk w g a b c d) (hv : hasV a b c d now = v) (hl : hasL d now = l) :
    Calls Try.prog 17 #[.pointer (some ⟨g, 0, none⟩), .int .i64 now] w fun e w' => e = .returned (.int .i64 v) ∧ Rk w' g v b c l ∧ w.grownBy w' (some g) := by
  have HV := Lib.hid hv
  have HL := Lib.hid hl
  have HB := Lib.hid h
  clear hv hl h
  go_enter Try.func17, Try.ntmps17
  go_wp2_with (first | (go_at_call 22; refine (rto g a b c d now v l _ HB.out HV.out HL.out).mono ?_; rintro e w3 ⟨rfl, hb3, hg3⟩; have k3 := hb3.c3; have HB3 := Lib.hid hb3; have HG3 := Lib.hid hg3; clear hb3 hg3))
  go_ret
  exact ⟨rfl, HB3.out, HG3.out⟩

set_option maxHeartbeats 400000 in
theorem rpass_no (g : Nat) (a b c d now v l : Int) (w : World) (h : Rk w g a b c d) (hv : hasV a b c d now = v) (hl : hasL d now = l) (hn : v < 1) :
    Calls Try.prog 16 #[.pointer (some ⟨g, 0, none⟩), .int .i64 now] w fun e w' => e = .returned (.bool false) ∧ Rk w' g v b c l ∧ w.grownBy w' (some g) := by
  have hd : decide (v < 1) = true := decide_eq_true hn
  have HV := Lib.hid hv
  have HL := Lib.hid hl
  have HB := Lib.hid h
  clear hv hl h hn
  go_enter Try.func16, Try.ntmps16
  go_wp2_with (first | (go_at_call 22; refine (rto g a b c d now v l _ HB.out HV.out HL.out).mono ?_; rintro e w3 ⟨rfl, hb3, hg3⟩; have k3 := hb3.c3; have HB3 := Lib.hid hb3; have HG3 := Lib.hid hg3; clear hb3 hg3))
  go_ret
  exact ⟨rfl, HB3.out, HG3.out⟩

set_option maxHeartbeats 400000 in
theorem rpass_yes (g : Nat) (a b c d now v v' l : Int) (w : World) (h : Rk w g a b c d) (hv : hasV a b c d now = v) (hl : hasL d now = l) (hn : 1 ≤ v) (hv' : v' = wrap64 (v - 1)) :
    Calls Try.prog 16 #[.pointer (some ⟨g, 0, none⟩), .int .i64 now] w fun e w' => e = .returned (.bool true) ∧ Rk w' g v' b c l ∧ w.grownBy w' (some g) := by
  subst hv'
  have hd : decide (v < 1) = false := decide_eq_false (by omega)
  have HV := Lib.hid hv
  have HL := Lib.hid hl
  have HB := Lib.hid h
  clear hv hl h hn
  go_enter Try.func16, Try.ntmps16
  go_wp2_with (first | (go_at_call 22; refine (rto g a b c d now v l _ HB.out HV.out HL.out).mono ?_; rintro e w3 ⟨rfl, hb3, hg3⟩; have k3 := hb3.c3; have f3 := hb3.fz 3; have HB3 := Lib.hid hb3; have HG3 := Lib.hid hg3; clear hb3 hg3))
  go_ret
  exact ⟨rfl, rk_set3 HB3.out _, only_set HG3.out _ _⟩

set_option maxHeartbeats 400000 in
theorem rset (g : Nat) (a b c d u v now x l : Int) (w : World) (h : Rk w g a b c d) (hx : lesser u (hasV a b c d now) = x) (hl : hasL d now = l) :
    Calls Try.prog 18 #[.pointer (some ⟨g, 0, none⟩), .int .i64 u, .int .i64 v, .int .i64 now] w fun e w' => e = .returned (.tuple #[]) ∧ Rk w' g x u v l ∧ w.grownBy w' (some g) := by
  obtain ⟨y, hv⟩ : ∃ y, hasV a b c d now = y := ⟨_, rfl⟩
  rw [hv] at hx
  have hm : (if u < y then u else y) = x := by rw [← hx]; unfold lesser; split <;> split <;> omega
  have HV := Lib.hid hv
  have HL := Lib.hid hl
  have HB := Lib.hid h
  clear hv hl h hx
  go_enter Try.func18, Try.ntmps18
  go_wp2_with (first | (go_at_call 22; refine (rto g a b c d now y l _ HB.out HV.out HL.out).mono ?_; rintro e w3 ⟨rfl, hb3, hg3⟩; have k0 := hb3.c0; have f0 := hb3.fz 0; have k1 := hb3.c1; have f1 := hb3.fz 1; have k3 := hb3.c3; have f3 := hb3.fz 3; have HB3 := Lib.hid hb3; have HG3 := Lib.hid hg3; clear hb3 hg3))
  go_end0
  exact ⟨rfl, rk_set3 (rk_set1 (rk_set0 HB3.out u) v) x, only_set (only_set (only_set HG3.out _ _) _ _) _ _⟩
end Go.Proofs.Ytbbmopekolgalaa
