/- Disk's Write; no condition. -/
import Derived.Test.YtapoeegnnkfgiaaDDisk
import Derived.Deep.RegionWith
set_option linter.unusedVariables false
set_option linter.unusedSimpArgs false
namespace Go.Proofs.Ytapoeegnnkfgiaa
open Go.RowKit Go.Proofs.YtapoeegnnkfgiaaW.PrintWords

/-- What has turned: a Disk's block g, its map's block mo, and new ones. -/
structure Tr (w w' : World) (g : Nat) (mo : Option Nat) : Prop where
  os : w'.os = w.os
  tape : w'.tape = w.tape
  output : w'.output = w.output
  size : w.heap.size ≤ w'.heap.size
  block : ∀ i, i < w.heap.size → i ≠ g → some i ≠ mo → w'.heap[i]? = w.heap[i]?
/-- The map's block: the same, or a new one. -/
def Nx (s : Nat) (mo mo' : Option Nat) : Prop := mo' = mo ∨ ∃ b, mo' = some b ∧ s ≤ b
theorem Tr.refl (w : World) (g : Nat) (mo : Option Nat) : Tr w w g mo := ⟨rfl, rfl, rfl, Nat.le_refl _, fun _ _ _ _ => rfl⟩
theorem Tr.of {w w' : World} {g : Nat} {mo : Option Nat} (h : w.grownBy w' (some g)) : Tr w w' g mo :=
  ⟨h.os, h.tape, h.output, h.size, fun i hi hg _ => h.block i hi (by intro e; injection e with e; exact hg e)⟩
theorem Tr.trans {w w1 w2 : World} {g : Nat} {mo mo1 : Option Nat} (h : Tr w w1 g mo) (hn : Nx w.heap.size mo mo1) (k : Tr w1 w2 g mo1) : Tr w w2 g mo :=
  ⟨k.os.trans h.os, k.tape.trans h.tape, k.output.trans h.output, Nat.le_trans h.size k.size, fun i hi hg hm => (k.block i (Nat.lt_of_lt_of_le hi h.size) hg (by
    rcases hn with e | ⟨b, e, hb⟩
    · rw [e]; exact hm
    · rw [e]; intro e2; injection e2 with e2; omega)).trans (h.block i hi hg hm)⟩
theorem Tr.map {w w' : World} {g b : Nat} (h : w.grownBy w' (some b)) : Tr w w' g (some b) :=
  ⟨h.os, h.tape, h.output, h.size, fun i hi _ hm => h.block i hi hm⟩
theorem Nx.refl (s : Nat) (mo : Option Nat) : Nx s mo mo := .inl rfl
/-- Nothing below has turned. -/
theorem Tr.below {B g : Nat} {mo : Option Nat} {w0 w w' : World} (h : Below B w0 w) (k : Tr w w' g mo) (hB : B ≤ w.heap.size) (hg : B ≤ g) (hm : ∀ b, mo = some b → B ≤ b) : Below B w0 w' :=
  h.trans ⟨k.os, k.tape, k.output, k.size, fun i hi => k.block i (Nat.lt_of_lt_of_le hi hB) (by omega) (fun e => by have := hm i e.symm; omega)⟩

theorem Tr.belowW {w w' : World} {g : Nat} {mo : Option Nat} (h : Below w.heap.size w w') : Tr w w' g mo := ⟨h.os, h.tape, h.output, h.size, fun i hi _ _ => h.block i hi⟩
theorem write_dead (g : Nat) (n : Int) (b : Nat) (x l : Int) (k : Int) (v : Value) (w : World) (h : Db w g n b x l true) :
    Calls Try.prog 16 #[.pointer (some ⟨g, 0, none⟩), .int .i64 k, v] w fun e w' => e = .returned (.int .i64 12) ∧ w' = w := by
  have k4 := h.c4
  go_enter Try.func16, Try.ntmps16
  go_wp2
  go_ret
  exact ⟨rfl, rfl⟩
set_option maxHeartbeats 1000000 in
theorem write_arg (g : Nat) (n : Int) (b : Nat) (x l : Int) (k : Int) (a : Option Addr) (len c : Nat) (w : World) (h : Db w g n b x l false) (hk : k < 0 ∨ n ≤ k ∨ len ≠ 512) :
    Calls Try.prog 16 #[.pointer (some ⟨g, 0, none⟩), .int .i64 k, .slice a len c] w fun e w' => e = .returned (.int .i64 1) ∧ w' = w := by
  have k4 := h.c4
  have k0 := h.c0
  by_cases h1 : k < 0
  · have d1 : decide (k < 0) = true := decide_eq_true h1
    clear hk
    go_enter Try.func16, Try.ntmps16
    go_wp2
    go_ret
    exact ⟨rfl, rfl⟩
  have d1 : decide (k < 0) = false := decide_eq_false h1
  by_cases h2 : n ≤ k
  · have d2 : decide (n ≤ k) = true := decide_eq_true h2
    clear hk
    go_enter Try.func16, Try.ntmps16
    go_wp2
    go_ret
    exact ⟨rfl, rfl⟩
  have d2 : decide (n ≤ k) = false := decide_eq_false h2
  have d3 : ((len : Int) != 512) = true := bne_iff_ne.mpr (by omega)
  clear hk
  go_enter Try.func16, Try.ntmps16
  go_wp2
  go_ret
  exact ⟨rfl, rfl⟩
set_option maxHeartbeats 1000000 in
theorem write_cut (g : Nat) (n : Int) (b : Nat) (x : Int) (k : Int) (a : Option Addr) (c : Nat) (w : World) (h : Db w g n b x 0 false) (hk0 : 0 ≤ k) (hk1 : k < n) :
    Calls Try.prog 16 #[.pointer (some ⟨g, 0, none⟩), .int .i64 k, .slice a 512 c] w fun e w' => e = .returned (.int .i64 12) ∧ Db w' g n b x 0 true ∧ w.grownBy w' (some g) := by
  have k4 := h.c4
  have k0 := h.c0
  have k3 := h.c3
  have f4 := h.fz 4
  have HD : Hid (Db (w.setCell ⟨g, 4, none⟩ (.bool true)) g n b x 0 true) := h.s4 true
  have d1 : decide (k < 0) = false := decide_eq_false (by omega)
  have d2 : decide (n ≤ k) = false := decide_eq_false (by omega)
  clear h
  go_enter Try.func16, Try.ntmps16
  go_wp2
  go_ret
  exact ⟨rfl, HD.out, only_set (only_refl _ _) _ _⟩
set_option maxHeartbeats 2000000 in
theorem write_neg (g : Nat) (n : Int) (b m : Nat) (x l : Int) (k : Int) (a : Option Addr) (c : Nat) (bs : List Nat) (f : Int → Option Nat) (w : World) (h : Db w g n b x l false) (hm : Dm w b m f) (hbg : b ≠ g) (hB : Bts w a 512 bs) (hk0 : 0 ≤ k) (hk1 : k < n) (hn : n ≤ 16384) (hl : l < 0) (hx0 : 0 ≤ x) (hx1 : x ≤ 1000) (hm2 : m ≤ 1000) :
    Calls Try.prog 16 #[.pointer (some ⟨g, 0, none⟩), .int .i64 k, .slice a 512 c] w fun e w' => e = .returned (.int .i64 0) ∧ ∃ q c', w.heap.size ≤ q ∧ OwnB w' w.heap.size (.slice (some ⟨q, 0, none⟩) 512 c') bs ∧ Db w' g n b (x + 1) l false ∧ Dm w' b (m + 1) (updD f k q) ∧ Tr w w' g (some b) := by
  have k4 := h.c4
  have k0 := h.c0
  have k3 := h.c3
  have k1 := h.c1
  have d1 : decide (k < 0) = false := decide_eq_false (by omega)
  have d2 : decide (n ≤ k) = false := decide_eq_false (by omega)
  have d3 : (l == 0) = false := beq_eq_false_iff_ne.mpr (by omega)
  have d4 : decide (0 < l) = false := decide_eq_false (by omega)
  have HD := Lib.hid h
  have HM := Lib.hid hm
  have HB := Lib.hid hB
  clear h hm hB
  go_enter Try.func16, Try.ntmps16
  go_wp2_with fail
  have hwf : (Lit.int .i64 k).wf = true := by
    have hmin : IntKind.i64.min = -9223372036854775808 := rfl
    have hmax : IntKind.i64.max = 9223372036854775807 := rfl
    simp only [Lit.wf, Bool.and_eq_true, decide_eq_true_eq]
    omega
  go_region_with (first
    | (go_at_call 38; refine (clone_any a 512 c bs _ ?_ (by decide) (by decide)).mono ?_; · exact HB.out
       rintro e w2 ⟨q, c', rfl, hq, ho, hb⟩
       have hd2 : Db w2 g n b x l false := blk_below (w := w.drew) HD.out hb
       have ht2 : Tr w w2 g (some b) := ⟨hb.os, hb.tape, hb.output, hb.size, fun i hi _ _ => hb.block i hi⟩
       have hm2 : Dm w2 b m f := Dm.kept (w := w.drew) (row := none) HM.out ⟨hb.os, hb.tape, hb.output, hb.size, fun i hi _ => hb.block i hi⟩ (by simp)
       have k12 := hd2.c1
       obtain ⟨w9, hrun, hm9, hg9⟩ := hm2.put k q c' hwf (by unfold maxLen; omega)
       have hd9 : Db w9 g n b x l false := hd2.grown hg9 (fun e => hbg (Option.some.inj e).symm)
       have k22 := hd9.c2
       have z22 := hd9.fz 2
       have hqb : b ≠ q := Nat.ne_of_lt (Nat.lt_of_lt_of_le HM.out.lt hq)
       have ho9 := ho.other hg9 (own_row (fun e => hqb (Option.some.inj (show some b = some q from e))))))
  all_goals (simp only [Exit.then]; go_at_K)
  all_goals go_wp2_with (first | (go_at_call 39; refine (dadd _ x _ k22 z22 hx0 hx1).mono ?_; rintro e w6 ⟨rfl, rfl⟩))
  all_goals go_ret
  all_goals (
    have hqg : g ≠ q := Nat.ne_of_lt (Nat.lt_of_lt_of_le HD.out.lt hq)
    exact ⟨rfl, q, c', hq, ho9.other (only_set (only_refl w9 (some g)) 2 _) (own_row (fun e => hqg (Option.some.inj (show some g = some q from e)))), hd9.s2 _, hm9.kept (only_set (only_refl w9 (some g)) 2 _) (fun e => hbg (Option.some.inj e)), (ht2.trans (Nx.refl _ _) (Tr.map hg9)).trans (Nx.refl _ _) (Tr.of (only_set (only_refl w9 (some g)) 2 _))⟩)
end Go.Proofs.Ytapoeegnnkfgiaa
