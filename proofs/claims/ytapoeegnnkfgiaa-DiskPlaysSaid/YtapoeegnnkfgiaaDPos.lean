/- Disk's Write where the power goes later; no condition. -/
import Derived.Test.YtapoeegnnkfgiaaDWrite
set_option linter.unusedVariables false
set_option linter.unusedSimpArgs false
namespace Go.Proofs.Ytapoeegnnkfgiaa
open Go.RowKit Go.Proofs.YtapoeegnnkfgiaaW.PrintWords
set_option maxHeartbeats 2000000 in
theorem write_pos (g : Nat) (n : Int) (b m : Nat) (x l : Int) (k : Int) (a : Option Addr) (c : Nat) (bs : List Nat) (f : Int → Option Nat) (w : World) (h : Db w g n b x l false) (hm : Dm w b m f) (hbg : b ≠ g) (hB : Bts w a 512 bs) (hk0 : 0 ≤ k) (hk1 : k < n) (hn : n ≤ 16384) (hl : 0 < l) (hl2 : l ≤ 9223372036854775807) (hag : ∀ ad, a = some ad → ad.block ≠ g) (hx0 : 0 ≤ x) (hx1 : x ≤ 1000) (hm2 : m ≤ 1000) :
    Calls Try.prog 16 #[.pointer (some ⟨g, 0, none⟩), .int .i64 k, .slice a 512 c] w fun e w' => e = .returned (.int .i64 0) ∧ ∃ q c', w.heap.size ≤ q ∧ OwnB w' w.heap.size (.slice (some ⟨q, 0, none⟩) 512 c') bs ∧ Db w' g n b (x + 1) (l - 1) false ∧ Dm w' b (m + 1) (updD f k q) ∧ Tr w w' g (some b) := by
  have k4 := h.c4
  have k0 := h.c0
  have k3 := h.c3
  have k1 := h.c1
  have d1 : decide (k < 0) = false := decide_eq_false (by omega)
  have d2 : decide (n ≤ k) = false := decide_eq_false (by omega)
  have d3 : (l == 0) = false := beq_eq_false_iff_ne.mpr (by omega)
  have d4 : decide (0 < l) = true := decide_eq_true (by omega)
  have f3 := h.fz 3
  have HO : Hid (w.grownBy (w.setCell ⟨g, 3, none⟩ (.int .i64 (l - 1))) (some g)) := only_set (only_refl _ _) _ _
  have HD : Hid (Db (w.setCell ⟨g, 3, none⟩ (.int .i64 (l - 1))) g n b x (l - 1) false) := h.s3 (l - 1)
  have k1' := HD.out.c1
  have HM : Hid (Dm (w.setCell ⟨g, 3, none⟩ (.int .i64 (l - 1))) b m f) := hm.kept HO.out (fun e => hbg (Option.some.inj e))
  have HB : Hid (Bts (w.setCell ⟨g, 3, none⟩ (.int .i64 (l - 1))) a 512 bs) := hB.grown HO.out (fun ad e _ he => hag ad e (Option.some.inj he))
  clear h hm hB
  go_enter Try.func16, Try.ntmps16
  go_wp2_with fail
  generalize w.setCell ⟨g, 3, none⟩ (.int .i64 (l - 1)) = w1 at HO HD HM HB k1' ⊢
  have hwf : (Lit.int .i64 k).wf = true := by
    have hmin : IntKind.i64.min = -9223372036854775808 := rfl
    have hmax : IntKind.i64.max = 9223372036854775807 := rfl
    simp only [Lit.wf, Bool.and_eq_true, decide_eq_true_eq]
    omega
  go_region_with (first
    | (go_at_call 38; refine (clone_any a 512 c bs _ ?_ (by decide) (by decide)).mono ?_; · exact HB.out
       rintro e w2 ⟨q, c', rfl, hq, ho, hb⟩
       have hd2 : Db w2 g n b x (l - 1) false := blk_below (w := w1.drew) HD.out hb
       have ht2 : Tr w1 w2 g (some b) := ⟨hb.os, hb.tape, hb.output, hb.size, fun i hi _ _ => hb.block i hi⟩
       have hm2 : Dm w2 b m f := Dm.kept (w := w1.drew) (row := none) HM.out ⟨hb.os, hb.tape, hb.output, hb.size, fun i hi _ => hb.block i hi⟩ (by simp)
       have k12 := hd2.c1
       obtain ⟨w9, hrun, hm9, hg9⟩ := hm2.put k q c' hwf (by unfold maxLen; omega)
       have hd9 : Db w9 g n b x (l - 1) false := hd2.grown hg9 (fun e => hbg (Option.some.inj e).symm)
       have k22 := hd9.c2
       have z22 := hd9.fz 2
       have hqb : b ≠ q := Nat.ne_of_lt (Nat.lt_of_lt_of_le HM.out.lt hq)
       have ho9 := ho.other hg9 (own_row (fun e => hqb (Option.some.inj (show some b = some q from e))))))
  all_goals (simp only [Exit.then]; go_at_K)
  all_goals go_wp2_with (first | (go_at_call 39; refine (dadd _ x _ k22 z22 hx0 hx1).mono ?_; rintro e w6 ⟨rfl, rfl⟩))
  all_goals go_ret
  all_goals (
    have hqg : g ≠ q := Nat.ne_of_lt (Nat.lt_of_lt_of_le HD.out.lt hq)
    exact ⟨rfl, q, c', Nat.le_trans HO.out.size hq, own_weaken (ho9.other (only_set (only_refl w9 (some g)) 2 _) (own_row (fun e => hqg (Option.some.inj (show some g = some q from e))))) HO.out.size, hd9.s2 _, hm9.kept (only_set (only_refl w9 (some g)) 2 _) (fun e => hbg (Option.some.inj e)), (((Tr.of HO.out).trans (Nx.refl _ _) ht2).trans (Nx.refl _ _) (Tr.map hg9)).trans (Nx.refl _ _) (Tr.of (only_set (only_refl w9 (some g)) 2 _))⟩)
end Go.Proofs.Ytapoeegnnkfgiaa
