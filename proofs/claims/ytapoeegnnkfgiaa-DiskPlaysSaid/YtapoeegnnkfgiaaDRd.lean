/- The disk's Read, Cut, Start, New, told; no condition. -/
import Derived.Test.YtapoeegnnkfgiaaDSt
set_option linter.unusedVariables false
set_option linter.unusedSimpArgs false
namespace Go.Proofs.Ytapoeegnnkfgiaa
open Go.RowKit Go.Proofs.YtapoeegnnkfgiaaW.PrintWords

theorem bts_nil (w : World) : Bts w none 0 [] := ⟨rfl, by omega, (fun b hb => by cases hb), fun j hj => by omega⟩
theorem wf_small {k : Int} (h0 : 0 ≤ k) (h1 : k < 16385) : (Lit.int .i64 k).wf = true := by
  have hmin : IntKind.i64.min = -9223372036854775808 := rfl
  have hmax : IntKind.i64.max = 9223372036854775807 := rfl
  simp only [Lit.wf, Bool.and_eq_true, decide_eq_true_eq]
  omega
set_option maxHeartbeats 2000000 in
theorem read_ds (T g b n m : Nat) (av : Option Nat) (s : DS) (k r : Int) (bs : List Nat) (w : World) (h : Pd w T av g b n m s) (hn : n ≤ 16384) (hrs : Hid (s.rd n k = (r, bs))) :
    Calls Try.prog 31 #[.pointer (some ⟨g, 0, none⟩), .int .i64 k] w fun e w' => ∃ A len c, e = .returned (.tuple #[.slice A len c, .int .i64 r]) ∧ Bts w' A len bs ∧ Below w.heap.size w w' := by
  have e := hrs.out
  clear hrs
  have hd := h.1
  have k0 := hd.c0
  have k1 := hd.c1
  have k4 := hd.c4
  unfold DS.rd at e
  by_cases h1 : s.d = true
  · rw [if_pos h1] at e
    injection e with e1 e2
    subst e1 e2
    rw [h1] at k4
    clear h hd
    go_enter Try.func31, Try.ntmps31
    go_wp2
    go_ret2
    exact ⟨_, _, _, rfl, bts_nil _, Below.refl _ _⟩
  rw [if_neg h1] at e
  have h1' : s.d = false := by cases hq : s.d <;> simp_all
  rw [h1'] at k4
  by_cases h2 : k < 0
  · rw [if_pos (.inl h2)] at e
    injection e with e1 e2
    subst e1 e2
    have d1 : decide (k < 0) = true := decide_eq_true h2
    clear h hd
    go_enter Try.func31, Try.ntmps31
    go_wp2
    go_ret2
    exact ⟨_, _, _, rfl, bts_nil _, Below.refl _ _⟩
  have d1 : decide (k < 0) = false := decide_eq_false h2
  by_cases h3 : (n : Int) ≤ k
  · rw [if_pos (.inr h3)] at e
    injection e with e1 e2
    subst e1 e2
    have d2 : decide ((n : Int) ≤ k) = true := decide_eq_true h3
    clear h hd
    go_enter Try.func31, Try.ntmps31
    go_wp2
    go_ret2
    exact ⟨_, _, ⟨_, rfl⟩, bts_nil _, Below.refl _ _⟩
  have d2 : decide ((n : Int) ≤ k) = false := decide_eq_false h3
  rw [if_neg (by omega)] at e
  injection e with e1 e2
  subst e1
  obtain ⟨_, hg, hb, hbg, F, hM, hF⟩ := h
  have hL := hF k
  have hwf := wf_small (k := k) (by omega) (by omega)
  cases hq : s.f k with
  | none =>
    rw [hq] at e2 hL
    have hl := hM.none_ k hwf (hL.1 rfl)
    obtain ⟨C, hmk, hz⟩ := make_at
    have HZ := Lib.hid hz
    obtain rfl : zeros = bs := e2
    clear hz hM hF hL hd hq
    go_enter Try.func31, Try.ntmps31
    go_wp2
    go_ret2
    exact ⟨_, _, ⟨_, rfl⟩, (HZ.out w).bts zeros_lt, below_alloc1 w C⟩
  | some ys =>
    rw [hq] at e2 hL
    obtain ⟨p, e3, _, _, hB⟩ := hL.2 ys rfl
    obtain ⟨c, hl⟩ := hM.some_ k hwf e3
    obtain rfl : ys = bs := e2
    have HB := Lib.hid hB
    clear hM hF hL hd hq hB
    go_enter Try.func31, Try.ntmps31
    go_wp2_with (first
      | (go_at_call 38; refine (clone_any _ 512 c ys _ HB.out (by decide) (by decide)).mono ?_; rintro e w2 ⟨q, c', rfl, hq, ho, hb⟩; have HO := Lib.hid ho; have HQ := Lib.hid hb; clear ho hb))
    go_ret2
    exact ⟨_, _, _, rfl, HO.out.bts HB.out.2.2.1, HQ.out⟩

theorem cut_ds (T g b n m : Nat) (av : Option Nat) (s : DS) (k : Int) (w : World) (h : Pd w T av g b n m s) :
    Calls Try.prog 15 #[.pointer (some ⟨g, 0, none⟩), .int .i64 k] w fun e w' => e = .returned (.tuple #[]) ∧ Pd w' T av g b n m (s.cut k) ∧ Tr w w' g (some b) := by
  obtain ⟨z, hmx⟩ : ∃ z : Int, (if k < -1 then (-1 : Int) else k) = z := ⟨_, rfl⟩
  have k3 := h.db.c3
  have f3 := h.db.fz 3
  have HD : Hid (Db (w.setCell ⟨g, 3, none⟩ (.int .i64 z)) g n b s.x z s.d) := h.db.s3 z
  have HP := Lib.hid h
  have HZ := Lib.hid hmx
  clear h
  go_enter Try.func15, Try.ntmps15
  go_wp2
  go_end0
  refine ⟨rfl, HP.out.set (s' := s.cut k) ?_ (only_set (only_refl _ _) _ _) rfl, Tr.of (only_set (only_refl _ _) _ _)⟩
  unfold DS.cut
  dsimp only
  rw [HZ.out]
  exact HD.out
theorem start_ds (T g b n m : Nat) (av : Option Nat) (s : DS) (w : World) (h : Pd w T av g b n m s) :
    Calls Try.prog 19 #[.pointer (some ⟨g, 0, none⟩)] w fun e w' => e = .returned (.tuple #[]) ∧ Pd w' T av g b n m s.start ∧ Tr w w' g (some b) := by
  refine (start_any g n b _ _ _ w h.db).mono ?_
  rintro e w' ⟨rfl, hd, ho⟩
  exact ⟨rfl, h.set (s' := s.start) hd ho rfl, Tr.of ho⟩
theorem new_ds (n : Nat) (w : World) (h1 : 1 ≤ n) (h2 : n ≤ 16384) :
    Calls Try.prog 13 #[.int .i64 n] w fun e w' => ∃ g b, e = .returned (.tuple #[.pointer (some ⟨g, 0, none⟩), .int .i64 0]) ∧ w.heap.size ≤ g ∧ w.heap.size ≤ b ∧ Pd w' w'.heap.size none g b n 0 DS.new ∧ Below w.heap.size w w' := by
  refine (new_any n w (by omega) (by omega)).mono ?_
  rintro e w' ⟨g, b, rfl, hg, hb, hbg, hd, hm, hq⟩
  exact ⟨g, b, rfl, hg, hb, ⟨hd, hd.lt, hm.lt, hbg, noneD, hm, fun k => ⟨fun _ => rfl, fun ys e => by cases e⟩⟩, hq⟩
theorem new_bad (n : Int) (w : World) (h : n < 1 ∨ 16384 < n) :
    Calls Try.prog 13 #[.int .i64 n] w fun e w' => e = .returned (.tuple #[.pointer none, .int .i64 1]) ∧ w' = w := by
  by_cases h1 : n < 1
  · have d1 : decide (n < 1) = true := decide_eq_true h1
    clear h
    go_enter Try.func13, Try.ntmps13
    go_wp2
    go_ret2
    exact ⟨rfl, rfl⟩
  · have d1 : decide (n < 1) = false := decide_eq_false h1
    have d2 : decide (16384 < n) = true := decide_eq_true (by omega)
    clear h
    go_enter Try.func13, Try.ntmps13
    go_wp2
    go_ret2
    exact ⟨rfl, rfl⟩
theorem Pd.raise {w : World} {T T' g b n m : Nat} {av : Option Nat} (h : Pd w T av g b n m DS.new) (hT : T ≤ T') : Pd w T' av g b n m DS.new := by
  obtain ⟨h1, h2, h3, h4, F, h5, h6⟩ := h
  exact ⟨h1, by omega, by omega, h4, F, h5, fun k => ⟨(h6 k).1, fun ys e => by cases e⟩⟩
end Go.Proofs.Ytapoeegnnkfgiaa
