/- CivilDates: the walk; no condition. -/
import Derived.Test.YtapoeegnnkfgiaaRNum
set_option linter.unusedVariables false
set_option linter.unusedSimpArgs false
namespace Go.Proofs.Ytapoeegnnkfgiaa
open Go.RowKit Cal Go.Proofs.YtapoeegnnkfgiaaW.PrintWords

/-- What a day's date is told to be. -/
structure OfIs (N y m d e : Int) : Prop where
  code : ∀ w, Calls Try.prog 21 #[.int .i64 N] w fun r w' => r = .returned (.tuple #[.agg #[.int .i64 y, .int .i64 m, .int .i64 d], .int .i64 e]) ∧ Below w.heap.size w w'
  doc : ∀ w, Calls Try.prog 22 #[.int .i64 N] w fun r w' => r = .returned (.tuple #[.agg #[.int .i64 y, .int .i64 m, .int .i64 d], .int .i64 e]) ∧ Below w.heap.size w w'
theorem of_is (N : Int) : ∃ y m d e : Int, OfIs N y m d e := by
  by_cases h : N < -719162 ∨ 2932896 < N
  · exact ⟨0, 0, 0, 1, fun w => of_no N w h, fun w => rof_no N w h⟩
  · by_cases hx : ∃ (y : Int) (m : Nat) (d : Int), Vld y m d ∧ num y m d = N
    · obtain ⟨y, m, d, hv, rfl⟩ := hx
      refine ⟨y, m, d, 0, fun w => ?_, fun w => ?_⟩
      · refine (of_yes _ w hv.bd.1 hv.bd.2).mono ?_
        rintro e w' ⟨y', m', d', rfl, hv', hn, hb⟩
        obtain ⟨rfl, rfl, rfl⟩ := num_inj hv' hv hn
        exact ⟨rfl, hb⟩
      · refine (rof_yes _ w hv.bd.1 hv.bd.2).mono ?_
        rintro e w' ⟨y', m', d', rfl, hv', hn, hb⟩
        obtain ⟨rfl, rfl, rfl⟩ := num_inj hv' hv hn
        exact ⟨rfl, hb⟩
    · refine ⟨0, 0, 0, 0, fun w => ?_, fun w => ?_⟩
      · refine (of_yes N w (by omega) (by omega)).mono ?_
        rintro e w' ⟨y', m', d', rfl, hv', hn, hb⟩
        exact absurd ⟨y', m', d', hv', hn⟩ hx
      · refine (rof_yes N w (by omega) (by omega)).mono ?_
        rintro e w' ⟨y', m', d', rfl, hv', hn, hb⟩
        exact absurd ⟨y', m', d', hv', hn⟩ hx
structure NumIs (y m d n e : Int) : Prop where
  code : ∀ w, Calls Try.prog 23 #[.agg #[.int .i64 y, .int .i64 m, .int .i64 d]] w fun r w' => r = .returned (.tuple #[.int .i64 n, .int .i64 e]) ∧ Below w.heap.size w w'
  doc : ∀ w, Calls Try.prog 24 #[.agg #[.int .i64 y, .int .i64 m, .int .i64 d]] w fun r w' => r = .returned (.tuple #[.int .i64 n, .int .i64 e]) ∧ Below w.heap.size w w'
theorem num_is (y m d : Int) : ∃ n e : Int, NumIs y m d n e := by
  by_cases h : y < 1 ∨ 9999 < y ∨ m < 1 ∨ 12 < m ∨ d < 1 ∨ dim y m < d
  · refine ⟨0, 1, fun w => num_no y m d w ?_, fun w => rnum_no y m d w h⟩
    rcases h with h | h | h | h | h | h
    · exact .inl h
    · exact .inr (.inl h)
    · have := dim_zero y m (.inl h); omega
    · have := dim_zero y m (.inr h); omega
    · exact .inr (.inr (.inl h))
    · exact .inr (.inr (.inr h))
  · obtain ⟨M, rfl⟩ : ∃ M : Nat, m = M := ⟨m.toNat, by omega⟩
    have hv : Vld y M d := ⟨by omega, by omega, by omega, by omega, by omega, by omega⟩
    exact ⟨num y M d, 0, fun w => num_yes y M d w hv, fun w => rnum_yes y M d w hv⟩
theorem leap_at (y : Int) (b : Bool) (h : Hid (lpB y = b)) (w : World) : Calls Try.prog 25 #[.int .i64 y] w fun e w' => e = .returned (.bool b) ∧ w' = w := by
  rw [← h.out]; exact leap_any y w
theorem rleap_at (y : Int) (b : Bool) (h : Hid (lpB y = b)) (w : World) : Calls Try.prog 26 #[.int .i64 y] w fun e w' => e = .returned (.bool b) ∧ w' = w := by
  rw [← h.out]; exact leap_ref y w

set_option maxRecDepth 100000 in
set_option maxHeartbeats 8000000 in
theorem dates_walk (N y m d : Int) (W : World) :
    Calls Try.prog 4 #[.int .i64 N, .agg #[.int .i64 y, .int .i64 m, .int .i64 d]] W fun e W' => e = .returned (.bool true) ∧ Below W.heap.size W W' := by
  obtain ⟨oy, om, od, oe, HO⟩ := of_is N
  obtain ⟨nn, ne, HN⟩ := num_is y m d
  obtain ⟨b, hb⟩ : ∃ b : Bool, lpB y = b := ⟨_, rfl⟩
  obtain ⟨L, hL⟩ : ∃ L : Int, dim y m = L := ⟨_, rfl⟩
  have Hb := Lib.hid hb
  have HL := Lib.hid hL
  clear hb hL
  have HQ0 : Hid (Below W.heap.size W (W.alloc (.cells #[.int .i64 y, .int .i64 m, .int .i64 d] 35))) := (Below.refl _ _).alloc (Nat.le_refl _) _
  have HP : Hid (Dt (W.alloc (.cells #[.int .i64 y, .int .i64 m, .int .i64 d] 35)) W.heap.size y m d) := blk_new _ _
  go_enter Try.func4, Try.ntmps4
  go_wp2_with (first
    | (go_at_call 20; refine (known_any _).mono ?_; rintro e w1 ⟨rfl, hw1⟩; replace HP : Hid (Dt w1 W.heap.size y m d) := HP.out.below hw1; have HQ1 : Hid (Below W.heap.size W w1) := below_then' HQ0.out hw1 HQ0.out.size; clear hw1 HQ0)
    | (go_at_call 21; refine (HO.code _).mono ?_; rintro e w2 ⟨rfl, hw2⟩; replace HP : Hid (Dt w2 W.heap.size y m d) := HP.out.below hw2; have HQ2 : Hid (Below W.heap.size W w2) := below_then' HQ1.out hw2 HQ1.out.size; clear hw2 HQ1; have HA : Hid (Dt (w2.alloc (.cells #[.int .i64 oy, .int .i64 om, .int .i64 od] 35)) w2.heap.size oy om od) := blk_new _ _; have HPA : Hid (Dt (w2.alloc (.cells #[.int .i64 oy, .int .i64 om, .int .i64 od] 35)) W.heap.size y m d) := blk_alloc HP.out _; have HQA : Hid (Below W.heap.size W (w2.alloc (.cells #[.int .i64 oy, .int .i64 om, .int .i64 od] 35))) := HQ2.out.alloc HQ2.out.size _; clear HP HQ2)
    | (go_at_call 22; refine (HO.doc _).mono ?_; rintro e w3 ⟨rfl, hw3⟩; have HA3 : Hid (Dt (w3.alloc (.cells #[.int .i64 oy, .int .i64 om, .int .i64 od] 35)) w2.heap.size oy om od) := blk_alloc (HA.out.below hw3) _; have HB3 : Hid (Dt (w3.alloc (.cells #[.int .i64 oy, .int .i64 om, .int .i64 od] 35)) w3.heap.size oy om od) := blk_new _ _; have HP3 : Hid (Dt (w3.alloc (.cells #[.int .i64 oy, .int .i64 om, .int .i64 od] 35)) W.heap.size y m d) := blk_alloc (HPA.out.below hw3) _; have HQ3' : Below W.heap.size W w3 := below_then' HQA.out hw3 HQA.out.size; have HQ3 : Hid (Below W.heap.size W (w3.alloc (.cells #[.int .i64 oy, .int .i64 om, .int .i64 od] 35))) := HQ3'.alloc HQ3'.size _; clear hw3 HQ3' HA HPA HQA; have k0 := HP3.out.c0; have k1 := HP3.out.c1; have k2 := HP3.out.c2)
    | (go_at_call 23; refine (HN.code _).mono ?_; rintro e w4 ⟨rfl, hw4⟩; have HA4 : Hid (Dt w4 w2.heap.size oy om od) := HA3.out.below hw4; have HB4 : Hid (Dt w4 w3.heap.size oy om od) := HB3.out.below hw4; have HP4 : Hid (Dt w4 W.heap.size y m d) := HP3.out.below hw4; have HQ4 : Hid (Below W.heap.size W w4) := below_then' HQ3.out hw4 HQ3.out.size; clear hw4 HA3 HB3 HP3 HQ3 k0 k1 k2; have k0 := HP4.out.c0; have k1 := HP4.out.c1; have k2 := HP4.out.c2)
    | (go_at_call 24; refine (HN.doc _).mono ?_; rintro e w5 ⟨rfl, hw5⟩; have HA5 : Hid (Dt w5 w2.heap.size oy om od) := HA4.out.below hw5; have HB5 : Hid (Dt w5 w3.heap.size oy om od) := HB4.out.below hw5; have HP5 : Hid (Dt w5 W.heap.size y m d) := HP4.out.below hw5; have HQ5 : Hid (Below W.heap.size W w5) := below_then' HQ4.out hw5 HQ4.out.size; clear hw5 HA4 HB4 HP4 HQ4 k0 k1 k2; have k0 := HP5.out.c0; have k1 := HP5.out.c1; have k2 := HP5.out.c2))
  generalize hs0 : W.heap.size = s0 at HP5 k0 k1 k2 ⊢
  have HS0 := Lib.hid hs0
  clear hs0
  generalize w2.heap.size = s2 at HA5 ⊢
  generalize w3.heap.size = s3 at HB5 ⊢
  have a0 := HA5.out.c0
  have a1 := HA5.out.c1
  have a2 := HA5.out.c2
  have b0 := HB5.out.c0
  have b1 := HB5.out.c1
  have b2 := HB5.out.c2
  go_quiet (first
    | (go_at_call 25; exact Calls.quiet_of_same (leap_at y b Hb _))
    | (go_at_call 26; exact Calls.quiet_of_same (rleap_at y b Hb _))
    | (go_at_call 27; exact Calls.quiet_of_same (length_at y m L _ HL))
    | (go_at_call 28; exact Calls.quiet_of_same (rlength_at y m L _ HL)))
  go_wp2
  go_ret
  exact ⟨rfl, by have hs := HS0.out; subst hs; exact below_drewN HQ5.out _⟩
end Go.Proofs.Ytapoeegnnkfgiaa
