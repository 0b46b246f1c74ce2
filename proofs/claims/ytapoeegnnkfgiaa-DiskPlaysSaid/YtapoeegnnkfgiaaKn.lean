/- The chapter's examples; dates at days that are known; no condition. -/
import Derived.Test.YtapoeegnnkfgiaaNum
set_option linter.unusedVariables false
set_option linter.unusedSimpArgs false
namespace Go.Proofs.Ytapoeegnnkfgiaa
open Go.RowKit Cal Go.Proofs.YtapoeegnnkfgiaaW.PrintWords

/-- A day's date: y, m, d (m as a whole number: M) is the date of day N. -/
structure Day (y m d : Int) (M : Nat) (N : Int) : Prop where
  e : m = M
  v : Vld y M d
  n : num y M d = N

theorem of_at (N y m d : Int) (M : Nat) (w : World) (h : Day y m d M N) :
    Calls Try.prog 21 #[.int .i64 N] w fun e w' => e = .returned (.tuple #[.agg #[.int .i64 y, .int .i64 m, .int .i64 d], .int .i64 0]) ∧ Below w.heap.size w w' := by
  obtain ⟨rfl, hv, rfl⟩ := h
  have hB := hv.bd
  refine (of_yes _ w hB.1 hB.2).mono ?_
  rintro e w' ⟨y', m', d', rfl, hv', hn, hb⟩
  obtain ⟨rfl, rfl, rfl⟩ := num_inj hv' hv hn
  exact ⟨rfl, hb⟩
theorem num_at (y m d N : Int) (M : Nat) (w : World) (h : Day y m d M N) :
    Calls Try.prog 23 #[.agg #[.int .i64 y, .int .i64 m, .int .i64 d]] w fun e w' => e = .returned (.tuple #[.int .i64 N, .int .i64 0]) ∧ Below w.heap.size w w' := by
  obtain ⟨rfl, hv, rfl⟩ := h
  exact num_yes y M d w hv
theorem below_then' {B : Nat} {w w1 w2 : World} (h : Below B w w1) (k : Below w1.heap.size w1 w2) (hB : B ≤ w1.heap.size) : Below B w w2 :=
  h.trans ⟨k.os, k.tape, k.output, k.size, fun i hi => k.block i (Nat.lt_of_lt_of_le hi hB)⟩

set_option maxHeartbeats 1000000 in
theorem known_any (w : World) : Calls Try.prog 20 #[] w fun e w' => e = .returned (.bool true) ∧ Below w.heap.size w w' := by
  have H1 : Day 1969 12 31 12 (-1) := ⟨rfl, ⟨by decide, by decide, by decide, by decide, by decide, by decide⟩, by decide⟩
  have H2 : Day 2000 2 29 2 11016 := ⟨rfl, ⟨by decide, by decide, by decide, by decide, by decide, by decide⟩, by decide⟩
  go_enter Try.func20, Try.ntmps20
  go_wp2_with (first
    | (go_at_call 21; refine (of_at _ _ _ _ _ _ H1).mono ?_; rintro e w1 ⟨rfl, hb1⟩; have HB1 := Lib.hid hb1; clear hb1)
    | (go_at_call 23; refine (num_at _ _ _ _ _ _ H2).mono ?_; rintro e w2 ⟨rfl, hb2⟩; have hd : Dt w2 w1.heap.size 1969 12 31 := blk_below (blk_new _ _) hb2; have k0 := hd.c0; have k1 := hd.c1; have k2 := hd.c2; have HB2 := Lib.hid hb2; clear hb2 hd))
  go_ret
  exact ⟨rfl, below_then' (HB1.out.alloc HB1.out.size _) HB2.out (HB1.out.alloc HB1.out.size _).size⟩
end Go.Proofs.Ytapoeegnnkfgiaa
