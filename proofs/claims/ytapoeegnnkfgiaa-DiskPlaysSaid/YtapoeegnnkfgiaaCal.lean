/- The calendar, in plain arithmetic: leap years, months' lengths, the days ahead of a year and of a month; one date a day. -/
namespace Go.Proofs.Ytapoeegnnkfgiaa.Cal

/-- One in a leap year, else nought. -/
def lp (y : Int) : Int := if y % 4 = 0 ∧ (y % 100 ≠ 0 ∨ y % 400 = 0) then 1 else 0
theorem lp_01 (y : Int) : 0 ≤ lp y ∧ lp y ≤ 1 := by unfold lp; split <;> omega
/-- A month's days. -/
def dim (y m : Int) : Int :=
  if m < 1 ∨ 12 < m then 0
  else if m = 2 then 28 + lp y
  else if m = 4 ∨ m = 6 ∨ m = 9 ∨ m = 11 then 30 else 31
theorem dim_bd (y m : Int) : 0 ≤ dim y m ∧ dim y m ≤ 31 := by
  have := lp_01 y
  unfold dim
  repeat' split
  all_goals omega
theorem dim_lo (y m : Int) (h1 : 1 ≤ m) (h2 : m ≤ 12) : 28 ≤ dim y m := by
  have := lp_01 y
  unfold dim
  repeat' split
  all_goals omega
theorem dim_zero (y m : Int) (h : m < 1 ∨ 12 < m) : dim y m = 0 := by unfold dim; rw [if_pos h]
/-- The days ahead of a year. -/
def ahead (y : Int) : Int := 365 * (y - 1) + (y - 1) / 4 - (y - 1) / 100 + (y - 1) / 400
theorem ahead_succ (y : Int) : ahead (y + 1) = ahead y + 365 + lp y := by
  unfold ahead lp
  split <;> omega
theorem ahead_mono (a b : Int) (h : a ≤ b) : ahead a ≤ ahead b := by unfold ahead; omega
theorem ahead_bd (y : Int) (h0 : 0 ≤ y) (h : y ≤ 20000) : -366 ≤ ahead y ∧ ahead y ≤ 7305000 := by unfold ahead; omega
theorem ahead_era (y : Int) : ahead (y + 400) = ahead y + 146097 := by unfold ahead; omega
/-- The days of a year's first m months. -/
def cum (y : Int) : Nat → Int
  | 0 => 0
  | m + 1 => cum y m + dim y (m + 1)
theorem cum_bd (y : Int) : ∀ m : Nat, 0 ≤ cum y m ∧ cum y m ≤ 31 * m
  | 0 => by simp [cum]
  | m + 1 => by
    have h1 := cum_bd y m
    have h2 := dim_bd y (m + 1)
    rw [cum]
    omega
theorem dim_1 (y : Int) : dim y 1 = 31 := rfl
theorem dim_2 (y : Int) : dim y 2 = 28 + lp y := rfl
theorem dim_3 (y : Int) : dim y 3 = 31 := rfl
theorem dim_4 (y : Int) : dim y 4 = 30 := rfl
theorem dim_5 (y : Int) : dim y 5 = 31 := rfl
theorem dim_6 (y : Int) : dim y 6 = 30 := rfl
theorem dim_7 (y : Int) : dim y 7 = 31 := rfl
theorem dim_8 (y : Int) : dim y 8 = 31 := rfl
theorem dim_9 (y : Int) : dim y 9 = 30 := rfl
theorem dim_10 (y : Int) : dim y 10 = 31 := rfl
theorem dim_11 (y : Int) : dim y 11 = 30 := rfl
theorem dim_12 (y : Int) : dim y 12 = 31 := rfl
theorem cum_12 (y : Int) : cum y 12 = 365 + lp y := by
  show 0 + dim y 1 + dim y 2 + dim y 3 + dim y 4 + dim y 5 + dim y 6 + dim y 7 + dim y 8 + dim y 9 + dim y 10 + dim y 11 + dim y 12 = 365 + lp y
  rw [dim_1, dim_2, dim_3, dim_4, dim_5, dim_6, dim_7, dim_8, dim_9, dim_10, dim_11, dim_12]
  omega
theorem cum_mono (y : Int) (a : Nat) : ∀ d : Nat, cum y a ≤ cum y (a + d)
  | 0 => Int.le_refl _
  | d + 1 => by
    have h1 := cum_mono y a d
    have h2 := dim_bd y ((a + d : Nat) + 1)
    rw [← Nat.add_assoc, cum]
    omega
/-- A date's day, from 1970-01-01 on. -/
def num (y : Int) (m : Nat) (d : Int) : Int := -719162 + (ahead y + cum y (m - 1) + d - 1)
/-- There is such a date. -/
structure Vld (y : Int) (m : Nat) (d : Int) : Prop where
  y1 : 1 ≤ y
  y2 : y ≤ 9999
  m1 : 1 ≤ m
  m2 : m ≤ 12
  d1 : 1 ≤ d
  d2 : d ≤ dim y m
theorem Vld.cum_le {y : Int} {m : Nat} {d : Int} (h : Vld y m d) : cum y (m - 1) + d ≤ cum y m := by
  have h1 := h.m1
  have h2 := h.d2
  have h3 : cum y m = cum y (m - 1) + dim y m := by
    obtain ⟨k, rfl⟩ : ∃ k, m = k + 1 := ⟨m - 1, by omega⟩
    rw [cum]
    rfl
  omega
theorem Vld.cum_year {y : Int} {m : Nat} {d : Int} (h : Vld y m d) : cum y (m - 1) + d ≤ 365 + lp y := by
  have h1 := h.cum_le
  have h2 := h.m2
  have h3 := cum_mono y m (12 - m)
  rw [show m + (12 - m) = 12 by omega, cum_12] at h3
  omega
theorem Vld.num_lo {y : Int} {m : Nat} {d : Int} (h : Vld y m d) : ahead y ≤ num y m d + 719162 := by
  have h1 := (cum_bd y (m - 1)).1
  have h2 := h.d1
  unfold num; omega
theorem Vld.num_hi {y : Int} {m : Nat} {d : Int} (h : Vld y m d) : num y m d + 719162 < ahead (y + 1) := by
  have h1 := h.cum_year
  rw [ahead_succ]
  unfold num; omega
/-- A later year has later days. -/
theorem num_year {y y' : Int} {m m' : Nat} {d d' : Int} (h : Vld y m d) (h' : Vld y' m' d') (hy : y < y') : num y m d < num y' m' d' := by
  have h1 := h.num_hi
  have h2 := h'.num_lo
  have h3 := ahead_mono (y + 1) y' (by omega)
  omega
theorem num_month {y : Int} {m m' : Nat} {d d' : Int} (h : Vld y m d) (h' : Vld y m' d') (hm : m < m') : num y m d < num y m' d' := by
  have h1 := h.cum_le
  have h2 := h'.d1
  have h3 := cum_mono y m (m' - 1 - m)
  rw [show m + (m' - 1 - m) = m' - 1 by omega] at h3
  unfold num
  omega
/-- Of two dates the later one has the later day. -/
theorem num_lt {y y' : Int} {m m' : Nat} {d d' : Int} (h : Vld y m d) (h' : Vld y' m' d') : num y m d < num y' m' d' ↔ (y < y' ∨ (y = y' ∧ (m < m' ∨ (m = m' ∧ d < d')))) := by
  constructor
  · intro hl
    rcases Int.lt_trichotomy y y' with hy | hy | hy
    · exact .inl hy
    · subst hy
      refine .inr ⟨rfl, ?_⟩
      rcases Nat.lt_trichotomy m m' with hm | hm | hm
      · exact .inl hm
      · subst hm
        refine .inr ⟨rfl, ?_⟩
        unfold num at hl
        omega
      · have := num_month h' h hm
        omega
    · have := num_year h' h hy
      omega
  · rintro (hy | ⟨rfl, hm | ⟨rfl, hd⟩⟩)
    · exact num_year h h' hy
    · exact num_month h h' hm
    · unfold num; omega
/-- A day has one date. -/
theorem num_inj {y y' : Int} {m m' : Nat} {d d' : Int} (h : Vld y m d) (h' : Vld y' m' d') (e : num y m d = num y' m' d') : y = y' ∧ m = m' ∧ d = d' := by
  have h1 := num_lt h h'
  have h2 := num_lt h' h
  have hy : y = y' := by omega
  subst hy
  have hm : m = m' := by omega
  subst hm
  exact ⟨rfl, rfl, by omega⟩
theorem Vld.bd {y : Int} {m : Nat} {d : Int} (h : Vld y m d) : -719162 ≤ num y m d ∧ num y m d ≤ 2932896 := by
  have h1 := h.num_lo
  have h2 := h.num_hi
  have h3 := ahead_mono 1 y h.y1
  have h4 := ahead_mono (y + 1) 10000 (by have := h.y2; omega)
  have h5 : ahead 1 = 0 := by decide
  have h6 : ahead 10000 = 3652059 := by decide
  omega
end Go.Proofs.Ytapoeegnnkfgiaa.Cal
