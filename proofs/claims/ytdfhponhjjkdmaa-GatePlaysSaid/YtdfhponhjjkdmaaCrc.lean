/- Sums of bytes, as numbers: a bit, four bits, a byte; the table's way; one byte turned makes another sum. -/
namespace Go.Proofs.Ytdfhponhjjkdmaa.Crc

/-- One bit. -/
def stp (x : Nat) : Nat := if x % 2 = 1 then (x / 2) ^^^ 2197175160 else x / 2
theorem stp_lt (x : Nat) (h : x < 4294967296) : stp x < 4294967296 := by
  unfold stp
  split
  · exact Nat.xor_lt_two_pow (n := 32) (by omega) (by omega)
  · omega
/-- Some bits. -/
def stpN : Nat → Nat → Nat
  | 0, x => x
  | k + 1, x => stp (stpN k x)
theorem stpN_lt (k x : Nat) (h : x < 4294967296) : stpN k x < 4294967296 := by
  induction k with
  | zero => exact h
  | succ k ih => exact stp_lt _ ih
theorem stpN_add (a b x : Nat) : stpN (a + b) x = stpN a (stpN b x) := by
  induction a with
  | zero => rw [Nat.zero_add]; rfl
  | succ a ih => rw [Nat.succ_add]; show stp _ = stp _; rw [ih]
theorem stp_xor (a b : Nat) : stp (a ^^^ b) = stp a ^^^ stp b := by
  have hd : (a ^^^ b) / 2 = (a / 2) ^^^ (b / 2) := by
    have h := Nat.shiftRight_xor_distrib (a := a) (b := b) (i := 1)
    simpa [Nat.shiftRight_succ] using h
  have hm : (a ^^^ b) % 2 = (a + b) % 2 := by
    have h : (a ^^^ b) % 2 = (a % 2) ^^^ (b % 2) := Nat.xor_mod_two_pow (n := 1)
    rw [h]
    rcases Nat.mod_two_eq_zero_or_one a with ha | ha <;> rcases Nat.mod_two_eq_zero_or_one b with hb | hb <;> rw [ha, hb] <;> simp <;> omega
  unfold stp
  rw [hd, hm]
  rcases Nat.mod_two_eq_zero_or_one a with ha | ha <;> rcases Nat.mod_two_eq_zero_or_one b with hb | hb
  · rw [if_neg (by omega), if_neg (by omega), if_neg (by omega)]
  · rw [if_pos (by omega), if_neg (by omega), if_pos (by omega), Nat.xor_assoc]
  · rw [if_pos (by omega), if_pos (by omega), if_neg (by omega), Nat.xor_assoc, Nat.xor_assoc, Nat.xor_comm (b / 2)]
  · rw [if_neg (by omega), if_pos (by omega), if_pos (by omega)]
    have h : ∀ x y p : Nat, x ^^^ y = (x ^^^ p) ^^^ (y ^^^ p) := by
      intro x y p
      rw [Nat.xor_assoc, ← Nat.xor_assoc p, Nat.xor_comm p y, Nat.xor_assoc y, Nat.xor_self, Nat.xor_zero]
    exact h _ _ _
theorem stpN_xor (k a b : Nat) : stpN k (a ^^^ b) = stpN k a ^^^ stpN k b := by
  induction k with
  | zero => rfl
  | succ k ih => show stp _ = stp _ ^^^ stp _; rw [ih, stp_xor]
/-- Four bits by the table. -/
def nib (x : Nat) : Nat := (x / 16) ^^^ stpN 4 (x % 16)
theorem stp_even (n : Nat) : stp (2 * n) = n := by unfold stp; rw [if_neg (by omega)]; omega
theorem split16 (x : Nat) : x = (16 * (x / 16)) ^^^ (x % 16) := by
  have h1 : 16 * (x / 16) ^^^ x % 16 = 16 * (x / 16) + x % 16 := by
    have h := Nat.two_pow_add_eq_or_of_lt (i := 4) (b := x % 16) (Nat.mod_lt _ (by decide)) (x / 16)
    have h2 : 2 ^ 4 * (x / 16) ^^^ x % 16 = 2 ^ 4 * (x / 16) ||| x % 16 := by
      apply Nat.eq_of_testBit_eq
      intro i
      rw [Nat.testBit_xor, Nat.testBit_or, Nat.testBit_two_pow_mul]
      by_cases hi : 4 ≤ i
      · have hz : (x % 16).testBit i = false := Nat.testBit_lt_two_pow (Nat.lt_of_lt_of_le (Nat.mod_lt _ (by decide)) (Nat.pow_le_pow_right (by decide) hi : 2 ^ 4 ≤ 2 ^ i))
        rw [hz]; simp
      · simp [hi]
    show 2 ^ 4 * (x / 16) ^^^ x % 16 = 2 ^ 4 * (x / 16) + x % 16
    rw [h2, ← h]
  omega
theorem nib_eq (x : Nat) : nib x = stpN 4 x := by
  have h : stpN 4 (16 * (x / 16)) = x / 16 := by
    show stp (stp (stp (stp (16 * (x / 16))))) = _
    rw [show 16 * (x / 16) = 2 * (2 * (2 * (2 * (x / 16)))) by omega, stp_even, stp_even, stp_even, stp_even]
  have h2 : stpN 4 x = stpN 4 ((16 * (x / 16)) ^^^ (x % 16)) := by rw [← split16]
  rw [h2, stpN_xor, h]
  rfl
/-- A byte. -/
def byt (c b : Nat) : Nat := stpN 8 (c ^^^ b)
theorem byt_nib (c b : Nat) : nib (nib (c ^^^ b)) = byt c b := by rw [nib_eq, nib_eq, ← stpN_add]; rfl
theorem byt_lt (c b : Nat) (hc : c < 4294967296) (hb : b < 4294967296) : byt c b < 4294967296 := stpN_lt _ _ (Nat.xor_lt_two_pow (n := 32) hc hb)
/-- Bytes: from the number c on. -/
def fold (c : Nat) : List Nat → Nat
  | [] => c
  | b :: l => fold (byt c b) l
theorem fold_append (c : Nat) (a b : List Nat) : fold c (a ++ b) = fold (fold c a) b := by
  induction a generalizing c with
  | nil => rfl
  | cons x a ih => exact ih _
theorem fold_lt (c : Nat) (l : List Nat) (hc : c < 4294967296) (hl : ∀ b ∈ l, b < 256) : fold c l < 4294967296 := by
  induction l generalizing c with
  | nil => exact hc
  | cons x l ih => exact ih _ (byt_lt c x hc (by have := hl x (by simp); omega)) (fun b hb => hl b (by simp [hb]))
/-- The sum. -/
def crc (l : List Nat) : Nat := 4294967295 - fold 4294967295 l
theorem stp_inj (x y : Nat) (hx : x < 4294967296) (hy : y < 4294967296) (h : stp x = stp y) : x = y := by
  have hbit : ∀ z, z < 4294967296 → (stp z).testBit 31 = decide (z % 2 = 1) := by
    intro z hz
    have h0 : (z / 2).testBit 31 = false := Nat.testBit_lt_two_pow (by omega : z / 2 < 2 ^ 31)
    unfold stp
    by_cases hz1 : z % 2 = 1
    · rw [if_pos hz1, Nat.testBit_xor, h0, decide_eq_true hz1]
      decide
    · rw [if_neg hz1, h0, decide_eq_false hz1]
  have hm : decide (x % 2 = 1) = decide (y % 2 = 1) := by rw [← hbit x hx, ← hbit y hy, h]
  have hm' : x % 2 = 1 ↔ y % 2 = 1 := by simpa using hm
  unfold stp at h
  by_cases hx1 : x % 2 = 1
  · rw [if_pos hx1, if_pos (hm'.1 hx1)] at h
    have h2 : x / 2 = y / 2 := by
      have h3 := congrArg (· ^^^ 2197175160) h
      simpa [Nat.xor_assoc, Nat.xor_self] using h3
    have := hm'.1 hx1
    omega
  · have hy1 : ¬ y % 2 = 1 := fun e => hx1 (hm'.2 e)
    rw [if_neg hx1, if_neg hy1] at h
    omega
theorem stpN_inj (k x y : Nat) (hx : x < 4294967296) (hy : y < 4294967296) (h : stpN k x = stpN k y) : x = y := by
  induction k with
  | zero => exact h
  | succ k ih => exact ih (stp_inj _ _ (stpN_lt k x hx) (stpN_lt k y hy) h)
theorem byt_inj_c (c d b : Nat) (hc : c < 4294967296) (hd : d < 4294967296) (hb : b < 4294967296) (h : byt c b = byt d b) : c = d := by
  have h1 := stpN_inj 8 _ _ (Nat.xor_lt_two_pow (n := 32) hc hb) (Nat.xor_lt_two_pow (n := 32) hd hb) h
  have h3 := congrArg (· ^^^ b) h1
  simpa [Nat.xor_assoc, Nat.xor_self] using h3
theorem byt_inj_b (c a b : Nat) (hc : c < 4294967296) (ha : a < 4294967296) (hb : b < 4294967296) (h : byt c a = byt c b) : a = b := by
  have h1 := stpN_inj 8 _ _ (Nat.xor_lt_two_pow (n := 32) hc ha) (Nat.xor_lt_two_pow (n := 32) hc hb) h
  have h3 := congrArg (c ^^^ ·) h1
  simpa [← Nat.xor_assoc, Nat.xor_self] using h3
theorem fold_inj (c d : Nat) (l : List Nat) (hc : c < 4294967296) (hd : d < 4294967296) (hl : ∀ b ∈ l, b < 256) (h : fold c l = fold d l) : c = d := by
  induction l generalizing c d with
  | nil => exact h
  | cons x l ih =>
    have hx := hl x (by simp)
    exact byt_inj_c c d x hc hd (by omega) (ih _ _ (byt_lt c x hc (by omega)) (byt_lt d x hd (by omega)) (fun b hb => hl b (by simp [hb])) h)
/-- One byte turned makes another sum. -/
theorem crc_turn (p s : List Nat) (a b : Nat) (hp : ∀ x ∈ p, x < 256) (hs : ∀ x ∈ s, x < 256) (ha : a < 256) (hb : b < 256) (hne : a ≠ b) : crc (p ++ a :: s) ≠ crc (p ++ b :: s) := by
  intro h
  have hq := fold_lt 4294967295 p (by decide) hp
  unfold crc at h
  rw [fold_append, fold_append] at h
  have l1 := fold_lt (byt (fold 4294967295 p) a) s (byt_lt _ _ hq (by omega)) hs
  have l2 := fold_lt (byt (fold 4294967295 p) b) s (byt_lt _ _ hq (by omega)) hs
  have h1 : fold (byt (fold 4294967295 p) a) s = fold (byt (fold 4294967295 p) b) s := by
    have e1 : fold (fold 4294967295 p) (a :: s) = fold (byt (fold 4294967295 p) a) s := rfl
    have e2 : fold (fold 4294967295 p) (b :: s) = fold (byt (fold 4294967295 p) b) s := rfl
    rw [e1, e2] at h
    omega
  exact hne (byt_inj_b _ _ _ hq (by omega) (by omega) (fold_inj _ _ s (byt_lt _ _ hq (by omega)) (byt_lt _ _ hq (by omega)) hs h1))
theorem crc_lt (l : List Nat) : crc l < 4294967296 := by unfold crc; omega
theorem known_crc : crc [49, 50, 51, 52, 53, 54, 55, 56, 57] = 3808858755 := by decide +kernel
end Go.Proofs.Ytdfhponhjjkdmaa.Crc
