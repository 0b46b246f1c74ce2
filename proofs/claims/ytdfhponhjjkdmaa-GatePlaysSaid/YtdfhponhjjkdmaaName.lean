/- Names: plan's and the document's, one test; no condition. -/
import Derived.Test.YtdfhponhjjkdmaaGOnce
set_option linter.unusedVariables false
set_option linter.unusedSimpArgs false
namespace Go.Proofs.Ytdfhponhjjkdmaa
open Go.RowKit Go.Proofs.YtdfhponhjjkdmaaW.PrintWords

/-- A byte that no name has. -/
def badC (c : Int) : Bool := decide ((c < 97 ∨ 122 < c) ∧ (c < 48 ∨ 57 < c) ∧ c ≠ 45)
/-- A name. -/
def nameB (s : ByteArray) : Bool := decide ((∀ i : Nat, i < s.size → badC (bt s i) = false) ∧ 1 ≤ s.size ∧ s.size ≤ 24)
theorem name_bad {s : ByteArray} {k : Nat} (h : k < s.size) (hb : badC (bt s k) = true) : nameB s = false := by
  unfold nameB
  refine decide_eq_false (fun h1 => ?_)
  have := h1.1 k h
  rw [hb] at this
  cases this
theorem name_end {s : ByteArray} (h : ∀ i : Nat, i < s.size → badC (bt s i) = false) : nameB s = decide (1 ≤ s.size ∧ s.size ≤ 24) := by
  unfold nameB
  congr 1
  exact propext ⟨fun h1 => h1.2, fun h1 => ⟨h, h1⟩⟩

set_option maxRecDepth 100000 in
set_option maxHeartbeats 4000000 in
theorem pname (s : ByteArray) (hs : s.size ≤ maxLen) (w : World) : Calls Try.prog 24 #[.string s] w fun e w' => e = .returned (.bool (nameB s)) ∧ w' = w := by
  have hs2 : s.size ≤ 9223372036854775807 := by unfold maxLen at hs; omega
  obtain ⟨B, hB⟩ : ∃ b, nameB s = b := ⟨_, rfl⟩
  have HB := Lib.hid hB
  rw [hB]
  clear hB hs
  go_enter Try.func24, Try.ntmps24
  go_wp2
  go_loop [7] (fun i => ∃ k : Nat, k ≤ s.size ∧ i = .int .i64 k ∧ Hid (∀ i : Nat, i < k → badC (bt s i) = false)) (fun i => s.size - (intOf i).toNat)
  case atStart => exact ⟨0, by omega, rfl, fun i hi => by omega⟩
  case round =>
    obtain ⟨k, hk, rfl, HK⟩ := hrel
    by_cases hlt : k < s.size
    · obtain ⟨c, hc⟩ : ∃ c, bt s (k : Int) = c := ⟨_, rfl⟩
      have hbt : ∀ h : k < s.size, ((s[k]'h).toNat : Int) = c := fun h => by rw [← hc]; exact bt_at s (k : Int) h
      have HC := Lib.hid hc
      clear hc
      by_cases c0 : 97 ≤ c ∧ c ≤ 122
      · have d0 : decide (c < 97) = false := decide_eq_false (by omega)
        have d1 : decide (122 < c) = false := decide_eq_false (by omega)
        have hgood : badC (bt s (k : Int)) = false := by rw [HC.out]; exact decide_eq_false (by omega)
        have HN : Hid (∀ i : Nat, i < k + 1 → badC (bt s i) = false) := fun i hi => by
          rcases Nat.lt_or_eq_of_le (Nat.le_of_lt_succ hi) with h | h
          · exact HK.out i h
          · rw [h]; exact hgood
        clear hgood
        go_wp2
        go_round
        case rel => exact ⟨k + 1, by omega, by go_num, HN⟩
        case measure => simp [intOf]; omega
      by_cases c1 : 48 ≤ c ∧ c ≤ 57
      · have d0 : decide (c < 97) = true := decide_eq_true (by omega)
        have d1 : decide (c < 48) = false := decide_eq_false (by omega)
        have d2 : decide (57 < c) = false := decide_eq_false (by omega)
        have hgood : badC (bt s (k : Int)) = false := by rw [HC.out]; exact decide_eq_false (by omega)
        have HN : Hid (∀ i : Nat, i < k + 1 → badC (bt s i) = false) := fun i hi => by
          rcases Nat.lt_or_eq_of_le (Nat.le_of_lt_succ hi) with h | h
          · exact HK.out i h
          · rw [h]; exact hgood
        clear hgood
        go_wp2
        go_round
        case rel => exact ⟨k + 1, by omega, by go_num, HN⟩
        case measure => simp [intOf]; omega
      by_cases c2 : c = 45
      · subst c2
        have hgood : badC (bt s (k : Int)) = false := by rw [HC.out]; exact decide_eq_false (by omega)
        have HN : Hid (∀ i : Nat, i < k + 1 → badC (bt s i) = false) := fun i hi => by
          rcases Nat.lt_or_eq_of_le (Nat.le_of_lt_succ hi) with h | h
          · exact HK.out i h
          · rw [h]; exact hgood
        clear hgood
        go_wp2
        go_round
        case rel => exact ⟨k + 1, by omega, by go_num, HN⟩
        case measure => simp [intOf]; omega
      by_cases c3 : c < 48
      · have d0 : decide (c < 97) = true := decide_eq_true (by omega)
        have d1 : decide (c < 48) = true := decide_eq_true (by omega)
        have d2 : (c != 45) = true := bne_iff_ne.mpr (by omega)
        have hbad : badC (bt s (k : Int)) = true := by rw [HC.out]; exact decide_eq_true (by omega)
        have hB := HB.out
        rw [name_bad hlt hbad] at hB
        subst hB
        clear hbad HC
        go_wp2
        go_ret
        exact ⟨rfl, rfl⟩
      by_cases c4 : c < 97
      · have d0 : decide (c < 97) = true := decide_eq_true (by omega)
        have d1 : decide (c < 48) = false := decide_eq_false (by omega)
        have d2 : decide (57 < c) = true := decide_eq_true (by omega)
        have d3 : (c != 45) = true := bne_iff_ne.mpr (by omega)
        have hbad : badC (bt s (k : Int)) = true := by rw [HC.out]; exact decide_eq_true (by omega)
        have hB := HB.out
        rw [name_bad hlt hbad] at hB
        subst hB
        clear hbad HC
        go_wp2
        go_ret
        exact ⟨rfl, rfl⟩
      have d0 : decide (c < 97) = false := decide_eq_false (by omega)
      have d1 : decide (122 < c) = true := decide_eq_true (by omega)
      have d2 : decide (c < 48) = false := decide_eq_false (by omega)
      have d3 : decide (57 < c) = true := decide_eq_true (by omega)
      have d4 : (c != 45) = true := bne_iff_ne.mpr (by omega)
      have hbad : badC (bt s (k : Int)) = true := by rw [HC.out]; exact decide_eq_true (by omega)
      have hB := HB.out
      rw [name_bad hlt hbad] at hB
      subst hB
      clear hbad HC
      go_wp2
      go_ret
      exact ⟨rfl, rfl⟩
    · obtain rfl : k = s.size := by omega
      have hB := HB.out
      rw [name_end HK.out] at hB
      by_cases h1 : 1 ≤ s.size
      · have d1 : decide (1 ≤ (s.size : Int)) = true := decide_eq_true (by omega)
        by_cases h2 : s.size ≤ 24
        · have d2 : decide ((s.size : Int) ≤ 24) = true := decide_eq_true (by omega)
          rw [decide_eq_true ⟨h1, h2⟩] at hB
          subst hB
          clear hlt h1 h2
          go_wp2
          go_ret
          exact ⟨rfl, rfl⟩
        · have d2 : decide ((s.size : Int) ≤ 24) = false := decide_eq_false (by omega)
          rw [decide_eq_false (fun h => h2 h.2)] at hB
          subst hB
          clear hlt h1 h2
          go_wp2
          go_ret
          exact ⟨rfl, rfl⟩
      · have d1 : decide (1 ≤ (s.size : Int)) = false := decide_eq_false (by omega)
        rw [decide_eq_false (fun h => h1 h.1)] at hB
        subst hB
        clear hlt h1
        go_wp2
        go_ret
        exact ⟨rfl, rfl⟩

set_option maxRecDepth 100000 in
set_option maxHeartbeats 4000000 in
theorem rname (s : ByteArray) (hs : s.size ≤ maxLen) (w : World) : Calls Try.prog 16 #[.string s] w fun e w' => e = .returned (.bool (nameB s)) ∧ w' = w := by
  have hs2 : s.size ≤ 9223372036854775807 := by unfold maxLen at hs; omega
  obtain ⟨B, hB⟩ : ∃ b, nameB s = b := ⟨_, rfl⟩
  have HB := Lib.hid hB
  rw [hB]
  clear hB hs
  go_enter Try.func16, Try.ntmps16
  go_wp2
  go_loop [3] (fun i => ∃ k : Nat, k ≤ s.size ∧ i = .int .i64 k ∧ Hid (∀ i : Nat, i < k → badC (bt s i) = false)) (fun i => s.size - (intOf i).toNat)
  case atStart => exact ⟨0, by omega, rfl, fun i hi => by omega⟩
  case round =>
    obtain ⟨k, hk, rfl, HK⟩ := hrel
    by_cases hlt : k < s.size
    · obtain ⟨c, hc⟩ : ∃ c, bt s (k : Int) = c := ⟨_, rfl⟩
      have hbt : ∀ h : k < s.size, ((s[k]'h).toNat : Int) = c := fun h => by rw [← hc]; exact bt_at s (k : Int) h
      have HC := Lib.hid hc
      clear hc
      by_cases c0 : 97 ≤ c ∧ c ≤ 122
      · have d0 : decide (c < 97) = false := decide_eq_false (by omega)
        have d1 : decide (122 < c) = false := decide_eq_false (by omega)
        have hgood : badC (bt s (k : Int)) = false := by rw [HC.out]; exact decide_eq_false (by omega)
        have HN : Hid (∀ i : Nat, i < k + 1 → badC (bt s i) = false) := fun i hi => by
          rcases Nat.lt_or_eq_of_le (Nat.le_of_lt_succ hi) with h | h
          · exact HK.out i h
          · rw [h]; exact hgood
        clear hgood
        go_wp2
        go_round
        case rel => exact ⟨k + 1, by omega, by go_num, HN⟩
        case measure => simp [intOf]; omega
      by_cases c1 : 48 ≤ c ∧ c ≤ 57
      · have d0 : decide (c < 97) = true := decide_eq_true (by omega)
        have d1 : decide (c < 48) = false := decide_eq_false (by omega)
        have d2 : decide (57 < c) = false := decide_eq_false (by omega)
        have hgood : badC (bt s (k : Int)) = false := by rw [HC.out]; exact decide_eq_false (by omega)
        have HN : Hid (∀ i : Nat, i < k + 1 → badC (bt s i) = false) := fun i hi => by
          rcases Nat.lt_or_eq_of_le (Nat.le_of_lt_succ hi) with h | h
          · exact HK.out i h
          · rw [h]; exact hgood
        clear hgood
        go_wp2
        go_round
        case rel => exact ⟨k + 1, by omega, by go_num, HN⟩
        case measure => simp [intOf]; omega
      by_cases c2 : c = 45
      · subst c2
        have hgood : badC (bt s (k : Int)) = false := by rw [HC.out]; exact decide_eq_false (by omega)
        have HN : Hid (∀ i : Nat, i < k + 1 → badC (bt s i) = false) := fun i hi => by
          rcases Nat.lt_or_eq_of_le (Nat.le_of_lt_succ hi) with h | h
          · exact HK.out i h
          · rw [h]; exact hgood
        clear hgood
        go_wp2
        go_round
        case rel => exact ⟨k + 1, by omega, by go_num, HN⟩
        case measure => simp [intOf]; omega
      by_cases c3 : c < 48
      · have d0 : decide (c < 97) = true := decide_eq_true (by omega)
        have d1 : decide (c < 48) = true := decide_eq_true (by omega)
        have d2 : (c != 45) = true := bne_iff_ne.mpr (by omega)
        have hbad : badC (bt s (k : Int)) = true := by rw [HC.out]; exact decide_eq_true (by omega)
        have hB := HB.out
        rw [name_bad hlt hbad] at hB
        subst hB
        clear hbad HC
        go_wp2
        go_ret
        exact ⟨rfl, rfl⟩
      by_cases c4 : c < 97
      · have d0 : decide (c < 97) = true := decide_eq_true (by omega)
        have d1 : decide (c < 48) = false := decide_eq_false (by omega)
        have d2 : decide (57 < c) = true := decide_eq_true (by omega)
        have d3 : (c != 45) = true := bne_iff_ne.mpr (by omega)
        have hbad : badC (bt s (k : Int)) = true := by rw [HC.out]; exact decide_eq_true (by omega)
        have hB := HB.out
        rw [name_bad hlt hbad] at hB
        subst hB
        clear hbad HC
        go_wp2
        go_ret
        exact ⟨rfl, rfl⟩
      have d0 : decide (c < 97) = false := decide_eq_false (by omega)
      have d1 : decide (122 < c) = true := decide_eq_true (by omega)
      have d2 : decide (c < 48) = false := decide_eq_false (by omega)
      have d3 : decide (57 < c) = true := decide_eq_true (by omega)
      have d4 : (c != 45) = true := bne_iff_ne.mpr (by omega)
      have hbad : badC (bt s (k : Int)) = true := by rw [HC.out]; exact decide_eq_true (by omega)
      have hB := HB.out
      rw [name_bad hlt hbad] at hB
      subst hB
      clear hbad HC
      go_wp2
      go_ret
      exact ⟨rfl, rfl⟩
    · obtain rfl : k = s.size := by omega
      have hB := HB.out
      rw [name_end HK.out] at hB
      by_cases h1 : 1 ≤ s.size
      · have d1 : decide (1 ≤ (s.size : Int)) = true := decide_eq_true (by omega)
        by_cases h2 : s.size ≤ 24
        · have d2 : decide ((s.size : Int) ≤ 24) = true := decide_eq_true (by omega)
          rw [decide_eq_true ⟨h1, h2⟩] at hB
          subst hB
          clear hlt h1 h2
          go_wp2
          go_ret
          exact ⟨rfl, rfl⟩
        · have d2 : decide ((s.size : Int) ≤ 24) = false := decide_eq_false (by omega)
          rw [decide_eq_false (fun h => h2 h.2)] at hB
          subst hB
          clear hlt h1 h2
          go_wp2
          go_ret
          exact ⟨rfl, rfl⟩
      · have d1 : decide (1 ≤ (s.size : Int)) = false := decide_eq_false (by omega)
        rw [decide_eq_false (fun h => h1 h.1)] at hB
        subst hB
        clear hlt h1
        go_wp2
        go_ret
        exact ⟨rfl, rfl⟩
end Go.Proofs.Ytdfhponhjjkdmaa
