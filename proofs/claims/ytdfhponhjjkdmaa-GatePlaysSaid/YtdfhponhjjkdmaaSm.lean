/- A Sum's block; its table is made; no condition. -/
import Derived.Test.YtdfhponhjjkdmaaProg
import Derived.Test.YtdfhponhjjkdmaaCrc
import Derived.Test.YtdfhponhjjkdmaaWWords
import Derived.WalkKit
import Derived.KernelRfl
import Derived.Laws.LoneSync
import Derived.Laws.BitsAllLaws
import Derived.Deep.QuietTactic
import Derived.BigQuiet
import Derived.Lib.Hide
import Derived.Sort.AtCall
set_option linter.unusedVariables false
set_option linter.unusedSimpArgs false
namespace Go.Proofs.Ytdfhponhjjkdmaa
open Go.RowKit Crc Go.Proofs.YtdfhponhjjkdmaaW.PrintWords

/-- A Sum's cells: done, the lock's state, its sema, the table, the number. -/
def sumC (d m : Int) (tf : Nat → Int) (c : Int) : Array Value :=
  #[.int .u32 d, .int .i32 m, .int .u32 0, .int .u32 (tf 0), .int .u32 (tf 1), .int .u32 (tf 2), .int .u32 (tf 3), .int .u32 (tf 4), .int .u32 (tf 5), .int .u32 (tf 6), .int .u32 (tf 7), .int .u32 (tf 8), .int .u32 (tf 9), .int .u32 (tf 10), .int .u32 (tf 11), .int .u32 (tf 12), .int .u32 (tf 13), .int .u32 (tf 14), .int .u32 (tf 15), .int .u32 c]
/-- Block g is a Sum. -/
def Sm (w : World) (g : Nat) (d m : Int) (tf : Nat → Int) (c : Int) : Prop := w.heap[g]? = some (.cells (sumC d m tf c) 61 (0, 0))
def upd (tf : Nat → Int) (j : Nat) (x : Int) : Nat → Int := fun k => if k = j then x else tf k
section
variable {w w' : World} {g : Nat} {d m c : Int} {tf : Nat → Int}
theorem Sm.c0 (h : Sm w g d m tf c) : w.cell? ⟨g, 0, none⟩ = some (.int .u32 d) := blk_cell h 0
theorem Sm.c1 (h : Sm w g d m tf c) : w.cell? ⟨g, 1, none⟩ = some (.int .i32 m) := blk_cell h 1
theorem Sm.c19 (h : Sm w g d m tf c) : w.cell? ⟨g, 19, none⟩ = some (.int .u32 c) := blk_cell h 19
theorem lt16 {p : Nat → Prop} (h : p 0 ∧ p 1 ∧ p 2 ∧ p 3 ∧ p 4 ∧ p 5 ∧ p 6 ∧ p 7 ∧ p 8 ∧ p 9 ∧ p 10 ∧ p 11 ∧ p 12 ∧ p 13 ∧ p 14 ∧ p 15) (j : Nat) (hj : j < 16) : p j := by
  obtain ⟨h0, h1, h2, h3, h4, h5, h6, h7, h8, h9, h10, h11, h12, h13, h14, h15⟩ := h
  have e : j = 0 ∨ j = 1 ∨ j = 2 ∨ j = 3 ∨ j = 4 ∨ j = 5 ∨ j = 6 ∨ j = 7 ∨ j = 8 ∨ j = 9 ∨ j = 10 ∨ j = 11 ∨ j = 12 ∨ j = 13 ∨ j = 14 ∨ j = 15 := by omega
  rcases e with rfl | rfl | rfl | rfl | rfl | rfl | rfl | rfl | rfl | rfl | rfl | rfl | rfl | rfl | rfl | rfl <;> assumption
theorem Sm.ct (h : Sm w g d m tf c) (j : Nat) (hj : j < 16) : w.cell? ⟨g, 3 + j, none⟩ = some (.int .u32 (tf j)) := by
  refine (blk_cell h (3 + j)).trans ?_
  exact lt16 (p := fun j => (sumC d m tf c)[3 + j]? = some (.int .u32 (tf j))) ⟨rfl, rfl, rfl, rfl, rfl, rfl, rfl, rfl, rfl, rfl, rfl, rfl, rfl, rfl, rfl, rfl⟩ j hj
theorem Sm.fz (h : Sm w g d m tf c) (i : Nat) : w.frozen? ⟨g, i, none⟩ = false := blk_frozen h i
theorem Sm.s0 (h : Sm w g d m tf c) (x : Int) : Sm (w.setCell ⟨g, 0, none⟩ (.int .u32 x)) g x m tf c := blk_put h 0 _ rfl
theorem Sm.s1 (h : Sm w g d m tf c) (x : Int) : Sm (w.setCell ⟨g, 1, none⟩ (.int .i32 x)) g d x tf c := blk_put h 1 _ rfl
theorem Sm.s19 (h : Sm w g d m tf c) (x : Int) : Sm (w.setCell ⟨g, 19, none⟩ (.int .u32 x)) g d m tf x := blk_put h 19 _ rfl
theorem Sm.st (h : Sm w g d m tf c) (j : Nat) (hj : j < 16) (x : Int) : Sm (w.setCell ⟨g, 3 + j, none⟩ (.int .u32 x)) g d m (upd tf j x) c :=
  blk_put h (3 + j) _ (lt16 (p := fun j => (sumC d m tf c).setIfInBounds (3 + j) (.int .u32 x) = sumC d m (upd tf j x) c) ⟨rfl, rfl, rfl, rfl, rfl, rfl, rfl, rfl, rfl, rfl, rfl, rfl, rfl, rfl, rfl, rfl⟩ j hj)
theorem Sm.congr (h : Sm w g d m tf c) {tf' : Nat → Int} (e : ∀ k, k < 16 → tf k = tf' k) : Sm w g d m tf' c := by
  unfold Sm sumC at h ⊢
  rw [h, e 0 (by decide), e 1 (by decide), e 2 (by decide), e 3 (by decide), e 4 (by decide), e 5 (by decide), e 6 (by decide), e 7 (by decide), e 8 (by decide), e 9 (by decide), e 10 (by decide), e 11 (by decide), e 12 (by decide), e 13 (by decide), e 14 (by decide), e 15 (by decide)]
theorem Sm.far (h : Sm w g d m tf c) {p : Addr} (hp : g ≠ p.block) (u : Value) : Sm (w.setCell p u) g d m tf c := blk_far h hp u
theorem Sm.lt (h : Sm w g d m tf c) : g < w.heap.size := blk_lt h
theorem Sm.grown {row : Option Nat} (h : Sm w g d m tf c) (hg : w.grownBy w' row) (hne : some g ≠ row) : Sm w' g d m tf c := blk_grown h hg hne
end
theorem only_set {a w : World} {g : Nat} (h : a.grownBy w (some g)) (i : Nat) (u : Value) : a.grownBy (w.setCell ⟨g, i, none⟩ u) (some g) :=
  ⟨h.os, h.tape, h.output, by simpa [World.setCell] using h.size, fun k hk hne => (Below.heap_setCell w _ u k (fun e => hne (by rw [e]))).trans (h.block k hk hne)⟩
theorem only_drew {a w : World} {row : Option Nat} (h : a.grownBy w row) : a.grownBy w.drew row := ⟨h.os, h.tape, h.output, h.size, h.block⟩
theorem only_refl (w : World) (row : Option Nat) : w.grownBy w row := World.grownBy.refl w row
theorem only_trans {a b c : World} {row : Option Nat} (h : a.grownBy b row) (k : b.grownBy c row) : a.grownBy c row :=
  ⟨k.os.trans h.os, k.tape.trans h.tape, k.output.trans h.output, Nat.le_trans h.size k.size, fun i hi hn => (k.block i (Nat.lt_of_lt_of_le hi h.size) hn).trans (h.block i hi hn)⟩

/-- The table. -/
def tab (k : Nat) : Int := ((stpN 4 k : Nat) : Int)
theorem and_one (c : Nat) (h : c < 4294967296) : bits .and .u32 (c : Int) 1 = ((c % 2 : Nat) : Int) := by
  have h1 := u32_and_nat c 1 h (by decide)
  rw [nat_mask1] at h1
  exact h1
theorem xor_half (c : Nat) (h : c < 4294967296) : bits .xor .u32 ((c : Int) / 2) 2197175160 = ((c / 2 ^^^ 2197175160 : Nat) : Int) := by
  have h1 := u32_xor_nat (c / 2) 2197175160 (by omega) (by decide)
  rw [← h1]
  rfl

theorem Sm.next {w : World} {g k : Nat} {d m c : Int} {tf : Nat → Int} (h : Sm w g d m (fun j => if j < k then tab j else tf j) c) (hk : k < 16) :
    Sm (w.setCell ⟨g, 3 + k, none⟩ (.int .u32 (tab k))) g d m (fun j => if j < k + 1 then tab j else tf j) c :=
  (h.st k hk (tab k)).congr (fun j hj => by
    show (if j = k then tab k else if j < k then tab j else tf j) = if j < k + 1 then tab j else tf j
    rcases Nat.lt_trichotomy j k with e | e | e
    · rw [if_neg (by omega), if_pos e, if_pos (by omega)]
    · subst e; rw [if_pos rfl, if_pos (by omega)]
    · rw [if_neg (by omega), if_neg (by omega), if_neg (by omega)])

set_option maxRecDepth 100000 in
set_option maxHeartbeats 4000000 in
theorem make_any (g : Nat) (d m c : Int) (tf : Nat → Int) (w : World) (h : Sm w g d m tf c) :
    Calls Try.prog 22 #[.pointer (some ⟨g, 0, none⟩)] w fun e w' => e = .returned (.tuple #[]) ∧ Sm w' g d m tab c ∧ w.grownBy w' (some g) := by
  have H := Lib.hid h
  have HG : Hid (w.grownBy w (some g)) := only_refl _ _
  clear h
  go_enter Try.func22, Try.ntmps22
  go_wp2
  go_loopw [4] (fun i w' => ∃ k : Nat, k ≤ 16 ∧ i = .int .i64 k ∧ Hid (Sm w' g d m (fun j => if j < k then tab j else tf j) c) ∧ Hid (w.grownBy w' (some g))) (fun i _ => (16 - intOf i).toNat)
  case atStart => exact ⟨0, by omega, rfl, H.out.congr (fun j _ => (if_neg (by omega)).symm), HG⟩
  case round =>
    clear H HG
    obtain ⟨k, hk, rfl, H, HG⟩ := hrel
    by_cases hlt : k < 16
    · go_wp2
      go_loop [3, 9] (fun v i => ∃ n : Nat, n ≤ 4 ∧ i = .int .i64 n ∧ v = .int .u32 ((stpN n k : Nat) : Int)) (fun _ i => 4 - (intOf i).toNat)
      case atStart => exact ⟨0, by omega, rfl, rfl⟩
      case round =>
        obtain ⟨n, hn, rfl, rfl⟩ := hrel
        by_cases hn4 : n < 4
        · obtain ⟨q, hq⟩ : ∃ q : Nat, stpN n k = q := ⟨_, rfl⟩
          have hq1 : q < 4294967296 := by rw [← hq]; exact stpN_lt n k (by omega)
          have hq2 : stpN (n + 1) k = stp q := by rw [← hq]; rfl
          rw [hq]
          clear hq
          by_cases hb : q % 2 = 1
          · have ha : bits .and .u32 (q : Int) 1 = 1 := by rw [and_one q hq1, hb]; rfl
            have hx := xor_half q hq1
            have hs : stp q = (q / 2 ^^^ 2197175160) := if_pos hb
            rw [hs] at hq2
            clear hs
            go_wp2
            go_round
            case rel => exact ⟨n + 1, by omega, by go_num, by rw [hq2]⟩
            case measure => simp [intOf]; omega
          · have ha : bits .and .u32 (q : Int) 1 = 0 := by rw [and_one q hq1, show q % 2 = 0 by omega]; rfl
            have hs : stp q = q / 2 := if_neg hb
            rw [hs] at hq2
            clear hs
            go_wp2
            go_round
            case rel => exact ⟨n + 1, by omega, by go_num, by rw [hq2]; go_num⟩
            case measure => simp [intOf]; omega
        · obtain rfl : n = 4 := by omega
          have k0 := H.out.ct k hlt
          have k1 := H.out.fz (3 + k)
          go_wp2
          go_round
          case rel => exact ⟨k + 1, by omega, by go_num, H.out.next hlt, only_set HG.out _ _⟩
          case measure => simp [intOf]; omega
    · obtain rfl : k = 16 := by omega
      go_wp2
      go_end0
      refine ⟨rfl, H.out.congr (fun j hj => by simp [hj]), HG.out⟩
end Go.Proofs.Ytdfhponhjjkdmaa
