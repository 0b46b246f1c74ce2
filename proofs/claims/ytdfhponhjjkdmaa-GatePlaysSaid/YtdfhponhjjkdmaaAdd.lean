/- Sum's Add, Now, New, Crc; the document's Crc; no condition. -/
import Derived.Test.YtdfhponhjjkdmaaOnce
import Derived.Test.YtdfhponhjjkdmaaArg
set_option linter.unusedVariables false
set_option linter.unusedSimpArgs false
namespace Go.Proofs.Ytdfhponhjjkdmaa
open Go.RowKit Crc Go.Proofs.YtdfhponhjjkdmaaW.PrintWords

theorem cell_same {w w' : World} {p : Addr} (h : w'.heap[p.block]? = w.heap[p.block]?) : w'.cell? p = w.cell? p := by unfold World.cell?; rw [h]
theorem cell_grown {w w' : World} {row : Option Nat} {p : Addr} {v : Value} (h : w.cell? p = some v) (hg : w.grownBy w' row) (hne : some p.block ≠ row) : w'.cell? p = some v :=
  (cell_same (hg.block p.block (World.block_lt_of_cell? w _ h) hne)).trans h
/-- The slice (a, n) reads as these bytes. -/
def Bts (w : World) (a : Option Addr) (n : Nat) (bs : List Nat) : Prop :=
  bs.length = n ∧ n ≤ 9223372036854775807 ∧ (∀ b ∈ bs, b < 256) ∧ ∀ j, j < n → ∃ ad, a = some ad ∧ w.cell? (ad.add j) = some (.int .u8 ((bs.getD j 0 : Nat) : Int))
theorem Bts.lt {w : World} {a : Option Addr} {n : Nat} {bs : List Nat} (h : Bts w a n bs) (j : Nat) (hj : j < n) : bs.getD j 0 < 256 := by
  have h1 := h.1
  rw [List.getD_eq_getElem?_getD, List.getElem?_eq_getElem (by omega)]
  exact h.2.2.1 _ (List.getElem_mem _)
theorem Bts.grown {w w' : World} {a : Option Addr} {n : Nat} {bs : List Nat} {row : Option Nat} (h : Bts w a n bs) (hg : w.grownBy w' row) (hne : ∀ ad, a = some ad → 0 < n → some ad.block ≠ row) : Bts w' a n bs :=
  ⟨h.1, h.2.1, h.2.2.1, fun j hj => by
    obtain ⟨ad, e, hc⟩ := h.2.2.2 j hj
    exact ⟨ad, e, cell_grown hc hg (by rw [add_block]; exact hne ad e (by omega))⟩⟩
theorem fold_take (f : Nat) (bs : List Nat) (k : Nat) (hk : k < bs.length) : fold f (bs.take (k + 1)) = byt (fold f (bs.take k)) (bs.getD k 0) := by
  have h : bs.take (k + 1) = bs.take k ++ [bs.getD k 0] := by
    rw [List.take_add_one, List.getD_eq_getElem?_getD, List.getElem?_eq_getElem hk]
    rfl
  rw [h, fold_append]
  rfl
theorem inv_nat (c : Nat) (h : c < 4294967296) : (4294967295 ^^^ c) = 4294967295 - c := by
  have h1 := congrArg BitVec.toNat (BitVec.not_def (x := BitVec.ofNat 32 c))
  rw [BitVec.toNat_not, BitVec.toNat_xor, BitVec.toNat_ofNat, BitVec.toNat_allOnes, Nat.mod_eq_of_lt (by omega : c < 2 ^ 32)] at h1
  exact h1.symm
theorem inv_xor (c : Nat) (h : c < 4294967296) : bits .xor .u32 IntKind.u32.max (c : Int) = ((4294967295 - c : Nat) : Int) := by
  rw [← inv_nat c h]
  exact u32_xor_nat 4294967295 c (by decide) h
theorem xor_byte (c b : Nat) (h : c < 4294967296) (hb : b < 256) : bits .xor .u32 (c : Int) (b : Int) = ((c ^^^ b : Nat) : Int) := u32_xor_nat c b h (by omega)
theorem and_15 (c : Nat) (h : c < 4294967296) : bits .and .u32 (c : Int) 15 = ((c % 16 : Nat) : Int) := by
  have h1 := u32_and_nat c 15 h (by decide)
  rw [nat_mask4] at h1
  exact h1
theorem xor_tab (c j : Nat) (h : c < 4294967296) (hj : c % 16 = j) : bits .xor .u32 ((c : Int) / 16) (tab j) = ((nib c : Nat) : Int) := by
  have h1 := u32_xor_nat (c / 16) (stpN 4 j) (by omega) (stpN_lt 4 j (by omega))
  unfold nib tab
  rw [hj, ← h1]
  rfl
theorem nib_lt (c : Nat) (h : c < 4294967296) : nib c < 4294967296 := by rw [nib_eq]; exact stpN_lt 4 c h

set_option maxRecDepth 100000 in
set_option maxHeartbeats 4000000 in
theorem add_sum (g f : Nat) (a : Option Addr) (n cap : Nat) (bs : List Nat) (w : World) (hS : Ok w g ((4294967295 - f : Nat) : Int)) (hf : f < 4294967296) (hB : Bts w a n bs) (hA : ∀ ad, a = some ad → 0 < n → ad.block ≠ g) :
    Calls Try.prog 11 #[.pointer (some ⟨g, 0, none⟩), .slice a n cap] w fun e w' => e = .returned (.tuple #[]) ∧ Sm w' g 1 0 tab ((4294967295 - fold f bs : Nat) : Int) ∧ w.grownBy w' (some g) := by
  have hmf : ∀ (fn : Fn) (first cap : Array Value) (w : World), (Instr.makeFunc fn first cap).run Try.prog w = .ok (.func fn first cap) w := fun _ _ _ _ => rfl
  have HB := Lib.hid hB
  have HA := Lib.hid hA
  have hn := hB.2.1
  have hlen := hB.1
  obtain ⟨q, hq⟩ : ∃ q : Nat, 4294967295 - f = q := ⟨_, rfl⟩
  rw [hq] at hS
  have hqx : bits .xor .u32 IntKind.u32.max (q : Int) = (f : Int) := by
    rw [inv_xor q (by omega)]
    have : 4294967295 - q = f := by omega
    rw [this]
  clear hB hA
  go_enter Try.func11, Try.ntmps11
  go_wp2_with (first
    | (go_at_call 21; refine (do_any g q _ hS).mono ?_; rintro e w1 ⟨rfl, hs1, hg1⟩; have HS := Lib.hid hs1; have HG := Lib.hid hg1; have k0 := hs1.c19; clear hs1 hg1 hS))
  replace HB : Hid (Bts w1 a n bs) := HB.out.grown HG.out (fun ad e hp he => HA.out ad e hp (by injection he))
  clear k0
  go_loop [4, 20] (fun v i => ∃ k F : Nat, k ≤ n ∧ i = .int .i64 k ∧ v = .int .u32 F ∧ F < 4294967296 ∧ Hid (fold f (bs.take k) = F)) (fun _ i => n - (intOf i).toNat)
  case atStart => exact ⟨0, f, by omega, rfl, rfl, hf, rfl⟩
  case round =>
    clear hqx
    obtain ⟨k, F, hk, rfl, rfl, hF, HF⟩ := hrel
    by_cases hlt : k < n
    · obtain ⟨ad, rfl, hc⟩ := HB.out.2.2.2 k hlt
      have hb := HB.out.lt k hlt
      have HF2 : Hid (fold f (bs.take (k + 1)) = byt F (bs.getD k 0)) := by rw [← HF.out]; exact fold_take f bs k (by omega)
      generalize bs.getD k 0 = b at hc hb HF2
      have hx0 := xor_byte F b hF hb
      rw [← byt_nib] at HF2
      have hG : (F ^^^ b) < 4294967296 := Nat.xor_lt_two_pow (n := 32) hF (by omega)
      generalize (F ^^^ b) = G at hx0 HF2 hG
      obtain ⟨J, hJ⟩ : ∃ J, G % 16 = J := ⟨_, rfl⟩
      have ha1 : bits .and .u32 (G : Int) 15 = (J : Int) := by rw [and_15 G hG, hJ]
      have hJ1 : J < 16 := by omega
      have ht1 := HS.out.ct J hJ1
      have hx1 := xor_tab G J hG hJ
      have hH := nib_lt G hG
      generalize nib G = H at hx1 HF2 hH
      obtain ⟨L, hL⟩ : ∃ L, H % 16 = L := ⟨_, rfl⟩
      have ha2 : bits .and .u32 (H : Int) 15 = (L : Int) := by rw [and_15 H hH, hL]
      have hL1 : L < 16 := by omega
      have ht2 := HS.out.ct L hL1
      have hx2 := xor_tab H L hH hL
      have hM := nib_lt H hH
      generalize nib H = M at hx2 HF2 hM
      generalize tab J = tJ at ht1 hx1
      generalize tab L = tL at ht2 hx2
      clear hJ hL
      go_wp2
      go_round
      case rel => exact ⟨k + 1, M, by omega, by go_num, by go_num, hM, HF2⟩
      case measure => simp [intOf]; omega
    · obtain rfl : k = n := by omega
      have hx3 := inv_xor F hF
      have k19 := HS.out.c19
      have z19 := HS.out.fz 19
      go_wp2
      go_end0
      refine ⟨rfl, ?_, only_set HG.out _ _⟩
      have h1 := HF.out
      rw [List.take_of_length_le (by omega)] at h1
      rw [h1]
      exact HS.out.s19 _
end Go.Proofs.Ytdfhponhjjkdmaa
