/- The chapter's example; slices of bytes that come in, or that are the call's own; no condition. -/
import Derived.Test.YtdfhponhjjkdmaaSum
import Derived.Test.YtdfhponhjjkdmaaArg
import Derived.Lib.SlBytesConst
set_option linter.unusedVariables false
set_option linter.unusedSimpArgs false
namespace Go.Proofs.Ytdfhponhjjkdmaa
open Go.RowKit Crc Go.Proofs.YtdfhponhjjkdmaaW.PrintWords

theorem crc_at (a : Option Addr) (n cap : Nat) (bs : List Nat) (c : Int) (w : World) (hB : Bts w a n bs) (hc : Hid (((crc bs : Nat) : Int) = c)) :
    Calls Try.prog 13 #[.slice a n cap] w fun e w' => e = .returned (.int .u32 c) ∧ Below w.heap.size w w' := by
  rw [← hc.out]; exact crc_any a n cap bs w hB
theorem ref_at (a : Option Addr) (n cap : Nat) (bs : List Nat) (c : Int) (w : World) (hB : Bts w a n bs) (hc : Hid (((crc bs : Nat) : Int) = c)) :
    Calls Try.prog 12 #[.slice a n cap] w fun e w' => e = .returned (.int .u32 c) ∧ w' = w := by
  rw [← hc.out]; exact ref_crc a n cap bs w hB
def natz (bs : List Nat) : List Int := bs.map Int.ofNat
theorem natz_getD (bs : List Nat) (j : Nat) : (natz bs).getD j 0 = ((bs.getD j 0 : Nat) : Int) := by
  unfold natz
  rw [List.getD_eq_getElem?_getD, List.getD_eq_getElem?_getD, List.getElem?_map]
  cases bs[j]? <;> rfl
theorem bts_of_reads {w : World} {a : Option Addr} {n : Nat} {bs : List Nat} (h : ReadsInt w .u8 a n (natz bs)) (hb : ∀ b ∈ bs, b < 256) : Bts w a n bs := by
  refine ⟨by have := h.1; simpa [natz] using this, h.2.1, hb, fun j hj => ?_⟩
  obtain ⟨ad, e, hc⟩ := h.2.2 (by omega)
  have h1 := hc j hj
  rw [natz_getD] at h1
  exact ⟨ad, e, h1⟩
theorem Bts.reads {w : World} {a : Option Addr} {n : Nat} {bs : List Nat} (h : Bts w a n bs) : ReadsInt w .u8 a n (natz bs) := by
  refine ⟨by have := h.1; simpa [natz] using this, h.2.1, fun hn => ?_⟩
  obtain ⟨ad, e, _⟩ := h.2.2.2 0 hn
  refine ⟨ad, e, fun j hj => ?_⟩
  obtain ⟨ad', e', hc⟩ := h.2.2.2 j hj
  rw [e] at e'
  injection e' with e'
  rw [natz_getD, e']
  exact hc
theorem bts_of_ints {w : World} {B : Nat} {a : Option Addr} {n : Nat} {zs : List Int} (h : IntsAt .u8 w B a n zs) : ∃ bs, Bts w a n bs := by
  have hz : ∀ j, j < n → 0 ≤ zs.getD j 0 ∧ zs.getD j 0 < 256 := by
    intro j hj
    obtain ⟨_, _, _, _, hw⟩ := h.2.2 j hj
    have h1 := hw
    simp only [Lit.wf, Bool.and_eq_true, decide_eq_true_eq] at h1
    have hmin : IntKind.u8.min = 0 := rfl
    have hmax : IntKind.u8.max = 255 := rfl
    omega
  refine ⟨zs.map Int.toNat, by simp [h.1], h.2.1, ?_, fun j hj => ?_⟩
  · intro b hb
    obtain ⟨z, hz1, rfl⟩ := List.mem_map.1 hb
    obtain ⟨j, hj, rfl⟩ := List.mem_iff_getElem.1 hz1
    have h1 := hz j (by have := h.1; omega)
    rw [List.getD_eq_getElem?_getD, List.getElem?_eq_getElem hj] at h1
    simp at h1
    omega
  · obtain ⟨ad, e, _, hc, _⟩ := h.2.2 j hj
    refine ⟨ad, e, ?_⟩
    have h1 := hz j hj
    have h2 : ((((zs.map Int.toNat).getD j 0 : Nat)) : Int) = zs.getD j 0 := by
      rw [List.getD_eq_getElem?_getD, List.getD_eq_getElem?_getD, List.getElem?_map] at *
      cases hq : zs[j]? with
      | none => rfl
      | some v => rw [hq] at h1; simp at h1; simp; omega
    rw [h2]
    exact hc

set_option maxRecDepth 100000 in
theorem known_any (w : World) : Calls Try.prog 8 #[] w fun e w' => e = .returned (.bool true) ∧ Below w.heap.size w w' := by
  have hcv := Lib.run_convert_bytes_const (P := Try.prog) w 28 5 #[.int .u8 49, .int .u8 50, .int .u8 51, .int .u8 52, .int .u8 53, .int .u8 54, .int .u8 55, .int .u8 56, .int .u8 57] 9 9 Try.underlying28 Try.underlying5
  have HQ : Hid (Below w.heap.size w (w.alloc (.cells #[.int .u8 49, .int .u8 50, .int .u8 51, .int .u8 52, .int .u8 53, .int .u8 54, .int .u8 55, .int .u8 56, .int .u8 57] 5 (9, 10)))) := (Below.refl _ _).alloc (Nat.le_refl _) _
  have HB : Hid (Bts (w.alloc (.cells #[.int .u8 49, .int .u8 50, .int .u8 51, .int .u8 52, .int .u8 53, .int .u8 54, .int .u8 55, .int .u8 56, .int .u8 57] 5 (9, 10))) (some ⟨w.heap.size, 0, none⟩) 9 [49, 50, 51, 52, 53, 54, 55, 56, 57]) := by
    refine ⟨rfl, by decide, by decide, fun j hj => ⟨_, rfl, ?_⟩⟩
    have ha : (⟨w.heap.size, 0, none⟩ : Addr).add j = ⟨w.heap.size, j, none⟩ := by unfold Addr.add; split <;> simp_all
    rw [ha]
    refine (World.cell?_alloc_mark w _ 5 (9, 10) j).trans ?_
    have e : j = 0 ∨ j = 1 ∨ j = 2 ∨ j = 3 ∨ j = 4 ∨ j = 5 ∨ j = 6 ∨ j = 7 ∨ j = 8 := by omega
    rcases e with rfl | rfl | rfl | rfl | rfl | rfl | rfl | rfl | rfl <;> rfl
  have HC : Hid (((crc [49, 50, 51, 52, 53, 54, 55, 56, 57] : Nat) : Int) = 3808858755) := by rw [known_crc]; rfl
  go_enter Try.func8, Try.ntmps8
  go_wp2_with (first
    | (go_at_call 13; refine (crc_at _ _ _ _ _ _ HB.out HC).mono ?_; rintro e w2 ⟨rfl, hb2⟩; have HB2 := Lib.hid hb2; clear hb2))
  go_ret
  exact ⟨rfl, below_then' HQ.out HB2.out HQ.out.size⟩
end Go.Proofs.Ytdfhponhjjkdmaa
