/- Bytes as a string; the block of some bytes; no condition. -/
import Derived.Test.YtapoeegnnkfgiaaDKn
import Derived.Laws.BytesArg
set_option linter.unusedVariables false
set_option linter.unusedSimpArgs false
namespace Go.Proofs.Ytapoeegnnkfgiaa
open Go.RowKit Go.Proofs.YtapoeegnnkfgiaaW.PrintWords

/-- Of bytes, as a string. -/
def strB (bs : List Nat) : ByteArray := strOfNums (natz bs)
theorem Bts.conv {w : World} {a : Option Addr} {n : Nat} {bs : List Nat} (h : Bts w a n bs) (c : Nat) :
    (convert 31 9 (.slice a n c)).run Try.prog w = .ok (.string (strB bs)) w := by
  rcases a with _ | ad
  · have h0 : n = 0 := by
      rcases Nat.eq_zero_or_pos n with h0 | h0
      · exact h0
      · obtain ⟨ad, e, _⟩ := h.2.2.2 0 h0
        cases e
    subst h0
    have hb : bs = [] := List.eq_nil_of_length_eq_zero h.1
    subst hb
    exact run_convert_bytes_nil w 31 5 Try.underlying31 Try.underlying5 0 c 9 Try.underlying9
  · have hl : (loadCells ad n).run Try.prog w = .ok ((natz bs).map (Value.int .u8)).toArray w := by
      have h1 := run_loadCells_list (P := Try.prog) w ad ((natz bs).map (Value.int .u8)) (fun j v hj => by
        have hjl : j < (natz bs).length := by
          rcases Nat.lt_or_ge j (natz bs).length with h | h
          · exact h
          · simp [List.getElem?_eq_none (show ((natz bs).map (Value.int .u8)).length ≤ j by simpa using h)] at hj
        rw [natz_length, h.1] at hjl
        obtain ⟨ad', e, hc⟩ := h.2.2.2 j hjl
        injection e with e
        subst e
        rw [hc, ← hj, ← natz_getD]
        rw [List.getElem?_map, List.getD_eq_getElem?_getD]
        cases hq : (natz bs)[j]? with
        | none => rw [List.getElem?_map, hq] at hj; cases hj
        | some z => rfl)
      simpa [natz_length, h.1] using h1
    rw [run_convert_bytes_string w 31 9 5 _ n c Try.underlying31 Try.underlying5 Try.underlying9, run_bytesToString w _ n c (natz bs) hl, foldl_push_bytes]
    simp [strB, strOfNums, ByteArray.empty, ByteArray.emptyWithCapacity]
    rfl

theorem Bts.same {w w' : World} {a : Option Addr} {n : Nat} {bs : List Nat} (h : Bts w a n bs) (hs : ∀ ad, a = some ad → 0 < n → w'.heap[ad.block]? = w.heap[ad.block]?) : Bts w' a n bs :=
  ⟨h.1, h.2.1, h.2.2.1, fun j hj => by
    obtain ⟨ad, e, hc⟩ := h.2.2.2 j hj
    exact ⟨ad, e, (cell_same (p := ad.add j) (by rw [add_block]; exact hs ad e (by omega))).trans hc⟩⟩

set_option maxRecDepth 100000 in
set_option maxHeartbeats 2000000 in
theorem block_any (a : Option Addr) (n c : Nat) (bs : List Nat) (w : World) (hB : Bts w a n bs) :
    Calls Try.prog 30 #[.slice a n c] w fun e w' => ∃ A m C ys, e = .returned (.slice A m C) ∧ Bts w' A m ys ∧ ((A = a ∧ m = n) ∨ (m = 512 ∧ ∀ ad, A = some ad → w.heap.size ≤ ad.block)) ∧ Below w.heap.size w w' := by
  have hn := hB.2.1
  by_cases h0 : n = 0
  · subst h0
    have HB := Lib.hid hB
    clear hB
    go_enter Try.func30, Try.ntmps30
    go_wp2
    go_ret
    exact ⟨_, _, _, bs, rfl, HB.out, .inl ⟨rfl, rfl⟩, Below.refl _ _⟩
  have d0 : ((n : Int) == 0) = false := beq_eq_false_iff_ne.mpr (by omega)
  by_cases h1 : 511 < n
  · have d1 : decide ((511 : Int) < n) = true := decide_eq_true (by omega)
    have HB := Lib.hid hB
    clear hB
    go_enter Try.func30, Try.ntmps30
    go_wp2
    go_ret
    exact ⟨_, _, _, bs, rfl, HB.out, .inl ⟨rfl, rfl⟩, Below.refl _ _⟩
  have d1 : decide ((511 : Int) < n) = false := decide_eq_false (by omega)
  obtain ⟨C, hmk, hz⟩ := make_at
  have hA := below_alloc1 w C
  have HOLD : Hid (∀ ad, a = some ad → ad.block < w.heap.size) := fun ad e => hB.old (by omega) ad e
  have HB := Lib.hid (hB.below hA)
  have HO := Lib.hid (hz w)
  have HQ := Lib.hid hA
  clear hB hz hA
  go_enter Try.func30, Try.ntmps30
  go_wp2_with fail
  go_loopw [4] (fun vi wr => ∃ (i : Nat) (ys : List Nat), i ≤ 512 ∧ vi = .int .i64 i ∧ ys.length = 512 ∧ Hid (∀ y ∈ ys, y < 256) ∧ Hid (OwnB wr w.heap.size (.slice (some ⟨w.heap.size, 0, none⟩) 512 512) ys) ∧ Hid (Bts wr a n bs) ∧ Hid (Below w.heap.size w wr)) (fun vi _ => (512 - intOf vi).toNat)
  case atStart => exact ⟨0, zeros, by omega, rfl, List.length_replicate .., zeros_lt, HO, HB, HQ⟩
  case round =>
    clear HO HB HQ
    obtain ⟨i, ys, hi, rfl, hyl, HY, HO, HB, HQ⟩ := hrel
    by_cases hlt : i < 512
    · have dd : decide ((i : Int) < 512) = true := decide_eq_true (by omega)
      obtain ⟨r, hr⟩ : ∃ r : Nat, (i : Int).tmod (n : Int) = (r : Int) := ⟨((i : Int).tmod (n : Int)).toNat, by have := Int.tmod_nonneg (n : Int) (show (0 : Int) ≤ i by omega); omega⟩
      have hrn : r < n := by have := Int.tmod_lt_of_pos (i : Int) (show (0 : Int) < n by omega); omega
      obtain ⟨ad, rfl, hc⟩ := HB.out.2.2.2 r hrn
      obtain ⟨z, hz1, hz2⟩ := HO.out.cell i hlt
      have hp := HO.out.put i (bs.getD r 0)
      have hblt := HB.out.lt r hrn
      have HO2 := Lib.hid hp.1
      have HB2 : Hid (Bts (wr.setCell ⟨w.heap.size, i, none⟩ (.int .u8 ((bs.getD r 0 : Nat) : Int))) (some ad) n bs) := HB.out.grown hp.2 (fun ad' e _ he => by have h1 := HOLD.out ad' e; have h2 := Option.some.inj he; omega)
      have HQ2 := Lib.hid (below_grown HQ.out (Nat.le_refl _) hp.2 (fun k e => by cases e; exact Nat.le_refl _))
      clear hp
      go_wp2_with fail
      go_round
      case rel => exact ⟨i + 1, ys.set i (bs.getD r 0), by omega, by go_num, by rw [List.length_set]; exact hyl, (fun y hy => by
        rcases List.mem_or_eq_of_mem_set hy with h | h
        · exact HY.out y h
        · omega), HO2, HB2, HQ2⟩
      case measure => simp [intOf]; omega
    · obtain rfl : i = 512 := by omega
      go_wp2_with fail
      go_ret
      exact ⟨_, _, _, ys, rfl, HO.out.bts HY.out, .inr ⟨rfl, fun ad e => by have e2 := Option.some.inj e; rw [← e2]; exact Nat.le_refl _⟩, HQ.out⟩
end Go.Proofs.Ytapoeegnnkfgiaa
