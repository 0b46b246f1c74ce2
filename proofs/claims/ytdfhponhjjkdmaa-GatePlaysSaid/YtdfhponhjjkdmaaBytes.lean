/- Rows of bytes that are the call's own; slices of slices of bytes that come in; no condition. -/
import Derived.Test.YtdfhponhjjkdmaaSApart
import Derived.Deep.Matrix
set_option linter.unusedVariables false
set_option linter.unusedSimpArgs false
namespace Go.Proofs.Ytdfhponhjjkdmaa
open Go.ChangeShapes Go.WideShapes Go.RowKit Go.Deep Crc Go.Proofs.YtdfhponhjjkdmaaW.PrintWords

/-- A row of bytes of the call's own. -/
def OwnB (w : World) (B : Nat) (v : Value) (xs : List Nat) : Prop := w.ownsRow B 5 1 v xs.length (nums .u8 (natz xs))
theorem natz_append (xs ys : List Nat) : natz (xs ++ ys) = natz xs ++ natz ys := by simp [natz]
theorem natz_length (xs : List Nat) : (natz xs).length = xs.length := by simp [natz]
/-- It is the old block, or a new one. -/
def Fresh (v v0 : Value) (s : Nat) : Prop := v.ownBlock = v0.ownBlock ∨ ∃ b, v.ownBlock = some b ∧ s ≤ b
section
variable {ops : Array Oper} {rest : List Oper} {o : Oper} {a : Act} {Q : Exit → Act → World → Prop}
theorem app_bytes {w0 w : World} (B : Nat) (hB0 : B ≤ w0.heap.size) (hgd : o.guard = none) (s x : Operand) (ho : o.op = .call { callee := .builtin .append, args := #[s, x], argTypes := #[28, 28] })
    (v : Value) (xs bs : List Nat) (A : Option Addr) (m c : Nat) (hs : a.eval s = v) (hx : a.eval x = .slice A m c) (HO : OwnB w B v xs) (HR : Bts w A m bs) (HB : Below B w0 w) (hl : xs.length + m ≤ 140737488355328)
    (h : ∀ A1 n1 c1 w1, n1 = xs.length + m → OwnB w1 B (.slice A1 n1 c1) (xs ++ bs) → Below B w0 w1 → w.grownBy w1 v.ownBlock → Fresh (.slice A1 n1 c1) v w.heap.size → wpList Try.prog ops Q rest (a.put o.dst (.slice A1 n1 c1)) w1) :
    wpList Try.prog ops Q (o :: rest) a w := by
  refine print_append_row (w0 := w0) B hgd s x 28 5 .u8 1 ho Try.underlying28 info5 (by decide) v (natz xs) (natz bs) A m c hs hx (by rw [natz_length]; exact HO) HR.reads HB (Nat.le_trans hB0 HB.size) (by rw [natz_length]; omega) ?_
  intro v1 w1 ho1 hb1 hg1 hf1
  rw [← natz_append, natz_length] at ho1
  obtain ⟨A1, c1, e, _⟩ := own_reads ho1
  subst e
  have hn : (xs ++ bs).length = xs.length + m := by rw [List.length_append, HR.1]
  exact h A1 _ c1 w1 hn ho1 hb1 hg1 hf1
end
theorem OwnB.bts {w : World} {B n cap : Nat} {A : Option Addr} {xs : List Nat} (h : OwnB w B (.slice A n cap) xs) (hb : ∀ b ∈ xs, b < 256) : Bts w A n xs := by
  obtain ⟨A1, c1, e, hr⟩ := own_reads h
  injection e with e1 e2 e3
  subst e1 e2
  exact bts_of_reads hr hb
theorem OwnB.len {w : World} {B n cap : Nat} {A : Option Addr} {xs : List Nat} (h : OwnB w B (.slice A n cap) xs) : n = xs.length := by
  obtain ⟨A1, c1, e, hr⟩ := own_reads h
  injection e with e1 e2 e3
theorem ownB_nil (w : World) (B : Nat) : OwnB w B (.slice none 0 0) [] := own_nil _ _ _ _
theorem ownB_lit (w : World) (B : Nat) (hb : B ≤ w.heap.size) : OwnB (w.alloc (.cells #[] 5)) B (.slice (some ⟨w.heap.size, 0, none⟩) 0 0) [] := own_lit w B 5 .u8 [] hb (by decide)
theorem OwnB.other {w w1 : World} {B : Nat} {v : Value} {xs : List Nat} {row : Option Nat} (h : OwnB w B v xs) (hg : w.grownBy w1 row) (hne : v.ownBlock = none ∨ v.ownBlock ≠ row) : OwnB w1 B v xs := own_other h hg hne
theorem OwnB.below {w w1 : World} {B : Nat} {v : Value} {xs : List Nat} (h : OwnB w B v xs) (hb : Below w.heap.size w w1) : OwnB w1 B v xs := by
  refine own_other (row := none) h ⟨hb.os, hb.tape, hb.output, hb.size, fun i hi _ => hb.block i hi⟩ ?_
  rcases v.ownBlock with _ | k
  · exact .inl rfl
  · exact .inr (by simp)
theorem OwnB.lt {w : World} {B : Nat} {v : Value} {xs : List Nat} (h : OwnB w B v xs) (k : Nat) (hk : v.ownBlock = some k) : k < w.heap.size := own_lt h k hk
theorem OwnB.base {w : World} {B : Nat} {v : Value} {xs : List Nat} (h : OwnB w B v xs) (k : Nat) (hk : v.ownBlock = some k) : B ≤ k := own_base h k hk
theorem Ok.own_ne {w : World} {g B : Nat} {c : Int} {v : Value} {xs : List Nat} (h : Ok w g c) (ho : OwnB w B v xs) : some g ≠ v.ownBlock := by
  rcases h with ⟨tf, h⟩ | h
  · exact Go.Proofs.YtdfhponhjjkdmaaW.PrintWords.own_ne ho h (by decide)
  · exact Go.Proofs.YtdfhponhjjkdmaaW.PrintWords.own_ne ho h (by decide)
theorem below_grown {B : Nat} {w0 w w1 : World} {row : Option Nat} (h : Below B w0 w) (hB0 : B ≤ w0.heap.size) (hg : w.grownBy w1 row) (hr : ∀ k, row = some k → B ≤ k) : Below B w0 w1 :=
  h.grown hg (Nat.le_trans hB0 h.size) hr

/-- Each row of a slice of slices of bytes reads as bytes, below. -/
def Rws (w : World) (a : Option Addr) (n : Nat) : Prop :=
  ∀ r, r < n → ∃ ad, a = some ad ∧ ad.block < w.heap.size ∧ ∃ (A : Option Addr) (L C : Nat) (bs : List Nat), w.cell? (ad.add r) = some (.slice A L C) ∧ Bts w A L bs ∧ L ≤ C
theorem row_rows {H : Type} {enc : TypeId × Value → H} {P : Program} {W : World} {base : Nat} {t e q : TypeId} {v : Value} {d : DataW H} {ps : List MemPlace}
    (hu : P.underlying t = some (.slice e)) (he : P.underlying e = some (.slice q)) (hq : P.underlying q = some (.int .u8)) (ce : P.cellsOf e = 1) (cq : P.cellsOf q = 1)
    (hv : Value.okWide P W .any base t v) (h : DataW.Trod enc P W 0 (fun _ => true) true t v d ps) :
    ∃ (a : Option Addr) (len cap : Nat), v = .slice a len cap ∧ Rws W a len ∧ len ≤ 9223372036854775807 := by
  obtain ⟨a, len, cap, rfl⟩ := okSlice hu hv
  obtain ⟨fuel, hf⟩ := h
  rcases open_int_rows hu he hq ce cq hf with ⟨hcs, _⟩ | ⟨x, l, c, A, L, C, Z, hcs, _, hl, hm, hx, hr⟩
  · simp [Value.cells] at hcs
    obtain ⟨rfl, rfl, rfl⟩ := hcs
    exact ⟨none, 0, 0, rfl, fun r hr => by omega, by omega⟩
  · simp [Value.cells] at hcs
    obtain ⟨rfl, rfl, rfl⟩ := hcs
    refine ⟨some x, len, cap, rfl, fun r hrl => ?_, by unfold maxLen at hm; omega⟩
    obtain ⟨hc, hLC, hCm, hZl, hwf, hnone, hcells⟩ := hr r (by omega)
    have hblk := World.block_lt_of_cell? W _ hc
    rw [add_block] at hblk
    refine ⟨x, rfl, hblk, A r, L r, C r, ((Z r).take (L r)).map Int.toNat, hc, ⟨by simp; omega, by unfold maxLen at hCm; omega, ?_, ?_⟩, hLC⟩
    · intro b hb
      obtain ⟨z, hz1, rfl⟩ := List.mem_map.1 hb
      have h1 := hwf z (List.mem_of_mem_take hz1)
      simp only [Lit.wf, Bool.and_eq_true, decide_eq_true_eq] at h1
      have hmin : IntKind.u8.min = 0 := rfl
      have hmax : IntKind.u8.max = 255 := rfl
      omega
    · intro j hj
      rcases hA : A r with _ | ad
      · have := hnone hA; omega
      · obtain ⟨_, h2⟩ := hcells ad hA
        refine ⟨ad, rfl, ?_⟩
        rw [h2 j (by omega)]
        have hjz : j < (Z r).length := by omega
        have h1 := hwf _ (List.getElem_mem hjz)
        simp only [Lit.wf, Bool.and_eq_true, decide_eq_true_eq] at h1
        have hmin : IntKind.u8.min = 0 := rfl
        have e1 : (Z r).getD j 0 = (Z r)[j] := by rw [List.getD_eq_getElem?_getD, List.getElem?_eq_getElem hjz]; rfl
        have e2 : (((Z r).take (L r)).map Int.toNat).getD j 0 = ((Z r)[j]).toNat := by
          rw [List.getD_eq_getElem?_getD, List.getElem?_map, List.getElem?_take, if_pos hj, List.getElem?_eq_getElem hjz]; rfl
        rw [e1, e2]
        have : (((Z r)[j]).toNat : Int) = (Z r)[j] := by omega
        rw [this]
end Go.Proofs.Ytdfhponhjjkdmaa
