/- Bytes: rows that come in, and rows of the call's own; no condition. -/
import Derived.Test.YtapoeegnnkfgiaaDArg
import Derived.Test.YtapoeegnnkfgiaaWWords
import Derived.Sort.AtCall
set_option linter.unusedVariables false
set_option linter.unusedSimpArgs false
namespace Go.Proofs.Ytapoeegnnkfgiaa
open Go.RowKit Go.Proofs.YtapoeegnnkfgiaaW.PrintWords

theorem cell_same {w w' : World} {p : Addr} (h : w'.heap[p.block]? = w.heap[p.block]?) : w'.cell? p = w.cell? p := by unfold World.cell?; rw [h]
theorem cell_grown {w w' : World} {row : Option Nat} {p : Addr} {v : Value} (h : w.cell? p = some v) (hg : w.grownBy w' row) (hne : some p.block ≠ row) : w'.cell? p = some v :=
  (cell_same (hg.block p.block (World.block_lt_of_cell? w _ h) hne)).trans h
/-- The slice (a, n) reads as these bytes. -/
def Bts (w : World) (a : Option Addr) (n : Nat) (bs : List Nat) : Prop :=
  bs.length = n ∧ n ≤ 9223372036854775807 ∧ (∀ b ∈ bs, b < 256) ∧ ∀ j, j < n → ∃ ad, a = some ad ∧ w.cell? (ad.add j) = some (.int .u8 ((bs.getD j 0 : Nat) : Int))
theorem Bts.lt {w : World} {a : Option Addr} {n : Nat} {bs : List Nat} (h : Bts w a n bs) (j : Nat) (hj : j < n) : bs.getD j 0 < 256 := by
  have h1 := h.1
  rw [List.getD_eq_getElem?_getD, List.getElem?_eq_getElem (by omega)]
  exact h.2.2.1 _ (List.getElem_mem _)
theorem Bts.grown {w w' : World} {a : Option Addr} {n : Nat} {bs : List Nat} {row : Option Nat} (h : Bts w a n bs) (hg : w.grownBy w' row) (hne : ∀ ad, a = some ad → 0 < n → some ad.block ≠ row) : Bts w' a n bs :=
  ⟨h.1, h.2.1, h.2.2.1, fun j hj => by
    obtain ⟨ad, e, hc⟩ := h.2.2.2 j hj
    exact ⟨ad, e, cell_grown hc hg (by rw [add_block]; exact hne ad e (by omega))⟩⟩
theorem only_set {a w : World} {g : Nat} (h : a.grownBy w (some g)) (i : Nat) (u : Value) : a.grownBy (w.setCell ⟨g, i, none⟩ u) (some g) :=
  ⟨h.os, h.tape, h.output, by simpa [World.setCell] using h.size, fun k hk hne => (Below.heap_setCell w _ u k (fun e => hne (by rw [e]))).trans (h.block k hk hne)⟩
theorem only_drew {a w : World} {row : Option Nat} (h : a.grownBy w row) : a.grownBy w.drew row := ⟨h.os, h.tape, h.output, h.size, h.block⟩
theorem only_refl (w : World) (row : Option Nat) : w.grownBy w row := World.grownBy.refl w row
theorem only_trans {a b c : World} {row : Option Nat} (h : a.grownBy b row) (k : b.grownBy c row) : a.grownBy c row :=
  ⟨k.os.trans h.os, k.tape.trans h.tape, k.output.trans h.output, Nat.le_trans h.size k.size, fun i hi hn => (k.block i (Nat.lt_of_lt_of_le hi h.size) hn).trans (h.block i hi hn)⟩

theorem Bts.below {w w' : World} {a : Option Addr} {n : Nat} {bs : List Nat} (h : Bts w a n bs) (hb : Below w.heap.size w w') : Bts w' a n bs :=
  ⟨h.1, h.2.1, h.2.2.1, fun j hj => by
    obtain ⟨ad, e, hc⟩ := h.2.2.2 j hj
    exact ⟨ad, e, (hb.cell (p := ad.add j) (World.block_lt_of_cell? w _ hc)).trans hc⟩⟩
theorem Bts.old {w : World} {a : Option Addr} {n : Nat} {bs : List Nat} (h : Bts w a n bs) (hn : 0 < n) (ad : Addr) (e : a = some ad) : ad.block < w.heap.size := by
  obtain ⟨ad', e', hc⟩ := h.2.2.2 0 hn
  have h1 := World.block_lt_of_cell? w _ hc
  rw [add_block] at h1
  rw [e] at e'
  injection e' with e'
  rw [e']; exact h1

def natz (bs : List Nat) : List Int := bs.map Int.ofNat
theorem natz_getD (bs : List Nat) (j : Nat) : (natz bs).getD j 0 = ((bs.getD j 0 : Nat) : Int) := by
  unfold natz
  rw [List.getD_eq_getElem?_getD, List.getD_eq_getElem?_getD, List.getElem?_map]
  cases bs[j]? <;> rfl
theorem bts_of_reads {w : World} {a : Option Addr} {n : Nat} {bs : List Nat} (h : ReadsInt w .u8 a n (natz bs)) (hb : ∀ b ∈ bs, b < 256) : Bts w a n bs := by
  refine ⟨by have := h.1; simpa [natz] using this, h.2.1, hb, fun j hj => ?_⟩
  obtain ⟨ad, e, hc⟩ := h.2.2 (by omega)
  have h1 := hc j hj
  rw [natz_getD] at h1
  exact ⟨ad, e, h1⟩
theorem Bts.reads {w : World} {a : Option Addr} {n : Nat} {bs : List Nat} (h : Bts w a n bs) : ReadsInt w .u8 a n (natz bs) := by
  refine ⟨by have := h.1; simpa [natz] using this, h.2.1, fun hn => ?_⟩
  obtain ⟨ad, e, _⟩ := h.2.2.2 0 hn
  refine ⟨ad, e, fun j hj => ?_⟩
  obtain ⟨ad', e', hc⟩ := h.2.2.2 j hj
  rw [e] at e'
  injection e' with e'
  rw [natz_getD, e']
  exact hc
theorem bts_of_ints {w : World} {B : Nat} {a : Option Addr} {n : Nat} {zs : List Int} (h : IntsAt .u8 w B a n zs) : ∃ bs, Bts w a n bs := by
  have hz : ∀ j, j < n → 0 ≤ zs.getD j 0 ∧ zs.getD j 0 < 256 := by
    intro j hj
    obtain ⟨_, _, _, _, hw⟩ := h.2.2 j hj
    have h1 := hw
    simp only [Lit.wf, Bool.and_eq_true, decide_eq_true_eq] at h1
    have hmin : IntKind.u8.min = 0 := rfl
    have hmax : IntKind.u8.max = 255 := rfl
    omega
  refine ⟨zs.map Int.toNat, by simp [h.1], h.2.1, ?_, fun j hj => ?_⟩
  · intro b hb
    obtain ⟨z, hz1, rfl⟩ := List.mem_map.1 hb
    obtain ⟨j, hj, rfl⟩ := List.mem_iff_getElem.1 hz1
    have h1 := hz j (by have := h.1; omega)
    rw [List.getD_eq_getElem?_getD, List.getElem?_eq_getElem hj] at h1
    simp at h1
    omega
  · obtain ⟨ad, e, _, hc, _⟩ := h.2.2 j hj
    refine ⟨ad, e, ?_⟩
    have h1 := hz j hj
    have h2 : ((((zs.map Int.toNat).getD j 0 : Nat)) : Int) = zs.getD j 0 := by
      rw [List.getD_eq_getElem?_getD, List.getD_eq_getElem?_getD, List.getElem?_map] at *
      cases hq : zs[j]? with
      | none => rfl
      | some v => rw [hq] at h1; simp at h1; simp; omega
    rw [h2]
    exact hc

theorem info5 : (Try.prog.info? 5).map (fun i => (i.zero, i.size, i.bytes)) = some (some (.int .u8 0), 1, 1) := by kernel_rfl
theorem own_form {w : World} {base n : Nat} {e : TypeId} {v : Value} {xs : List Value} (h : w.ownsRow base e 1 v n xs) (hn : 0 < n) : ∃ g cap, v = .slice (some ⟨g, 0, none⟩) n cap ∧ base ≤ g := by
  rcases h.2 with ⟨_, h0⟩ | ⟨g, cap, cur, rfl, hg, _⟩
  · omega
  · exact ⟨g, cap, rfl, hg⟩
theorem own_bts {w : World} {base n g cap : Nat} {bs : List Nat} (h : w.ownsRow base 5 1 (.slice (some ⟨g, 0, none⟩) n cap) n (nums .u8 (natz bs))) (hb : ∀ b ∈ bs, b < 256) : Bts w (some ⟨g, 0, none⟩) n bs := by
  obtain ⟨A, c, e, hr⟩ := own_reads h
  injection e with e1 e2 e3
  rw [← e1] at hr
  exact bts_of_reads hr hb

/-- A row of bytes of the call's own. -/
def OwnB (w : World) (B : Nat) (v : Value) (xs : List Nat) : Prop := w.ownsRow B 5 1 v xs.length (nums .u8 (natz xs))
theorem natz_append (xs ys : List Nat) : natz (xs ++ ys) = natz xs ++ natz ys := by simp [natz]
theorem natz_length (xs : List Nat) : (natz xs).length = xs.length := by simp [natz]
/-- It is the old block, or a new one. -/
def Fresh (v v0 : Value) (s : Nat) : Prop := v.ownBlock = v0.ownBlock ∨ ∃ b, v.ownBlock = some b ∧ s ≤ b
section
variable {ops : Array Oper} {rest : List Oper} {o : Oper} {a : Act} {Q : Exit → Act → World → Prop}
theorem app_bytes {w0 w : World} (B : Nat) (hB0 : B ≤ w0.heap.size) (hgd : o.guard = none) (s x : Operand) (ho : o.op = .call { callee := .builtin .append, args := #[s, x], argTypes := #[31, 31] })
    (v : Value) (xs bs : List Nat) (A : Option Addr) (m c : Nat) (hs : a.eval s = v) (hx : a.eval x = .slice A m c) (HO : OwnB w B v xs) (HR : Bts w A m bs) (HB : Below B w0 w) (hl : xs.length + m ≤ 140737488355328)
    (h : ∀ A1 n1 c1 w1, n1 = xs.length + m → OwnB w1 B (.slice A1 n1 c1) (xs ++ bs) → Below B w0 w1 → w.grownBy w1 v.ownBlock → Fresh (.slice A1 n1 c1) v w.heap.size → wpList Try.prog ops Q rest (a.put o.dst (.slice A1 n1 c1)) w1) :
    wpList Try.prog ops Q (o :: rest) a w := by
  refine print_append_row (w0 := w0) B hgd s x 31 5 .u8 1 ho Try.underlying31 info5 (by decide) v (natz xs) (natz bs) A m c hs hx (by rw [natz_length]; exact HO) HR.reads HB (Nat.le_trans hB0 HB.size) (by rw [natz_length]; omega) ?_
  intro v1 w1 ho1 hb1 hg1 hf1
  rw [← natz_append, natz_length] at ho1
  obtain ⟨A1, c1, e, _⟩ := own_reads ho1
  subst e
  have hn : (xs ++ bs).length = xs.length + m := by rw [List.length_append, HR.1]
  exact h A1 _ c1 w1 hn ho1 hb1 hg1 hf1
end
theorem OwnB.bts {w : World} {B n cap : Nat} {A : Option Addr} {xs : List Nat} (h : OwnB w B (.slice A n cap) xs) (hb : ∀ b ∈ xs, b < 256) : Bts w A n xs := by
  obtain ⟨A1, c1, e, hr⟩ := own_reads h
  injection e with e1 e2 e3
  subst e1 e2
  exact bts_of_reads hr hb
theorem OwnB.len {w : World} {B n cap : Nat} {A : Option Addr} {xs : List Nat} (h : OwnB w B (.slice A n cap) xs) : n = xs.length := by
  obtain ⟨A1, c1, e, hr⟩ := own_reads h
  injection e with e1 e2 e3
theorem ownB_nil (w : World) (B : Nat) : OwnB w B (.slice none 0 0) [] := own_nil _ _ _ _
theorem ownB_lit (w : World) (B : Nat) (hb : B ≤ w.heap.size) : OwnB (w.alloc (.cells #[] 5)) B (.slice (some ⟨w.heap.size, 0, none⟩) 0 0) [] := own_lit w B 5 .u8 [] hb (by decide)
theorem OwnB.other {w w1 : World} {B : Nat} {v : Value} {xs : List Nat} {row : Option Nat} (h : OwnB w B v xs) (hg : w.grownBy w1 row) (hne : v.ownBlock = none ∨ v.ownBlock ≠ row) : OwnB w1 B v xs := own_other h hg hne
theorem OwnB.below {w w1 : World} {B : Nat} {v : Value} {xs : List Nat} (h : OwnB w B v xs) (hb : Below w.heap.size w w1) : OwnB w1 B v xs := by
  refine own_other (row := none) h ⟨hb.os, hb.tape, hb.output, hb.size, fun i hi _ => hb.block i hi⟩ ?_
  rcases v.ownBlock with _ | k
  · exact .inl rfl
  · exact .inr (by simp)
theorem OwnB.lt {w : World} {B : Nat} {v : Value} {xs : List Nat} (h : OwnB w B v xs) (k : Nat) (hk : v.ownBlock = some k) : k < w.heap.size := own_lt h k hk
theorem OwnB.base {w : World} {B : Nat} {v : Value} {xs : List Nat} (h : OwnB w B v xs) (k : Nat) (hk : v.ownBlock = some k) : B ≤ k := own_base h k hk
theorem below_grown {B : Nat} {w0 w w1 : World} {row : Option Nat} (h : Below B w0 w) (hB0 : B ≤ w0.heap.size) (hg : w.grownBy w1 row) (hr : ∀ k, row = some k → B ≤ k) : Below B w0 w1 :=
  h.grown hg (Nat.le_trans hB0 h.size) hr

theorem OwnB.put {w : World} {B g n cap : Nat} {xs : List Nat} (h : OwnB w B (.slice (some ⟨g, 0, none⟩) n cap) xs) (j x : Nat) :
    OwnB (w.setCell ⟨g, j, none⟩ (.int .u8 (x : Int))) B (.slice (some ⟨g, 0, none⟩) n cap) (xs.set j x) ∧ w.grownBy (w.setCell ⟨g, j, none⟩ (.int .u8 (x : Int))) (some g) := by
  have hn := h.len
  subst hn
  have h1 := own_store h (j : Int) (x : Int)
  rw [Int.toNat_natCast] at h1
  have e : (natz xs).set j (x : Int) = natz (xs.set j x) := by
    show (xs.map Int.ofNat).set j _ = (xs.set j _).map Int.ofNat
    rw [List.map_set]; rfl
  rw [e] at h1
  refine ⟨?_, h1.2⟩
  unfold OwnB
  rw [List.length_set]
  exact h1.1
theorem OwnB.form {w : World} {B n cap : Nat} {A : Option Addr} {xs : List Nat} (h : OwnB w B (.slice A n cap) xs) (hn : 0 < n) : ∃ g, A = some ⟨g, 0, none⟩ := by
  have e := h.len
  subst e
  obtain ⟨g, c, e, _⟩ := own_form h hn
  injection e with e1 e2 e3
  exact ⟨g, e1⟩
theorem OwnB.cell {w : World} {B g n cap : Nat} {xs : List Nat} (h : OwnB w B (.slice (some ⟨g, 0, none⟩) n cap) xs) (j : Nat) (hj : j < n) : ∃ z : Int, w.cell? ⟨g, j, none⟩ = some (.int .u8 z) ∧ w.frozen? ⟨g, j, none⟩ = false := by
  have e := h.len
  subst e
  have h1 := own_at h (j : Int) (by omega) (by omega)
  rw [Int.toNat_natCast] at h1
  exact ⟨_, h1⟩
theorem own_row {v : Value} {row : Option Nat} (h : row ≠ v.ownBlock) : v.ownBlock = none ∨ v.ownBlock ≠ row := .inr (fun e => h e.symm)

end Go.Proofs.Ytapoeegnnkfgiaa
