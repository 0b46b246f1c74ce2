/- GatePlays: what the law keeps beside the Gate; no condition. -/
import Derived.Test.YtdfhponhjjkdmaaGRow
import Derived.Test.YtdfhponhjjkdmaaSTurns
set_option linter.unusedVariables false
set_option linter.unusedSimpArgs false
namespace Go.Proofs.Ytdfhponhjjkdmaa
open Go.ChangeShapes Go.WideShapes Go.RowKit Go.Deep Go.Proofs.YtdfhponhjjkdmaaW.PrintWords

/-- The last place (below j) at which the key stands, or -1. -/
def lastAt (xs : List ByteArray) (s : ByteArray) : Nat → Int
  | 0 => -1
  | j + 1 => if xs.getD j ByteArray.empty = s then (j : Int) else lastAt xs s j
theorem lastAt_bd (xs : List ByteArray) (s : ByteArray) : ∀ j : Nat, -1 ≤ lastAt xs s j ∧ lastAt xs s j < j
  | 0 => by simp [lastAt]
  | j + 1 => by
    have h := lastAt_bd xs s j
    unfold lastAt
    split <;> omega
theorem lastAt_snoc (xs : List ByteArray) (k s : ByteArray) : ∀ j : Nat, j ≤ xs.length → lastAt (xs ++ [k]) s j = lastAt xs s j
  | 0, _ => rfl
  | j + 1, h => by
    have e : (xs ++ [k]).getD j ByteArray.empty = xs.getD j ByteArray.empty := by
      rw [List.getD_eq_getElem?_getD, List.getD_eq_getElem?_getD, List.getElem?_append_left (by omega)]
    unfold lastAt
    rw [e, lastAt_snoc xs k s j (by omega)]
/-- The keys and names of a Gate, in their order. -/
def Rel (f : ByteArray → Option ByteArray) (xs ys : List ByteArray) : Prop :=
  ys.length = xs.length ∧ ∀ s, (lastAt xs s xs.length < 0 → f s = none) ∧ (0 ≤ lastAt xs s xs.length → f s = some (ys.getD (lastAt xs s xs.length).toNat ByteArray.empty))
theorem Rel.nil : Rel noneS [] [] := ⟨rfl, fun s => ⟨fun _ => rfl, fun h => by simp [lastAt] at h⟩⟩
theorem Rel.add {f : ByteArray → Option ByteArray} {xs ys : List ByteArray} (h : Rel f xs ys) (k nm : ByteArray) : Rel (updS f k nm) (xs ++ [k]) (ys ++ [nm]) := by
  obtain ⟨hl, hf⟩ := h
  refine ⟨by simp [hl], fun s => ?_⟩
  have e0 : (xs ++ [k]).length = xs.length + 1 := by simp
  have e1 : (xs ++ [k]).getD xs.length ByteArray.empty = k := by simp
  have e2 : lastAt (xs ++ [k]) s (xs ++ [k]).length = if k = s then (xs.length : Int) else lastAt xs s xs.length := by
    rw [e0]
    show (if (xs ++ [k]).getD xs.length ByteArray.empty = s then (xs.length : Int) else lastAt (xs ++ [k]) s xs.length) = _
    rw [e1, lastAt_snoc xs k s xs.length (Nat.le_refl _)]
  rw [e2]
  by_cases hk : k = s
  · rw [if_pos hk]
    refine ⟨fun h => by omega, fun _ => ?_⟩
    have e3 : (ys ++ [nm]).getD xs.length ByteArray.empty = nm := by rw [← hl]; simp
    rw [Int.toNat_natCast, e3]
    simp [updS, hk]
  · rw [if_neg hk]
    have hb := lastAt_bd xs s xs.length
    have e4 : updS f k nm s = f s := by simp [updS, Ne.symm hk]
    rw [e4]
    refine ⟨(hf s).1, fun h => ?_⟩
    rw [(hf s).2 h]
    congr 1
    rw [List.getD_eq_getElem?_getD, List.getD_eq_getElem?_getD, List.getElem?_append_left (by omega)]

/-- A row of texts of the call's own. -/
def OwnS (w : World) (B : Nat) (v : Value) (xs : List ByteArray) : Prop := w.ownsRow B 9 1 v xs.length (pw_strs xs)
theorem OwnS.len {w : World} {B n c : Nat} {A : Option Addr} {xs : List ByteArray} (h : OwnS w B (.slice A n c) xs) : n = xs.length := by
  obtain ⟨A1, c1, e⟩ := own_slice h
  injection e with e1 e2 e3
theorem OwnS.form {w : World} {B : Nat} {v : Value} {xs : List ByteArray} (h : OwnS w B v xs) : ∃ A c, v = .slice A xs.length c := own_slice h
theorem OwnS.lt {w : World} {B : Nat} {v : Value} {xs : List ByteArray} (h : OwnS w B v xs) (k : Nat) (hk : v.ownBlock = some k) : k < w.heap.size := own_lt h k hk
theorem OwnS.base {w : World} {B : Nat} {v : Value} {xs : List ByteArray} (h : OwnS w B v xs) (k : Nat) (hk : v.ownBlock = some k) : B ≤ k := own_base h k hk
theorem OwnS.grown {w w1 : World} {B : Nat} {v : Value} {xs : List ByteArray} {row : Option Nat} (h : OwnS w B v xs) (hg : w.grownBy w1 row) (hne : v.ownBlock = none ∨ v.ownBlock ≠ row) : OwnS w1 B v xs := own_other h hg hne
/-- What lies in a block that has not turned. -/
theorem OwnS.same {w w1 : World} {B : Nat} {v : Value} {xs : List ByteArray} (h : OwnS w B v xs) (hb : ∀ k, v.ownBlock = some k → w1.heap[k]? = w.heap[k]?) : OwnS w1 B v xs := by
  obtain ⟨h1, h2⟩ := h
  refine ⟨h1, ?_⟩
  rcases h2 with h2 | ⟨g, cap, cur, rfl, h3, h4, h5⟩
  · exact .inl h2
  · exact .inr ⟨g, cap, cur, rfl, h3, (hb g rfl).trans h4, h5⟩
theorem OwnS.cell {w : World} {B n c : Nat} {A : Option Addr} {xs : List ByteArray} (h : OwnS w B (.slice A n c) xs) (j : Nat) (hj : j < n) : ∃ ad, A = some ad ∧ w.cell? (ad.add j) = some (.string (xs.getD j ByteArray.empty)) := by
  have e := h.len
  subst e
  obtain ⟨g, c', e, _⟩ := own_form h (by omega)
  injection e with e1 e2 e3
  subst e1
  have h1 := World.ownsRow.cellAt h j (by omega)
  refine ⟨_, rfl, ?_⟩
  have ha : (⟨g, 0, none⟩ : Addr).add j = ⟨g, j, none⟩ := by unfold Addr.add; split <;> simp_all
  rw [ha, h1, List.getD_eq_getElem?_getD]
  simp [pw_strs, List.getElem?_eq_getElem (show j < xs.length by omega)]
theorem Gs.own_ne {w : World} {g B : Nat} {mo : Option Nat} {adm : ByteArray} {n : Nat} {f : ByteArray → Option ByteArray} {x y : Int} {v : Value} {xs : List ByteArray} (h : Gs w g mo adm n f x y) (ho : OwnS w B v xs) : some g ≠ v.ownBlock ∧ (∀ b, mo = some b → some b ≠ v.ownBlock) := by
  constructor
  · rcases h with ⟨_, _, h⟩ | ⟨_, _, _, h, _⟩
    · exact Go.Proofs.YtdfhponhjjkdmaaW.PrintWords.own_ne ho h (by decide)
    · exact Go.Proofs.YtdfhponhjjkdmaaW.PrintWords.own_ne ho h (by decide)
  · intro b hb e
    rcases h with ⟨e1, _⟩ | ⟨b', e1, _, _, ⟨D, ⟨es, clock, hm, _⟩, _⟩⟩
    · rw [e1] at hb; cases hb
    · rw [e1] at hb
      injection hb with hb
      subst hb
      rcases ho.2 with ⟨rfl, _⟩ | ⟨g', cap, cur, rfl, _, hh, _⟩
      · simp [Value.ownBlock] at e
      · have e2 : b' = g' := by simpa [Value.ownBlock] using e
        subst e2
        rw [hm] at hh
        injection hh with hh
        cases hh
/-- A Gate's step turns no row of texts. -/
theorem OwnS.step {w w1 : World} {g B : Nat} {mo : Option Nat} {adm : ByteArray} {n : Nat} {f : ByteArray → Option ByteArray} {x y : Int} {v : Value} {xs : List ByteArray} (h : OwnS w B v xs) (hG : Gs w g mo adm n f x y) (k : Tr w w1 g mo) : OwnS w1 B v xs :=
  h.same (fun q hq => k.block q (h.lt q hq) (fun e => (hG.own_ne h).1 (by rw [hq, e])) (fun e => (hG.own_ne h).2 q e.symm hq.symm))
/-- The Gate stays while other blocks turn. -/
theorem Gs.grown {w w1 : World} {g : Nat} {mo : Option Nat} {adm : ByteArray} {n : Nat} {f : ByteArray → Option ByteArray} {x y : Int} {row : Option Nat} (h : Gs w g mo adm n f x y) (hg : w.grownBy w1 row) (h1 : some g ≠ row) (h2 : ∀ b, mo = some b → some b ≠ row) : Gs w1 g mo adm n f x y := by
  rcases h with ⟨e, hf, h⟩ | ⟨b, e, hb, h, hm⟩
  · exact .inl ⟨e, hf, h.grown hg h1⟩
  · exact .inr ⟨b, e, hb, h.grown hg h1, hm.kept hg (h2 b e)⟩
theorem Gs.belowW {w w1 : World} {g : Nat} {mo : Option Nat} {adm : ByteArray} {n : Nat} {f : ByteArray → Option ByteArray} {x y : Int} (h : Gs w g mo adm n f x y) (hb : Below w.heap.size w w1) : Gs w1 g mo adm n f x y :=
  h.grown (row := none) ⟨hb.os, hb.tape, hb.output, hb.size, fun i hi _ => hb.block i hi⟩ (by simp) (fun b _ => by simp)

/-- The call's own copy of an element. -/
def Cb (w : World) (c : Nat) (ad : Bool) (key nm : ByteArray) : Prop := w.heap[c]? = some (.cells #[.bool ad, .string key, .string nm] 39 (0, 0))
section
variable {w w1 : World} {c g : Nat} {ad : Bool} {key nm : ByteArray}
theorem Cb.c0 (h : Cb w c ad key nm) : w.cell? ⟨c, 0, none⟩ = some (.bool ad) := blk_cell h 0
theorem Cb.c1 (h : Cb w c ad key nm) : w.cell? ⟨c, 1, none⟩ = some (.string key) := blk_cell h 1
theorem Cb.c2 (h : Cb w c ad key nm) : w.cell? ⟨c, 2, none⟩ = some (.string nm) := blk_cell h 2
theorem Cb.grown {row : Option Nat} (h : Cb w c ad key nm) (hg : w.grownBy w1 row) (hne : some c ≠ row) : Cb w1 c ad key nm := blk_grown h hg hne
theorem Cb.own_ne {B : Nat} {v : Value} {xs : List ByteArray} (h : Cb w c ad key nm) (ho : OwnS w B v xs) : some c ≠ v.ownBlock := Go.Proofs.YtdfhponhjjkdmaaW.PrintWords.own_ne ho h (by decide)
theorem Cb.step {mo : Option Nat} {adm : ByteArray} {n : Nat} {f : ByteArray → Option ByteArray} {x y : Int} (h : Cb w c ad key nm) (hG : Gs w g mo adm n f x y) (k : Tr w w1 g mo) : Cb w1 c ad key nm := by
  have hne : c ≠ g := by
    rintro rfl
    rcases hG with ⟨_, _, h2⟩ | ⟨_, _, _, h2, _⟩
    · unfold Cb at h; unfold Gb at h2; rw [h] at h2; injection h2 with h2; injection h2 with _ h3; exact absurd h3 (by decide)
    · unfold Cb at h; unfold Gb at h2; rw [h] at h2; injection h2 with h2; injection h2 with _ h3; exact absurd h3 (by decide)
  have hm : some c ≠ mo := by
    rintro rfl
    rcases hG with ⟨e, _⟩ | ⟨b, e, _, _, ⟨D, ⟨es, clock, h2, _⟩, _⟩⟩
    · cases e
    · injection e with e; subst e; unfold Cb at h; rw [h] at h2; injection h2 with h2; cases h2
  exact (k.block c (blk_lt h) hne hm).trans h
end
end Go.Proofs.Ytdfhponhjjkdmaa
