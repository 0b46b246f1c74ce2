/- The disk's calls, as they come in: slices of structs with bytes, each within the reach; no condition. -/
import Derived.Test.YtapoeegnnkfgiaaDCall
import Derived.Deep.Slices
import Derived.Deep.Fields
import Derived.ChangeSame
set_option linter.unusedVariables false
set_option linter.unusedSimpArgs false
namespace Go.Proofs.Ytapoeegnnkfgiaa
open Go.ChangeShapes Go.WideShapes Go.RowKit Go.Deep

theorem weightsAll_mem' {H : Type} {P : Program} {e : TypeId} : ∀ {l : List (DataW H)} {d : DataW H}, d ∈ l → ∀ n ∈ d.weights P e, n ∈ DataW.weightsAll P e l
  | x :: l, d, h, n, hn => by
    simp only [DataW.weightsAll, List.mem_append]
    rcases List.mem_cons.1 h with rfl | h
    · exact .inl hn
    · exact .inr (weightsAll_mem' h n hn)
/-- Each field of each element has its cell, reads by itself, and weighs as a part of the whole. -/
theorem row_structs_w {H : Type} {enc : TypeId × Value → H} {P : Program} {W : World} {t e : TypeId} {fs : Array Field} {fuel : Nat} {cs : List Value} {x : DataW H × List MemPlace} (ht : P.underlying t = some (.slice e)) (he : P.underlying e = some (.struct fs))
    (hone : oneCellFields P fs = true) (hC : P.cellsOf e = fs.size) (h : DataW.trod enc P W 0 (fun _ => true) true fuel t cs = some x) :
    (cs = [.slice none 0 0]) ∨
    ∃ (a : Addr) (len cap : Nat), cs = [.slice (some a) len cap] ∧ len ≤ cap ∧ cap ≤ maxLen ∧
      ∀ i, i < len → ∀ (j : Nat) (f : Field), fs[j]? = some f → ∃ (v : Value) (y : DataW H × List MemPlace) (n : Nat), W.cell? (a.add (i * fs.size + j)) = some v ∧ DataW.trod enc P W 0 (fun _ => true) true n f.type [v] = some y ∧ ∀ q ∈ y.1.weights P f.type, q ∈ x.1.weights P t := by
  rcases open_slice ht h with ⟨h0, _⟩ | ⟨a, len, cap, m, n, D, Pl, hcs, hb, hl, hm, hmm, hx, hi⟩
  · exact .inl h0
  · simp only [if_true] at hmm
    subst hmm
    refine .inr ⟨a, len, m, hcs, hl, hm, fun i him j f hj => ?_⟩
    obtain ⟨cs', hc, ht'⟩ := hi i (by omega)
    rw [hC] at hc
    obtain ⟨ys, n', hn', hy, hlen, hyl, hf⟩ := DataW.trod_struct he ht'
    obtain ⟨_, hcl, hat⟩ := World.cells?_some hc
    obtain ⟨ho, hk⟩ := hone_of hone j f hj
    have hjl : j < fs.size := (Array.getElem?_eq_some_iff.1 hj).1
    have hcell := hat j hjl
    have hv : cs'[j]? = some (cs'[j]'(by omega)) := List.getElem?_eq_getElem (by omega)
    have h1 := hf j f hj
    rw [ho, hk] at h1
    have hone' : (cs'.drop j).take 1 = [cs'[j]'(by omega)] := by
      rw [List.drop_eq_getElem_cons (by omega)]
      rfl
    rw [hone'] at h1
    have hys : ys[j]? = some (ys[j]'(by omega)) := List.getElem?_eq_getElem (by omega)
    refine ⟨_, _, _, ?_, h1.trans hys, fun q hq => ?_⟩
    · rw [← Go.Deep.add_add, hcell, hv]
    · have hD : D i = .agg (ys.map (·.1)) := (Prod.mk.inj hy).1
      have e1 : x.1 = .slice ((List.range len).map D) ((List.range (m - len)).map fun j => D (len + j)) := by rw [hx]
      rw [e1]
      simp only [DataW.weights, ht]
      refine List.mem_cons_of_mem _ (List.mem_append.2 (.inl (weightsAll_mem' (d := D i) (List.mem_map.2 ⟨i, List.mem_range.2 him, rfl⟩) q ?_)))
      rw [hD]
      simp only [DataW.weights, he]
      refine DataW.weights_mem_each (j := j) (t := f.type) (d := (ys[j]'(by omega)).1) ?_ ?_ q hq
      · rw [List.getElem?_map, Array.getElem?_toList, hj]; rfl
      · rw [List.getElem?_map, hys]; rfl
/-- A field that is a whole number. -/
theorem trod_num' {H : Type} {enc : TypeId × Value → H} {P : Program} {W : World} {t : TypeId} {k : IntKind} {n : Nat} {v : Value} {y : DataW H × List MemPlace} (ht : P.underlying t = some (.int k)) (h : DataW.trod enc P W 0 (fun _ => true) true n t [v] = some y) :
    ∃ z : Int, v = .int k z ∧ (Lit.int k z).wf = true := by
  obtain ⟨z, h1, h2, h3⟩ := DataW.trod_int ht h
  exact ⟨z, by simpa using h1, h3⟩
/-- A field that is a slice of whole numbers of one byte. -/
theorem field_ints {H : Type} {enc : TypeId × Value → H} {P : Program} {W : World} {t e : TypeId} {k : IntKind} {n : Nat} {v : Value} {y : DataW H × List MemPlace} (hu : P.underlying t = some (.slice e)) (he : P.underlying e = some (.int k)) (hc : P.cellsOf e = 1) (hB : P.bytesOf e = 1)
    (hw : ∀ q ∈ y.1.weights P t, q ≤ reachBytes) (h : DataW.trod enc P W 0 (fun _ => true) true n t [v] = some y) :
    ∃ (a : Option Addr) (len cap : Nat) (zs : List Int), v = .slice a len cap ∧ IntsAt k W W.heap.size a len zs ∧ len ≤ 140737488351232 := by
  rcases open_ints hu he hc h with ⟨hcs, _⟩ | ⟨x, len, cap, zs, hcs, _, hl, hm, hz, hx, hcell, hwf⟩
  · exact ⟨none, 0, 0, [], by simpa using hcs, ⟨rfl, by omega, fun j hj => by omega⟩, by omega⟩
  · have hz' : zs.length = cap := by simpa using hz
    refine ⟨some x, len, cap, zs.take len, by simpa using hcs, ⟨by simp; omega, by unfold maxLen at hm; omega, fun j hj => ?_⟩, ?_⟩
    · have hg : (zs.take len).getD j 0 = zs.getD j 0 := by simp [List.getD_eq_getElem?_getD, List.getElem?_take, hj]
      have hcj := hcell j (by omega)
      refine ⟨x, rfl, ?_, by rw [hg]; exact hcj, ?_⟩
      · have := World.block_lt_of_cell? W _ hcj
        rwa [add_block] at this
      · rw [hg]
        apply hwf
        rw [List.getD_eq_getElem?_getD, List.getElem?_eq_getElem (by omega)]
        exact List.getElem_mem _
    · have e1 : y.1 = .slice (lits k (zs.take len)) (lits k (zs.drop len)) := by rw [hx]
      rw [e1] at hw
      have h2 := hw (((lits (H := H) k (zs.take len)).length + (lits (H := H) k (zs.drop len)).length) * P.bytesOf e) (by simp [DataW.weights, hu])
      rw [hB] at h2
      have h1 : (lits (H := H) k (zs.take len)).length + (lits (H := H) k (zs.drop len)).length = zs.length := by
        simp [lits]
        omega
      rw [h1] at h2
      have h3 : reachBytes = 140737488351232 := by decide
      omega
theorem call_fields : ∃ (fs : Array Field) (f0 f1 f2 : Field), Try.prog.underlying 51 = some (.struct fs) ∧ fs.size = 3 ∧ oneCellFields Try.prog fs = true ∧ fs[0]? = some f0 ∧ fs[1]? = some f1 ∧ fs[2]? = some f2 ∧ f0.type = 3 ∧ f1.type = 3 ∧ f2.type = 31 :=
  ⟨_, _, _, _, Try.underlying51, by kernel_rfl, by kernel_rfl, rfl, rfl, rfl, rfl, rfl, rfl⟩
theorem off_add {x : Addr} {w : World} {v : Value} (i : Nat) (h : w.cell? x = some v) : x.add i = ⟨x.block, x.off + i, none⟩ := by
  obtain ⟨_, _, _, _, hs⟩ := World.shape?_of_cell? h
  unfold Addr.add
  split
  · rename_i h0
    subst h0
    obtain ⟨b, o, s⟩ := x
    have hs' : s = none := hs
    rw [hs']
    rfl
  · rfl
theorem row_calls {H : Type} {enc : TypeId × Value → H} {W : World} {base : Nat} {ts : List TypeId} {ds : List (DataW H)} {j : Nat} {v : Value} {d : DataW H} {ps : List MemPlace}
    (hsz : (DataW.weightsEach Try.prog ts ds).all (· ≤ reachBytes) = true) (ht : ts[j]? = some 48) (hd : ds[j]? = some d) (hv : Value.okWide Try.prog W .any base 48 v) (h : DataW.Trod enc Try.prog W 0 (fun _ => true) true 48 v d ps) :
    ∃ (a : Option Addr) (len cap : Nat), v = .slice a len cap ∧ Cls W a len ∧ len ≤ 9223372036854775807 := by
  obtain ⟨a, len, cap, rfl⟩ := okSlice Try.underlying48 hv
  obtain ⟨fuel, hf⟩ := h
  obtain ⟨fs, f0, f1, f2, hu, hs, hone, e0, e1, e2, t0, t1, t2⟩ := call_fields
  rcases row_structs_w Try.underlying48 hu hone (by rw [hs]; kernel_rfl) hf with hcs | ⟨x, l, c, hcs, hl, hm, hcell⟩
  · simp [Value.cells] at hcs
    obtain ⟨rfl, rfl, rfl⟩ := hcs
    exact ⟨none, 0, 0, rfl, fun i hi => by omega, by omega⟩
  · simp [Value.cells] at hcs
    obtain ⟨rfl, rfl, rfl⟩ := hcs
    rw [hs] at hcell
    refine ⟨some x, len, cap, rfl, fun k hk => ?_, by unfold maxLen at hm; omega⟩
    obtain ⟨v0, y0, n0, hc0, ht0, _⟩ := hcell k (by omega) 0 f0 e0
    obtain ⟨v1, y1, n1, hc1, ht1, _⟩ := hcell k (by omega) 1 f1 e1
    obtain ⟨v2, y2, n2, hc2, ht2, hw2⟩ := hcell k (by omega) 2 f2 e2
    rw [t0] at ht0
    rw [t1] at ht1
    rw [t2] at ht2 hw2
    obtain ⟨kind, rfl, _⟩ := trod_num' Try.underlying3 ht0
    obtain ⟨N, rfl, hN⟩ := trod_num' Try.underlying3 ht1
    obtain ⟨A, bl, bc, zs, rfl, hz, hbl⟩ := field_ints Try.underlying31 Try.underlying5 (by kernel_rfl) (by kernel_rfl) (fun q hq => by
      have h1 := List.all_eq_true.1 hsz _ (DataW.weights_mem_each ht hd q (hw2 q hq))
      simpa using h1) ht2
    obtain ⟨bs, hbs⟩ := bts_of_ints hz
    have hx : x.block < W.heap.size := by
      have := World.block_lt_of_cell? W _ hc0
      rwa [add_block] at this
    have hN' : N ≤ 9223372036854775807 := by
      have hmax : IntKind.i64.max = 9223372036854775807 := rfl
      simp only [Lit.wf, Bool.and_eq_true, decide_eq_true_eq] at hN
      omega
    rw [Nat.add_zero] at hc0
    refine ⟨x, rfl, hx, kind, N, A, bl, bc, bs, hN', hbl, hbs, hc0, ?_, ?_⟩
    · rw [← off_add 1 hc0, Go.Deep.add_add]; exact hc1
    · rw [← off_add 2 hc0, Go.Deep.add_add]; exact hc2
end Go.Proofs.Ytapoeegnnkfgiaa
