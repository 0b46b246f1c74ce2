/- sync.Once of a Gate; no condition. -/
import Derived.Test.YtdfhponhjjkdmaaGt
set_option linter.unusedVariables false
set_option linter.unusedSimpArgs false
namespace Go.Proofs.Ytdfhponhjjkdmaa
open Go.RowKit Go.Proofs.YtdfhponhjjkdmaaW.PrintWords

def noneS : ByteArray → Option ByteArray := fun _ => none
set_option maxHeartbeats 1000000 in
theorem gmake_any (g : Nat) (adm : ByteArray) (d m x y : Int) (mp : Value) (w : World) (h : Gb w g adm d m mp x y) :
    Calls Try.prog 23 #[.pointer (some ⟨g, 0, none⟩)] w fun e w' => e = .returned (.tuple #[]) ∧ Gb w' g adm d m (.map (some w.heap.size)) x y ∧ Mp w' w.heap.size 0 noneS ∧ w.grownBy w' (some g) := by
  have hlt := h.lt
  have hsz : (w.setCell ⟨g, 4, none⟩ (.map (some w.heap.size))).heap.size = w.heap.size := by simp [World.setCell]
  have HB : Hid (Gb ((w.setCell ⟨g, 4, none⟩ (.map (some w.heap.size))).alloc (.map #[] 0)) g adm d m (.map (some w.heap.size)) x y) := blk_alloc (h.s4 _) _
  have HM : Hid (Mp ((w.setCell ⟨g, 4, none⟩ (.map (some w.heap.size))).alloc (.map #[] 0)) w.heap.size 0 noneS) := by
    have h := Mp.made (w.setCell ⟨g, 4, none⟩ (.map (some w.heap.size)))
    rw [hsz] at h
    exact h
  have HG : Hid (w.grownBy ((w.setCell ⟨g, 4, none⟩ (.map (some w.heap.size))).alloc (.map #[] 0)) (some g)) := World.grownBy.trans (only_set (only_refl _ _) _ _) (World.grownBy_alloc _ _ _)
  have h1 : Gb (w.alloc (.map #[] 0)) g adm d m mp x y := blk_alloc h _
  have k4 := h1.c4
  have f4 := h1.fz 4
  clear h h1 hsz
  have hmm := @run_makeMap Try.prog
  go_enter Try.func23, Try.ntmps23
  go_wp2
  go_end0
  exact ⟨rfl, HB.out, HM.out, HG.out⟩

set_option maxRecDepth 100000 in
set_option maxHeartbeats 1600000 in
theorem gslow (g : Nat) (adm : ByteArray) (x y : Int) (mp : Value) (w : World) (h : Gb w g adm 0 0 mp x y) :
    Calls Try.prog 28 #[.pointer (some ⟨g, 1, none⟩), .func (.func 23) #[.pointer (some ⟨g, 0, none⟩)] #[]] w fun e w' => e = .returned (.tuple #[]) ∧ ∃ b, w.heap.size ≤ b ∧ Gb w' g adm 1 0 (.map (some b)) x y ∧ Mp w' b 0 noneS ∧ w.grownBy w' (some g) := by
  have hnot : ∀ (x : Bool) (w : World), (Op.unary .not (.bool x)).run Try.prog w = .ok (.bool (!x)) w := fun _ _ => rfl
  have hlt := h.lt
  have h1 := h.c1
  have h2 := h.c2
  have f2 := h.fz 2
  have H1 : Hid (Gb (w.setCell ⟨g, 2, none⟩ (.int .i32 1)) g adm 0 1 mp x y) := h.s2 1
  have HG : Hid (w.grownBy (w.setCell ⟨g, 2, none⟩ (.int .i32 1)) (some g)) := only_set (only_refl _ _) _ _
  go_enter_defers Try.func28, Try.ntmps28
  go_wp2_with (first
    | (go_at_call 32; refine (lock_free ⟨g, 2, none⟩ _ h2 f2).mono ?_; rintro e w1 ⟨rfl, rfl⟩)
    | (go_at_call 27; refine (load_done _ 0 false _ H1.out.c1 rfl).mono ?_; rintro e w2 ⟨rfl, rfl⟩)
    | (go_at_call 23; refine (gmake_any g adm 0 1 x y mp _ H1.out).mono ?_; rintro e w3 ⟨rfl, h3, hm3, hg3⟩))
  refine leaves_cons (f := 34) (args := #[.pointer (some ⟨g, 1, none⟩), .bool true]) (by simp) (by simp [go_sem]) ?_
  refine (store_deferred ⟨g, 1, none⟩ (.int .u32 0) .returning _ h3.c1 (h3.fz 1)).mono ?_
  rintro e u' w'' ⟨rfl, rfl, rfl⟩
  have h4 : Gb (w3.drew.setCell ⟨g, 1, none⟩ (.int .u32 1)) g adm 1 1 _ x y := Gb.s1 (w := w3.drew) h3 1
  refine leaves_cons (f := 33) (args := #[.pointer (some ⟨g, 2, none⟩)]) (by simp [settle]) (by simp [go_sem]) ?_
  refine (unlock_deferred ⟨g, 2, none⟩ _ _ h4.c2 (h4.fz 2)).mono ?_
  rintro e u' w'' ⟨rfl, rfl, rfl⟩
  have h5 := h4.s2 0
  have hg0 : w3.grownBy ((w3.drew.setCell ⟨g, 1, none⟩ (.int .u32 1)).setCell ⟨g, 2, none⟩ (.int .i32 0)) (some g) := only_set (only_set (only_drew (only_refl _ _)) _ _) _ _
  have hg : w.grownBy ((w3.drew.setCell ⟨g, 1, none⟩ (.int .u32 1)).setCell ⟨g, 2, none⟩ (.int .i32 0)) (some g) := only_trans (only_trans HG.out hg3) hg0
  have hm5 := hm3.kept hg0 (by intro e; injection e with e; have := HG.out.size; omega)
  simp [Leaves, settle, results, Try.results28]
  exact ⟨_, HG.out.size, h5, hm5, hg⟩

/-- A Gate, fresh or with its map: it has at most n names, as f has them; the map's block lies at B or above. -/
def Gt (w : World) (g B : Nat) (adm : ByteArray) (n : Nat) (f : ByteArray → Option ByteArray) (x y : Int) : Prop :=
  (f = noneS ∧ Gb w g adm 0 0 (.map none) x y) ∨ ∃ b, B ≤ b ∧ b ≠ g ∧ Gb w g adm 1 0 (.map (some b)) x y ∧ Mp w b n f
/-- What has turned: this Gate's block, its map, and new ones. -/
def Turned (w w' : World) (g B : Nat) : Prop := w'.os = w.os ∧ w'.tape = w.tape ∧ w'.output = w.output ∧ w.heap.size ≤ w'.heap.size ∧ ∀ i, i < w.heap.size → i ≠ g → (∀ b, i = b → B ≤ b → False) → w'.heap[i]? = w.heap[i]?
set_option maxRecDepth 100000 in
set_option maxHeartbeats 1600000 in
theorem gdo_first (g : Nat) (adm : ByteArray) (x y : Int) (mp : Value) (w : World) (h : Gb w g adm 0 0 mp x y) :
    Calls Try.prog 21 #[.pointer (some ⟨g, 1, none⟩), .func (.func 23) #[.pointer (some ⟨g, 0, none⟩)] #[]] w fun e w' => e = .returned (.tuple #[]) ∧ ∃ b, w.heap.size ≤ b ∧ Gb w' g adm 1 0 (.map (some b)) x y ∧ Mp w' b 0 noneS ∧ w.grownBy w' (some g) := by
  have hnot : ∀ (x : Bool) (w : World), (Op.unary .not (.bool x)).run Try.prog w = .ok (.bool (!x)) w := fun _ _ => rfl
  have h1 := h.c1
  go_enter Try.func21, Try.ntmps21
  go_wp2_with (first
    | (go_at_call 27; refine (load_done _ 0 false _ h1 rfl).mono ?_; rintro e w2 ⟨rfl, rfl⟩)
    | (go_at_call 28; refine (gslow g adm x y mp _ h).mono ?_; rintro e w3 ⟨rfl, h3⟩))
  go_end0
  exact ⟨rfl, h3⟩
theorem gdo_done (g : Nat) (adm : ByteArray) (x y : Int) (mp fv : Value) (w : World) (h : Gb w g adm 1 0 mp x y) :
    Calls Try.prog 21 #[.pointer (some ⟨g, 1, none⟩), fv] w fun e w' => e = .returned (.tuple #[]) ∧ w' = w := by
  have hnot : ∀ (x : Bool) (w : World), (Op.unary .not (.bool x)).run Try.prog w = .ok (.bool (!x)) w := fun _ _ => rfl
  have h1 := h.c1
  go_enter Try.func21, Try.ntmps21
  go_wp2_with (first
    | (go_at_call 27; refine (load_done _ 1 true _ h1 rfl).mono ?_; rintro e w2 ⟨rfl, rfl⟩))
  go_end0
  exact ⟨rfl, rfl⟩
end Go.Proofs.Ytdfhponhjjkdmaa
