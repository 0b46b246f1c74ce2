/- sync.Once of a Sum; no condition. (After the worked Lazy texts.) -/
import Derived.Test.YtdfhponhjjkdmaaSm
import Derived.Tactics2
import Derived.Defers
import Derived.Laws.Pointers
import Derived.RegionTactic
import Derived.RegionCalls
set_option linter.unusedVariables false
set_option linter.unusedSimpArgs false
namespace Go.Proofs.Ytdfhponhjjkdmaa
open Go.RowKit Crc Go.Proofs.YtdfhponhjjkdmaaW.PrintWords

theorem disable (w : World) : (callFunc 39 #[]).run Try.prog w = .ok (.value (.tuple #[])) w := run_call_mark0 Try.func39 (by kernel_rfl) (by kernel_rfl) (by kernel_rfl) .disable (by kernel_rfl) w
theorem enable (w : World) : (callFunc 41 #[]).run Try.prog w = .ok (.value (.tuple #[])) w := run_call_mark0 Try.func41 (by kernel_rfl) (by kernel_rfl) (by kernel_rfl) .enable (by kernel_rfl) w
theorem acquire (a : Addr) (w : World) : (callFunc 42 #[.pointer (some a)]).run Try.prog w = .ok (.value (.tuple #[])) w := run_call_marked Try.func42 (by kernel_rfl) (by kernel_rfl) (by kernel_rfl) .acquire (by kernel_rfl) a w
theorem releaseMerge (a : Addr) (w : World) : (callFunc 44 #[.pointer (some a)]).run Try.prog w = .ok (.value (.tuple #[])) w := run_call_marked Try.func44 (by kernel_rfl) (by kernel_rfl) (by kernel_rfl) .releaseMerge (by kernel_rfl) a w

theorem store_deferred (a : Addr) (x : Value) (u : FrameMode) (w : World) (hc : w.cell? a = some x) (hz : w.frozen? a = false) :
    CallsD Try.prog 34 #[.pointer (some a), .bool true] u w fun e u' w' => u' = u ∧ (e = .returned (.tuple #[]) ∧ w' = w.drew.setCell a (.int .u32 1)) := by
  have hc' : w.drew.cell? a = some x := by go_simp
  have hz' : w.drew.frozen? a = false := by go_simp
  have hst := run_call_store (P := Try.prog) Try.func37 (by kernel_rfl) (by kernel_rfl) (by kernel_rfl) (by kernel_rfl) (k := .u32) (y := 1) hc' hz'
  go_enter_d Try.func34, Try.ntmps34
  go_wp2
  go_region_calls
  all_goals (go_end0; exact ⟨rfl, rfl⟩)

theorem unlock_deferred (a : Addr) (u : FrameMode) (w : World) (hc : w.cell? a = some (.int .i32 1)) (hz : w.frozen? a = false) :
    CallsD Try.prog 33 #[.pointer (some a)] u w fun e u' w' => u' = u ∧ (e = .returned (.tuple #[]) ∧ w' = w.setCell a (.int .i32 0)) := by
  have hd := disable
  have he := enable
  have hr := releaseMerge
  have hadd := run_call_add (P := Try.prog) Try.func45 (by kernel_rfl) (by kernel_rfl) (by kernel_rfl) .i32 (by kernel_rfl) (y := -1) (s := 0) hc hz (by simp [go_sem]; rfl)
  have hcv := run_convert_to_unsafe (P := Try.prog) (src := 85) (dst := 89) Try.underlying85 Try.underlying89 (by kernel_rfl) hc
  go_enter_d Try.func33, Try.ntmps33
  go_wp2
  go_end0
  go_wp2
  go_end0
  exact ⟨rfl, rfl⟩

theorem lock_free (a : Addr) (w : World) (hc : w.cell? a = some (.int .i32 0)) (hz : w.frozen? a = false) :
    Calls Try.prog 32 #[.pointer (some a)] w fun e w' => e = .returned (.tuple #[]) ∧ w' = w.setCell a (.int .i32 1) := by
  have hd := disable
  have he := enable
  have ha := acquire
  have hcas := run_call_cas_hit (P := Try.prog) Try.func40 (by kernel_rfl) (by kernel_rfl) (by kernel_rfl) .i32 (by kernel_rfl) (y := 1) hc hz
  have hc' : (w.setCell a (.int .i32 1)).cell? a = some (.int .i32 1) := World.cell?_setCell_same w a _ hc
  have hcv := run_convert_to_unsafe (P := Try.prog) (src := 85) (dst := 89) Try.underlying85 Try.underlying89 (by kernel_rfl) hc'
  go_enter Try.func32, Try.ntmps32
  go_wp2
  first | go_end0 | (simp only [Exit.inBlock, Exit.then]; refine bodyPost_ret (results_none rfl _ _ _) rfl ?_) | refine bodyPost_ret (results_none rfl _ _ _) rfl ?_
  go_wp2
  go_end0
  exact ⟨rfl, rfl⟩

theorem load_done (a : Addr) (x : Int) (b : Bool) (w : World) (hc : w.cell? a = some (.int .u32 x)) (hb : (x != 0) = b) :
    Calls Try.prog 27 #[.pointer (some a)] w fun e w' => e = .returned (.bool b) ∧ w' = w := by
  have hl := run_call_load (P := Try.prog) Try.func31 (by kernel_rfl) (by kernel_rfl) (by kernel_rfl) .u32 (by kernel_rfl) hc
  go_enter Try.func27, Try.ntmps27
  go_wp2
  go_ret
  exact ⟨rfl, rfl⟩

set_option maxRecDepth 100000 in
set_option maxHeartbeats 1600000 in
theorem slow_sum (g : Nat) (c : Int) (tf : Nat → Int) (w : World) (h : Sm w g 0 0 tf c) :
    Calls Try.prog 28 #[.pointer (some ⟨g, 0, none⟩), .func (.func 22) #[.pointer (some ⟨g, 0, none⟩)] #[]] w fun e w' => e = .returned (.tuple #[]) ∧ Sm w' g 1 0 tab c ∧ w.grownBy w' (some g) := by
  have hnot : ∀ (x : Bool) (w : World), (Op.unary .not (.bool x)).run Try.prog w = .ok (.bool (!x)) w := fun _ _ => rfl
  have h0 := h.c0
  have h1 := h.c1
  have f1 := h.fz 1
  have H1 : Hid (Sm (w.setCell ⟨g, 1, none⟩ (.int .i32 1)) g 0 1 tf c) := h.s1 1
  have HG : Hid (w.grownBy (w.setCell ⟨g, 1, none⟩ (.int .i32 1)) (some g)) := only_set (only_refl _ _) _ _
  go_enter_defers Try.func28, Try.ntmps28
  go_wp2_with (first
    | (go_at_call 32; refine (lock_free ⟨g, 1, none⟩ _ h1 f1).mono ?_; rintro e w1 ⟨rfl, rfl⟩)
    | (go_at_call 27; refine (load_done _ 0 false _ H1.out.c0 rfl).mono ?_; rintro e w2 ⟨rfl, rfl⟩)
    | (go_at_call 22; refine (make_any g 0 1 c tf _ H1.out).mono ?_; rintro e w3 ⟨rfl, h3, hg3⟩))
  refine leaves_cons (f := 34) (args := #[.pointer (some ⟨g, 0, none⟩), .bool true]) (by simp) (by simp [go_sem]) ?_
  refine (store_deferred ⟨g, 0, none⟩ (.int .u32 0) .returning _ h3.c0 (h3.fz 0)).mono ?_
  rintro e u' w'' ⟨rfl, rfl, rfl⟩
  have h4 : Sm (w3.drew.setCell ⟨g, 0, none⟩ (.int .u32 1)) g 1 1 tab c := Sm.s0 (w := w3.drew) h3 1
  refine leaves_cons (f := 33) (args := #[.pointer (some ⟨g, 1, none⟩)]) (by simp [settle]) (by simp [go_sem]) ?_
  refine (unlock_deferred ⟨g, 1, none⟩ _ _ h4.c1 (h4.fz 1)).mono ?_
  rintro e u' w'' ⟨rfl, rfl, rfl⟩
  have h5 := h4.s1 0
  have hg : w.grownBy ((w3.drew.setCell ⟨g, 0, none⟩ (.int .u32 1)).setCell ⟨g, 1, none⟩ (.int .i32 0)) (some g) := only_set (only_set (only_drew (only_trans HG.out hg3)) _ _) _ _
  simp [Leaves, settle, results, Try.results28]
  exact ⟨h5, hg⟩

set_option maxRecDepth 100000 in
set_option maxHeartbeats 1600000 in
/-- Do, done or not. -/
theorem do_first (g : Nat) (c : Int) (tf : Nat → Int) (w : World) (h : Sm w g 0 0 tf c) :
    Calls Try.prog 21 #[.pointer (some ⟨g, 0, none⟩), .func (.func 22) #[.pointer (some ⟨g, 0, none⟩)] #[]] w fun e w' => e = .returned (.tuple #[]) ∧ Sm w' g 1 0 tab c ∧ w.grownBy w' (some g) := by
  have hnot : ∀ (x : Bool) (w : World), (Op.unary .not (.bool x)).run Try.prog w = .ok (.bool (!x)) w := fun _ _ => rfl
  have h0 := h.c0
  go_enter Try.func21, Try.ntmps21
  go_wp2_with (first
    | (go_at_call 27; refine (load_done _ 0 false _ h0 rfl).mono ?_; rintro e w2 ⟨rfl, rfl⟩)
    | (go_at_call 28; refine (slow_sum g c tf _ h).mono ?_; rintro e w3 ⟨rfl, h3, hg3⟩))
  go_end0
  exact ⟨rfl, h3, hg3⟩
theorem do_done (g : Nat) (c : Int) (tf : Nat → Int) (fv : Value) (w : World) (h : Sm w g 1 0 tf c) :
    Calls Try.prog 21 #[.pointer (some ⟨g, 0, none⟩), fv] w fun e w' => e = .returned (.tuple #[]) ∧ w' = w := by
  have hnot : ∀ (x : Bool) (w : World), (Op.unary .not (.bool x)).run Try.prog w = .ok (.bool (!x)) w := fun _ _ => rfl
  have h0 := h.c0
  go_enter Try.func21, Try.ntmps21
  go_wp2_with (first
    | (go_at_call 27; refine (load_done _ 1 true _ h0 rfl).mono ?_; rintro e w2 ⟨rfl, rfl⟩))
  go_end0
  exact ⟨rfl, rfl⟩
/-- A Sum that is fresh, or has its table. -/
def Ok (w : World) (g : Nat) (c : Int) : Prop := (∃ tf, Sm w g 0 0 tf c) ∨ Sm w g 1 0 tab c
theorem do_any (g : Nat) (c : Int) (w : World) (h : Ok w g c) :
    Calls Try.prog 21 #[.pointer (some ⟨g, 0, none⟩), .func (.func 22) #[.pointer (some ⟨g, 0, none⟩)] #[]] w fun e w' => e = .returned (.tuple #[]) ∧ Sm w' g 1 0 tab c ∧ w.grownBy w' (some g) := by
  rcases h with ⟨tf, h⟩ | h
  · exact do_first g c tf w h
  · refine (do_done g c tab _ w h).mono ?_
    rintro e w' ⟨rfl, rfl⟩
    exact ⟨rfl, h, only_refl _ _⟩
end Go.Proofs.Ytdfhponhjjkdmaa
