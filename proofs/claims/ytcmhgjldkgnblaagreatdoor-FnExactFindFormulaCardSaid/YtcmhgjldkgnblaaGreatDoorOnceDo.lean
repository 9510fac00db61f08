/- sync.Once's Do over a Replacer whose lists are not yet built: buildOnce is called once. -/
import Derived.Test.YtcmhgjldkgnblaaGreatDoorOnce
namespace Go.Proofs.YtcmhgjldkgnblaaGreatDoor
open Go.RowKit

def five (a b c d e : Value) : Nat → Value
  | 0 => a
  | 1 => b
  | 2 => c
  | 3 => d
  | _ => e
/-- a Replacer at block g: the Once's word, the lock's two words, what replaces, the list of pairs -/
abbrev Rp (w : World) (g : Nat) (a b c d e : Value) : Prop := w.rowIs g 82 5 (five a b c d e)
theorem Rp.set0 {w : World} {g : Nat} {a b c d e : Value} (h : Rp w g a b c d e) (v : Value) : Rp (w.setCell ⟨g, 0, none⟩ v) g v b c d e :=
  (World.rowIs.set h 0 v).congr (fun i hi => by match i, hi with | 0, _ => rfl | 1, _ => rfl | 2, _ => rfl | 3, _ => rfl | 4, _ => rfl)
theorem Rp.set1 {w : World} {g : Nat} {a b c d e : Value} (h : Rp w g a b c d e) (v : Value) : Rp (w.setCell ⟨g, 1, none⟩ v) g a v c d e :=
  (World.rowIs.set h 1 v).congr (fun i hi => by match i, hi with | 0, _ => rfl | 1, _ => rfl | 2, _ => rfl | 3, _ => rfl | 4, _ => rfl)
theorem Rp.set3 {w : World} {g : Nat} {a b c d e : Value} (h : Rp w g a b c d e) (v : Value) : Rp (w.setCell ⟨g, 3, none⟩ v) g a b c v e :=
  (World.rowIs.set h 3 v).congr (fun i hi => by match i, hi with | 0, _ => rfl | 1, _ => rfl | 2, _ => rfl | 3, _ => rfl | 4, _ => rfl)
theorem Rp.set4 {w : World} {g : Nat} {a b c d e : Value} (h : Rp w g a b c d e) (v : Value) : Rp (w.setCell ⟨g, 4, none⟩ v) g a b c d v :=
  (World.rowIs.set h 4 v).congr (fun i hi => by match i, hi with | 0, _ => rfl | 1, _ => rfl | 2, _ => rfl | 3, _ => rfl | 4, _ => rfl)
theorem Rp.c0 {w : World} {g : Nat} {a b c d e : Value} (h : Rp w g a b c d e) : w.cell? ⟨g, 0, none⟩ = some a := World.rowIs.cell h (by decide)
theorem Rp.c1 {w : World} {g : Nat} {a b c d e : Value} (h : Rp w g a b c d e) : w.cell? ⟨g, 1, none⟩ = some b := World.rowIs.cell h (by decide)
theorem Rp.c3 {w : World} {g : Nat} {a b c d e : Value} (h : Rp w g a b c d e) : w.cell? ⟨g, 3, none⟩ = some d := World.rowIs.cell h (by decide)
theorem Rp.c4 {w : World} {g : Nat} {a b c d e : Value} (h : Rp w g a b c d e) : w.cell? ⟨g, 4, none⟩ = some e := World.rowIs.cell h (by decide)

theorem lock_free (a : Addr) (w : World) (hc : w.cell? a = some (.int .i32 0)) (hz : w.frozen? a = false) :
    Calls Tryz.prog 67 #[.pointer (some a)] w fun e w' => e = .returned (.tuple #[]) ∧ w' = w.setCell a (.int .i32 1) := by
  go_enter Tryz.func67, Tryz.ntmps67
  go_wp2_with (go_at_call 76; refine (lockIn_free a _ hc hz).mono ?_; rintro en w' ⟨rfl, rfl⟩)
  go_end0
  exact ⟨rfl, rfl⟩
theorem unlock_held (a : Addr) (u : FrameMode) (w : World) (hc : w.cell? a = some (.int .i32 1)) (hz : w.frozen? a = false) :
    CallsD Tryz.prog 68 #[.pointer (some a)] u w fun e u' w' => u' = u ∧ (e = .returned (.tuple #[]) ∧ w' = w.setCell a (.int .i32 0)) := by
  go_enter_d Tryz.func68, Tryz.ntmps68
  go_wp2_with (go_at_call 77; refine (unlockIn_held a _ hc hz).mono ?_; rintro en w' ⟨rfl, rfl⟩)
  go_end0
  exact ⟨rfl, rfl⟩
theorem load_word (a : Addr) (d : Int) (b : Bool) (hd : (d != 0) = b) (w : World) (hc : w.cell? a = some (.int .u32 d)) :
    Calls Tryz.prog 56 #[.pointer (some a)] w fun e w' => e = .returned (.bool b) ∧ w = w' := by
  have hl := run_call_load (P := Tryz.prog) Tryz.func66 (by kernel_rfl) (by kernel_rfl) (by kernel_rfl) .u32 (by kernel_rfl) (w := w) (a := a) (x := d) hc
  go_enter Tryz.func56, Tryz.ntmps56
  go_wp2
  go_ret
  exact ⟨rfl, rfl⟩

set_option maxRecDepth 100000 in
set_option maxHeartbeats 1600000 in
theorem slow_any (fb : FuncId) (hent : ∀ (args : Array Value) (w : World), (callFunc fb args).run Tryz.prog w = .ok (.enter fb args) w) (g : Nat) (c d e : Value) (R : World → Value → Prop) (w : World) (hr : Rp w g (.int .u32 0) (.int .i32 0) c d e)
    (hB : Calls Tryz.prog fb #[.pointer (some ⟨g, 0, none⟩)] (w.setCell ⟨g, 1, none⟩ (.int .i32 1)) fun en w2 => en = .returned (.tuple #[]) ∧ ∃ d' e', Rp w2 g (.int .u32 0) (.int .i32 1) c d' e' ∧ R w2 d') :
    Calls Tryz.prog 57 #[.pointer (some ⟨g, 0, none⟩), .func (.func fb) #[.pointer (some ⟨g, 0, none⟩)] #[]] w fun en w' => en = .returned (.tuple #[]) ∧
      ∃ w2 d' e', Rp w2 g (.int .u32 0) (.int .i32 1) c d' e' ∧ R w2 d' ∧ w' = (w2.drew.setCell ⟨g, 0, none⟩ (.int .u32 1)).setCell ⟨g, 1, none⟩ (.int .i32 0) := by
  have h0 := hr.c0
  have h1 := hr.c1
  have f1 : w.frozen? ⟨g, 1, none⟩ = false := World.rowIs.frozen hr 1
  have hnot : ∀ (x : Bool) (w : World), (Op.unary .not (.bool x)).run Tryz.prog w = .ok (.bool (!x)) w := fun _ _ => rfl
  have HB := Lib.hid hB
  clear hB
  go_enter_defers Tryz.func57, Tryz.ntmps57
  go_wp2_with (first | (go_at_call 67; refine (lock_free ⟨g, 1, none⟩ _ h1 f1).mono ?_; rintro en w' ⟨rfl, rfl⟩) | (go_at_call 56; refine (load_word ⟨g, 0, none⟩ 0 false rfl _ (hr.set1 _).c0).mono ?_; rintro en w' ⟨rfl, rfl⟩))
  refine HB.out.mono ?_
  rintro en w2 ⟨rfl, d', e', hr2, hR⟩
  go_wp2
  refine leaves_cons (f := 69) (args := #[.pointer (some ⟨g, 0, none⟩), .bool true]) (by simp) (by simp [go_sem]) ?_
  refine (store_deferred ⟨g, 0, none⟩ (.int .u32 0) .returning _ hr2.c0 (World.rowIs.frozen hr2 0)).mono ?_
  rintro en u' w'' ⟨rfl, rfl, rfl⟩
  refine leaves_cons (f := 68) (args := #[.pointer (some ⟨g, 1, none⟩)]) (by simp [settle]) (by simp [go_sem]) ?_
  have hr3 : Rp w2.drew g (.int .u32 0) (.int .i32 1) c d' e' := World.rowIs.drew hr2
  refine (unlock_held ⟨g, 1, none⟩ _ _ (hr3.set0 _).c1 (World.rowIs.frozen (hr3.set0 (.int .u32 1)) 1)).mono ?_
  rintro en u' w'' ⟨rfl, rfl, rfl⟩
  simp [Leaves, settle, results, Tryz.results57]
  exact ⟨w2, d', ⟨e', hr2⟩, hR, rfl⟩
theorem doOnce_any (fb : FuncId) (hent : ∀ (args : Array Value) (w : World), (callFunc fb args).run Tryz.prog w = .ok (.enter fb args) w) (g : Nat) (c d e : Value) (R : World → Value → Prop) (w : World) (hr : Rp w g (.int .u32 0) (.int .i32 0) c d e)
    (hB : Calls Tryz.prog fb #[.pointer (some ⟨g, 0, none⟩)] (w.setCell ⟨g, 1, none⟩ (.int .i32 1)) fun en w2 => en = .returned (.tuple #[]) ∧ ∃ d' e', Rp w2 g (.int .u32 0) (.int .i32 1) c d' e' ∧ R w2 d') :
    Calls Tryz.prog 53 #[.pointer (some ⟨g, 0, none⟩), .func (.func fb) #[.pointer (some ⟨g, 0, none⟩)] #[]] w fun en w' => en = .returned (.tuple #[]) ∧
      ∃ w2 d' e', Rp w2 g (.int .u32 0) (.int .i32 1) c d' e' ∧ R w2 d' ∧ w' = (w2.drew.setCell ⟨g, 0, none⟩ (.int .u32 1)).setCell ⟨g, 1, none⟩ (.int .i32 0) := by
  have h0 := hr.c0
  have hnot : ∀ (x : Bool) (w : World), (Op.unary .not (.bool x)).run Tryz.prog w = .ok (.bool (!x)) w := fun _ _ => rfl
  have HS := Lib.hid (slow_any fb hent g c d e R w hr hB)
  clear hB
  go_enter Tryz.func53, Tryz.ntmps53
  go_wp2_with (first | (go_at_call 57; refine HS.out.mono ?_; rintro en w' ⟨rfl, w2, d', e', hr2, hR, rfl⟩) | (go_at_call 56; refine (load_word ⟨g, 0, none⟩ 0 false rfl _ h0).mono ?_; rintro en w' ⟨rfl, rfl⟩))
  go_end0
  exact ⟨rfl, w2, d', e', hr2, hR, rfl⟩
end Go.Proofs.YtcmhgjldkgnblaaGreatDoor
