/- sync.Once in one goroutine, its word not yet set and its lock free: the function handed in is called once, the word is set, the lock is as it was. sync.Once's Do over a Replacer whose lists are not yet built: buildOnce is called once. -/
import Derived.Test.YtehoaoeahfmfpaaGreatDoorNormL
import Derived.Defers
import Derived.Laws.Pointers
import Derived.Laws.LoneSync
import Derived.RegionTactic
import Derived.RegionCalls
import Derived.ChangeAlike
import Derived.Laws.NewBlocks
import Derived.Deep.OwnRows
namespace Go.Proofs.YtehoaoeahfmfpaaGreatDoor
open Go.RowKit

theorem raceDisable (w : World) : (callFunc 171 #[]).run Tryz.prog w = .ok (.value (.tuple #[])) w := run_call_mark0 Tryz.func171 (by kernel_rfl) (by kernel_rfl) (by kernel_rfl) .disable (by kernel_rfl) w
theorem raceEnable (w : World) : (callFunc 173 #[]).run Tryz.prog w = .ok (.value (.tuple #[])) w := run_call_mark0 Tryz.func173 (by kernel_rfl) (by kernel_rfl) (by kernel_rfl) .enable (by kernel_rfl) w
theorem raceAcquire (a : Addr) (w : World) : (callFunc 174 #[.pointer (some a)]).run Tryz.prog w = .ok (.value (.tuple #[])) w := run_call_marked Tryz.func174 (by kernel_rfl) (by kernel_rfl) (by kernel_rfl) .acquire (by kernel_rfl) a w
theorem raceReleaseMerge (a : Addr) (w : World) : (callFunc 176 #[.pointer (some a)]).run Tryz.prog w = .ok (.value (.tuple #[])) w := run_call_marked Tryz.func176 (by kernel_rfl) (by kernel_rfl) (by kernel_rfl) .releaseMerge (by kernel_rfl) a w

/-- Store(true), entered as a deferred call: the cell holds 1 -/
theorem store_deferred (a : Addr) (x : Value) (u : FrameMode) (w : World) (hc : w.cell? a = some x) (hz : w.frozen? a = false) :
    CallsD Tryz.prog 154 #[.pointer (some a), .bool true] u w fun e u' w' => u' = u ∧ (e = .returned (.tuple #[]) ∧ w' = w.drew.setCell a (.int .u32 1)) := by
  have hc' : w.drew.cell? a = some x := by go_simp
  have hz' : w.drew.frozen? a = false := by go_simp
  have hst := run_call_store (P := Tryz.prog) Tryz.func164 (by kernel_rfl) (by kernel_rfl) (by kernel_rfl) (by kernel_rfl) (k := .u32) (y := 1) hc' hz'
  go_enter_d Tryz.func154, Tryz.ntmps154
  go_wp2
  go_region_calls
  all_goals (go_end0; exact ⟨rfl, rfl⟩)

set_option maxRecDepth 100000 in
theorem unlockIn_held (a : Addr) (w : World) (hc : w.cell? a = some (.int .i32 1)) (hz : w.frozen? a = false) :
    Calls Tryz.prog 163 #[.pointer (some a)] w fun e w' => e = .returned (.tuple #[]) ∧ w' = w.setCell a (.int .i32 0) := by
  have hd := raceDisable
  have he := raceEnable
  have hr := raceReleaseMerge
  have hadd := run_call_add (P := Tryz.prog) Tryz.func177 (by kernel_rfl) (by kernel_rfl) (by kernel_rfl) .i32 (by kernel_rfl) (y := -1) (s := 0) hc hz (by simp [go_sem]; rfl)
  have hcv := run_convert_to_unsafe (P := Tryz.prog) (src := 204) (dst := 208) Tryz.underlying204 Tryz.underlying208 (by kernel_rfl) hc
  go_enter Tryz.func163, Tryz.ntmps163
  go_wp2
  go_end0
  exact ⟨rfl, rfl⟩
set_option maxRecDepth 100000 in
theorem lockIn_free (a : Addr) (w : World) (hc : w.cell? a = some (.int .i32 0)) (hz : w.frozen? a = false) :
    Calls Tryz.prog 162 #[.pointer (some a)] w fun e w' => e = .returned (.tuple #[]) ∧ w' = w.setCell a (.int .i32 1) := by
  have hd := raceDisable
  have he := raceEnable
  have ha := raceAcquire
  have hcas := run_call_cas_hit (P := Tryz.prog) Tryz.func172 (by kernel_rfl) (by kernel_rfl) (by kernel_rfl) .i32 (by kernel_rfl) (y := 1) hc hz
  have hc' : (w.setCell a (.int .i32 1)).cell? a = some (.int .i32 1) := World.cell?_setCell_same w a _ hc
  have hcv := run_convert_to_unsafe (P := Tryz.prog) (src := 204) (dst := 208) Tryz.underlying204 Tryz.underlying208 (by kernel_rfl) hc'
  go_enter Tryz.func162, Tryz.ntmps162
  go_wp2
  first | go_end0 | (simp only [Exit.inBlock, Exit.then]; refine bodyPost_ret (results_none rfl _ _ _) rfl ?_) | refine bodyPost_ret (results_none rfl _ _ _) rfl ?_
  exact ⟨rfl, rfl⟩
end Go.Proofs.YtehoaoeahfmfpaaGreatDoor

namespace Go.Proofs.YtehoaoeahfmfpaaGreatDoor
open Go.RowKit

def five (a b c d e : Value) : Nat → Value
  | 0 => a
  | 1 => b
  | 2 => c
  | 3 => d
  | _ => e
/-- a Replacer at block g: the Once's word, the lock's two words, what replaces, the list of pairs -/
abbrev Rp (w : World) (g : Nat) (a b c d e : Value) : Prop := w.rowIs g 137 5 (five a b c d e)
theorem Rp.set0 {w : World} {g : Nat} {a b c d e : Value} (h : Rp w g a b c d e) (v : Value) : Rp (w.setCell ⟨g, 0, none⟩ v) g v b c d e :=
  (World.rowIs.set h 0 v).congr (fun i hi => by match i, hi with | 0, _ => rfl | 1, _ => rfl | 2, _ => rfl | 3, _ => rfl | 4, _ => rfl)
theorem Rp.set1 {w : World} {g : Nat} {a b c d e : Value} (h : Rp w g a b c d e) (v : Value) : Rp (w.setCell ⟨g, 1, none⟩ v) g a v c d e :=
  (World.rowIs.set h 1 v).congr (fun i hi => by match i, hi with | 0, _ => rfl | 1, _ => rfl | 2, _ => rfl | 3, _ => rfl | 4, _ => rfl)
theorem Rp.set3 {w : World} {g : Nat} {a b c d e : Value} (h : Rp w g a b c d e) (v : Value) : Rp (w.setCell ⟨g, 3, none⟩ v) g a b c v e :=
  (World.rowIs.set h 3 v).congr (fun i hi => by match i, hi with | 0, _ => rfl | 1, _ => rfl | 2, _ => rfl | 3, _ => rfl | 4, _ => rfl)
theorem Rp.set4 {w : World} {g : Nat} {a b c d e : Value} (h : Rp w g a b c d e) (v : Value) : Rp (w.setCell ⟨g, 4, none⟩ v) g a b c d v :=
  (World.rowIs.set h 4 v).congr (fun i hi => by match i, hi with | 0, _ => rfl | 1, _ => rfl | 2, _ => rfl | 3, _ => rfl | 4, _ => rfl)
theorem Rp.c0 {w : World} {g : Nat} {a b c d e : Value} (h : Rp w g a b c d e) : w.cell? ⟨g, 0, none⟩ = some a := World.rowIs.cell h (by decide)
theorem Rp.c1 {w : World} {g : Nat} {a b c d e : Value} (h : Rp w g a b c d e) : w.cell? ⟨g, 1, none⟩ = some b := World.rowIs.cell h (by decide)
theorem Rp.c3 {w : World} {g : Nat} {a b c d e : Value} (h : Rp w g a b c d e) : w.cell? ⟨g, 3, none⟩ = some d := World.rowIs.cell h (by decide)
theorem Rp.c4 {w : World} {g : Nat} {a b c d e : Value} (h : Rp w g a b c d e) : w.cell? ⟨g, 4, none⟩ = some e := World.rowIs.cell h (by decide)

theorem lock_free (a : Addr) (w : World) (hc : w.cell? a = some (.int .i32 0)) (hz : w.frozen? a = false) :
    Calls Tryz.prog 152 #[.pointer (some a)] w fun e w' => e = .returned (.tuple #[]) ∧ w' = w.setCell a (.int .i32 1) := by
  go_enter Tryz.func152, Tryz.ntmps152
  go_wp2_with (go_at_call 162; refine (lockIn_free a _ hc hz).mono ?_; rintro en w' ⟨rfl, rfl⟩)
  go_end0
  exact ⟨rfl, rfl⟩
theorem unlock_held (a : Addr) (u : FrameMode) (w : World) (hc : w.cell? a = some (.int .i32 1)) (hz : w.frozen? a = false) :
    CallsD Tryz.prog 153 #[.pointer (some a)] u w fun e u' w' => u' = u ∧ (e = .returned (.tuple #[]) ∧ w' = w.setCell a (.int .i32 0)) := by
  go_enter_d Tryz.func153, Tryz.ntmps153
  go_wp2_with (go_at_call 163; refine (unlockIn_held a _ hc hz).mono ?_; rintro en w' ⟨rfl, rfl⟩)
  go_end0
  exact ⟨rfl, rfl⟩
theorem load_word (a : Addr) (d : Int) (b : Bool) (hd : (d != 0) = b) (w : World) (hc : w.cell? a = some (.int .u32 d)) :
    Calls Tryz.prog 136 #[.pointer (some a)] w fun e w' => e = .returned (.bool b) ∧ w = w' := by
  have hl := run_call_load (P := Tryz.prog) Tryz.func151 (by kernel_rfl) (by kernel_rfl) (by kernel_rfl) .u32 (by kernel_rfl) (w := w) (a := a) (x := d) hc
  go_enter Tryz.func136, Tryz.ntmps136
  go_wp2
  go_ret
  exact ⟨rfl, rfl⟩

set_option maxRecDepth 100000 in
set_option maxHeartbeats 1600000 in
theorem slow_any (fb : FuncId) (hent : ∀ (args : Array Value) (w : World), (callFunc fb args).run Tryz.prog w = .ok (.enter fb args) w) (g : Nat) (c d e : Value) (R : World → Value → Prop) (w : World) (hr : Rp w g (.int .u32 0) (.int .i32 0) c d e)
    (hB : Calls Tryz.prog fb #[.pointer (some ⟨g, 0, none⟩)] (w.setCell ⟨g, 1, none⟩ (.int .i32 1)) fun en w2 => en = .returned (.tuple #[]) ∧ ∃ d' e', Rp w2 g (.int .u32 0) (.int .i32 1) c d' e' ∧ R w2 d') :
    Calls Tryz.prog 137 #[.pointer (some ⟨g, 0, none⟩), .func (.func fb) #[.pointer (some ⟨g, 0, none⟩)] #[]] w fun en w' => en = .returned (.tuple #[]) ∧
      ∃ w2 d' e', Rp w2 g (.int .u32 0) (.int .i32 1) c d' e' ∧ R w2 d' ∧ w' = (w2.drew.setCell ⟨g, 0, none⟩ (.int .u32 1)).setCell ⟨g, 1, none⟩ (.int .i32 0) := by
  have h0 := hr.c0
  have h1 := hr.c1
  have f1 : w.frozen? ⟨g, 1, none⟩ = false := World.rowIs.frozen hr 1
  have hnot : ∀ (x : Bool) (w : World), (Op.unary .not (.bool x)).run Tryz.prog w = .ok (.bool (!x)) w := fun _ _ => rfl
  have HB := Lib.hid hB
  clear hB
  go_enter_defers Tryz.func137, Tryz.ntmps137
  go_wp2_with (first | (go_at_call 152; refine (lock_free ⟨g, 1, none⟩ _ h1 f1).mono ?_; rintro en w' ⟨rfl, rfl⟩) | (go_at_call 136; refine (load_word ⟨g, 0, none⟩ 0 false rfl _ (hr.set1 _).c0).mono ?_; rintro en w' ⟨rfl, rfl⟩))
  refine HB.out.mono ?_
  rintro en w2 ⟨rfl, d', e', hr2, hR⟩
  go_wp2
  refine leaves_cons (f := 154) (args := #[.pointer (some ⟨g, 0, none⟩), .bool true]) (by simp) (by simp [go_sem]) ?_
  refine (store_deferred ⟨g, 0, none⟩ (.int .u32 0) .returning _ hr2.c0 (World.rowIs.frozen hr2 0)).mono ?_
  rintro en u' w'' ⟨rfl, rfl, rfl⟩
  refine leaves_cons (f := 153) (args := #[.pointer (some ⟨g, 1, none⟩)]) (by simp [settle]) (by simp [go_sem]) ?_
  have hr3 : Rp w2.drew g (.int .u32 0) (.int .i32 1) c d' e' := World.rowIs.drew hr2
  refine (unlock_held ⟨g, 1, none⟩ _ _ (hr3.set0 _).c1 (World.rowIs.frozen (hr3.set0 (.int .u32 1)) 1)).mono ?_
  rintro en u' w'' ⟨rfl, rfl, rfl⟩
  simp [Leaves, settle, results, Tryz.results137]
  exact ⟨w2, d', ⟨e', hr2⟩, hR, rfl⟩
theorem doOnce_any (fb : FuncId) (hent : ∀ (args : Array Value) (w : World), (callFunc fb args).run Tryz.prog w = .ok (.enter fb args) w) (g : Nat) (c d e : Value) (R : World → Value → Prop) (w : World) (hr : Rp w g (.int .u32 0) (.int .i32 0) c d e)
    (hB : Calls Tryz.prog fb #[.pointer (some ⟨g, 0, none⟩)] (w.setCell ⟨g, 1, none⟩ (.int .i32 1)) fun en w2 => en = .returned (.tuple #[]) ∧ ∃ d' e', Rp w2 g (.int .u32 0) (.int .i32 1) c d' e' ∧ R w2 d') :
    Calls Tryz.prog 123 #[.pointer (some ⟨g, 0, none⟩), .func (.func fb) #[.pointer (some ⟨g, 0, none⟩)] #[]] w fun en w' => en = .returned (.tuple #[]) ∧
      ∃ w2 d' e', Rp w2 g (.int .u32 0) (.int .i32 1) c d' e' ∧ R w2 d' ∧ w' = (w2.drew.setCell ⟨g, 0, none⟩ (.int .u32 1)).setCell ⟨g, 1, none⟩ (.int .i32 0) := by
  have h0 := hr.c0
  have hnot : ∀ (x : Bool) (w : World), (Op.unary .not (.bool x)).run Tryz.prog w = .ok (.bool (!x)) w := fun _ _ => rfl
  have HS := Lib.hid (slow_any fb hent g c d e R w hr hB)
  clear hB
  go_enter Tryz.func123, Tryz.ntmps123
  go_wp2_with (first | (go_at_call 137; refine HS.out.mono ?_; rintro en w' ⟨rfl, w2, d', e', hr2, hR, rfl⟩) | (go_at_call 136; refine (load_word ⟨g, 0, none⟩ 0 false rfl _ h0).mono ?_; rintro en w' ⟨rfl, rfl⟩))
  go_end0
  exact ⟨rfl, w2, d', e', hr2, hR, rfl⟩
end Go.Proofs.YtehoaoeahfmfpaaGreatDoor
