/- AreFormulas: both walks compute one plain function of what the formulas say. -/
import Derived.Test.YtehoaoeahfmfpaaGreatDoorFormI
import Derived.Test.YtehoaoeahfmfpaaGreatDoorFuncsF
namespace Go.Proofs.YtehoaoeahfmfpaaGreatDoor
open Go.RowKit Go.Sort

def afB (l : List Fm) : Bool := decide (l.length ≤ 20) && !(l.any fun x => !fmB x.p)

set_option maxRecDepth 20000 in
theorem areFClosure_any (x : Fm) (lo hi : Nat) (w : World) (hr : RdT w lo hi x.A x.ws) (hhi : hi ≤ w.heap.size) (hok : ∀ s ∈ x.ws, s.size ≤ maxLen) (hn : x.ws.length ≤ 2000000) :
    Calls Tryz.prog 76 #[x.val] w fun e w' => e = .returned (.bool (!fmB x.p)) ∧ Up w w' := by
  have hub := Up.alloc w (.cells #[.slice x.A x.ws.length x.c, .int .i64 x.fr, .int .i64 x.to_] 51)
  have hc := Lib.hid (isFormula_any x lo hi _ (hr.up hub hhi) (Nat.le_trans hhi hub.size) hok hn)
  go_enter Tryz.func76, Tryz.ntmps76
  go_wp2_with (go_at_call 46; refine hc.out.mono ?_; rintro e w' ⟨rfl, hup⟩)
  go_ret
  exact ⟨rfl, hub.trans hup⟩

theorem implAreFormulas_any (A : Option Addr) (l : List Fm) (c lo hi : Nat) (w : World) (hr : RdF w lo hi A l) (hhi : hi ≤ w.heap.size) (hok : ∀ x ∈ l, x.ok) (hws : ∀ x ∈ l, x.ws.length ≤ 2000000) (hn : l.length ≤ 2000000) :
    Calls Tryz.prog 25 #[.slice A l.length c] w fun e w' => e = .returned (.bool (afB l)) ∧ Up w w' := by
  have hc := Lib.hid (containsFuncFm_any A l c lo hi 76 #[] (fun x => !fmB x.p) w hr hhi hn (fun _ _ => by kernel_rfl) (fun d hd w1 hu => areFClosure_any d lo hi w1 ((hr.2 d hd).up hu hhi) (Nat.le_trans hhi hu.size) (hok d hd).1 (hws d hd)))
  by_cases h : l.length ≤ 20
  · have hb : decide ((l.length : Int) ≤ 20) = true := by simp; omega
    go_enter Tryz.func25, Tryz.ntmps25
    go_wp2_with (go_at_call 75; refine hc.out.mono ?_; rintro e w' ⟨rfl, hup⟩)
    go_ret
    exact ⟨ret_bool (by unfold afB; rw [decide_eq_true h]; rfl), hup⟩
  · have hb : decide ((l.length : Int) ≤ 20) = false := by simp; omega
    go_enter Tryz.func25, Tryz.ntmps25
    go_wp2
    go_ret
    exact ⟨ret_bool (by unfold afB; rw [decide_eq_false h]; rfl), Up.refl _⟩
