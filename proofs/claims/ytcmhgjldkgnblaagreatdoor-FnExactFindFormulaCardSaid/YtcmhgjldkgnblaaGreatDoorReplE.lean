/- The normal form of a word, by the program: strings.NewReplacer(..).Replace, then the squeeze. -/
import Derived.Test.YtcmhgjldkgnblaaGreatDoorReplD
namespace Go.Proofs.YtcmhgjldkgnblaaGreatDoor
open Go.RowKit Go.Sort

theorem Tab.setR {w : World} {base h g : Nat} {f' : Nat → Value} (ht : Tab w base h) (hr : w.rowIs g 82 5 f') (i : Nat) (v : Value) : Tab (w.setCell ⟨g, i, none⟩ v) base h := by
  obtain ⟨c, e1, -⟩ := hr
  obtain ⟨f, h1, h2, h3⟩ := ht
  have hne : h ≠ g := by
    obtain ⟨c2, e2, -⟩ := h1
    rintro rfl; rw [e1] at e2; cases e2
  refine ⟨f, h1.setOther (a := ⟨g, i, none⟩) hne v, h2.keep (fun q _ _ ⟨cs, fr, e⟩ => ?_), h3⟩
  refine Below.heap_setCell _ _ _ _ ?_
  rintro rfl; rw [e1] at e; cases e
theorem Tab.drew {w : World} {base h : Nat} (ht : Tab w base h) : Tab w.drew base h := ht

set_option maxRecDepth 100000 in
set_option maxHeartbeats 1000000 in
theorem buildOnce_any (g B cc : Nat) (c d : Value) (wa w : World) (hr : Rp w g (.int .u32 0) (.int .i32 1) c d (.slice (some ⟨B, 0, none⟩) 8 cc)) (h8 : W8 w B) (hup : Up wa w) (hga : wa.heap.size ≤ g) :
    Calls Tryz.prog 54 #[.pointer (some ⟨g, 0, none⟩)] w fun en w2 => en = .returned (.tuple #[]) ∧ ∃ d' e', Rp w2 g (.int .u32 0) (.int .i32 1) c d' e' ∧
      ∃ h base, d' = .iface 109 (.pointer (some ⟨h, 0, none⟩)) ∧ Tab w2 base h ∧ Up wa w2 := by
  have HB := Lib.hid (build_any g B cc _ _ _ _ w hr h8)
  go_enter Tryz.func54, Tryz.ntmps54
  go_wp2_with fail
  refine HB.out.mono ?_
  rintro en w1 ⟨h, rfl, hwh, hT, hu⟩
  have hr1 : Rp w1 g (.int .u32 0) (.int .i32 1) c d (.slice (some ⟨B, 0, none⟩) 8 cc) := World.rowIs.of_block hr (hu.block g (World.rowIs.lt hr))
  have m0 := hr1.c3
  have m1 : w1.frozen? ⟨g, 3, none⟩ = false := World.rowIs.frozen hr1 3
  have hr2 := hr1.set3 (.iface 109 (.pointer (some ⟨h, 0, none⟩)))
  have m2 := hr2.c4
  have m3 := World.rowIs.frozen hr2 4
  have HT := Lib.hid (((hT.setR hr1 3 (.iface 109 (.pointer (some ⟨h, 0, none⟩)))).setR hr2 4 (.slice none 0 0)))
  have HR := Lib.hid (hr2.set4 (.slice none 0 0))
  have HU := Lib.hid (((hup.trans hu).setCell (p := ⟨g, 3, none⟩) hga (.iface 109 (.pointer (some ⟨h, 0, none⟩)))).setCell (p := ⟨g, 4, none⟩) hga (.slice none 0 0))
  clear hr1 hr2 hT
  go_wp2
  go_end0
  exact ⟨rfl, _, _, HR.out, h, _, rfl, HT.out, HU.out⟩

set_option maxRecDepth 100000 in
set_option maxHeartbeats 1000000 in
theorem replace_any (s : ByteArray) (hs : s.size < 32) (g B cc : Nat) (c : Value) (wa w : World) (hr : Rp w g (.int .u32 0) (.int .i32 0) c .nilIface (.slice (some ⟨B, 0, none⟩) 8 cc)) (h8 : W8 w B) (hne : B ≠ g) (hup : Up wa w) (hga : wa.heap.size ≤ g) :
    Calls Tryz.prog 49 #[.pointer (some ⟨g, 0, none⟩), .string s] w fun e w' => e = .returned (.string (wideB s)) ∧ Up wa w' := by
  have hB := buildOnce_any g B cc c .nilIface wa (w.setCell ⟨g, 1, none⟩ (.int .i32 1)) (hr.set1 _) (h8.set hne) (hup.setCell (p := ⟨g, 1, none⟩) hga _) hga
  have HD := Lib.hid (doOnce_any 54 (fun _ _ => by kernel_rfl) g c _ _ (fun w2 d' => ∃ h base, d' = .iface 109 (.pointer (some ⟨h, 0, none⟩)) ∧ Tab w2 base h ∧ Up wa w2) w hr hB)
  have hmf : ∀ (fn : Fn) (first cap : Array Value) (w : World), (Instr.makeFunc fn first cap).run Tryz.prog w = .ok (.func fn first cap) w := fun _ _ _ _ => rfl
  clear hB
  go_enter Tryz.func49, Tryz.ntmps49
  go_wp2_with fail
  refine HD.out.mono ?_
  rintro en w1 ⟨rfl, w2, d', e', hr2, ⟨h, base, rfl, hT, hu⟩, rfl⟩
  have hr3 := Rp.set0 hr2 (.int .u32 1)
  have hr4 := Rp.set1 hr3 (.int .i32 0)
  have m0 := hr4.c3
  have hT4 := (hT.setR hr2 0 (.int .u32 1)).setR hr3 1 (.int .i32 0)
  have HU := Lib.hid (((hu.setCell (p := ⟨g, 0, none⟩) hga (.int .u32 1)).setCell (p := ⟨g, 1, none⟩) hga (.int .i32 0)).drew)
  have HR := Lib.hid (bsReplace_any s base h _ hT4.drew hs)
  clear hr3 hr4 hT hT4 hr2
  go_wp2_with fail
  refine HR.out.mono ?_
  rintro en w5 ⟨rfl, hu5⟩
  go_wp2
  go_ret
  exact ⟨rfl, HU.out.trans hu5⟩
end Go.Proofs.YtcmhgjldkgnblaaGreatDoor
