/- strings.NewReplacer over the four letters. -/
import Derived.Test.YtehoaoeahfmfpaaGreatDoorOnceDo
import Derived.Test.YtehoaoeahfmfpaaGreatDoorTxt
namespace Go.Proofs.YtehoaoeahfmfpaaGreatDoor
open Go.RowKit

/-- old and new, in pairs -/
def repW : List ByteArray := [⟨#[118]⟩, ⟨#[117]⟩, ⟨#[106]⟩, ⟨#[105]⟩, ⟨#[121]⟩, ⟨#[105]⟩, ⟨#[119]⟩, ⟨#[117, 117]⟩]
theorem Rd.newsT {w : World} {lo hi : Nat} {ad : Addr} {l : List ByteArray} (h : RdT w lo hi (some ad) l) : ∀ j u, (l.flatMap strC)[j]? = some u → w.cell? (ad.add j) = some u := by
  intro j u hu
  have e : l.flatMap strC = l.map Value.string := by
    clear hu h
    induction l with
    | nil => rfl
    | cons x l ih => rw [List.flatMap_cons, ih]; rfl
  rw [e, List.getElem?_map] at hu
  rcases hx : l[j]? with _ | x
  · rw [hx] at hu; cases hu
  · rw [hx] at hu
    obtain ⟨b, off, z, e1, -, -, hz, hc⟩ := h.txt (k := j) (List.getElem?_eq_some_iff.1 hx).1
    cases e1
    rw [hx] at hz; cases hz
    simp at hu; subst hu
    rw [show (⟨b, off, none⟩ : Addr).add j = ⟨b, off + j, none⟩ by unfold Addr.add; split <;> simp_all]
    exact hc
theorem strs_one (l : List ByteArray) : ∀ u ∈ l.flatMap strC, u.oneCell' = true := by
  intro u hu
  obtain ⟨x, _, hx⟩ := List.mem_flatMap.1 hu
  simp at hx; subst hx; rfl

set_option maxRecDepth 100000 in
set_option maxHeartbeats 1000000 in
theorem newReplacer_any (ad : Addr) (c lo hi : Nat) (w : World) (hr : RdT w lo hi (some ad) repW) :
    Calls Tryz.prog 116 #[.slice (some ad) 8 c] w fun e w' => ∃ g v, e = .returned (.pointer (some ⟨g, 0, none⟩)) ∧ w.heap.size ≤ g ∧ Rp w' g (.int .u32 0) (.int .i32 0) (.int .u32 0) .nilIface v ∧ w'.ownsRow w.heap.size 9 1 v 8 (repW.flatMap strC) ∧ Up w w' := by
  obtain ⟨i0, hi0, hz0, hz1, hz2⟩ := info_parts infoString
  have hn := Lib.hid hr.newsT
  have ho := Lib.hid (strs_one repW)
  have hnil := World.ownsRow_nil w w.heap.size 9 1
  have hlen : (repW.flatMap strC).length = 8 * 1 := rfl
  obtain ⟨R, hR⟩ : ∃ R, R = repW.flatMap strC := ⟨_, rfl⟩
  rw [← hR] at hn ho hlen ⊢
  clear hR hr
  go_enter Tryz.func116, Tryz.ntmps116
  go_wp2_with ((at_builtin; refine wpList_append_own _ rfl _ _ 23 rfl w.heap.size 9 i0 _ 1 16 Tryz.underlying23 hi0 hz0 hz1 hz2 rfl (by decide) _ _ _ rfl hnil ad 8 c R rfl hlen hn.out ho.out (by simp [maxLen]) (by decide) (Nat.le_refl _) ?_))
  intro v' w4 hown' hgrow _
  have hu := (Up.refl w).grown hgrow (fun k hk => by simp [Value.ownBlock] at hk)
  obtain ⟨C2', cc2, e2, -, -, hC2, -⟩ := own_form hown'
  subst e2
  obtain ⟨C2, rfl, -, -⟩ := hC2 (by decide)
  have HW := Lib.hid hown'
  clear hown' hgrow hC2
  go_wp2
  go_ret
  refine ⟨w4.heap.size, _, rfl, hu.size, World.rowIs_alloc w4 _ _ _ (fun i hi => ?_), own_up HW.out (Up.alloc _ _), hu.allocs _⟩
  match i, hi with
  | 0, _ => rfl
  | 1, _ => rfl
  | 2, _ => rfl
  | 3, _ => rfl
  | 4, _ => rfl
end Go.Proofs.YtehoaoeahfmfpaaGreatDoor
