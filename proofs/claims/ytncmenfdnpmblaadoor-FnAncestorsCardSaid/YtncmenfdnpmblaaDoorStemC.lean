/- The codes of stemmas, and the reference's line of ancestors. -/
import Derived.Test.YtncmenfdnpmblaaDoorStemI
namespace Go.Proofs.YtncmenfdnpmblaaDoor
open Go.RowKit Go.Sort

/-- the code of copies, a stemma and indices -/
def stC (right : Bool) (P : List PC) (ps ix : List Int) : Int := if isB P ps = true then cdB right P ix else 1
theorem stC_1 {right : Bool} {P : List PC} {ps ix : List Int} (h : isB P ps = false) : stC right P ps ix = 1 := by unfold stC; rw [h]; rfl
theorem stC_0 {right : Bool} {P : List PC} {ps ix : List Int} (h : isB P ps = true) : stC right P ps ix = cdB right P ix := by unfold stC; rw [h]; rfl
theorem stC_inv {right : Bool} {P : List PC} {ps ix : List Int} (h : stC right P ps ix = 0) : isB P ps = true ∧ right = true ∧ ∀ i ∈ ix, 0 ≤ i ∧ i < P.length := by
  rcases h1 : isB P ps with _ | _
  · rw [stC_1 h1] at h; cases h
  · rw [stC_0 h1] at h
    exact ⟨rfl, (cd_inv h).2⟩
theorem cd_dup' {right : Bool} {P : List PC} {i : Int} : cdB right P [i, i] = cdB right P [i] := by unfold cdB; simp
theorem stC_dup {right : Bool} {P : List PC} {ps : List Int} {i : Int} : stC right P ps [i, i] = stC right P ps [i] := by unfold stC; rw [cd_dup']
theorem ret_vI {k : IntKind} {v : Value} {a b : Int} (h : a = b) : Ending.returned (.tuple #[v, .int k a]) = .returned (.tuple #[v, .int k b]) := by rw [h]
theorem ret_iI {k k' : IntKind} {a b a' b' : Int} (h : a = b) (h' : a' = b') : Ending.returned (.tuple #[.int k a, .int k' a']) = .returned (.tuple #[.int k b, .int k' b']) := by rw [h, h']
theorem one_rd' (w : World) (i : Int) : RdI (w.alloc (.cells #[.int .i64 i] 2)) w.heap.size (w.heap.size + 1) (some ⟨w.heap.size, 0, none⟩) [i] := fun _ => by
  refine ⟨w.heap.size, 0, rfl, Nat.le_refl _, by omega, fun j x hx q u hu => ?_⟩
  match j, hx with
  | 0, hx => match q, hu with
    | 0, hu => simp at hx; subst hx; simp at hu; subst hu; simp
theorem two_rd' (w : World) (i k : Int) : RdI (w.alloc (.cells #[.int .i64 i, .int .i64 k] 2)) w.heap.size (w.heap.size + 1) (some ⟨w.heap.size, 0, none⟩) [i, k] := fun _ => by
  refine ⟨w.heap.size, 0, rfl, Nat.le_refl _, by omega, fun j x hx q u hu => ?_⟩
  match j, hx with
  | 0, hx => match q, hu with
    | 0, hu => simp at hx; subst hx; simp at hu; subst hu; simp
  | 1, hx => match q, hu with
    | 0, hu => simp at hx; subst hx; simp at hu; subst hu; simp

set_option maxRecDepth 100000 in
set_option maxHeartbeats 2000000 in
theorem checkStemma_any (A : Option Addr) (l : List Cp) (c : Nat) (B : Option Addr) (ps : List Int) (cb : Nat) (D : Option Addr) (ix : List Int) (cd lo hi lo' hi' lo2 hi2 : Nat) (w : World) (hr : RdC w lo hi A l) (hhi : hi ≤ w.heap.size) (hf : Fit l c) (hr' : RdI w lo' hi' B ps) (hhi' : hi' ≤ w.heap.size) (hn' : ps.length ≤ 2000000) (hr2 : RdI w lo2 hi2 D ix) (hhi2 : hi2 ≤ w.heap.size) (hix : ix.length ≤ 2000000) :
    Calls Tryd.prog 44 #[.slice A l.length c, .slice B ps.length cb, .slice D ix.length cd] w fun e w' => e = .returned (.int .i64 (stC true (l.map Cp.p) ps ix)) ∧ Up w w' := by
  have HS := Lib.hid (implIsStemma_any A l c B ps cb lo hi lo' hi' w hr hhi hf hr' hhi' hn')
  have HK := Lib.hid (fun (w1 : World) (hu : Up w w1) => checkCopies_any A D l ix c cd lo hi lo2 hi2 w1 (hr.up hu hhi) (Nat.le_trans hhi hu.size) hf (hr2.up hu hhi2) (Nat.le_trans hhi2 hu.size) hix)
  clear hf
  rcases h1 : isB (l.map Cp.p) ps with _ | _
  · have HE := Lib.hid (stC_1 (right := true) (ix := ix) h1)
    go_enter Tryd.func44, Tryd.ntmps44
    go_wp2_with fail
    refine HS.out.mono ?_
    rintro e w1 ⟨rfl, hup⟩
    go_wp2
    go_ret
    exact ⟨ret_int HE.out.symm, hup⟩
  · have HE := Lib.hid (stC_0 (right := true) (ix := ix) h1)
    go_enter Tryd.func44, Tryd.ntmps44
    go_wp2_with fail
    refine HS.out.mono ?_
    rintro e w1 ⟨rfl, hup⟩
    go_wp2_with fail
    refine (HK.out w1 hup).mono ?_
    rintro e w2 ⟨rfl, hup2⟩
    go_wp2
    go_ret
    exact ⟨ret_int HE.out.symm, hup.trans hup2⟩

set_option maxRecDepth 100000 in
set_option maxHeartbeats 2000000 in
theorem l23Code_any (right : Bool) (A : Option Addr) (l : List Cp) (c : Nat) (B : Option Addr) (ps : List Int) (cb lo hi lo' hi' : Nat) (i k : Int) (w : World) (hr : RdC w lo hi A l) (hhi : hi ≤ w.heap.size) (hf : Fit l c) (hr' : RdI w lo' hi' B ps) (hhi' : hi' ≤ w.heap.size) (hn' : ps.length ≤ 2000000) :
    Calls Tryd.prog 47 #[.bool right, .slice A l.length c, .slice B ps.length cb, .int .i64 i, .int .i64 k] w fun e w' => e = .returned (.int .i64 (stC right (l.map Cp.p) ps [i, k])) ∧ Up w w' := by
  have HS := Lib.hid (specIsStemma_any A l c B ps cb lo hi lo' hi' w hr hhi hf hr' hhi' hn')
  have HK := Lib.hid (fun (w1 : World) (hu : Up w w1) => l22Code_any right A l c lo hi i k w1 (hr.up hu hhi) (Nat.le_trans hhi hu.size) hf)
  clear hf
  rcases h1 : isB (l.map Cp.p) ps with _ | _
  · have HE := Lib.hid (stC_1 (right := right) (ix := [i, k]) h1)
    go_enter Tryd.func47, Tryd.ntmps47
    go_wp2_with fail
    refine HS.out.mono ?_
    rintro e w1 ⟨rfl, hup⟩
    go_wp2
    go_ret
    exact ⟨ret_int HE.out.symm, hup⟩
  · have HE := Lib.hid (stC_0 (right := right) (ix := [i, k]) h1)
    go_enter Tryd.func47, Tryd.ntmps47
    go_wp2_with fail
    refine HS.out.mono ?_
    rintro e w1 ⟨rfl, hup⟩
    go_wp2_with fail
    refine (HK.out w1 hup).mono ?_
    rintro e w2 ⟨rfl, hup2⟩
    go_wp2
    go_ret
    exact ⟨ret_int HE.out.symm, hup.trans hup2⟩

theorem rea_pos {ps : List Int} {m : Nat} {z : Int} (h : reaB ps m z = true) (hz : z ≠ -1) : ∃ q, m = q + 1 ∧ reaB ps q (upS ps z) = true := by
  rcases m with _ | q
  · rw [rea_zero hz] at h; cases h
  · rw [rea_step hz] at h; exact ⟨q, rfl, h⟩
theorem rea_succ {ps : List Int} : ∀ {m : Nat} {z : Int}, reaB ps m z = true → reaB ps (m + 1) z = true
  | 0, z, h => by simp [reaB] at h; subst h; exact rea_end _ _
  | m + 1, z, h => by
    by_cases hz : z = -1
    · subst hz; exact rea_end _ _
    · rw [rea_step hz] at h ⊢; exact rea_succ h
theorem anc_succ {ps : List Int} : ∀ {m : Nat} {z : Int}, reaB ps m z = true → ancL ps (m + 1) z = ancL ps m z
  | 0, z, h => by simp [reaB] at h; subst h; rw [anc_end, anc_end]
  | m + 1, z, h => by
    by_cases hz : z = -1
    · subst hz; rw [anc_end, anc_end]
    · rw [rea_step hz] at h
      rw [anc_step hz, anc_succ h, anc_step hz]
/-- the line of copy i, i among it -/
def lnF (ps : List Int) (i : Int) : List Int := i :: lnL ps i
theorem lnF_eq {ps : List Int} {i : Int} (h0 : 0 ≤ i) (h : lnB ps i = true) : ancL ps (ps.length + 1) i = lnF ps i := by
  have hz : i ≠ -1 := by omega
  have h' : reaB ps ps.length (upS ps i) = true := by unfold lnB at h; rwa [rea_step hz] at h
  unfold lnF
  rw [ln_yes h, anc_step hz, anc_succ h']
theorem ln_up {ps : List Int} {i : Int} (h0 : 0 ≤ i) (h : lnB ps i = true) : reaB ps (ps.length + 1) (upS ps i) = true ∧ ancL ps (ps.length + 1) (upS ps i) = lnL ps i := by
  have hz : i ≠ -1 := by omega
  refine ⟨?_, (ln_yes h).symm⟩
  unfold lnB at h; rw [rea_step hz] at h
  exact rea_succ h
theorem ln_fin {ps : List Int} {i : Int} (h0 : 0 ≤ i) (h : lnB ps i = true) : (lnL ps i).length ≤ ps.length := by
  have hz : i ≠ -1 := by omega
  unfold lnB at h; rw [rea_step hz] at h
  rw [ln_yes (by unfold lnB; rw [rea_step hz]; exact h), anc_succ h]
  exact anc_len _ _ _

set_option maxRecDepth 100000 in
set_option maxHeartbeats 4000000 in
theorem l23Line_any (B : Option Addr) (ps : List Int) (cb lo' hi' m : Nat) (z0 : Int) (w : World) (hr' : RdI w lo' hi' B ps) (hhi' : hi' ≤ w.heap.size) (hm : m ≤ 2000001) (hp : parB ps ps.length = true) (h0 : -1 ≤ z0) (h1 : z0 < ps.length) (hre : reaB ps m z0 = true) (_hn' : ps.length ≤ 2000000) :
    Calls Tryd.prog 48 #[.slice B ps.length cb, .int .i64 z0] w fun e w' => ∃ v, e = .returned v ∧ w'.ownsRow w.heap.size 2 1 v (ancL ps m z0).length ((ancL ps m z0).flatMap intCells) ∧ Up w w' := by
  obtain ⟨i0, hi0, hz0, hz1, hz2⟩ := info_parts infoInt
  have HP := Lib.hid hp
  have HR0 := Lib.hid hre
  clear hp hre
  go_enter Tryd.func48, Tryd.ntmps48
  go_wp2
  have hown0 := World.ownsRow_lit (base := w.heap.size) (e := 2) (size := 1) w #[] 0 (Nat.le_refl _) (by simp [maxLen]) rfl
  have hup0 := (Up.refl w).allocs (.cells #[] 2)
  generalize w.alloc (.cells #[] 2) = w2 at *
  go_loopw [5, 6] (fun o a wr => ∃ (out : List Int) (z : Int) (q : Nat) (C : Option Addr) (cc : Nat), o = .slice C out.length cc ∧ a = .int .i64 z ∧ -1 ≤ z ∧ z < ps.length ∧ out.length + q = m ∧ reaB ps q z = true ∧ out ++ ancL ps q z = ancL ps m z0 ∧ wr.ownsRow w.heap.size 2 1 (.slice C out.length cc) out.length (out.flatMap intCells) ∧ Up w wr) (fun o _ _ => m - lenV o)
  case atStart => exact ⟨[], z0, m, some ⟨w.heap.size, 0, none⟩, 0, rfl, rfl, h0, h1, by simp, HR0.out, rfl, hown0, hup0⟩
  case round =>
    obtain ⟨out, z, q, C, cc, rfl, rfl, hzl, hzh, hq, hre, han, hown, hup⟩ := hrel
    have HQ := Lib.hid hq
    have HRE := Lib.hid hre
    have HAN := Lib.hid han
    have hqle : out.length ≤ m := by omega
    clear hq hre han
    by_cases hz : z = -1
    · subst hz
      have HE := Lib.hid (show out = ancL ps m z0 by rw [← HAN.out, anc_end, List.append_nil])
      go_wp2
      go_ret
      exact ⟨_, rfl, by rw [← HE.out]; exact hown, hup⟩
    · have hz' : (z != -1) = true := by simpa using hz
      have HZ := Lib.hid hz
      obtain ⟨q', hq', hre'⟩ := rea_pos HRE.out hz
      have HQ' := Lib.hid hq'
      have HRE' := Lib.hid hre'
      have hol : out.length + 1 ≤ m := by have := HQ.out; omega
      obtain ⟨y, rfl⟩ : ∃ y : Nat, z = (y : Int) := ⟨z.toNat, by omega⟩
      clear hz hq' hre'
      have hy : y < ps.length := by omega
      have n1 : out.length + 1 ≤ maxLen := by unfold maxLen; omega
      have n2 : (out.length + 1) * 8 ≤ 140737488355328 := by omega
      have n3 : w.heap.size ≤ (wr.alloc (.cells #[.int .i64 (y : Int)] 2)).heap.size := (hup.allocs _).size
      go_wp2_with ((at_builtin; refine wpList_append_own _ rfl _ _ 25 rfl w.heap.size 2 i0 _ 1 8 Tryd.underlying25 hi0 hz0 hz1 hz2 rfl (by decide) _ _ _ rfl (hown.alloc _) ⟨wr.heap.size, 0, none⟩ 1 1 [.int .i64 (y : Int)] rfl rfl (cell_one_new _ _ _) (by simp [Value.oneCell']) n1 n2 n3 ?_))
      intro v' w4 hown' hgrow _
      have hu := (hup.allocs (.cells #[.int .i64 (y : Int)] 2)).grown hgrow (fun k hk => (hown.lt k hk).1)
      obtain ⟨C2, cc2, rfl, -, -, -, -⟩ := own_form hown'
      have ho : w4.ownsRow w.heap.size 2 1 (.slice C2 (out ++ [(y : Int)]).length cc2) (out ++ [(y : Int)]).length ((out ++ [(y : Int)]).flatMap intCells) := by
        rw [List.length_append, List.flatMap_append]; exact hown'
      clear hown' hgrow
      obtain ⟨b5, off5, x5, rfl, -, -, hx5, y5⟩ := (hr'.up hu hhi').int hy
      have hxr := parB_at HP.out hx5
      have HX5 := Lib.hid (upS_of hx5)
      clear hx5
      go_wp2
      go_roundw
      case rel => exact ⟨out ++ [(y : Int)], x5, q', C2, cc2, by simp, rfl, hxr.1, hxr.2, by have h1 := HQ.out; have h2 := HQ'.out; simp; omega, by rw [← HX5.out]; exact HRE'.out,
        by rw [← HAN.out, HQ'.out, anc_step HZ.out, HX5.out, List.append_assoc]; rfl, ho, hu⟩
      case measure => simp [lenV]; omega
end Go.Proofs.YtncmenfdnpmblaaDoor
