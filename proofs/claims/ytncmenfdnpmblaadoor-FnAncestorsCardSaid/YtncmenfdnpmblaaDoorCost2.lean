/- StemmaCost: the program's and the reference's walks. -/
import Derived.Test.YtncmenfdnpmblaaDoorCost
namespace Go.Proofs.YtncmenfdnpmblaaDoor
open Go.RowKit Go.Sort

set_option maxRecDepth 100000 in
set_option maxHeartbeats 4000000 in
theorem stemmaCost_any (B : Option Addr) (o : List Int) (cb : Nat) (A : Option Addr) (l : List Cp) (c : Nat) (D : Option Addr) (ps : List Int) (cd lo hi lo' hi' lo2 hi2 : Nat) (w : World) (hr' : RdI w lo' hi' B o) (hhi' : hi' ≤ w.heap.size) (hr : RdC w lo hi A l) (hhi : hi ≤ w.heap.size) (hf : Fit l c) (hr2 : RdI w lo2 hi2 D ps) (hhi2 : hi2 ≤ w.heap.size) (hA : arB (l.map Cp.p) = true) (hO : orB o (l.map Cp.p) = true) (hlen : ps.length = l.length) (hp : parB ps ps.length = true) :
    Calls Tryd.prog 56 #[.slice B o.length cb, .slice A l.length c, .slice D ps.length cd] w fun e w' => e = .returned (.int .i64 ((csN o (l.map Cp.p) ps ps.length : Nat) : Int)) ∧ Up w w' := by
  have ho20 := orB_20 hO
  have hl8 : ps.length ≤ 8 := by rw [hlen]; have := arB_8' hA; simpa using this
  have hll : ps.length ≤ l.length ∧ l.length ≤ ps.length := by omega
  have HP := Lib.hid hp
  have HA := Lib.hid hA
  have HO := Lib.hid hO
  have HF := Lib.hid hf
  clear hp hlen hA hO hf
  go_enter Tryd.func56, Tryd.ntmps56
  go_wp2
  go_loopw [7, 8, 9, 12] (fun n _ _ i wr => ∃ k : Nat, k ≤ ps.length ∧ i = .int .i64 k ∧ n = .int .i64 ((csN o (l.map Cp.p) ps k : Nat) : Int) ∧ Up w wr) (fun _ _ _ i _ => ps.length - (intOf i).toNat)
  case atStart => exact ⟨0, Nat.zero_le _, rfl, rfl, Up.refl _⟩
  case round =>
    obtain ⟨k, hk, rfl, rfl, hup⟩ := hrel
    have hcs : csN o (l.map Cp.p) ps k ≤ 160 := Nat.le_trans (cs_le o (l.map Cp.p) ps k) (Nat.le_trans (Nat.mul_le_mul ho20 (Nat.le_trans hk hl8)) (by decide))
    by_cases hlt : k < ps.length
    · obtain ⟨b, off, x, rfl, -, -, hx, y0⟩ := (hr2.up hup hhi2).int hlt
      have hxr := parB_at HP.out hx
      have HC := Lib.hid (changesOn_any B o cb A l c lo hi lo' hi' x k wr (hr'.up hup hhi') (Nat.le_trans hhi' hup.size) (hr.up hup hhi) (Nat.le_trans hhi hup.size) HF.out HA.out HO.out hxr.1 (by omega) (by omega))
      have HX := Lib.hid (show csN o (l.map Cp.p) ps (k + 1) = csN o (l.map Cp.p) ps k + (chL o (l.map Cp.p) x (k : Int)).length by rw [csN, upS_of hx]; rfl)
      have hcl : (chL o (l.map Cp.p) x (k : Int)).length ≤ 20 := Nat.le_trans (pl_len _ _) ho20
      clear hx
      go_wp2_with fail
      refine HC.out.mono ?_
      rintro e w2 ⟨v, rfl, ho, hup2⟩
      obtain ⟨A', c', rfl, -, -, -, -⟩ := own_form ho
      clear ho
      go_wp2
      go_roundw
      case rel => exact ⟨k + 1, by omega, by go_num, by rw [HX.out]; go_num, hup.trans hup2⟩
      case measure => simp [intOf]; omega
    · have HK := Lib.hid (show k = ps.length by omega)
      go_wp2
      go_ret
      exact ⟨ret_int (by rw [show k = ps.length from HK.out]), hup⟩

set_option maxRecDepth 100000 in
set_option maxHeartbeats 4000000 in
theorem l23Cost_any (B : Option Addr) (o : List Int) (cb : Nat) (A : Option Addr) (l : List Cp) (c : Nat) (D : Option Addr) (ps : List Int) (cd lo hi lo' hi' lo2 hi2 : Nat) (w : World) (hr' : RdI w lo' hi' B o) (hhi' : hi' ≤ w.heap.size) (hr : RdC w lo hi A l) (hhi : hi ≤ w.heap.size) (hf : Fit l c) (hr2 : RdI w lo2 hi2 D ps) (hhi2 : hi2 ≤ w.heap.size) (hA : arB (l.map Cp.p) = true) (hO : orB o (l.map Cp.p) = true) (hlen : ps.length = l.length) (hp : parB ps ps.length = true) :
    Calls Tryd.prog 57 #[.slice B o.length cb, .slice A l.length c, .slice D ps.length cd] w fun e w' => e = .returned (.int .i64 ((csN o (l.map Cp.p) ps ps.length : Nat) : Int)) ∧ Up w w' := by
  have ho20 := orB_20 hO
  have hl8 : ps.length ≤ 8 := by rw [hlen]; have := arB_8' hA; simpa using this
  have hll : ps.length ≤ l.length ∧ l.length ≤ ps.length := by omega
  have HP := Lib.hid hp
  have HA := Lib.hid hA
  have HO := Lib.hid hO
  have HF := Lib.hid hf
  clear hp hlen hA hO hf
  go_enter Tryd.func57, Tryd.ntmps57
  go_wp2
  go_loopw [7, 8] (fun n i wr => ∃ k : Nat, k ≤ ps.length ∧ i = .int .i64 k ∧ n = .int .i64 ((csN o (l.map Cp.p) ps k : Nat) : Int) ∧ Up w wr) (fun _ i _ => ps.length - (intOf i).toNat)
  case atStart => exact ⟨0, Nat.zero_le _, rfl, rfl, Up.refl _⟩
  case round =>
    obtain ⟨k, hk, rfl, rfl, hup⟩ := hrel
    have hcs : csN o (l.map Cp.p) ps k ≤ 160 := Nat.le_trans (cs_le o (l.map Cp.p) ps k) (Nat.le_trans (Nat.mul_le_mul ho20 (Nat.le_trans hk hl8)) (by decide))
    by_cases hlt : k < ps.length
    · have hlk : k < l.length := by omega
      obtain ⟨b, off, x, rfl, -, -, hx, y0⟩ := (hr2.up hup hhi2).int hlt
      have hxr := parB_at HP.out hx
      have hxl : x < l.length := by omega
      obtain ⟨A2, rs, c2, lo3, hi3, hrs, hr3, hhi3, hcall⟩ := source_ex B o cb A l c lo hi lo' hi' x wr (hr'.up hup hhi') (Nat.le_trans hhi' hup.size) (hr.up hup hhi) (Nat.le_trans hhi hup.size) HF.out.2.2.1 hxr.1 hxl
      obtain ⟨b2, off2, y, rfl, -, -, hy, iy, q0, q1⟩ := (hr.up hup hhi).at_ hlk
      have e1 : rs.length = o.length := by rw [hrs]; exact rdS_len HA.out HO.out hxr.1 (by simpa using hxl)
      have e2 : y.rs.length = o.length := orB_same HA.out HO.out (getp hy)
      have HE := Lib.hid (show (pl (dfB y.rs rs) y.rs.length).length = dsN o (l.map Cp.p) x (k : Int) by rw [← ds_swap, rdS_c (getp hy), ← hrs, e2]; rfl)
      have HX := Lib.hid (show csN o (l.map Cp.p) ps (k + 1) = csN o (l.map Cp.p) ps k + dsN o (l.map Cp.p) x (k : Int) by rw [csN, upS_of hx])
      have hds := Nat.le_trans (ds_le o (l.map Cp.p) x (k : Int)) ho20
      have hh := Nat.le_trans hhi hup.size
      obtain ⟨yn, yA, yc, yrs⟩ := y
      simp only at q0 q1 e2 HE iy
      have HIY := Lib.hid iy
      have HR3 := Lib.hid hr3
      have HS := Lib.hid hcall
      have hE := fun dd os => l22Differences_any yA A2 yrs rs yc c2 lo hi lo3 hi3 (grow (redrawn wr dd) os) (HIY.out.up (below_regrown _ _ _) hh) (Nat.le_trans hh (below_regrown _ _ _).size) (HR3.out.up (below_regrown _ _ _) hhi3) (Nat.le_trans hhi3 (below_regrown _ _ _).size) (by omega) (by omega)
      rw [HE.out] at hE
      have cD : ∀ dd os, Calls Tryd.prog 55 #[.slice yA yrs.length yc, .slice A2 rs.length c2] (grow (redrawn wr dd) os) fun e w'' => e = .returned (.int .i64 ((dsN o (l.map Cp.p) x (k : Int) : Nat) : Int)) ∧ ∃ p : Regrown, w'' = grow (redrawn wr p.d) p.os :=
        fun dd os => Calls.regrown_of (hE dd os)
      have cS : ∀ dd os, Calls Tryd.prog 54 #[.slice B o.length cb, .slice (some ⟨b2, off2, none⟩) l.length c, .int .i64 x] (grow (redrawn wr dd) os) fun e w'' => e = .returned (.slice A2 rs.length c2) ∧ ∃ p : Regrown, w'' = grow (redrawn wr p.d) p.os :=
        fun dd os => Calls.regrown_of ((HS.out _ (below_regrown _ _ _)).mono fun _ _ ⟨h1, h2⟩ => ⟨h1, by rw [← h2]; exact Up.refl _⟩)
      have hwr : IntKind.i64.wrap ((csN o (l.map Cp.p) ps k : Int) + (dsN o (l.map Cp.p) x (k : Int) : Int)) = (csN o (l.map Cp.p) ps k : Int) + (dsN o (l.map Cp.p) x (k : Int) : Int) := IntWalk.i64_in _ (by omega)
      have Y0 := cell_regrown y0
      have Q1 := cell_regrown q1
      clear hx hy iy hr3 hrs hcall hE e1 e2 q0
      go_wp2_with fail
      refine wp_region_quiet_below (by kernel_rfl) (by kernel_rfl) ?_
      repeat (quiet_step (first | (go_at_call 54; exact cS _ _) | (go_at_call 55; exact cD _ _)))
      refine wpQuiet_nil ?_
      intro w7 hw7
      obtain ⟨⟨dq, osq⟩, hw7⟩ := hw7
      have hup7 : Up wr w7 := by rw [hw7]; exact below_regrown _ _ _
      clear hw7 Y0 Q1 y0 q1 cD cS hwr
      go_wp2
      go_roundw
      case rel => exact ⟨k + 1, by omega, by go_num, by rw [HX.out]; go_num, hup.trans hup7⟩
      case measure => simp [intOf]; omega
    · have hlk : ¬ k < l.length := by omega
      have HK := Lib.hid (show k = ps.length by omega)
      go_wp2
      go_ret
      exact ⟨ret_int (by rw [show k = ps.length from HK.out]), hup⟩

def scC (o : List Int) (P : List PC) (ps : List Int) : Int := if (isB P ps && orB o P) = true then 0 else 1
def scV (o : List Int) (P : List PC) (ps : List Int) : Int := if (isB P ps && orB o P) = true then (csN o P ps ps.length : Nat) else 0
theorem sc_1 {o : List Int} {P : List PC} {ps : List Int} (h : (isB P ps && orB o P) = false) : scC o P ps = 1 ∧ scV o P ps = 0 := by simp only [scC, scV, h]; exact ⟨rfl, rfl⟩
theorem sc_0 {o : List Int} {P : List PC} {ps : List Int} (h : (isB P ps && orB o P) = true) : scC o P ps = 0 ∧ scV o P ps = (csN o P ps ps.length : Nat) := by simp only [scC, scV, h]; exact ⟨rfl, rfl⟩

set_option maxRecDepth 100000 in
set_option maxHeartbeats 4000000 in
theorem specStemmaCost_any (B : Option Addr) (o : List Int) (cb : Nat) (A : Option Addr) (l : List Cp) (c : Nat) (D : Option Addr) (ps : List Int) (cd lo hi lo' hi' lo2 hi2 : Nat) (w : World) (hr' : RdI w lo' hi' B o) (hhi' : hi' ≤ w.heap.size) (hn' : o.length ≤ 2000000) (hr : RdC w lo hi A l) (hhi : hi ≤ w.heap.size) (hf : Fit l c) (hr2 : RdI w lo2 hi2 D ps) (hhi2 : hi2 ≤ w.heap.size) (hn2 : ps.length ≤ 2000000) :
    Calls Tryd.prog 21 #[.slice B o.length cb, .slice A l.length c, .slice D ps.length cd] w fun e w' => e = .returned (.tuple #[.int .i64 (scV o (l.map Cp.p) ps), .int .i64 (scC o (l.map Cp.p) ps)]) ∧ Up w w' := by
  have HS := Lib.hid (specIsStemma_any A l c D ps cd lo hi lo2 hi2 w hr hhi hf hr2 hhi2 hn2)
  have HOR := Lib.hid (fun (w1 : World) (hu : Up w w1) => l22Original_any B o cb A l c lo hi lo' hi' w1 (hr'.up hu hhi') hn' (hr.up hu hhi) hf)
  rcases h1 : isB (l.map Cp.p) ps with _ | _
  · have HE := Lib.hid (sc_1 (o := o) (P := l.map Cp.p) (ps := ps) (by rw [h1]; rfl))
    clear hf
    go_enter Tryd.func21, Tryd.ntmps21
    go_wp2_with fail
    refine HS.out.mono ?_
    rintro e w1 ⟨rfl, hup⟩
    go_wp2
    go_ret2
    exact ⟨ret_iI HE.out.2.symm HE.out.1.symm, hup⟩
  · obtain ⟨hA, hlen, hp, -⟩ := is_inv h1
    rcases h2 : orB o (l.map Cp.p) with _ | _
    · have HE := Lib.hid (sc_1 (o := o) (P := l.map Cp.p) (ps := ps) (by rw [h2, Bool.and_false]))
      have h3 : orS o (l.map Cp.p) = false := by rw [or_eq hA]; exact h2
      clear hf hA hlen hp h2
      go_enter Tryd.func21, Tryd.ntmps21
      go_wp2_with fail
      refine HS.out.mono ?_
      rintro e w1 ⟨rfl, hup⟩
      go_wp2_with fail
      refine (HOR.out w1 hup).mono ?_
      rintro e w2 ⟨rfl, rfl⟩
      go_wp2
      go_ret2
      exact ⟨ret_iI HE.out.2.symm HE.out.1.symm, hup⟩
    · have HE := Lib.hid (sc_0 (o := o) (P := l.map Cp.p) (ps := ps) (by rw [h1, h2]; rfl))
      have h3 : orS o (l.map Cp.p) = true := by rw [or_eq hA]; exact h2
      have HC := Lib.hid (fun (w1 : World) (hu : Up w w1) => l23Cost_any B o cb A l c D ps cd lo hi lo' hi' lo2 hi2 w1 (hr'.up hu hhi') (Nat.le_trans hhi' hu.size) (hr.up hu hhi) (Nat.le_trans hhi hu.size) hf (hr2.up hu hhi2) (Nat.le_trans hhi2 hu.size) hA h2 (by simpa using hlen) hp)
      clear hf hA hlen hp h2
      go_enter Tryd.func21, Tryd.ntmps21
      go_wp2_with fail
      refine HS.out.mono ?_
      rintro e w1 ⟨rfl, hup⟩
      go_wp2_with fail
      refine (HOR.out w1 hup).mono ?_
      rintro e w2 ⟨rfl, rfl⟩
      go_wp2_with fail
      refine (HC.out w1 hup).mono ?_
      rintro e w3 ⟨rfl, hup3⟩
      go_wp2
      go_ret2
      exact ⟨ret_iI HE.out.2.symm HE.out.1.symm, hup.trans hup3⟩

set_option maxRecDepth 100000 in
set_option maxHeartbeats 4000000 in
theorem implStemmaCost_any (B : Option Addr) (o : List Int) (cb : Nat) (A : Option Addr) (l : List Cp) (c : Nat) (D : Option Addr) (ps : List Int) (cd lo hi lo' hi' lo2 hi2 : Nat) (w : World) (hr' : RdI w lo' hi' B o) (hhi' : hi' ≤ w.heap.size) (hn' : o.length ≤ 2000000) (hr : RdC w lo hi A l) (hhi : hi ≤ w.heap.size) (hf : Fit l c) (hr2 : RdI w lo2 hi2 D ps) (hhi2 : hi2 ≤ w.heap.size) (hn2 : ps.length ≤ 2000000) :
    Calls Tryd.prog 18 #[.slice B o.length cb, .slice A l.length c, .slice D ps.length cd] w fun e w' => e = .returned (.tuple #[.int .i64 (scV o (l.map Cp.p) ps), .int .i64 (scC o (l.map Cp.p) ps)]) ∧ Up w w' := by
  have HS := Lib.hid (implIsStemma_any A l c D ps cd lo hi lo2 hi2 w hr hhi hf hr2 hhi2 hn2)
  have HOR := Lib.hid (fun (w1 : World) (hu : Up w w1) => isOriginal_any B o cb A l c lo hi lo' hi' w1 (hr'.up hu hhi') (Nat.le_trans hhi' hu.size) hn' (hr.up hu hhi) hf)
  rcases h1 : isB (l.map Cp.p) ps with _ | _
  · have HE := Lib.hid (sc_1 (o := o) (P := l.map Cp.p) (ps := ps) (by rw [h1]; rfl))
    clear hf
    go_enter Tryd.func18, Tryd.ntmps18
    go_wp2_with fail
    refine HS.out.mono ?_
    rintro e w1 ⟨rfl, hup⟩
    go_wp2
    go_ret2
    exact ⟨ret_iI HE.out.2.symm HE.out.1.symm, hup⟩
  · obtain ⟨hA, hlen, hp, -⟩ := is_inv h1
    rcases h2 : orB o (l.map Cp.p) with _ | _
    · have HE := Lib.hid (sc_1 (o := o) (P := l.map Cp.p) (ps := ps) (by rw [h2, Bool.and_false]))
      clear hf hA hlen hp
      go_enter Tryd.func18, Tryd.ntmps18
      go_wp2_with fail
      refine HS.out.mono ?_
      rintro e w1 ⟨rfl, hup⟩
      go_wp2_with fail
      refine (HOR.out w1 hup).mono ?_
      rintro e w2 ⟨rfl, hup2⟩
      go_wp2
      go_ret2
      exact ⟨ret_iI HE.out.2.symm HE.out.1.symm, hup.trans hup2⟩
    · have HE := Lib.hid (sc_0 (o := o) (P := l.map Cp.p) (ps := ps) (by rw [h1, h2]; rfl))
      have HC := Lib.hid (fun (w1 : World) (hu : Up w w1) => stemmaCost_any B o cb A l c D ps cd lo hi lo' hi' lo2 hi2 w1 (hr'.up hu hhi') (Nat.le_trans hhi' hu.size) (hr.up hu hhi) (Nat.le_trans hhi hu.size) hf (hr2.up hu hhi2) (Nat.le_trans hhi2 hu.size) hA h2 (by simpa using hlen) hp)
      clear hf hA hlen hp
      go_enter Tryd.func18, Tryd.ntmps18
      go_wp2_with fail
      refine HS.out.mono ?_
      rintro e w1 ⟨rfl, hup⟩
      go_wp2_with fail
      refine (HOR.out w1 hup).mono ?_
      rintro e w2 ⟨rfl, hup2⟩
      go_wp2_with fail
      refine (HC.out w2 (hup.trans hup2)).mono ?_
      rintro e w3 ⟨rfl, hup3⟩
      go_wp2
      go_ret2
      exact ⟨ret_iI HE.out.2.symm HE.out.1.symm, hup.trans (hup2.trans hup3)⟩
end Go.Proofs.YtncmenfdnpmblaaDoor
