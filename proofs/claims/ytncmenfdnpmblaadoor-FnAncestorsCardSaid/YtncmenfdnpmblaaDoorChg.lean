/- ChangesOn: the reference's and the program's walks. -/
import Derived.Test.YtncmenfdnpmblaaDoorCost
import Derived.Test.YtncmenfdnpmblaaDoorCopy
namespace Go.Proofs.YtncmenfdnpmblaaDoor
open Go.RowKit Go.Sort

theorem OwnC.caps {w : World} {g0 n c : Nat} {A : Option Addr} {L : List Cp} (h : OwnC w g0 A n c L) : ∀ y ∈ L, y.ok' := by
  obtain ⟨g, h1, h2, h3, h4, h5⟩ := h
  exact fun y hy => (h3 y hy).1
def cgC (o : List Int) (P : List PC) (ps : List Int) (i : Int) : Int := stC (orB o P) P ps [i]
def cgL (o : List Int) (P : List PC) (ps : List Int) (i : Int) : List Int := if cgC o P ps i = 0 then chL o P (upS ps i) i else []
theorem cg_no {o : List Int} {P : List PC} {ps : List Int} {i : Int} (h : (cgC o P ps i != 0) = true) : cgL o P ps i = [] := by unfold cgL; rw [if_neg (by simpa using h)]
theorem cg_yes {o : List Int} {P : List PC} {ps : List Int} {i : Int} (h : cgC o P ps i = 0) : cgL o P ps i = chL o P (upS ps i) i := by unfold cgL; rw [if_pos h]
theorem cg_len (o : List Int) (P : List PC) (ps : List Int) (i : Int) : (cgL o P ps i).length ≤ o.length := by
  unfold cgL; split
  · exact pl_len _ _
  · simp
theorem cg_spec (o : List Int) (P : List PC) (ps : List Int) (i : Int) : stC (orS o P) P ps [i, i] = cgC o P ps i := by
  unfold cgC
  rw [stC_dup]
  rcases h : isB P ps with _ | _
  · rw [stC_1 h, stC_1 h]
  · rw [or_eq (is_inv h).1]

set_option maxRecDepth 100000 in
set_option maxHeartbeats 1000000 in
theorem source_ex' (B : Option Addr) (o : List Int) (cb : Nat) (A : Option Addr) (l : List Cp) (c lo hi lo' hi' : Nat) (p : Int) (w : World) (hr' : RdI w lo' hi' B o) (hhi' : hi' ≤ w.heap.size) (hr : RdC w lo hi A l) (hhi : hi ≤ w.heap.size) (_hn : l.length ≤ 2000000) (h0 : -1 ≤ p) (h1 : p < l.length) (hco : o.length ≤ cb ∧ cb ≤ maxLen) (hcap : ∀ d ∈ l, d.ok') :
    ∃ A2 rs c2 lo2 hi2, rs = rdS o (l.map Cp.p) p ∧ (rs.length ≤ c2 ∧ c2 ≤ maxLen) ∧ RdI w lo2 hi2 A2 rs ∧ hi2 ≤ w.heap.size ∧ ∀ w1, Up w w1 → Calls Tryd.prog 54 #[.slice B o.length cb, .slice A l.length c, .int .i64 p] w1 fun e w' => e = .returned (.slice A2 rs.length c2) ∧ w1 = w' := by
  by_cases e : p = -1
  · subst e
    refine ⟨B, o, cb, lo', hi', rfl, hco, hr', hhi', fun w1 _ => ?_⟩
    go_enter Tryd.func54, Tryd.ntmps54
    go_wp2
    go_ret
    exact ⟨rfl, rfl⟩
  · obtain ⟨k, rfl⟩ : ∃ k : Nat, p = (k : Int) := ⟨p.toNat, by omega⟩
    have hk : k < l.length := by omega
    obtain ⟨b, off, x, rfl, -, -, hx, ix, q0, q1⟩ := hr.at_ hk
    refine ⟨x.A, x.rs, x.c, lo, hi, (rdS_c (getp hx)).symm, hcap x (List.mem_of_getElem? hx), ix, hhi, fun w1 hu => ?_⟩
    have e' : ((k : Int) == -1) = false := by simp
    have y1 := hu.cell q1
    clear hx ix q0 q1 e
    go_enter Tryd.func54, Tryd.ntmps54
    go_wp2
    go_ret
    exact ⟨rfl, rfl⟩

/-- two slices of one reading each -/
theorem one_diff (x y : Int) : (pl (dfB [x] [y]) 1).length = if dfI x y = true then 1 else 0 := by
  have e : dfB [x] [y] 0 = dfI x y := rfl
  rcases h : dfI x y with _ | _
  · rw [pl_no (by rw [e]; exact h)]; simp [pl]
  · rw [pl_yes (by rw [e]; exact h)]; simp [pl]
theorem run_sliceOne {P : Program} {t : TypeId} (ht : P.underlying t = some (.slice (P.elem t))) (hs : ∀ w, (sizeOf (P.elem t)).run P w = .ok 1 w) (b off n c k : Nat) (hk : k + 1 ≤ c) (w : World) :
    (Instr.sliceAt t (.slice (some ⟨b, off, none⟩) n c) (some (.int .i64 (k : Int))) (some (.int .i64 ((k : Int) + 1))) none).run P w = .ok (.slice (some ⟨b, off + k, none⟩) 1 (c - k)) w := by
  rw [run_sliceAt_slice w t _ _ _ _ ht, run_slice_lh w t _ n c ht .i64 .i64 (k : Int) ((k : Int) + 1) (by omega) (by omega) (by omega), hs]
  have h1 : ((k : Int) + 1).toNat = k + 1 := by omega
  have h2 : ¬ c = k := by omega
  simp [Result.andThen, sliced, h1, h2, Addr.add]
theorem Rd.one {w : World} {lo hi b off : Nat} {l : List Int} {k : Nat} {x : Int} (h : RdI w lo hi (some ⟨b, off, none⟩) l) (hx : l[k]? = some x) : RdI w lo hi (some ⟨b, off + k, none⟩) [x] := by
  have h1 := (Rd.drop (k := k) h).take 1
  have hk := (List.getElem?_eq_some_iff.1 hx).1
  rw [List.drop_eq_getElem_cons hk, (List.getElem?_eq_some_iff.1 hx).2, Nat.mul_one] at h1
  exact h1

set_option maxRecDepth 100000 in
set_option maxHeartbeats 4000000 in
theorem specChanges_any (B : Option Addr) (o : List Int) (cb : Nat) (A : Option Addr) (l : List Cp) (c : Nat) (D : Option Addr) (ps : List Int) (cd lo hi lo' hi' lo2 hi2 : Nat) (i : Int) (w : World) (hr' : RdI w lo' hi' B o) (hhi' : hi' ≤ w.heap.size) (hn' : o.length ≤ 2000000) (hob : o.length ≤ cb) (hobm : cb ≤ maxLen) (hr : RdC w lo hi A l) (hhi : hi ≤ w.heap.size) (hf : Fit l c) (hcap : ∀ d ∈ l, d.ok') (hr2 : RdI w lo2 hi2 D ps) (hhi2 : hi2 ≤ w.heap.size) (hn2 : ps.length ≤ 2000000) :
    Calls Tryd.prog 16 #[.slice B o.length cb, .slice A l.length c, .slice D ps.length cd, .int .i64 i] w fun e w' => ∃ v, e = .returned (.tuple #[v, .int .i64 (cgC o (l.map Cp.p) ps i)]) ∧ w'.ownsRow w.heap.size 2 1 v (cgL o (l.map Cp.p) ps i).length ((cgL o (l.map Cp.p) ps i).flatMap intCells) ∧ Up w w' := by
  obtain ⟨i0, hi0, hz0, hz1, hz2⟩ := info_parts infoInt
  have HOR := Lib.hid (l22Original_any B o cb A l c lo hi lo' hi' w hr' hn' hr hf)
  have hc := l23Code_any (orS o (l.map Cp.p)) A l c D ps cd lo hi lo2 hi2 i i w hr hhi hf hr2 hhi2 hn2
  rw [cg_spec] at hc
  have HC := Lib.hid hc
  clear hc
  by_cases h0 : cgC o (l.map Cp.p) ps i = 0
  · have h0' : (cgC o (l.map Cp.p) ps i != 0) = false := by simpa using h0
    obtain ⟨his, hO, hix⟩ := stC_inv (show stC (orB o (l.map Cp.p)) (l.map Cp.p) ps [i] = 0 from h0)
    obtain ⟨hA, hlen, hpar, -⟩ := is_inv his
    have hi1 := hix i (by simp)
    simp only [List.length_map] at hi1 hlen
    have HE := Lib.hid (cg_yes h0)
    have H0 := Lib.hid h0
    obtain ⟨i, rfl⟩ := Int.eq_ofNat_of_zero_le hi1.1
    have hil : i < l.length := by omega
    have hip : i < ps.length := by omega
    have ho20 := orB_20 hO
    have HA := Lib.hid hA
    have HO := Lib.hid hO
    have HP := Lib.hid hpar
    have HF := Lib.hid hf
    have HCAP := Lib.hid hcap
    have hll : ps.length ≤ l.length := by omega
    clear h0 hix his hA hlen hpar hO hf hcap
    go_enter Tryd.func16, Tryd.ntmps16
    go_wp2_with fail
    refine HOR.out.mono ?_
    rintro e w0 ⟨rfl, rfl⟩
    go_wp2_with fail
    refine HC.out.mono ?_
    rintro e w1 ⟨rfl, hup⟩
    obtain ⟨b, off, x, rfl, -, -, hx, y0⟩ := (hr2.up hup hhi2).int hip
    have hxr := parB_at HP.out hx
    have hxl : x < l.length := by omega
    have HX := Lib.hid (upS_of hx)
    obtain ⟨A2, rs, c2, lo3, hi3, hrs, hcc, hr3, hhi3, hcall⟩ := source_ex' B o cb A l c lo hi lo' hi' x w1 (hr'.up hup hhi') (Nat.le_trans hhi' hup.size) (hr.up hup hhi) (Nat.le_trans hhi hup.size) HF.out.2.2.1 hxr.1 hxl ⟨hob, hobm⟩ HCAP.out
    have HS := Lib.hid (hcall w1 (Up.refl _))
    go_wp2_with fail
    refine HS.out.mono ?_
    rintro e w2 ⟨rfl, rfl⟩
    have e1 : rs.length = o.length := by rw [hrs]; exact rdS_len HA.out HO.out hxr.1 (by simpa using hxl)
    have HRS := Lib.hid hrs
    have HR3 := Lib.hid hr3
    have HL1 := Lib.hid e1
    have e1' : rs.length ≤ 20 := by omega
    clear hx hrs hr3 hcall y0 h0' e1
    go_wp2
    have hown0 := World.ownsRow_lit (base := w1.heap.size) (e := 2) (size := 1) w1 #[] 0 (Nat.le_refl _) (by simp [maxLen]) rfl
    have hup0 := (Up.refl w1).allocs (.cells #[] 2)
    obtain ⟨v0, hv0⟩ : ∃ v, v = Value.slice (some ⟨w1.heap.size, 0, none⟩) 0 0 := ⟨_, rfl⟩
    rw [← hv0] at hown0 ⊢
    generalize w1.alloc (.cells #[] 2) = w2 at *
    clear hv0
    go_loopw [12, 13] (fun out k wr => ∃ q : Nat, q ≤ rs.length ∧ k = .int .i64 q ∧ wr.ownsRow w1.heap.size 2 1 out (pl (dfB rs (rdS o (l.map Cp.p) (i : Int))) q).length ((pl (dfB rs (rdS o (l.map Cp.p) (i : Int))) q).flatMap intCells) ∧ Up w1 wr) (fun _ k _ => rs.length - (intOf k).toNat)
    case atStart => exact ⟨0, Nat.zero_le _, rfl, hown0, hup0⟩
    case round =>
      obtain ⟨q, hq, rfl, hown, hupr⟩ := hrel
      have hupx := hup.trans hupr
      have hpl := pl_len (dfB rs (rdS o (l.map Cp.p) (i : Int))) q
      by_cases hlt : q < rs.length
      · obtain ⟨b2, off2, y, rfl, -, -, hy, iy, q0, q1⟩ := (hr.up hupx hhi).at_ hil
        have e2 : y.rs.length = o.length := orB_same HA.out HO.out (getp hy)
        have hqy : q < y.rs.length := by have := HL1.out; omega
        have hyc := HCAP.out y (List.mem_of_getElem? hy)
        obtain ⟨b5, o5, a5, hA5, -, -, ha5, u5⟩ := iy.int hqy
        obtain ⟨b6, o6, a6, rfl, -, -, ha6, u6⟩ := (HR3.out.up hupr hhi3).int hlt
        have HDF := Lib.hid (show dfB rs (rdS o (l.map Cp.p) (i : Int)) q = dfI a5 a6 by rw [rdS_c (getp hy), dfB_comm]; exact dfB_of ha5 ha6)
        obtain ⟨yn, yA, yc, yrs⟩ := y
        simp only [Cp.ok'] at q0 q1 e2 iy hA5 ha5 hyc hqy
        subst hA5
        have HIY := Lib.hid (Rd.one iy ha5)
        have HR6 := Lib.hid (Rd.one (HR3.out.up hupr hhi3) ha6)
        have hh := Nat.le_trans hhi hupx.size
        have hh3 := Nat.le_trans hhi3 hupr.size
        have hE := fun dd os => l22Differences_any (some ⟨b5, o5 + q, none⟩) (some ⟨b6, o6 + q, none⟩) [a5] [a6] (yc - q) (c2 - q) lo hi lo3 hi3 (grow (redrawn wr dd) os) (HIY.out.up (below_regrown _ _ _) hh) (Nat.le_trans hh (below_regrown _ _ _).size) (HR6.out.up (below_regrown _ _ _) hh3) (Nat.le_trans hh3 (below_regrown _ _ _).size) (Nat.le_refl _) (by simp)
        have Q1 := cell_regrown q1
        have R5 := fun wx => run_sliceOne (P := Tryd.prog) (t := 25) Tryd.underlying25 (fun _ => rfl) b5 o5 yrs.length yc q (by omega) wx
        have R6 := fun wx => run_sliceOne (P := Tryd.prog) (t := 25) Tryd.underlying25 (fun _ => rfl) b6 o6 rs.length c2 q (by omega) wx
        have HWR := Lib.hid (show IntKind.i64.wrap ((q : Int) + 1) = (q : Int) + 1 from IntWalk.i64_in _ (by omega))
        have hcc1 : ¬ yc = q := by omega
        have hcc2 : ¬ c2 = q := by omega
        have hcc3 := hyc.1
        have hcc4 := hyc.2
        have hcc5 := hcc.1
        have hcc6 := hcc.2
        unfold maxLen at hcc4 hcc6
        clear hy iy ha5 ha6 u5 u6 q0 e2 hyc
        rcases hdf : dfI a5 a6 with _ | _
        · have hone : (pl (dfB [a5] [a6]) [a5].length).length = 0 := by rw [show [a5].length = 1 from rfl, one_diff, hdf]; rfl
          simp only [hone] at hE
          have cD : ∀ dd os, Calls Tryd.prog 55 #[.slice (some ⟨b5, o5 + q, none⟩) 1 (yc - q), .slice (some ⟨b6, o6 + q, none⟩) 1 (c2 - q)] (grow (redrawn wr dd) os) fun e w'' => e = .returned (.int .i64 0) ∧ ∃ p : Regrown, w'' = grow (redrawn wr p.d) p.os :=
            fun dd os => Calls.regrown_of (hE dd os)
          have HN := Lib.hid hdf
          clear hE hone hdf
          have hwr := HWR.out
          go_wp2_with fail
          refine wp_region_quiet_below (by kernel_rfl) (by kernel_rfl) ?_
          repeat (quiet_step ((go_at_call 55; exact cD _ _)))
          refine wpQuiet_nil ?_
          intro w7 hw7
          obtain ⟨⟨dq, osq⟩, hw7⟩ := hw7
          have hup7 : Up wr w7 := by rw [hw7]; exact below_regrown _ _ _
          clear hw7 Q1 q1 cD hwr R5 R6
          go_wp2
          go_roundw
          case rel => exact ⟨q + 1, by omega, by go_num, by rw [pl_no (by rw [HDF.out]; exact HN.out)]; exact own_up hown hup7, hupr.trans hup7⟩
          case measure => simp [intOf]; omega
        · have hone : (pl (dfB [a5] [a6]) [a5].length).length = 1 := by rw [show [a5].length = 1 from rfl, one_diff, hdf]; rfl
          simp only [hone] at hE
          have cD : ∀ dd os, Calls Tryd.prog 55 #[.slice (some ⟨b5, o5 + q, none⟩) 1 (yc - q), .slice (some ⟨b6, o6 + q, none⟩) 1 (c2 - q)] (grow (redrawn wr dd) os) fun e w'' => e = .returned (.int .i64 1) ∧ ∃ p : Regrown, w'' = grow (redrawn wr p.d) p.os :=
            fun dd os => Calls.regrown_of (hE dd os)
          have HN := Lib.hid hdf
          clear hE hone hdf
          have hwr := HWR.out
          go_wp2_with fail
          refine wp_region_quiet_below (by kernel_rfl) (by kernel_rfl) ?_
          repeat (quiet_step ((go_at_call 55; exact cD _ _)))
          refine wpQuiet_nil ?_
          intro w7 hw7
          obtain ⟨⟨dq, osq⟩, hw7⟩ := hw7
          have hup7 : Up wr w7 := by rw [hw7]; exact below_regrown _ _ _
          clear hw7 Q1 q1 cD hwr R5 R6
          have hown3 := own_up hown hup7
          have hupz := hupr.trans hup7
          have n1 : (pl (dfB rs (rdS o (l.map Cp.p) (i : Int))) q).length + 1 ≤ maxLen := by unfold maxLen; omega
          have n2 : ((pl (dfB rs (rdS o (l.map Cp.p) (i : Int))) q).length + 1) * 8 ≤ 140737488355328 := by omega
          have n3 : w1.heap.size ≤ (w7.alloc (.cells #[.int .i64 (q : Int)] 2)).heap.size := (hupz.allocs _).size
          go_wp2_with ((at_builtin; refine wpList_append_own _ rfl _ _ 25 rfl w1.heap.size 2 i0 _ 1 8 Tryd.underlying25 hi0 hz0 hz1 hz2 rfl (by decide) _ _ _ rfl (hown3.alloc _) ⟨w7.heap.size, 0, none⟩ 1 1 [.int .i64 (q : Int)] rfl rfl (cell_one_new _ _ _) (by simp [Value.oneCell']) n1 n2 n3 ?_))
          intro v' w8 hown' hgrow _
          have ho := pl_step (HDF.out.trans HN.out) hown'
          have hu := (hupz.allocs (.cells #[.int .i64 (q : Int)] 2)).grown hgrow (fun k hk => (hown3.lt k hk).1)
          clear hown' hgrow
          go_wp2
          go_roundw
          case rel => exact ⟨q + 1, by omega, by go_num, ho, hu⟩
          case measure => simp [intOf]; omega
      · have HQ := Lib.hid (show pl (dfB rs (rdS o (l.map Cp.p) (i : Int))) q = cgL o (l.map Cp.p) ps (i : Int) by rw [HE.out, HX.out]; unfold chL; rw [← HRS.out, ← HL1.out, show q = rs.length by omega])
        rw [HQ.out] at hown
        go_wp2
        go_ret2
        exact ⟨_, ret_vI H0.out.symm, own_base hown hup.size, hupx⟩
  · have h0' : (cgC o (l.map Cp.p) ps i != 0) = true := by simpa using h0
    have H := Lib.hid (cg_no h0')
    clear h0 hf
    go_enter Tryd.func16, Tryd.ntmps16
    go_wp2_with (first | (go_at_call 53; refine HOR.out.mono ?_; rintro e w0 ⟨rfl, rfl⟩) | (go_at_call 47; refine HC.out.mono ?_; rintro e w1 ⟨rfl, hup⟩))
    go_ret2
    exact ⟨_, rfl, by rw [H.out]; exact World.ownsRow_nil _ _ _ _, by assumption⟩

set_option maxRecDepth 100000 in
set_option maxHeartbeats 4000000 in
theorem implChanges_any (B : Option Addr) (o : List Int) (cb : Nat) (A : Option Addr) (l : List Cp) (c : Nat) (D : Option Addr) (ps : List Int) (cd lo hi lo' hi' lo2 hi2 : Nat) (i : Int) (w : World) (hr' : RdI w lo' hi' B o) (hhi' : hi' ≤ w.heap.size) (hn' : o.length ≤ 2000000) (hr : RdC w lo hi A l) (hhi : hi ≤ w.heap.size) (hf : Fit l c) (hr2 : RdI w lo2 hi2 D ps) (hhi2 : hi2 ≤ w.heap.size) (hn2 : ps.length ≤ 2000000) :
    Calls Tryd.prog 15 #[.slice B o.length cb, .slice A l.length c, .slice D ps.length cd, .int .i64 i] w fun e w' => ∃ v, e = .returned (.tuple #[v, .int .i64 (cgC o (l.map Cp.p) ps i)]) ∧ w'.ownsRow w.heap.size 2 1 v (cgL o (l.map Cp.p) ps i).length ((cgL o (l.map Cp.p) ps i).flatMap intCells) ∧ Up w w' := by
  have HS := Lib.hid (implIsStemma_any A l c D ps cd lo hi lo2 hi2 w hr hhi hf hr2 hhi2 hn2)
  have HOR := Lib.hid (fun (w1 : World) (hu : Up w w1) => isOriginal_any B o cb A l c lo hi lo' hi' w1 (hr'.up hu hhi') (Nat.le_trans hhi' hu.size) hn' (hr.up hu hhi) hf)
  have HCS := Lib.hid (fun (w1 : World) (hu : Up w w1) => checkStemma_any A l c D ps cd (some ⟨w1.heap.size, 0, none⟩) [i] 1 lo hi lo2 hi2 w1.heap.size (w1.heap.size + 1) (w1.alloc (.cells #[.int .i64 i] 2)) (hr.up (hu.trans (Up.alloc _ _)) hhi) (Nat.le_trans hhi (hu.trans (Up.alloc _ _)).size) hf (hr2.up (hu.trans (Up.alloc _ _)) hhi2) (Nat.le_trans hhi2 (hu.trans (Up.alloc _ _)).size) hn2 (one_rd' w1 i) (by simp) (by simp))
  rcases h1 : isB (l.map Cp.p) ps with _ | _
  · have hk : cgC o (l.map Cp.p) ps i = 1 := stC_1 h1
    have hk2 : stC true (l.map Cp.p) ps [i] = 1 := stC_1 h1
    have HE := Lib.hid (cg_no (o := o) (P := l.map Cp.p) (ps := ps) (i := i) (by rw [hk]; rfl))
    have HK := Lib.hid hk
    simp only [hk2] at HCS
    clear hf hk hk2
    go_enter Tryd.func15, Tryd.ntmps15
    go_wp2_with fail
    refine HS.out.mono ?_
    rintro e w1 ⟨rfl, hup⟩
    go_wp2_with fail
    refine (HCS.out w1 hup).mono ?_
    rintro e w2 ⟨rfl, hup2⟩
    go_wp2
    go_ret2
    exact ⟨_, ret_vI HK.out.symm, by rw [HE.out]; exact World.ownsRow_nil _ _ _ _, hup.trans ((Up.alloc _ _).trans hup2)⟩
  · obtain ⟨hA, hlen, hp, -⟩ := is_inv h1
    rcases h2 : orB o (l.map Cp.p) with _ | _
    · have hk : cgC o (l.map Cp.p) ps i = 1 := by unfold cgC; rw [stC_0 h1]; exact cd_1 (by rw [h2, Bool.and_false])
      have HE := Lib.hid (cg_no (o := o) (P := l.map Cp.p) (ps := ps) (i := i) (by rw [hk]; rfl))
      have HK := Lib.hid hk
      clear hf hA hlen hp hk
      go_enter Tryd.func15, Tryd.ntmps15
      go_wp2_with fail
      refine HS.out.mono ?_
      rintro e w1 ⟨rfl, hup⟩
      go_wp2_with fail
      refine (HOR.out w1 hup).mono ?_
      rintro e w2 ⟨rfl, hup2⟩
      go_wp2
      go_ret2
      exact ⟨_, ret_vI HK.out.symm, by rw [HE.out]; exact World.ownsRow_nil _ _ _ _, hup.trans hup2⟩
    · have hk : stC true (l.map Cp.p) ps [i] = cgC o (l.map Cp.p) ps i := by unfold cgC; rw [h2]
      simp only [hk] at HCS
      clear hk
      by_cases h0 : cgC o (l.map Cp.p) ps i = 0
      · have h0' : (cgC o (l.map Cp.p) ps i != 0) = false := by simpa using h0
        obtain ⟨-, -, hix⟩ := stC_inv (show stC (orB o (l.map Cp.p)) (l.map Cp.p) ps [i] = 0 from h0)
        have hi1 := hix i (by simp)
        simp only [List.length_map] at hi1 hlen
        have HE := Lib.hid (cg_yes h0)
        have H0 := Lib.hid h0
        obtain ⟨i, rfl⟩ := Int.eq_ofNat_of_zero_le hi1.1
        have hil : i < l.length := by omega
        have hip : i < ps.length := by omega
        have HA := Lib.hid hA
        have HO := Lib.hid h2
        have HP := Lib.hid hp
        have HF := Lib.hid hf
        have hll : ps.length ≤ l.length := by omega
        clear h0 hix hA hlen hp hf
        go_enter Tryd.func15, Tryd.ntmps15
        go_wp2_with fail
        refine HS.out.mono ?_
        rintro e w1 ⟨rfl, hup⟩
        go_wp2_with fail
        refine (HOR.out w1 hup).mono ?_
        rintro e w2 ⟨rfl, hup2⟩
        have hup12 := hup.trans hup2
        go_wp2_with fail
        refine (HCS.out w2 hup12).mono ?_
        rintro e w3 ⟨rfl, hup3⟩
        have hup13 := hup12.trans ((Up.alloc _ _).trans hup3)
        obtain ⟨b, off, x, rfl, -, -, hx, y0⟩ := (hr2.up hup13 hhi2).int hip
        have hxr := parB_at HP.out hx
        have HX := Lib.hid (upS_of hx)
        have HC := Lib.hid (changesOn_any B o cb A l c lo hi lo' hi' x i w3 (hr'.up hup13 hhi') (Nat.le_trans hhi' hup13.size) (hr.up hup13 hhi) (Nat.le_trans hhi hup13.size) HF.out HA.out HO.out hxr.1 (by omega) hil)
        clear hx
        go_wp2_with fail
        refine HC.out.mono ?_
        rintro e w4 ⟨v, rfl, ho, hup4⟩
        have HW := Lib.hid ho
        clear ho y0 h0'
        go_wp2
        go_ret2
        exact ⟨v, ret_vI H0.out.symm, by rw [HE.out, HX.out]; exact own_base HW.out hup13.size, hup13.trans hup4⟩
      · have h0' : (cgC o (l.map Cp.p) ps i != 0) = true := by simpa using h0
        have H := Lib.hid (cg_no h0')
        clear h0 hf hA hlen hp
        go_enter Tryd.func15, Tryd.ntmps15
        go_wp2_with fail
        refine HS.out.mono ?_
        rintro e w1 ⟨rfl, hup⟩
        go_wp2_with fail
        refine (HOR.out w1 hup).mono ?_
        rintro e w2 ⟨rfl, hup2⟩
        have hup12 := hup.trans hup2
        go_wp2_with fail
        refine (HCS.out w2 hup12).mono ?_
        rintro e w3 ⟨rfl, hup3⟩
        go_wp2
        go_ret2
        exact ⟨_, rfl, by rw [H.out]; exact World.ownsRow_nil _ _ _ _, hup12.trans ((Up.alloc _ _).trans hup3)⟩
end Go.Proofs.YtncmenfdnpmblaaDoor
