/- Whether one copy may derive from another: the program's and the reference's walks. -/
import Derived.Test.YtdjhenjgccenhaaDoorErr
import Derived.Test.YtdjhenjgccenhaaDoorCntD
import Derived.Deep.RegionHeld3
namespace Go.Proofs.YtdjhenjgccenhaaDoor
open Go.RowKit Go.Sort

theorem pl_mem {p : Nat → Bool} {n : Nat} {z : Int} (h : z ∈ pl p n) : ∃ q : Nat, q < n ∧ z = q := by
  unfold pl at h
  obtain ⟨q, hq, rfl⟩ := List.mem_map.1 h
  exact ⟨q, by simpa using (List.mem_filter.1 hq).1, rfl⟩
def hitB (a o : List Int) (z : Int) : Bool := match a[z.toNat]?, o[z.toNat]? with | some x, some y => x == y | _, _ => false
theorem hit_of {a o : List Int} {q : Nat} {x y : Int} (hx : a[q]? = some x) (hy : o[q]? = some y) : hitB a o (q : Int) = (x == y) := by simp [hitB, hx, hy]
def deB (a b o : List Int) : Bool := !(pl (dfB b o) o.length).any (hitB a o)

set_option maxRecDepth 100000 in
set_option maxHeartbeats 4000000 in
theorem l22Derives_any (A A2 B : Option Addr) (an bn : ByteArray) (a b o : List Int) (ca ca2 cb lo hi lo2 hi2 lo' hi' : Nat) (w : World) (hr : RdI w lo hi A a) (hhi : hi ≤ w.heap.size) (hr2 : RdI w lo2 hi2 A2 b) (hhi2 : hi2 ≤ w.heap.size) (hr' : RdI w lo' hi' B o) (hhi' : hi' ≤ w.heap.size) (hab : o.length ≤ a.length) (hob : o.length ≤ b.length) (hja : b.length ≤ 2000000) (hja2 : a.length ≤ 2000000) (ho : o.all rdB = true) :
    Calls Tryd.prog 70 #[.slice B o.length cb, .agg #[.string an, .slice A a.length ca], .agg #[.string bn, .slice A2 b.length ca2]] w fun e w' => e = .returned (.bool (deB a b o)) ∧ Up w w' := by
  have hu0 := ((Up.refl w).allocs (.cells #[.string an, .slice A a.length ca] 43)).allocs (.cells #[.string bn, .slice A2 b.length ca2] 43)
  have c1 : ((w.alloc (.cells #[.string an, .slice A a.length ca] 43)).alloc (.cells #[.string bn, .slice A2 b.length ca2] 43)).cell? ⟨w.heap.size, 1, none⟩ = some (.slice A a.length ca) := by go_simp
  have HE := Lib.hid (l22Errors_any A2 B bn b o ca2 cb lo2 hi2 lo' hi' _ (hr2.up hu0 hhi2) (Nat.le_trans hhi2 hu0.size) (hr'.up hu0 hhi') (Nat.le_trans hhi' hu0.size) hob hja ho)
  have C1 := Lib.hid c1
  have hpl := pl_len (dfB b o) o.length
  clear c1 ho
  obtain ⟨L, hL⟩ : ∃ L, L = pl (dfB b o) o.length := ⟨_, rfl⟩
  have hmem : ∀ z ∈ L, ∃ q : Nat, q < o.length ∧ z = q := fun z hz => pl_mem (by rw [← hL]; exact hz)
  have hde : deB a b o = !L.any (hitB a o) := by unfold deB; rw [hL]
  have HDE := Lib.hid hde
  rw [← hL] at HE hpl
  clear hde hL
  go_enter Tryd.func70, Tryd.ntmps70
  go_wp2_with fail
  refine HE.out.mono ?_
  rintro e w1 ⟨v, rfl, ho, hup⟩
  obtain ⟨A', c', rfl, hcc, hcm, -, -⟩ := own_form ho
  have hLr := Rd.own int_len ho
  have hc1 := hup.cell C1.out
  have hupx := hu0.trans hup
  clear ho
  go_wp2
  go_loopw [8] (fun i wr => ∃ k : Nat, k ≤ L.length ∧ i = .int .i64 k ∧ (∀ j x, j < k → L[j]? = some x → hitB a o x = false) ∧ Up w1 wr) (fun i _ => L.length - (intOf i).toNat)
  case atStart => exact ⟨0, Nat.zero_le _, rfl, fun j x h => absurd h (by omega), Up.refl _⟩
  case round =>
    obtain ⟨k, hk, rfl, ha, hupr⟩ := hrel
    have HA := Lib.hid ha
    clear ha
    by_cases hlt : k < L.length
    · obtain ⟨b0, o0, z, rfl, -, -, hz, z0⟩ := (hLr.up hupr (Nat.le_refl _)).int hlt
      obtain ⟨q, hq, rfl⟩ := hmem z (List.mem_of_getElem? hz)
      have HZ := Lib.hid hz
      have hqa : q < a.length := by omega
      obtain ⟨b1, o1, x, rfl, -, -, hx, p0⟩ := (hr.up (hupx.trans hupr) hhi).int hqa
      obtain ⟨b2, o2, y, rfl, -, -, hy, q0⟩ := (hr'.up (hupx.trans hupr) hhi').int hq
      have HH := Lib.hid (hit_of hx hy)
      have hcr := hupr.cell hc1
      have Z0 := cell_regrown z0
      have P0 := cell_regrown p0
      have Q0 := cell_regrown q0
      have CR := cell_regrown hcr
      clear hz hx hy
      go_wp2_with fail
      refine wp_region_quiet_below (by kernel_rfl) (by kernel_rfl) ?_
      repeat (first | go_big_quiet_step (fail) | quiet_step (fail))
      refine wpQuiet_nil ?_
      intro w3 hw3
      obtain ⟨⟨dq, osq⟩, hw3⟩ := hw3
      have hup3 : Up wr w3 := by rw [hw3]; exact below_regrown _ _ _
      clear hw3 Z0 P0 Q0 CR z0 p0 q0 hcr
      go_wp2
      · have hh : (x == y) = true := by assumption
        have H := Lib.hid hh
        clear hh
        go_ret
        have hany : L.any (hitB a o) = true := by rw [List.any_eq_true]; exact ⟨_, List.mem_of_getElem? HZ.out, by rw [HH.out]; exact H.out⟩
        exact ⟨ret_bool (by rw [HDE.out, hany]; rfl), hupx.trans (hupr.trans hup3)⟩
      · have hh : (x == y) = false := by assumption
        have H := Lib.hid hh
        clear hh
        go_roundw
        case rel => exact ⟨k + 1, by omega, by go_num, fun j x hj hx => by
          rcases Nat.lt_or_ge j k with h | h
          · exact HA.out j x h hx
          · obtain rfl : j = k := by omega
            rw [HZ.out] at hx; cases hx; rw [HH.out]; exact H.out, hupr.trans hup3⟩
        case measure => simp [intOf]; omega
    · have hany : L.any (hitB a o) = false := by
        rw [List.any_eq_false]; intro z hz
        obtain ⟨j, hj, e⟩ := List.getElem_of_mem hz
        simpa using HA.out j z (by omega) (by rw [List.getElem?_eq_getElem hj, e])
      have H := Lib.hid hany
      clear hany
      go_wp2
      go_ret
      exact ⟨ret_bool (by rw [HDE.out, H.out]; rfl), hupx.trans hupr⟩

set_option maxRecDepth 100000 in
set_option maxHeartbeats 2000000 in
theorem derClosure_any (A B : Option Addr) (l : List Cp) (o : List Int) (d : Cp) (c cb lo hi lo' hi' vl vi vo i q : Nat) (w : World) (hr : RdC w lo hi A l) (hr' : RdI w lo' hi' B o)
    (c1 : w.cell? ⟨vl, 0, none⟩ = some (.slice A l.length c)) (c2 : w.cell? ⟨vi, 0, none⟩ = some (.int .i64 (i : Int))) (c3 : w.cell? ⟨vo, 0, none⟩ = some (.slice B o.length cb)) (hi1 : i < l.length) (hd : l[i]? = some d) (hj : q < d.rs.length) (hj' : q < o.length) (_hn : l.length ≤ 2000000) (_hja : d.rs.length ≤ 2000000) :
    Calls Tryd.prog 99 #[.int .i64 (q : Int), .pointer (some ⟨vl, 0, none⟩), .pointer (some ⟨vi, 0, none⟩), .pointer (some ⟨vo, 0, none⟩)] w fun e w' => e = .returned (.bool (hitB d.rs o q)) ∧ Up w w' := by
  obtain ⟨b0, off0, d', rfl, -, -, hd', hin, -, p1⟩ := hr.at_ hi1
  rw [hd] at hd'; cases hd'
  obtain ⟨b1, o1, x, hA, -, -, hx, x0⟩ := hin.int hj
  obtain ⟨b2, o2, y, rfl, -, -, hy, q0⟩ := hr'.int hj'
  have HD := Lib.hid (hit_of hx hy)
  rw [hA] at p1
  clear hx hy hd hin hA
  have C1 := cell_regrown c1
  have C2 := cell_regrown c2
  have C3 := cell_regrown c3
  have P1 := cell_regrown p1
  have X0 := cell_regrown x0
  have Q0 := cell_regrown q0
  go_enter Tryd.func99, Tryd.ntmps99
  go_wp2_with fail
  refine wp_region_quiet_below (by kernel_rfl) (by kernel_rfl) ?_
  repeat (first | go_big_quiet_step (fail) | quiet_step (fail))
  refine wpQuiet_nil ?_
  intro w2 hw2
  obtain ⟨⟨dq, osq⟩, hw2⟩ := hw2
  have hup2 : Up w w2 := by rw [hw2]; exact below_regrown _ _ _
  clear hw2 C1 C2 C3 P1 X0 Q0
  go_wp2
  go_ret
  exact ⟨ret_bool HD.out.symm, hup2⟩

set_option maxRecDepth 100000 in
set_option maxHeartbeats 4000000 in
theorem mayDerive_any (A B : Option Addr) (l : List Cp) (o : List Int) (x y : Cp) (c cb lo hi lo' hi' i k : Nat) (w : World) (hr : RdC w lo hi A l) (hhi : hi ≤ w.heap.size) (hf : Fit l c) (hr' : RdI w lo' hi' B o) (hhi' : hi' ≤ w.heap.size) (hil : i < l.length) (hkl : k < l.length) (hx : l[i]? = some x) (hy : l[k]? = some y) (hxo : o.length ≤ x.rs.length) (hyo : o.length ≤ y.rs.length) :
    Calls Tryd.prog 72 #[.slice B o.length cb, .slice A l.length c, .int .i64 i, .int .i64 k] w fun e w' => e = .returned (.bool (!(decide (i = k)) && deB x.rs y.rs o)) ∧ Up w w' := by
  have hn := hf.2.2.1
  have hrs := hf.2.1
  have hxl := hrs x (List.mem_of_getElem? hx)
  have hyl := hrs y (List.mem_of_getElem? hy)
  have HX := Lib.hid hx
  clear hf hrs hx
  have hu := (((Up.refl w).allocs (.cells #[.slice B o.length cb] 32)).allocs (.cells #[.slice A l.length c] 25)).allocs (.cells #[.int .i64 (i : Int)] 2)
  have k1 : (((w.alloc (.cells #[.slice B o.length cb] 32)).alloc (.cells #[.slice A l.length c] 25)).alloc (.cells #[.int .i64 (i : Int)] 2)).cell? ⟨w.heap.size, 0, none⟩ = some (.slice B o.length cb) := by go_simp
  have k2 : (((w.alloc (.cells #[.slice B o.length cb] 32)).alloc (.cells #[.slice A l.length c] 25)).alloc (.cells #[.int .i64 (i : Int)] 2)).cell? ⟨w.heap.size + 1, 0, none⟩ = some (.slice A l.length c) := by go_simp
  have k3 : (((w.alloc (.cells #[.slice B o.length cb] 32)).alloc (.cells #[.slice A l.length c] 25)).alloc (.cells #[.int .i64 (i : Int)] 2)).cell? ⟨w.heap.size + 2, 0, none⟩ = some (.int .i64 (i : Int)) := by go_simp
  by_cases hik : i = k
  · have h1' : ((i : Int) == (k : Int)) = true := by simp [hik]
    have H := Lib.hid hik
    clear hik hy
    go_enter Tryd.func72, Tryd.ntmps72
    go_wp2
    go_ret
    exact ⟨ret_bool (by simp [H.out]), hu⟩
  · have h1' : ((i : Int) == (k : Int)) = false := by simp; omega
    have H := Lib.hid hik
    obtain ⟨b0, off0, y', rfl, -, -, hy', hin, p0, p1⟩ := (hr.up hu hhi).at_ hkl
    rw [hy] at hy'; cases hy'
    have HIN := Lib.hid hin
    clear hik hy hin
    obtain ⟨yn, yA, yc, yrs⟩ := y
    simp only at HIN p0 p1 hyo hyl
    go_enter Tryd.func72, Tryd.ntmps72
    go_wp2_with fail
    generalize (((w.alloc (.cells #[.slice B o.length cb] 32)).alloc (.cells #[.slice (some ⟨b0, off0, none⟩) l.length c] 25)).alloc (.cells #[.int .i64 (i : Int)] 2)) = W1 at *
    have hd : Up W1 W1.drew := (Up.refl _).drew
    have HE := Lib.hid (errorsOf_any yA B yn yrs o yc cb lo hi lo' hi' W1.drew (HIN.out.up hd (Nat.le_trans hhi hu.size)) (Nat.le_trans hhi (hu.trans hd).size) (hr'.up (hu.trans hd) hhi') (Nat.le_trans hhi' (hu.trans hd).size) hyo hyl)
    have HK := Lib.hid (fun (w2 : World) (h2 : Up W1 w2) (A' : Option Addr) (c' lo2 : Nat) (hL : RdI w2 lo2 w2.heap.size A' (pl (dfB yrs o) o.length)) =>
      containsFuncI_any A' (pl (dfB yrs o) o.length) c' lo2 w2.heap.size 99 #[.pointer (some ⟨w.heap.size + 1, 0, none⟩), .pointer (some ⟨w.heap.size + 2, 0, none⟩), .pointer (some ⟨w.heap.size, 0, none⟩)] (hitB x.rs o) w2 hL (Nat.le_refl _) (by have := pl_len (dfB yrs o) o.length; omega) (fun _ _ => by kernel_rfl)
        (fun z hz w3 hw3 => by
          obtain ⟨q, hq, rfl⟩ := pl_mem hz
          exact derClosure_any (some ⟨b0, off0, none⟩) B l o x c cb lo hi lo' hi' _ _ _ i q w3 (hr.up (hu.trans (h2.trans hw3)) hhi) (hr'.up (hu.trans (h2.trans hw3)) hhi') ((h2.trans hw3).cell k2) ((h2.trans hw3).cell k3) ((h2.trans hw3).cell k1) hil HX.out (by omega) hq hn hxl))
    go_region_held3 (fun w' => Up W1 w' ∧ w'.cell? ⟨w.heap.size, 0, none⟩ = some (.slice B o.length cb) ∧ w'.cell? ⟨w.heap.size + 1, 0, none⟩ = some (.slice (some ⟨b0, off0, none⟩) l.length c) ∧ w'.cell? ⟨b0, off0 + k * 2, none⟩ = some (.string yn) ∧ w'.cell? ⟨b0, off0 + k * 2 + 1, none⟩ = some (.slice yA yrs.length yc))
      (first | exact ⟨Up.refl _, k1, k2, p0, p1⟩ | exact ⟨(Up.refl _).drew, k1, k2, p0, p1⟩ | exact ⟨by assumption, by assumption, by assumption, by assumption, by assumption⟩)
      (first
        | (go_at_call 76
           refine HE.out.mono ?_
           rintro e w2 ⟨v, rfl, ho, hup2⟩
           obtain ⟨A', c', rfl, hcc, hcm, -, -⟩ := own_form ho
           have hS := hd.trans hup2
           have hC := Lib.hid (HK.out w2 hS A' c' _ (Rd.own int_len ho))
           have g1 := hS.cell k1
           have g2 := hS.cell k2
           have g3 := hS.cell p0
           have g4 := hS.cell p1)
        | (go_at_call 61
           refine hC.out.mono ?_
           rintro e w3 ⟨rfl, hup3⟩
           have hT := hS.trans hup3
           have t1 := hT.cell k1
           have t2 := hT.cell k2
           have t3 := hT.cell p0
           have t4 := hT.cell p1))
    all_goals
      clear HE HK hC g1 g2 g3 g4 t1 t2 t3 t4 k1 k2 k3 p0 p1
      go_wp2
      go_ret
      exact ⟨ret_bool (by simp [deB, H.out]), hu.trans hT⟩

/-- whether copy i may derive from copy k, and the code -/
def mdB (o : List Int) (P : List PC) (i k : Int) : Bool := match P[i.toNat]?, P[k.toNat]? with | some x, some y => !(decide (i = k)) && deB x.2 y.2 o | _, _ => false
def mdC (o : List Int) (P : List PC) (i k : Int) : Int := cdB (orB o P) P [i, k]
def mdA (o : List Int) (P : List PC) (i k : Int) : Bool := if mdC o P i k = 0 then mdB o P i k else false
theorem mdA_no {o : List Int} {P : List PC} {i k : Int} (h : (mdC o P i k != 0) = true) : mdA o P i k = false := by unfold mdA; rw [if_neg (by simpa using h)]
theorem mdA_yes {o : List Int} {P : List PC} {i k : Nat} {x y : PC} (h : mdC o P i k = 0) (hx : P[i]? = some x) (hy : P[k]? = some y) : mdA o P i k = (!(decide (i = k)) && deB x.2 y.2 o) := by
  have hd : decide ((i : Int) = (k : Int)) = decide (i = k) := by rw [decide_eq_decide]; omega
  have e1 : P[(i : Int).toNat]? = some x := hx
  have e2 : P[(k : Int).toNat]? = some y := hy
  unfold mdA mdB; rw [if_pos h, e1, e2]
  exact congrArg (fun z => !z && deB x.2 y.2 o) hd
theorem ret_bi {k : IntKind} {a b : Bool} {a' b' : Int} (h : a = b) (h' : a' = b') : Ending.returned (.tuple #[.bool a, .int k a']) = .returned (.tuple #[.bool b, .int k b']) := by rw [h, h']
theorem orB_inv {o : List Int} {P : List PC} {i : Nat} {x : PC} (hA : arB P = true) (h : orB o P = true) (hx : P[i]? = some x) : o.length = x.2.length ∧ o.all rdB = true := by
  have h1 := arB_ok hA hx
  simp only [okC, Bool.and_eq_true, decide_eq_true_eq] at h1
  simp only [orB, Bool.and_eq_true, Bool.or_eq_true, decide_eq_true_eq] at h
  have hp : P.length ≠ 0 := by have := (List.getElem?_eq_some_iff.1 hx).1; omega
  rcases h.1.2 with h2 | h2
  · exact absurd h2 hp
  · exact ⟨by rw [h2, h1.2.1], h.2⟩

set_option maxRecDepth 100000 in
set_option maxHeartbeats 4000000 in
theorem implMayDerive_any (B : Option Addr) (o : List Int) (cb : Nat) (A : Option Addr) (l : List Cp) (c lo hi lo' hi' : Nat) (i k : Int) (w : World) (hr' : RdI w lo' hi' B o) (hhi' : hi' ≤ w.heap.size) (hn' : o.length ≤ 2000000) (hr : RdC w lo hi A l) (hhi : hi ≤ w.heap.size) (hf : Fit l c) :
    Calls Tryd.prog 30 #[.slice B o.length cb, .slice A l.length c, .int .i64 i, .int .i64 k] w fun e w' => e = .returned (.tuple #[.bool (mdA o (l.map Cp.p) i k), .int .i64 (mdC o (l.map Cp.p) i k)]) ∧ Up w w' := by
  have hu0 := Up.alloc w (.cells #[.int .i64 i, .int .i64 k] 2)
  have HC := Lib.hid (checkText_any B o cb A (some ⟨w.heap.size, 0, none⟩) l [i, k] c 2 lo hi lo' hi' w.heap.size (w.heap.size + 1) _ (hr'.up hu0 hhi') (Nat.le_trans hhi' hu0.size) hn' (hr.up hu0 hhi) (Nat.le_trans hhi hu0.size) hf (two_rd w i k) (by simp) (by simp))
  have hn := hf.2.2.1
  by_cases h0 : mdC o (l.map Cp.p) i k = 0
  · have h0' : (cdB (orB o (l.map Cp.p)) (l.map Cp.p) [i, k] != 0) = false := by simpa [mdC] using h0
    obtain ⟨hA, hO, hix⟩ := cd_inv (show cdB (orB o (l.map Cp.p)) (l.map Cp.p) [i, k] = 0 from h0)
    have hi1 := hix i (by simp)
    have hk1 := hix k (by simp)
    simp only [List.length_map] at hi1 hk1
    have H0 := Lib.hid h0
    clear h0 hix
    obtain ⟨i, rfl⟩ := Int.eq_ofNat_of_zero_le hi1.1
    obtain ⟨k, rfl⟩ := Int.eq_ofNat_of_zero_le hk1.1
    have hil : i < l.length := by omega
    have hkl : k < l.length := by omega
    have hx := List.getElem?_eq_getElem hil
    have hy := List.getElem?_eq_getElem hkl
    have hox := (orB_inv hA hO (getp hx)).1
    have hoy := (orB_inv hA hO (getp hy)).1
    have HE := Lib.hid (mdA_yes H0.out (getp hx) (getp hy))
    have HM := Lib.hid (fun (w1 : World) (h1 : Up w w1) => mayDerive_any A B l o _ _ c cb lo hi lo' hi' i k w1 (hr.up h1 hhi) (Nat.le_trans hhi h1.size) hf (hr'.up h1 hhi') (Nat.le_trans hhi' h1.size) hil hkl hx hy (by rw [hox]; exact Nat.le_refl _) (by rw [hoy]; exact Nat.le_refl _))
    clear hf hx hy hox hoy hA hO
    go_enter Tryd.func30, Tryd.ntmps30
    go_wp2_with fail
    refine HC.out.mono ?_
    rintro e w1 ⟨rfl, hup⟩
    go_wp2_with fail
    refine (HM.out w1 (hu0.trans hup)).mono ?_
    rintro e w2 ⟨rfl, hup2⟩
    go_wp2
    go_ret2
    exact ⟨ret_bi HE.out.symm H0.out.symm, (hu0.trans hup).trans hup2⟩
  · have h0' : (cdB (orB o (l.map Cp.p)) (l.map Cp.p) [i, k] != 0) = true := by simpa [mdC] using h0
    have H := Lib.hid (mdA_no (o := o) (P := l.map Cp.p) (i := i) (k := k) h0')
    clear h0 hf
    go_enter Tryd.func30, Tryd.ntmps30
    go_wp2_with (go_at_call 71; refine HC.out.mono ?_; rintro e w1 ⟨rfl, hup⟩)
    go_ret2
    exact ⟨ret_bi H.out.symm rfl, hu0.trans (by assumption)⟩

set_option maxRecDepth 100000 in
set_option maxHeartbeats 4000000 in
theorem specMayDerive_any (B : Option Addr) (o : List Int) (cb : Nat) (A : Option Addr) (l : List Cp) (c lo hi lo' hi' : Nat) (i k : Int) (w : World) (hr' : RdI w lo' hi' B o) (hhi' : hi' ≤ w.heap.size) (hn' : o.length ≤ 2000000) (hr : RdC w lo hi A l) (hhi : hi ≤ w.heap.size) (hf : Fit l c) :
    Calls Tryd.prog 28 #[.slice B o.length cb, .slice A l.length c, .int .i64 i, .int .i64 k] w fun e w' => e = .returned (.tuple #[.bool (mdA o (l.map Cp.p) i k), .int .i64 (mdC o (l.map Cp.p) i k)]) ∧ Up w w' := by
  have HC := Lib.hid (l22Code_any (orS o (l.map Cp.p)) A l c lo hi i k w hr hhi hf)
  have HO := Lib.hid (l22Original_any B o cb A l c lo hi lo' hi' w hr' hn' hr hf)
  rw [or_cd] at HC
  have hn := hf.2.2.1
  have hrs := hf.2.1
  by_cases h0 : mdC o (l.map Cp.p) i k = 0
  · have h0' : (cdB (orB o (l.map Cp.p)) (l.map Cp.p) [i, k] != 0) = false := by simpa [mdC] using h0
    obtain ⟨hA, hO, hix⟩ := cd_inv (show cdB (orB o (l.map Cp.p)) (l.map Cp.p) [i, k] = 0 from h0)
    have hi1 := hix i (by simp)
    have hk1 := hix k (by simp)
    simp only [List.length_map] at hi1 hk1
    have H0 := Lib.hid h0
    clear h0 hix hf
    obtain ⟨i, rfl⟩ := Int.eq_ofNat_of_zero_le hi1.1
    obtain ⟨k, rfl⟩ := Int.eq_ofNat_of_zero_le hk1.1
    have hil : i < l.length := by omega
    have hkl : k < l.length := by omega
    go_enter Tryd.func28, Tryd.ntmps28
    go_wp2_with fail
    refine HO.out.mono ?_
    rintro e w0 ⟨rfl, rfl⟩
    go_wp2_with fail
    refine HC.out.mono ?_
    rintro e w1 ⟨rfl, hup⟩
    obtain ⟨b, off, x, rfl, -, -, hx, ix, p0, p1⟩ := (hr.up hup hhi).at_ hil
    obtain ⟨b', off', y, he, -, -, hy, iy, q0, q1⟩ := (hr.up hup hhi).at_ hkl
    cases he
    have hox := orB_inv hA hO (getp hx)
    have hoy := (orB_inv hA hO (getp hy)).1
    have HE := Lib.hid (mdA_yes H0.out (getp hx) (getp hy))
    have HX := hrs x (List.mem_of_getElem? hx)
    have HY := hrs y (List.mem_of_getElem? hy)
    have hh := Nat.le_trans hhi hup.size
    have hh' := Nat.le_trans hhi' hup.size
    obtain ⟨xn, xA, xc, xrs⟩ := x
    obtain ⟨yn, yA, yc, yrs⟩ := y
    simp only [Cp.p] at HE HX HY ix iy p0 p1 q0 q1 hox hoy
    have cD : ∀ dd os, Calls Tryd.prog 70 #[.slice B o.length cb, .agg #[.string xn, .slice xA xrs.length xc], .agg #[.string yn, .slice yA yrs.length yc]] (grow (redrawn w1 dd) os) fun e w'' => e = .returned (.bool (deB xrs yrs o)) ∧ ∃ p : Regrown, w'' = grow (redrawn w1 p.d) p.os :=
      fun dd os => Calls.regrown_of (l22Derives_any xA yA B xn yn xrs yrs o xc yc cb lo hi lo hi lo' hi' _ (ix.up (below_regrown _ _ _) hh) (Nat.le_trans hh (below_regrown _ _ _).size) (iy.up (below_regrown _ _ _) hh) (Nat.le_trans hh (below_regrown _ _ _).size) ((hr'.up hup hhi').up (below_regrown _ _ _) hh') (Nat.le_trans hh' (below_regrown _ _ _).size) (by rw [hox.1]; exact Nat.le_refl _) (by rw [hoy]; exact Nat.le_refl _) HY HX hox.2)
    have P0 := cell_regrown p0
    have P1 := cell_regrown p1
    have Q0 := cell_regrown q0
    have Q1 := cell_regrown q1
    clear hx hy ix iy hox hoy hA hO HO HC
    by_cases hik : i = k
    · have h1' : ((i : Int) != (k : Int)) = false := by simp [hik]
      have H := Lib.hid hik
      clear hik
      go_wp2_with fail
      refine wp_region_quiet_below (by kernel_rfl) (by kernel_rfl) ?_
      repeat (first | go_big_quiet_step ((go_at_call 70; exact cD _ _)) | quiet_step ((go_at_call 70; exact cD _ _)))
      refine wpQuiet_nil ?_
      intro w2 hw2
      obtain ⟨⟨dq, osq⟩, hw2⟩ := hw2
      have hup2 : Up w1 w2 := by rw [hw2]; exact below_regrown _ _ _
      clear hw2 P0 P1 Q0 Q1 cD h0'
      go_wp2
      go_ret2
      exact ⟨ret_bi (by rw [HE.out]; simp [H.out]) H0.out.symm, hup.trans hup2⟩
    · have h1' : ((i : Int) != (k : Int)) = true := by simp; omega
      have H := Lib.hid hik
      clear hik
      go_wp2_with fail
      refine wp_region_quiet_below (by kernel_rfl) (by kernel_rfl) ?_
      repeat (first | go_big_quiet_step ((go_at_call 70; exact cD _ _)) | quiet_step ((go_at_call 70; exact cD _ _)))
      refine wpQuiet_nil ?_
      intro w2 hw2
      obtain ⟨⟨dq, osq⟩, hw2⟩ := hw2
      have hup2 : Up w1 w2 := by rw [hw2]; exact below_regrown _ _ _
      clear hw2 P0 P1 Q0 Q1 cD h0'
      go_wp2
      go_ret2
      exact ⟨ret_bi (by rw [HE.out]; simp [H.out]) H0.out.symm, hup.trans hup2⟩
  · have h0' : (cdB (orB o (l.map Cp.p)) (l.map Cp.p) [i, k] != 0) = true := by simpa [mdC] using h0
    have H := Lib.hid (mdA_no (o := o) (P := l.map Cp.p) (i := i) (k := k) h0')
    clear h0 hf
    go_enter Tryd.func28, Tryd.ntmps28
    go_wp2_with (first | (go_at_call 69; refine HO.out.mono ?_; rintro e w0 ⟨rfl, rfl⟩) | (go_at_call 64; refine HC.out.mono ?_; rintro e w1 ⟨rfl, hup⟩))
    go_ret2
    exact ⟨ret_bi H.out.symm rfl, by assumption⟩
end Go.Proofs.YtdjhenjgccenhaaDoor
