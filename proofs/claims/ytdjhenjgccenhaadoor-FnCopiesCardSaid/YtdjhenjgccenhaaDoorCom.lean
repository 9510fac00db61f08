/- CommonErrors: the program's and the reference's walks. -/
import Derived.Test.YtdjhenjgccenhaaDoorErrOf
namespace Go.Proofs.YtdjhenjgccenhaaDoor
open Go.RowKit Go.Sort

/-- the places where copy a errs and b reads as a does -/
def ceB (a b o : List Int) (j : Nat) : Bool := dfB a o j && hitB a b (j : Int)
theorem ce_eq (a b o : List Int) (n : Nat) : (pl (dfB a o) n).filter (hitB a b) = pl (ceB a b o) n := by
  unfold pl
  rw [List.filter_map, List.filter_filter]
  congr 1
  apply List.filter_congr
  intro j _
  simp [ceB, Bool.and_comm]
theorem filt_yes {L : List Int} {p : Int → Bool} {k : Nat} {z : Int} (h : L[k]? = some z) (hp : p z = true) : (L.take (k + 1)).filter p = (L.take k).filter p ++ [z] := by
  rw [List.take_succ_eq_append_getElem (List.getElem?_eq_some_iff.1 h).1, (List.getElem?_eq_some_iff.1 h).2, List.filter_append]; simp [hp]
theorem filt_no {L : List Int} {p : Int → Bool} {k : Nat} {z : Int} (h : L[k]? = some z) (hp : p z = false) : (L.take (k + 1)).filter p = (L.take k).filter p := by
  rw [List.take_succ_eq_append_getElem (List.getElem?_eq_some_iff.1 h).1, (List.getElem?_eq_some_iff.1 h).2, List.filter_append]; simp [hp]
theorem filt_step {w' : World} {base : Nat} {T : TypeId} {v' : Value} {L : List Int} {p : Int → Bool} {k : Nat} {z : Int} (h : L[k]? = some z) (hp : p z = true) (ho : w'.ownsRow base T 1 v' (((L.take k).filter p).length + 1) (((L.take k).filter p).flatMap intCells ++ [.int .i64 z])) : w'.ownsRow base T 1 v' ((L.take (k + 1)).filter p).length (((L.take (k + 1)).filter p).flatMap intCells) := by
  rw [filt_yes h hp, List.length_append, List.flatMap_append]; exact ho

set_option maxRecDepth 100000 in
set_option maxHeartbeats 4000000 in
theorem l22Common_any (A A2 B : Option Addr) (an bn : ByteArray) (a b o : List Int) (ca ca2 cb lo hi lo2 hi2 lo' hi' : Nat) (w : World) (hr : RdI w lo hi A a) (hhi : hi ≤ w.heap.size) (hr2 : RdI w lo2 hi2 A2 b) (hhi2 : hi2 ≤ w.heap.size) (hr' : RdI w lo' hi' B o) (hhi' : hi' ≤ w.heap.size) (hab : o.length ≤ a.length) (hob : o.length ≤ b.length) (hja : a.length ≤ 2000000) (_hjb : b.length ≤ 2000000) (ho : o.all rdB = true) :
    Calls Tryd.prog 77 #[.slice B o.length cb, .agg #[.string an, .slice A a.length ca], .agg #[.string bn, .slice A2 b.length ca2]] w fun e w' => ∃ v, e = .returned v ∧ w'.ownsRow w.heap.size 2 1 v (pl (ceB a b o) o.length).length ((pl (ceB a b o) o.length).flatMap intCells) ∧ Up w w' := by
  obtain ⟨i0, hi0, hz0, hz1, hz2⟩ := info_parts infoInt
  have hu0 := ((Up.refl w).allocs (.cells #[.string an, .slice A a.length ca] 43)).allocs (.cells #[.string bn, .slice A2 b.length ca2] 43)
  have c1 : ((w.alloc (.cells #[.string an, .slice A a.length ca] 43)).alloc (.cells #[.string bn, .slice A2 b.length ca2] 43)).cell? ⟨w.heap.size, 1, none⟩ = some (.slice A a.length ca) := by go_simp
  have c2 : ((w.alloc (.cells #[.string an, .slice A a.length ca] 43)).alloc (.cells #[.string bn, .slice A2 b.length ca2] 43)).cell? ⟨w.heap.size + 1, 1, none⟩ = some (.slice A2 b.length ca2) := by go_simp
  have HE := Lib.hid (l22Errors_any A B an a o ca cb lo hi lo' hi' _ (hr.up hu0 hhi) (Nat.le_trans hhi hu0.size) (hr'.up hu0 hhi') (Nat.le_trans hhi' hu0.size) hab hja ho)
  have C1 := Lib.hid c1
  have C2 := Lib.hid c2
  have hpl := pl_len (dfB a o) o.length
  clear c1 c2 ho
  obtain ⟨L, hL⟩ : ∃ L, L = pl (dfB a o) o.length := ⟨_, rfl⟩
  have hmem : ∀ z ∈ L, ∃ q : Nat, q < o.length ∧ z = q := fun z hz => pl_mem (by rw [← hL]; exact hz)
  have hce : pl (ceB a b o) o.length = L.filter (hitB a b) := by rw [← ce_eq, hL]
  rw [hce]
  rw [← hL] at HE hpl
  clear hce hL
  go_enter Tryd.func77, Tryd.ntmps77
  go_wp2_with fail
  refine HE.out.mono ?_
  rintro e w1 ⟨v, rfl, ho, hup⟩
  obtain ⟨A', c', rfl, hcc, hcm, -, -⟩ := own_form ho
  have hLr := Rd.own int_len ho
  have hc1 := hup.cell C1.out
  have hc2 := hup.cell C2.out
  have hupx := hu0.trans hup
  clear ho
  go_wp2
  have hown0 := World.ownsRow_lit (base := w1.heap.size) (e := 2) (size := 1) w1 #[] 0 (Nat.le_refl _) (by simp [maxLen]) rfl
  have hup0 := (Up.refl w1).allocs (.cells #[] 2)
  obtain ⟨v0, hv0⟩ : ∃ v, v = Value.slice (some ⟨w1.heap.size, 0, none⟩) 0 0 := ⟨_, rfl⟩
  rw [← hv0] at hown0 ⊢
  generalize w1.alloc (.cells #[] 2) = w2 at *
  clear hv0
  go_loopw [8, 9] (fun out i wr => ∃ k : Nat, k ≤ L.length ∧ i = .int .i64 k ∧ wr.ownsRow w1.heap.size 2 1 out ((L.take k).filter (hitB a b)).length (((L.take k).filter (hitB a b)).flatMap intCells) ∧ Up w1 wr) (fun _ i _ => L.length - (intOf i).toNat)
  case atStart => exact ⟨0, Nat.zero_le _, rfl, by simpa using hown0, hup0⟩
  case round =>
    obtain ⟨k, hk, rfl, hown, hupr⟩ := hrel
    by_cases hlt : k < L.length
    · obtain ⟨b0, o0, z, rfl, -, -, hz, z0⟩ := (hLr.up hupr (Nat.le_refl _)).int hlt
      obtain ⟨q, hq, rfl⟩ := hmem z (List.mem_of_getElem? hz)
      have HZ := Lib.hid hz
      have hqa : q < a.length := by omega
      have hqb : q < b.length := by omega
      obtain ⟨b1, o1, x, rfl, -, -, hx, p0⟩ := (hr.up (hupx.trans hupr) hhi).int hqa
      obtain ⟨b2, o2, y, rfl, -, -, hy, q0⟩ := (hr2.up (hupx.trans hupr) hhi2).int hqb
      have HH := Lib.hid (hit_of hx hy)
      have hcr := hupr.cell hc1
      have hcr2 := hupr.cell hc2
      have hfl : ((L.take k).filter (hitB a b)).length ≤ k := by have h1 := List.length_filter_le (hitB a b) (L.take k); rw [List.length_take] at h1; omega
      have Z0 := cell_regrown z0
      have P0 := cell_regrown p0
      have Q0 := cell_regrown q0
      have CR := cell_regrown hcr
      have CR2 := cell_regrown hcr2
      clear hz hx hy
      go_wp2_with fail
      refine wp_region_quiet_below (by kernel_rfl) (by kernel_rfl) ?_
      repeat (first | go_big_quiet_step (fail) | quiet_step (fail))
      refine wpQuiet_nil ?_
      intro w3 hw3
      obtain ⟨⟨dq, osq⟩, hw3⟩ := hw3
      have hup3 : Up wr w3 := by rw [hw3]; exact below_regrown _ _ _
      have hown3 := own_up hown hup3
      have hupx3 := hupr.trans hup3
      have z3 := hup3.cell z0
      clear hw3 Z0 P0 Q0 CR CR2 z0 p0 q0 hcr hcr2 hown
      by_cases hq2 : (x == y) = true
      · have HP : hitB a b (q : Int) = true := by rw [HH.out]; exact hq2
        have HPP := Lib.hid HP
        clear HP
        have n1 : ((L.take k).filter (hitB a b)).length + 1 ≤ maxLen := by unfold maxLen; omega
        have n2 : (((L.take k).filter (hitB a b)).length + 1) * 8 ≤ 140737488355328 := by omega
        have n3 : w1.heap.size ≤ (w3.alloc (.cells #[.int .i64 (q : Int)] 2)).heap.size := (hupx3.allocs _).size
        go_wp2_with ((at_builtin; refine wpList_append_own _ rfl _ _ 32 rfl w1.heap.size 2 i0 _ 1 8 Tryd.underlying32 hi0 hz0 hz1 hz2 rfl (by decide) _ _ _ rfl (hown3.alloc _) ⟨w3.heap.size, 0, none⟩ 1 1 [.int .i64 (q : Int)] rfl rfl (cell_one_new _ _ _) (by simp [Value.oneCell']) n1 n2 n3 ?_))
        intro v' w4 hown' hgrow _
        have hof := filt_step HZ.out HPP.out hown'
        have hu := (hupx3.allocs (.cells #[.int .i64 (q : Int)] 2)).grown hgrow (fun k hk => (hown3.lt k hk).1)
        clear hown' hgrow hq2 z3
        go_wp2
        go_roundw
        case rel => exact ⟨k + 1, by omega, by go_num, hof, hu⟩
        case measure => simp [intOf]; omega
      · have hq3 : (x == y) = false := by simpa using hq2
        have HP : hitB a b (q : Int) = false := by rw [HH.out]; exact hq3
        have HPP := Lib.hid HP
        clear HP hq2
        go_wp2
        go_roundw
        case rel => exact ⟨k + 1, by omega, by go_num, by rw [filt_no HZ.out HPP.out]; exact hown3, hupx3⟩
        case measure => simp [intOf]; omega
    · have e : k = L.length := by omega
      subst e
      rw [List.take_of_length_le (Nat.le_refl _)] at hown
      go_wp2
      go_ret
      exact ⟨_, rfl, own_base hown hupx.size, hupx.trans hupr⟩

theorem ce_of {a b o : List Int} {j : Nat} {x y z : Int} (hx : a[j]? = some x) (hy : o[j]? = some y) (hz : b[j]? = some z) : ceB a b o j = (dfI x y && x == z) := by
  unfold ceB; rw [dfB_of hx hy, hit_of hx hz]

set_option maxRecDepth 100000 in
set_option maxHeartbeats 4000000 in
theorem comClosure_any (A A2 B : Option Addr) (a b o : List Int) (ca ca2 cb lo hi lo2 hi2 lo' hi' va vb vo j : Nat) (w : World) (hr : RdI w lo hi A a) (hr2 : RdI w lo2 hi2 A2 b) (hr' : RdI w lo' hi' B o)
    (c1 : w.cell? ⟨va, 0, none⟩ = some (.slice A a.length ca)) (c2 : w.cell? ⟨vo, 0, none⟩ = some (.slice B o.length cb)) (c3 : w.cell? ⟨vb, 0, none⟩ = some (.slice A2 b.length ca2)) (hja : j < a.length) (hjb : j < b.length) (hjo : j < o.length) (_h1 : a.length ≤ 2000000) (_h2 : b.length ≤ 2000000) :
    Calls Tryd.prog 79 #[.int .i64 (j : Int), .pointer (some ⟨va, 0, none⟩), .pointer (some ⟨vo, 0, none⟩), .pointer (some ⟨vb, 0, none⟩)] w fun e w' => e = .returned (.bool (ceB a b o j)) ∧ Up w w' := by
  obtain ⟨b1, o1, x, rfl, -, -, hx, p0⟩ := hr.int hja
  obtain ⟨b2, o2, y, rfl, -, -, hy, q0⟩ := hr'.int hjo
  obtain ⟨b3, o3, z, rfl, -, -, hz, r0⟩ := hr2.int hjb
  have HD := Lib.hid (ce_of hx hy hz)
  clear hx hy hz
  have C1 := cell_regrown c1
  have C2 := cell_regrown c2
  have C3 := cell_regrown c3
  have P0 := cell_regrown p0
  have Q0 := cell_regrown q0
  have R0 := cell_regrown r0
  rcases hd : dfI x y with _ | _
  · have cF : ∀ wx : World, Calls Tryd.prog 80 #[.int .i64 x, .int .i64 y] wx fun e w' => e = .returned (.bool false) ∧ Up wx w' := fun wx => by rw [← hd]; exact differ_any x y wx
    have H := Lib.hid hd
    clear hd
    go_enter Tryd.func79, Tryd.ntmps79
    go_wp2_with fail
    refine wp_region_quiet_below (by kernel_rfl) (by kernel_rfl) ?_
    repeat (first | go_big_quiet_step ((go_at_call 80; exact Calls.regrown_of (cF _))) | quiet_step ((go_at_call 80; exact Calls.regrown_of (cF _))))
    refine wpQuiet_nil ?_
    intro w2 hw2
    obtain ⟨⟨dq, osq⟩, hw2⟩ := hw2
    have hup2 : Up w w2 := by rw [hw2]; exact below_regrown _ _ _
    clear hw2 P0 Q0 R0 C1 C2 C3
    go_wp2
    go_ret
    exact ⟨ret_bool (by rw [HD.out, H.out]; rfl), hup2⟩
  · have cF : ∀ wx : World, Calls Tryd.prog 80 #[.int .i64 x, .int .i64 y] wx fun e w' => e = .returned (.bool true) ∧ Up wx w' := fun wx => by rw [← hd]; exact differ_any x y wx
    have H := Lib.hid hd
    clear hd
    go_enter Tryd.func79, Tryd.ntmps79
    go_wp2_with fail
    refine wp_region_quiet_below (by kernel_rfl) (by kernel_rfl) ?_
    repeat (first | go_big_quiet_step ((go_at_call 80; exact Calls.regrown_of (cF _))) | quiet_step ((go_at_call 80; exact Calls.regrown_of (cF _))))
    refine wpQuiet_nil ?_
    intro w2 hw2
    obtain ⟨⟨dq, osq⟩, hw2⟩ := hw2
    have hup2 : Up w w2 := by rw [hw2]; exact below_regrown _ _ _
    clear hw2 P0 Q0 R0 C1 C2 C3
    go_wp2
    go_ret
    exact ⟨ret_bool (by rw [HD.out, H.out]; rfl), hup2⟩

def coC (o : List Int) (P : List PC) (i k : Int) : Int := cdB (orB o P) P [i, k]
def coL (o : List Int) (P : List PC) (i k : Int) : List Int := if coC o P i k = 0 then (match P[i.toNat]?, P[k.toNat]? with | some x, some y => pl (ceB x.2 y.2 o) o.length | _, _ => []) else []
theorem co_no {o : List Int} {P : List PC} {i k : Int} (h : (coC o P i k != 0) = true) : coL o P i k = [] := by unfold coL; rw [if_neg (by simpa using h)]
theorem co_yes {o : List Int} {P : List PC} {i k : Nat} {x y : PC} (h : coC o P i k = 0) (hx : P[i]? = some x) (hy : P[k]? = some y) : coL o P i k = pl (ceB x.2 y.2 o) o.length := by
  have e1 : P[(i : Int).toNat]? = some x := hx
  have e2 : P[(k : Int).toNat]? = some y := hy
  unfold coL; rw [if_pos h, e1, e2]
theorem co_len (o : List Int) (P : List PC) (i k : Int) : (coL o P i k).length ≤ o.length := by
  unfold coL
  split
  · split
    · exact pl_len _ _
    · simp
  · simp

set_option maxRecDepth 100000 in
set_option maxHeartbeats 4000000 in
theorem specCommon_any (B : Option Addr) (o : List Int) (cb : Nat) (A : Option Addr) (l : List Cp) (c lo hi lo' hi' : Nat) (i k : Int) (w : World) (hr' : RdI w lo' hi' B o) (hhi' : hi' ≤ w.heap.size) (hn' : o.length ≤ 2000000) (hr : RdC w lo hi A l) (hhi : hi ≤ w.heap.size) (hf : Fit l c) :
    Calls Tryd.prog 38 #[.slice B o.length cb, .slice A l.length c, .int .i64 i, .int .i64 k] w fun e w' => ∃ v, e = .returned (.tuple #[v, .int .i64 (coC o (l.map Cp.p) i k)]) ∧ w'.ownsRow w.heap.size 2 1 v (coL o (l.map Cp.p) i k).length ((coL o (l.map Cp.p) i k).flatMap intCells) ∧ Up w w' := by
  have HC := Lib.hid (l22Code_any (orS o (l.map Cp.p)) A l c lo hi i k w hr hhi hf)
  have HO := Lib.hid (l22Original_any B o cb A l c lo hi lo' hi' w hr' hn' hr hf)
  rw [or_cd] at HC
  have hn := hf.2.2.1
  have hrs := hf.2.1
  by_cases h0 : coC o (l.map Cp.p) i k = 0
  · have h0' : (cdB (orB o (l.map Cp.p)) (l.map Cp.p) [i, k] != 0) = false := by simpa [coC] using h0
    obtain ⟨hA, hO, hix⟩ := cd_inv (show cdB (orB o (l.map Cp.p)) (l.map Cp.p) [i, k] = 0 from h0)
    have hi1 := hix i (by simp)
    have hk1 := hix k (by simp)
    simp only [List.length_map] at hi1 hk1
    have H0 := Lib.hid h0
    clear h0 hix hf
    obtain ⟨i, rfl⟩ := Int.eq_ofNat_of_zero_le hi1.1
    obtain ⟨k, rfl⟩ := Int.eq_ofNat_of_zero_le hk1.1
    have hil : i < l.length := by omega
    have hkl : k < l.length := by omega
    go_enter Tryd.func38, Tryd.ntmps38
    go_wp2_with fail
    refine HO.out.mono ?_
    rintro e w0 ⟨rfl, rfl⟩
    go_wp2_with fail
    refine HC.out.mono ?_
    rintro e w1 ⟨rfl, hup⟩
    obtain ⟨b, off, x, rfl, -, -, hx, ix, p0, p1⟩ := (hr.up hup hhi).at_ hil
    obtain ⟨b', off', y, he, -, -, hy, iy, q0, q1⟩ := (hr.up hup hhi).at_ hkl
    cases he
    have hox := orB_inv hA hO (getp hx)
    have hoy := (orB_inv hA hO (getp hy)).1
    have HE := Lib.hid (co_yes H0.out (getp hx) (getp hy))
    have HX := hrs x (List.mem_of_getElem? hx)
    have HY := hrs y (List.mem_of_getElem? hy)
    obtain ⟨xn, xA, xc, xrs⟩ := x
    obtain ⟨yn, yA, yc, yrs⟩ := y
    simp only [Cp.p] at HE HX HY ix iy p0 p1 q0 q1 hox hoy
    have hd : Up w1 w1.drew := (Up.refl _).drew
    have hh := Nat.le_trans hhi hup.size
    have hh' := Nat.le_trans hhi' hup.size
    have HQ := Lib.hid (l22Common_any xA yA B xn yn xrs yrs o xc yc cb lo hi lo hi lo' hi' w1.drew (ix.up hd hh) (Nat.le_trans hh hd.size) (iy.up hd hh) (Nat.le_trans hh hd.size) ((hr'.up hup hhi').up hd hh') (Nat.le_trans hh' hd.size) (by rw [hox.1]; exact Nat.le_refl _) (by rw [hoy]; exact Nat.le_refl _) HX HY hox.2)
    clear hx hy ix iy hox hoy hA hO HO HC
    go_wp2_with fail
    go_region_held3 (fun w' => w'.cell? ⟨b, off + i * 2, none⟩ = some (.string xn) ∧ w'.cell? ⟨b, off + i * 2 + 1, none⟩ = some (.slice xA xrs.length xc) ∧ w'.cell? ⟨b, off + k * 2, none⟩ = some (.string yn) ∧ w'.cell? ⟨b, off + k * 2 + 1, none⟩ = some (.slice yA yrs.length yc))
      (first | exact ⟨p0, p1, q0, q1⟩ | exact ⟨by assumption, by assumption, by assumption, by assumption⟩)
      (first
        | (go_at_call 77
           refine HQ.out.mono ?_
           rintro e w2 ⟨v, rfl, ho, hup2⟩
           have hS := hd.trans hup2
           have g1 := hS.cell p0
           have g2 := hS.cell p1
           have g3 := hS.cell q0
           have g4 := hS.cell q1))
    all_goals
      clear HQ g1 g2 g3 g4 p0 p1 q0 q1 h0'
      go_wp2
      go_ret2
      exact ⟨v, ret_vi H0.out.symm, by rw [HE.out]; exact own_base ho (hup.trans hd).size, hup.trans hS⟩
  · have h0' : (cdB (orB o (l.map Cp.p)) (l.map Cp.p) [i, k] != 0) = true := by simpa [coC] using h0
    have H := Lib.hid (co_no (o := o) (P := l.map Cp.p) (i := i) (k := k) h0')
    clear h0 hf
    go_enter Tryd.func38, Tryd.ntmps38
    go_wp2_with (first | (go_at_call 69; refine HO.out.mono ?_; rintro e w0 ⟨rfl, rfl⟩) | (go_at_call 64; refine HC.out.mono ?_; rintro e w1 ⟨rfl, hup⟩))
    go_ret2
    exact ⟨_, rfl, by rw [H.out]; exact World.ownsRow_nil _ _ _ _, by assumption⟩

set_option maxRecDepth 100000 in
set_option maxHeartbeats 4000000 in
theorem implCommon_any (B : Option Addr) (o : List Int) (cb : Nat) (A : Option Addr) (l : List Cp) (c lo hi lo' hi' : Nat) (i k : Int) (w : World) (hr' : RdI w lo' hi' B o) (hhi' : hi' ≤ w.heap.size) (hn' : o.length ≤ 2000000) (hr : RdC w lo hi A l) (hhi : hi ≤ w.heap.size) (hf : Fit l c) :
    Calls Tryd.prog 39 #[.slice B o.length cb, .slice A l.length c, .int .i64 i, .int .i64 k] w fun e w' => ∃ v, e = .returned (.tuple #[v, .int .i64 (coC o (l.map Cp.p) i k)]) ∧ w'.ownsRow w.heap.size 2 1 v (coL o (l.map Cp.p) i k).length ((coL o (l.map Cp.p) i k).flatMap intCells) ∧ Up w w' := by
  have huB := (Up.refl w).allocs (.cells #[.slice B o.length cb] 32)
  have hu0 := huB.allocs (.cells #[.int .i64 i, .int .i64 k] 2)
  have kB : ((w.alloc (.cells #[.slice B o.length cb] 32)).alloc (.cells #[.int .i64 i, .int .i64 k] 2)).cell? ⟨w.heap.size, 0, none⟩ = some (.slice B o.length cb) := by go_simp
  have e1 : (w.alloc (.cells #[.slice B o.length cb] 32)).heap.size = w.heap.size + 1 := by simp
  have HC := Lib.hid (checkText_any B o cb A (some ⟨w.heap.size + 1, 0, none⟩) l [i, k] c 2 lo hi lo' hi' (w.heap.size + 1) (w.heap.size + 2) _ (hr'.up hu0 hhi') (Nat.le_trans hhi' hu0.size) hn' (hr.up hu0 hhi) (Nat.le_trans hhi hu0.size) hf (by have h := two_rd (w.alloc (.cells #[.slice B o.length cb] 32)) i k; rw [e1] at h; exact h) (by simp) (by simp))
  clear e1
  have hn := hf.2.2.1
  have hrs := hf.2.1
  by_cases h0 : coC o (l.map Cp.p) i k = 0
  · have h0' : (cdB (orB o (l.map Cp.p)) (l.map Cp.p) [i, k] != 0) = false := by simpa [coC] using h0
    obtain ⟨hA, hO, hix⟩ := cd_inv (show cdB (orB o (l.map Cp.p)) (l.map Cp.p) [i, k] = 0 from h0)
    have hi1 := hix i (by simp)
    have hk1 := hix k (by simp)
    simp only [List.length_map] at hi1 hk1
    have H0 := Lib.hid h0
    clear h0 hix hf
    obtain ⟨i, rfl⟩ := Int.eq_ofNat_of_zero_le hi1.1
    obtain ⟨k, rfl⟩ := Int.eq_ofNat_of_zero_le hk1.1
    have hil : i < l.length := by omega
    have hkl : k < l.length := by omega
    go_enter Tryd.func39, Tryd.ntmps39
    go_wp2_with fail
    refine HC.out.mono ?_
    rintro e w1 ⟨rfl, hup1⟩
    have hup := hu0.trans hup1
    have kB1 := hup1.cell kB
    obtain ⟨b, off, x, rfl, -, -, hx, ix, p0, p1⟩ := (hr.up hup hhi).at_ hil
    obtain ⟨b', off', y, he, -, -, hy, iy, q0, q1⟩ := (hr.up hup hhi).at_ hkl
    cases he
    have hox := orB_inv hA hO (getp hx)
    have hoy := (orB_inv hA hO (getp hy)).1
    have HE := Lib.hid (co_yes H0.out (getp hx) (getp hy))
    have HX := hrs x (List.mem_of_getElem? hx)
    have HY := hrs y (List.mem_of_getElem? hy)
    obtain ⟨xn, xA, xc, xrs⟩ := x
    obtain ⟨yn, yA, yc, yrs⟩ := y
    simp only [Cp.p] at HE HX HY ix iy p0 p1 q0 q1 hox hoy
    have hh := Nat.le_trans hhi hup.size
    have hh' := Nat.le_trans hhi' hup.size
    have HIX := Lib.hid ix
    have HIY := Lib.hid iy
    have HOX := Lib.hid hox.1
    have HOY := Lib.hid hoy
    have HP := Lib.hid (fun (W2 : World) (ga gb : Nat) (hu2 : Up w1 W2) (ca2 : W2.cell? ⟨ga, 0, none⟩ = some (.slice xA xrs.length xc)) (cb2 : W2.cell? ⟨gb, 0, none⟩ = some (.slice yA yrs.length yc)) =>
      show Calls Tryd.prog 78 #[.int .i64 (o.length : Int), .func (.func 79) #[] #[.pointer (some ⟨ga, 0, none⟩), .pointer (some ⟨w.heap.size, 0, none⟩), .pointer (some ⟨gb, 0, none⟩)]] W2 fun e w' => ∃ v, e = .returned v ∧ w'.ownsRow w1.heap.size 2 1 v (pl (ceB xrs yrs o) o.length).length ((pl (ceB xrs yrs o) o.length).flatMap intCells) ∧ Up w1 w' from
      (placesWith_any o.length 79 #[.pointer (some ⟨ga, 0, none⟩), .pointer (some ⟨w.heap.size, 0, none⟩), .pointer (some ⟨gb, 0, none⟩)] (ceB xrs yrs o) W2 hn' (fun _ _ => by kernel_rfl)
        (fun j hj w3 hu3 => comClosure_any xA yA B xrs yrs o xc yc cb lo hi lo hi lo' hi' _ _ _ j w3 (HIX.out.up (hu2.trans hu3) hh) (HIY.out.up (hu2.trans hu3) hh) (hr'.up (hup.trans (hu2.trans hu3)) hhi') (hu3.cell ca2) ((hu2.trans hu3).cell kB1) (hu3.cell cb2) (by have h := HOX.out; omega) (by have h := HOY.out; omega) hj HX HY)).mono fun e w' ⟨v, he, ho, hu⟩ => ⟨v, he, own_base ho hu2.size, hu2.trans hu⟩)
    have HB1 := kB1
    clear hx hy hA hO HC p0 q0 kB ix iy hox hoy
    have UA := fun O1 : Obj => (Up.refl w1).allocs O1
    have UB := fun O1 O2 : Obj => (UA O1).allocs O2
    have pn := (UA (.cells #[.slice none 0 0] 32)).cell p1
    have px := (UA (.cells #[.slice xA xrs.length xc] 32)).cell p1
    have py := (UA (.cells #[.slice yA yrs.length yc] 32)).cell p1
    have pnn := (UB (.cells #[.slice none 0 0] 32) (.cells #[.slice none 0 0] 32)).cell p1
    have pnx := (UB (.cells #[.slice none 0 0] 32) (.cells #[.slice xA xrs.length xc] 32)).cell p1
    have pny := (UB (.cells #[.slice none 0 0] 32) (.cells #[.slice yA yrs.length yc] 32)).cell p1
    have pxn := (UB (.cells #[.slice xA xrs.length xc] 32) (.cells #[.slice none 0 0] 32)).cell p1
    have pxy := (UB (.cells #[.slice xA xrs.length xc] 32) (.cells #[.slice yA yrs.length yc] 32)).cell p1
    have pyn := (UB (.cells #[.slice yA yrs.length yc] 32) (.cells #[.slice none 0 0] 32)).cell p1
    have pyx := (UB (.cells #[.slice yA yrs.length yc] 32) (.cells #[.slice xA xrs.length xc] 32)).cell p1
    have qn := (UA (.cells #[.slice none 0 0] 32)).cell q1
    have qx := (UA (.cells #[.slice xA xrs.length xc] 32)).cell q1
    have qy := (UA (.cells #[.slice yA yrs.length yc] 32)).cell q1
    have qnn := (UB (.cells #[.slice none 0 0] 32) (.cells #[.slice none 0 0] 32)).cell q1
    have qnx := (UB (.cells #[.slice none 0 0] 32) (.cells #[.slice xA xrs.length xc] 32)).cell q1
    have qny := (UB (.cells #[.slice none 0 0] 32) (.cells #[.slice yA yrs.length yc] 32)).cell q1
    have qxn := (UB (.cells #[.slice xA xrs.length xc] 32) (.cells #[.slice none 0 0] 32)).cell q1
    have qxy := (UB (.cells #[.slice xA xrs.length xc] 32) (.cells #[.slice yA yrs.length yc] 32)).cell q1
    have qyn := (UB (.cells #[.slice yA yrs.length yc] 32) (.cells #[.slice none 0 0] 32)).cell q1
    have qyx := (UB (.cells #[.slice yA yrs.length yc] 32) (.cells #[.slice xA xrs.length xc] 32)).cell q1
    have kxy := (UB (.cells #[.slice xA xrs.length xc] 32) (.cells #[.slice yA yrs.length yc] 32)).cell kB1
    have kyx := (UB (.cells #[.slice yA yrs.length yc] 32) (.cells #[.slice xA xrs.length xc] 32)).cell kB1
    go_wp2_with fail
    go_region
    · have UBD := Lib.hid (fun O1 O2 : Obj => (UB O1 O2).drew)
      have UBN := Lib.hid UB
      clear UA UB pn px py pnn pnx pny pxn pxy pyn pyx qn qx qy qnn qnx qny qxn qxy qyn qyx p1 q1
      go_wp2_with fail
      refine (HP.out _ _ _ ?hu1 ?ca1 ?cb1).mono ?post1
      case hu1 => first | exact UBD.out _ _ | exact UBN.out _ _
      case ca1 => go_simp
      case cb1 => go_simp
      rintro e w3 ⟨v, rfl, ho, hu3⟩
      clear HP h0'
      go_wp2
      go_ret2
      exact ⟨v, ret_vi H0.out.symm, by rw [HE.out]; exact own_base ho hup.size, hup.trans hu3⟩
    · have UBD := Lib.hid (fun O1 O2 : Obj => (UB O1 O2).drew)
      have UBN := Lib.hid UB
      clear UA UB pn px py pnn pnx pny pxn pxy pyn pyx qn qx qy qnn qnx qny qxn qxy qyn qyx p1 q1
      go_wp2_with fail
      refine (HP.out _ _ _ ?hu2 ?ca2 ?cb2).mono ?post2
      case hu2 => first | exact UBD.out _ _ | exact UBN.out _ _
      case ca2 => go_simp
      case cb2 => go_simp
      rintro e w3 ⟨v, rfl, ho, hu3⟩
      clear HP h0'
      go_wp2
      go_ret2
      exact ⟨v, ret_vi H0.out.symm, by rw [HE.out]; exact own_base ho hup.size, hup.trans hu3⟩
  · have h0' : (cdB (orB o (l.map Cp.p)) (l.map Cp.p) [i, k] != 0) = true := by simpa [coC] using h0
    have H := Lib.hid (co_no (o := o) (P := l.map Cp.p) (i := i) (k := k) h0')
    clear h0 hf
    go_enter Tryd.func39, Tryd.ntmps39
    go_wp2_with (go_at_call 71; refine HC.out.mono ?_; rintro e w1 ⟨rfl, hup⟩)
    go_ret2
    exact ⟨_, rfl, by rw [H.out]; exact World.ownsRow_nil _ _ _ _, hu0.trans (by assumption)⟩
end Go.Proofs.YtdjhenjgccenhaaDoor
