/- AreCopies: the program's and the reference's walks; both compute one plain function of what the copies say. -/
import Derived.Test.YtncmenfdnpmblaaDoorBase
import Derived.Test.YtncmenfdnpmblaaDoorCopy
import Derived.Test.YtncmenfdnpmblaaDoorFuncsC
import Derived.Test.YtncmenfdnpmblaaDoorDel
namespace Go.Proofs.YtncmenfdnpmblaaDoor
open Go.RowKit Go.Sort

abbrev PC := ByteArray × List Int
def n0 (P : List PC) : Nat := match P with | [] => 0 | x :: _ => x.2.length
def numB (r : Int) : Bool := inB r 0 9
def okC (P : List PC) (k : Nat) (x : PC) : Bool := nameB x.1 12 && (decide (x.2.length = n0 P) && (decide (x.2.length ≤ 20) && (x.2.all numB && !((P.take k).any fun o => o.1.toList == x.1.toList))))
def arB (P : List PC) : Bool := ((List.range P.length).all fun k => match P[k]? with | some d => okC P k d | none => true) && decide (P.length ≤ 8)
theorem arB_no {P : List PC} {k : Nat} {d : PC} (hd : P[k]? = some d) (h : okC P k d = false) : arB P = false := by
  have : ((List.range P.length).all fun k => match P[k]? with | some d => okC P k d | none => true) = false := by
    rw [List.all_eq_false]; exact ⟨k, by simpa using (List.getElem?_eq_some_iff.1 hd).1, by simp [hd, h]⟩
  simp [arB, this]
theorem arB_end {P : List PC} (h : ∀ k d, k < P.length → P[k]? = some d → okC P k d = true) : arB P = decide (P.length ≤ 8) := by
  have : ((List.range P.length).all fun k => match P[k]? with | some d => okC P k d | none => true) = true := by
    rw [List.all_eq_true]; intro k hk
    have hk' : k < P.length := by simpa using hk
    rw [List.getElem?_eq_getElem hk']; exact h k _ hk' (List.getElem?_eq_getElem hk')
  simp [arB, this]
theorem arB_ok {P : List PC} (h : arB P = true) {k : Nat} {d : PC} (hd : P[k]? = some d) : okC P k d = true := by
  rcases hh : okC P k d with _ | _
  · rw [arB_no hd hh] at h; cases h
  · rfl
theorem getp {l : List Cp} {k : Nat} {d : Cp} (hd : l[k]? = some d) : (l.map Cp.p)[k]? = some d.p := by rw [List.getElem?_map, hd]; rfl
theorem n0_of {l : List Cp} {d : Cp} (hd : l[0]? = some d) : n0 (l.map Cp.p) = d.rs.length := by
  cases l with
  | nil => simp at hd
  | cons x l => simp at hd; subst hd; rfl
theorem ok_1 {P : List PC} {k : Nat} {x : PC} (h : nameB x.1 12 = false) : okC P k x = false := by simp [okC, h]
theorem ok_2 {P : List PC} {k : Nat} {x : PC} (h : x.2.length ≠ n0 P) : okC P k x = false := by simp [okC, h]
theorem ok_3 {P : List PC} {k : Nat} {x : PC} (h : ¬ x.2.length ≤ 20) : okC P k x = false := by simp [okC, h]
theorem ok_4 {P : List PC} {k : Nat} {x : PC} (h : x.2.all numB = false) : okC P k x = false := by simp [okC, h]
theorem ok_5 {P : List PC} {k : Nat} {x : PC} (h : ((P.take k).any fun o => o.1.toList == x.1.toList) = true) : okC P k x = false := by simp [okC, h]
theorem ok_0 {P : List PC} {k : Nat} {x : PC} (h1 : nameB x.1 12 = true) (h2 : x.2.length = n0 P) (h3 : x.2.length ≤ 20) (h4 : x.2.all numB = true) (h5 : ((P.take k).any fun o => o.1.toList == x.1.toList) = false) : okC P k x = true := by simp [okC, h1, h2, h4, h5]; omega
theorem any_take {l : List Cp} {k : Nat} {s : ByteArray} : (((l.map Cp.p).take k).any fun o => o.1.toList == s.toList) = (l.take k).any fun o => o.name.toList == s.toList := by
  rw [← List.map_take, List.any_map]; rfl

set_option maxRecDepth 100000 in
set_option maxHeartbeats 4000000 in
theorem specAreCopies_any (A : Option Addr) (l : List Cp) (c lo hi : Nat) (w : World) (hr : RdC w lo hi A l) (hhi : hi ≤ w.heap.size) (hok : ∀ d ∈ l, d.name.size ≤ maxLen) (hrs : ∀ d ∈ l, d.rs.length ≤ 2000000) (hn : l.length ≤ 2000000) :
    Calls Tryd.prog 59 #[.slice A l.length c] w fun e w' => e = .returned (.bool (arB (l.map Cp.p))) ∧ Up w w' := by
  go_enter Tryd.func59, Tryd.ntmps59
  go_wp2
  go_loopw [2, 3, 4, 5, 6] (fun u2 i u4 u5 u6 wr => ∃ k : Nat, k ≤ l.length ∧ i = .int .i64 k ∧ (∀ j d, j < k → (l.map Cp.p)[j]? = some d → okC (l.map Cp.p) j d = true) ∧ Up w wr) (fun _ i _ _ _ _ => l.length - (intOf i).toNat)
  case atStart => exact ⟨0, Nat.zero_le _, rfl, fun j d h => absurd h (by omega), Up.refl _⟩
  case round =>
    obtain ⟨k, hk, rfl, ha, hup⟩ := hrel
    have HA := Lib.hid ha
    clear ha
    by_cases hlt : k < l.length
    · obtain ⟨b, off, d, rfl, -, -, hd, hin, q0, q1⟩ := (hr.up hup hhi).at_ hlt
      obtain ⟨b', off', d0, he, -, -, hd0, hin0, p0, p1⟩ := (hr.up hup hhi).at_ (k := 0) (by omega)
      cases he
      have HD := Lib.hid hd
      have HN0 := Lib.hid (n0_of hd0)
      have hs0 := hok d (List.mem_of_getElem? hd)
      have hs1 := hrs d (List.mem_of_getElem? hd)
      have hs2 := hrs d0 (List.mem_of_getElem? hd0)
      have hupv := hup.allocs (.cells #[.string d.name, .slice d.A d.rs.length d.c] 49)
      have hpos : 0 < l.length := by omega
      simp only [Nat.zero_mul, Nat.add_zero] at p0 p1
      have HIN := Lib.hid hin
      clear hd hd0 hin hin0
      obtain ⟨dn, dA, dc, drs⟩ := d
      simp only at HIN hs0 hs1 q0 q1 hupv
      go_wp2_with fail
      have c0 : (wr.alloc (.cells #[.string dn, .slice dA drs.length dc] 49)).cell? ⟨wr.heap.size, 0, none⟩ = some (.string dn) := by simp
      have c1 : (wr.alloc (.cells #[.string dn, .slice dA drs.length dc] 49)).cell? ⟨wr.heap.size, 1, none⟩ = some (.slice dA drs.length dc) := by simp
      have p1' := (Up.alloc wr (.cells #[.string dn, .slice dA drs.length dc] 49)).cell p1
      have HU1 := Lib.hid (Up.alloc wr (.cells #[.string dn, .slice dA drs.length dc] 49))
      generalize wr.alloc (.cells #[.string dn, .slice dA drs.length dc] 49) = W1 at *
      have C0 := cell_regrown c0
      have C1 := cell_regrown c1
      have P1 := cell_regrown p1'
      have cN : ∀ dd os, Calls Tryd.prog 86 #[.string dn, .int .i64 12] (grow (redrawn W1 dd) os) fun e w'' => e = .returned (.bool (nameB dn 12)) ∧ ∃ p : Regrown, w'' = grow (redrawn W1 p.d) p.os :=
        fun dd os => Calls.regrown_of ((l01Name_any dn 12 _ hs0).mono fun _ _ ⟨h1, h2⟩ => ⟨h1, by rw [← h2]; exact Up.refl _⟩)
      by_cases hN : nameB dn 12 = true
      · by_cases hL : drs.length = d0.rs.length
        · have hLb : ((drs.length : Int) != (d0.rs.length : Int)) = false := by simp [hL]
          have HL := Lib.hid hL
          clear hL
          by_cases hM : drs.length ≤ 20
          · have hMb : decide ((20 : Int) < (drs.length : Int)) = false := by simp; omega
            have HNN := Lib.hid hN
            refine wp_region_quiet_below (by kernel_rfl) (by kernel_rfl) ?_
            repeat (first | go_big_quiet_step ((go_at_call 86; exact cN _ _)) | quiet_step ((go_at_call 86; exact cN _ _)))
            refine wpQuiet_nil ?_
            intro w2 hw2
            obtain ⟨⟨dq, osq⟩, hw2⟩ := hw2
            have hup2 : Up W1 w2 := by rw [hw2]; exact below_regrown _ _ _
            clear hw2 C0 C1 P1 cN
            have x0 := hup2.cell c0
            have x1 := hup2.cell c1
            have hupw := hupv.trans hup2
            have HIN2 := Lib.hid (HIN.out.up (HU1.out.trans hup2) (Nat.le_trans hhi hup.size))
            clear c0 c1 p1' hMb hLb hN
            go_wp2
            go_loop [5] (fun i => ∃ j : Nat, j ≤ drs.length ∧ i = .int .i64 j ∧ ∀ q z, q < j → drs[q]? = some z → numB z = true) (fun i => drs.length - (intOf i).toNat)
            case atStart => exact ⟨0, Nat.zero_le _, rfl, fun q z h => absurd h (by omega)⟩
            case round =>
              obtain ⟨j, hj, rfl, hq⟩ := hrel
              have HQ := Lib.hid hq
              clear hq
              by_cases hlj : j < drs.length
              · obtain ⟨bb, oo, z, rfl, -, -, hz, y0⟩ := HIN2.out.int hlj
                have HZ := Lib.hid hz
                clear hz
                rcases hnz : numB z with _ | _
                · have hnz' : (!inB z 0 9) = true := by simpa [numB] using hnz
                  have HZN := Lib.hid hnz
                  clear hnz
                  go_wp2_with (go_at_call 83; refine (l01In_any _ _ _ _).mono ?_; rintro e w' ⟨rfl, rfl⟩)
                  go_ret
                  exact ⟨ret_bool (arB_no (getp HD.out) (ok_4 (by rw [List.all_eq_false]; exact ⟨z, List.mem_of_getElem? HZ.out, by simp [HZN.out]⟩))).symm, hupw⟩
                · have hnz' : (!inB z 0 9) = false := by simpa [numB] using hnz
                  have HZN := Lib.hid hnz
                  clear hnz
                  go_wp2_with (go_at_call 83; refine (l01In_any _ _ _ _).mono ?_; rintro e w' ⟨rfl, rfl⟩)
                  go_round
                  case rel => exact ⟨j + 1, by omega, by go_num, fun q y hq hy => by
                    rcases Nat.lt_or_ge q j with h | h
                    · exact HQ.out q y h hy
                    · obtain rfl : q = j := by omega
                      rw [HZ.out] at hy; cases hy; exact HZN.out⟩
                  case measure => simp [intOf]; omega
              · have hall : drs.all numB = true := by
                  rw [List.all_eq_true]; intro z hz
                  obtain ⟨q, hq, e⟩ := List.getElem_of_mem hz
                  exact HQ.out q z (by omega) (by rw [List.getElem?_eq_getElem hq, e])
                have HALL := Lib.hid hall
                clear hall
                go_wp2
                go_loopw [6] (fun m wi => ∃ j : Nat, j ≤ k ∧ m = .int .i64 j ∧ ((l.take j).any fun o => o.name.toList == dn.toList) = false ∧ Up w2 wi) (fun m _ => k - (intOf m).toNat)
                case atStart => exact ⟨0, Nat.zero_le _, rfl, by simp, Up.refl _⟩
                case round =>
                  obtain ⟨m, hm, rfl, hany, hupi⟩ := hrel
                  have HANY := Lib.hid hany
                  clear hany
                  by_cases hlm : m < k
                  · obtain ⟨b9, o9, d9, he9, -, -, hd9, -, t0, t1⟩ := (hr.up (hupw.trans hupi) hhi).at_ (k := m) (by omega)
                    cases he9
                    have HD9 := Lib.hid hd9
                    clear hd9
                    have hml : m < l.length := by omega
                    have T0 := cell_regrown t0
                    have X0 := cell_regrown (hupi.cell x0)
                    go_wp2_with fail
                    refine wp_region_quiet_below (by kernel_rfl) (by kernel_rfl) ?_
                    repeat (quiet_step (fail))
                    refine wpQuiet_nil ?_
                    intro w5 hw5
                    obtain ⟨⟨dq, osq⟩, hw5⟩ := hw5
                    have hup5 : Up wr w5 := by rw [hw5]; exact below_regrown _ _ _
                    clear hw5 T0 X0
                    go_wp2
                    · have hq : (d9.name.toList == dn.toList) = true := by assumption
                      go_ret
                      exact ⟨ret_bool (arB_no (getp HD.out) (ok_5 (by rw [show (Cp.p ⟨dn, dA, dc, drs⟩).1 = dn from rfl, any_take, List.any_eq_true]; exact ⟨d9, List.mem_of_getElem? (by rw [List.getElem?_take_of_lt hlm]; exact HD9.out), hq⟩))).symm, hupw.trans (hupi.trans hup5)⟩
                    · have hq : (d9.name.toList == dn.toList) = false := by assumption
                      have HQQ := Lib.hid hq
                      go_roundw
                      case rel => exact ⟨m + 1, by omega, by go_num, by rw [List.take_succ_eq_append_getElem hml, List.any_append, HANY.out, (List.getElem?_eq_some_iff.1 HD9.out).2]; simp [HQQ.out], hupi.trans hup5⟩
                      case measure => simp [intOf]; omega
                  · have hmk : m = k := by omega
                    have HMK := Lib.hid hmk
                    clear hmk
                    go_wp2
                    go_roundw
                    case rel => exact ⟨k + 1, by omega, by go_num, fun j d' hj hd' => by
                      rcases Nat.lt_or_ge j k with h | h
                      · exact HA.out j d' h hd'
                      · obtain rfl : j = k := by omega
                        rw [getp HD.out] at hd'; cases hd'
                        have ha := HANY.out
                        rw [HMK.out] at ha
                        exact ok_0 HNN.out (by rw [HN0.out]; exact HL.out) hM HALL.out (by rw [show (Cp.p ⟨dn, dA, dc, drs⟩).1 = dn from rfl, any_take]; exact ha), hupw.trans hupi⟩
                    case measure => simp [intOf]; omega
          · have hMb : decide ((20 : Int) < (drs.length : Int)) = true := by simp; omega
            refine wp_region_quiet_below (by kernel_rfl) (by kernel_rfl) ?_
            repeat (first | go_big_quiet_step ((go_at_call 86; exact cN _ _)) | quiet_step ((go_at_call 86; exact cN _ _)))
            refine wpQuiet_nil ?_
            intro w2 hw2
            obtain ⟨⟨dq, osq⟩, hw2⟩ := hw2
            have hup2 : Up W1 w2 := by rw [hw2]; exact below_regrown _ _ _
            clear hw2 C0 C1 P1 cN
            go_wp2
            go_ret
            exact ⟨ret_bool (arB_no (getp HD.out) (ok_3 hM)).symm, hupv.trans hup2⟩
        · have hLb : ((drs.length : Int) != (d0.rs.length : Int)) = true := by rw [bne_iff_ne]; omega
          have HL := Lib.hid hL
          clear hL
          refine wp_region_quiet_below (by kernel_rfl) (by kernel_rfl) ?_
          repeat (first | go_big_quiet_step ((go_at_call 86; exact cN _ _)) | quiet_step ((go_at_call 86; exact cN _ _)))
          refine wpQuiet_nil ?_
          intro w2 hw2
          obtain ⟨⟨dq, osq⟩, hw2⟩ := hw2
          have hup2 : Up W1 w2 := by rw [hw2]; exact below_regrown _ _ _
          clear hw2 C0 C1 P1 cN
          go_wp2
          go_ret
          exact ⟨ret_bool (arB_no (getp HD.out) (ok_2 (by rw [HN0.out]; exact HL.out))).symm, hupv.trans hup2⟩
      · have hN' : nameB dn 12 = false := by simpa using hN
        clear hN
        have HNN := Lib.hid hN'
        refine wp_region_quiet_below (by kernel_rfl) (by kernel_rfl) ?_
        repeat (first | go_big_quiet_step ((go_at_call 86; exact cN _ _)) | quiet_step ((go_at_call 86; exact cN _ _)))
        refine wpQuiet_nil ?_
        intro w2 hw2
        obtain ⟨⟨dq, osq⟩, hw2⟩ := hw2
        have hup2 : Up W1 w2 := by rw [hw2]; exact below_regrown _ _ _
        clear hw2 C0 C1 P1 cN
        go_wp2
        go_ret
        exact ⟨ret_bool (arB_no (getp HD.out) (ok_1 HNN.out)).symm, hupv.trans hup2⟩
    · have h0 := arB_end (P := l.map Cp.p) (fun j d hj hd => HA.out j d (by simp at hj; omega) hd)
      have H0 := Lib.hid h0
      clear h0
      go_wp2
      go_ret
      exact ⟨ret_bool (by rw [H0.out, List.length_map]; exact decide_eq_decide.2 (by omega)), hup⟩

def sameN (s : ByteArray) (o : Cp) : Bool := o.name.toList == s.toList
theorem areClosure1_any (o : Cp) (s : ByteArray) (vb : Nat) (w : World) (hc : w.cell? ⟨vb, 0, none⟩ = some (.string s)) :
    Calls Tryd.prog 79 #[o.val, .pointer (some ⟨vb, 0, none⟩)] w fun e w' => e = .returned (.bool (sameN s o)) ∧ Up w w' := by
  have hc' := (Up.alloc w (.cells #[.string o.name, .slice o.A o.rs.length o.c] 49)).cell hc
  go_enter Tryd.func79, Tryd.ntmps79
  go_wp2
  go_ret
  exact ⟨rfl, Up.alloc _ _⟩
theorem areClosure2_any (z : Int) (w : World) :
    Calls Tryd.prog 80 #[.int .i64 z] w fun e w' => e = .returned (.bool (!numB z)) ∧ Up w w' := by
  go_enter Tryd.func80, Tryd.ntmps80
  go_wp2_with (go_at_call 65; refine (within_any _ _ _ _).mono ?_; rintro e w' ⟨rfl, rfl⟩)
  go_ret
  exact ⟨rfl, Up.refl _⟩

set_option maxRecDepth 100000 in
set_option maxHeartbeats 4000000 in
theorem implAreCopies_any (A : Option Addr) (l : List Cp) (c lo hi : Nat) (w : World) (hr : RdC w lo hi A l) (hhi : hi ≤ w.heap.size) (hok : ∀ d ∈ l, d.name.size ≤ maxLen) (hrs : ∀ d ∈ l, d.rs.length ≤ 2000000) (hn : l.length ≤ 2000000) (hc : l.length ≤ c) (_hcm : c ≤ maxLen) :
    Calls Tryd.prog 40 #[.slice A l.length c] w fun e w' => e = .returned (.bool (arB (l.map Cp.p))) ∧ Up w w' := by
  go_enter Tryd.func40, Tryd.ntmps40
  go_wp2
  go_loopw [2, 3, 4, 7] (fun u2 u3 u4 i wr => ∃ k : Nat, k ≤ l.length ∧ i = .int .i64 k ∧ (∀ j d, j < k → (l.map Cp.p)[j]? = some d → okC (l.map Cp.p) j d = true) ∧ Up w wr) (fun _ _ _ i _ => l.length - (intOf i).toNat)
  case atStart => exact ⟨0, Nat.zero_le _, rfl, fun j d h => absurd h (by omega), Up.refl _⟩
  case round =>
    obtain ⟨k, hk, rfl, ha, hup⟩ := hrel
    have HA := Lib.hid ha
    clear ha
    by_cases hlt : k < l.length
    · obtain ⟨b, off, d, rfl, -, -, hd, hin, q0, q1⟩ := (hr.up hup hhi).at_ hlt
      obtain ⟨b', off', d0, he, -, -, hd0, hin0, p0, p1⟩ := (hr.up hup hhi).at_ (k := 0) (by omega)
      cases he
      have HD := Lib.hid hd
      have HN0 := Lib.hid (n0_of hd0)
      have hs0 := hok d (List.mem_of_getElem? hd)
      have hs1 := hrs d (List.mem_of_getElem? hd)
      have hs2 := hrs d0 (List.mem_of_getElem? hd0)
      have hupv := hup.allocs (.cells #[.string d.name, .slice d.A d.rs.length d.c] 49)
      have hpos : 0 < l.length := by omega
      have hkc : k ≤ c := by omega
      simp only [Nat.zero_mul, Nat.add_zero] at p0 p1
      have HIN := Lib.hid hin
      clear hd hd0 hin hin0 p0 hc
      obtain ⟨dn, dA, dc, drs⟩ := d
      simp only at HIN hs0 hs1 q0 q1 hupv
      go_wp2_with fail
      refine (isSmall_any dn 12 _ hs0).mono ?_
      rintro e w2 ⟨rfl, hup2⟩
      have x0 := hup2.cell (a := ⟨wr.heap.size, 0, none⟩) (v := .string dn) (by simp)
      have x1 := hup2.cell (a := ⟨wr.heap.size, 1, none⟩) (v := .slice dA drs.length dc) (by simp)
      have hup12 := (Up.alloc wr (.cells #[.string dn, .slice dA drs.length dc] 49)).trans hup2
      have hupw := hup.trans hup12
      by_cases hN : nameB dn 12 = true
      · have HNN := Lib.hid hN
        have CF := containsFuncC_any (some ⟨b, off, none⟩) (l.take k) c lo hi 79 #[.pointer (some ⟨wr.heap.size, 0, none⟩)] (sameN dn) w2 ((hr.up hupw hhi).take k) (Nat.le_trans hhi hupw.size) (by rw [List.length_take]; omega) (fun _ _ => by kernel_rfl)
          (fun o _ w1 hu1 => areClosure1_any o dn wr.heap.size w1 (hu1.cell x0))
        rw [List.length_take, Nat.min_eq_left hk] at CF
        obtain ⟨B, hB⟩ : ∃ B, B = (l.take k).any (sameN dn) := ⟨_, rfl⟩
        rw [← hB] at CF
        have CF' := Lib.hid CF
        have HB := Lib.hid hB
        clear CF hB
        go_wp2_with fail
        refine CF'.out.mono ?_
        rintro e w3 ⟨rfl, hup3⟩
        have hupx := hupw.trans hup3
        cases B
        · have y0 := hup3.cell x0
          have y1 := hup3.cell x1
          have y2 := (hup12.trans hup3).cell p1
          have X0 := cell_regrown y0
          have X1 := cell_regrown y1
          have P1 := cell_regrown y2
          have HIN2 := Lib.hid (HIN.out.up (hup12.trans hup3) (Nat.le_trans hhi hup.size))
          have hh3 : hi ≤ w3.heap.size := Nat.le_trans hhi hupx.size
          have cI : ∀ dd os, Calls Tryd.prog 63 #[.slice dA drs.length dc, .func (.func 80) #[] #[]] (grow (redrawn w3 dd) os) fun e w'' => e = .returned (.bool (drs.any fun z => !numB z)) ∧ ∃ p : Regrown, w'' = grow (redrawn w3 p.d) p.os :=
            fun dd os => Calls.regrown_of (containsFuncI_any dA drs dc lo hi 80 #[] (fun z => !numB z) _ (HIN2.out.up (below_regrown _ _ _) hh3) (Nat.le_trans hh3 (below_regrown _ _ _).size) hs1 (fun _ _ => by kernel_rfl) (fun z _ w1 _ => areClosure2_any z w1))
          clear x0 x1 p1 q0 q1 y0 y1 y2
          go_wp2_with fail
          by_cases hM : drs.length ≤ 20
          · have hMb : decide ((20 : Int) < (drs.length : Int)) = false := by simp; omega
            by_cases hL : drs.length = d0.rs.length
            · have hLb : ((drs.length : Int) != (d0.rs.length : Int)) = false := by simp [hL]
              have HL := Lib.hid hL
              clear hL
              refine wp_region_quiet_below (by kernel_rfl) (by kernel_rfl) ?_
              repeat (first | go_big_quiet_step ((go_at_call 63; exact cI _ _)) | quiet_step ((go_at_call 63; exact cI _ _)))
              refine wpQuiet_nil ?_
              intro w5 hw5
              obtain ⟨⟨dq, osq⟩, hw5⟩ := hw5
              have hup5 : Up w3 w5 := by rw [hw5]; exact below_regrown _ _ _
              clear hw5 X0 X1 P1 cI
              clear hMb hLb hN
              go_wp2
              · have hq : (drs.any fun z => !numB z) = true := by assumption
                have HQ := Lib.hid hq
                go_ret
                exact ⟨ret_bool (arB_no (getp HD.out) (ok_4 (by rw [show (Cp.p ⟨dn, dA, dc, drs⟩).2 = drs from rfl, List.all_eq_not_any_not, HQ.out]; rfl))).symm, hupx.trans hup5⟩
              · have hq : (drs.any fun z => !numB z) = false := by assumption
                have HQ := Lib.hid hq
                clear hq
                go_roundw
                case rel => exact ⟨k + 1, by omega, by go_num, fun j d' hj hd' => by
                  rcases Nat.lt_or_ge j k with h | h
                  · exact HA.out j d' h hd'
                  · obtain rfl : j = k := by omega
                    rw [getp HD.out] at hd'; cases hd'
                    exact ok_0 HNN.out (by rw [HN0.out]; exact HL.out) hM (by rw [show (Cp.p ⟨dn, dA, dc, drs⟩).2 = drs from rfl, List.all_eq_not_any_not, HQ.out]; rfl) (by rw [show (Cp.p ⟨dn, dA, dc, drs⟩).1 = dn from rfl, any_take]; exact HB.out.symm), hupx.trans hup5⟩
                case measure => simp [intOf]; omega
            · have hLb : ((drs.length : Int) != (d0.rs.length : Int)) = true := by rw [bne_iff_ne]; omega
              have HL := Lib.hid hL
              clear hL
              refine wp_region_quiet_below (by kernel_rfl) (by kernel_rfl) ?_
              repeat (first | go_big_quiet_step ((go_at_call 63; exact cI _ _)) | quiet_step ((go_at_call 63; exact cI _ _)))
              refine wpQuiet_nil ?_
              intro w5 hw5
              obtain ⟨⟨dq, osq⟩, hw5⟩ := hw5
              have hup5 : Up w3 w5 := by rw [hw5]; exact below_regrown _ _ _
              clear hw5 X0 X1 P1 cI
              go_wp2
              go_ret
              exact ⟨ret_bool (arB_no (getp HD.out) (ok_2 (by rw [HN0.out]; exact HL.out))).symm, hupx.trans hup5⟩
          · have hMb : decide ((20 : Int) < (drs.length : Int)) = true := by simp; omega
            refine wp_region_quiet_below (by kernel_rfl) (by kernel_rfl) ?_
            repeat (first | go_big_quiet_step ((go_at_call 63; exact cI _ _)) | quiet_step ((go_at_call 63; exact cI _ _)))
            refine wpQuiet_nil ?_
            intro w5 hw5
            obtain ⟨⟨dq, osq⟩, hw5⟩ := hw5
            have hup5 : Up w3 w5 := by rw [hw5]; exact below_regrown _ _ _
            clear hw5 X0 X1 P1 cI
            go_wp2
            go_ret
            exact ⟨ret_bool (arB_no (getp HD.out) (ok_3 hM)).symm, hupx.trans hup5⟩
        · go_wp2
          go_ret
          exact ⟨ret_bool (arB_no (getp HD.out) (ok_5 (by rw [show (Cp.p ⟨dn, dA, dc, drs⟩).1 = dn from rfl, any_take]; exact HB.out.symm))).symm, hupx⟩
      · have hN' : nameB dn 12 = false := by simpa using hN
        clear hN
        have HNN := Lib.hid hN'
        go_wp2
        go_ret
        exact ⟨ret_bool (arB_no (getp HD.out) (ok_1 HNN.out)).symm, hupw⟩
    · have h0 := arB_end (P := l.map Cp.p) (fun j d hj hd => HA.out j d (by simp at hj; omega) hd)
      have H0 := Lib.hid h0
      clear h0
      go_wp2
      go_ret
      exact ⟨ret_bool (by rw [H0.out, List.length_map]; exact decide_eq_decide.2 (by omega)), hup⟩
end Go.Proofs.YtncmenfdnpmblaaDoor
