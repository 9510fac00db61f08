/- The lines of a log: their check numbers and words, by the reference. -/
import Derived.Test.YtngananoidplmaaGreatDoorDig
import Derived.Test.YtngananoidplmaaGreatDoorLog
import Derived.Deep.RegionHeld3
namespace Go.Proofs.YtngananoidplmaaGreatDoor
open Go.RowKit Go.Sort

def sumN (l : List UInt8) : Nat := (l.map UInt8.toNat).sum
theorem sumN_app (a b : List UInt8) : sumN (a ++ b) = sumN a + sumN b := by simp [sumN]
theorem sumN_le : ∀ l : List UInt8, sumN l ≤ 255 * l.length
  | [] => by simp [sumN]
  | x :: l => by
    have h1 := sumN_le l
    have h2 := x.toNat_lt
    simp only [sumN, List.map_cons, List.sum_cons, List.length_cons] at h1 ⊢
    omega
theorem sumN_succ {l : List UInt8} {k : Nat} {c : UInt8} (h : l[k]? = some c) : sumN (l.take (k + 1)) = sumN (l.take k) + c.toNat := by
  rw [List.take_succ_eq_append_getElem (List.getElem?_eq_some_iff.1 h).1, (List.getElem?_eq_some_iff.1 h).2, sumN_app]
  simp [sumN]

set_option maxHeartbeats 1000000 in
theorem l26Sum_any (s : ByteArray) (w : World) (hs : s.size ≤ 1000) :
    Calls Tryz.prog 44 #[.string s] w fun e w' => e = .returned (.int .i64 (sumN s.data.toList : Int)) ∧ Up w w' := by
  go_enter Tryz.func44, Tryz.ntmps44
  go_wp2
  go_loopw [3, 4] (fun n i wr => ∃ k : Nat, ∃ m : Nat, k ≤ s.size ∧ i = .int .i64 k ∧ n = .int .i64 m ∧ m = sumN (s.data.toList.take k) ∧ m ≤ 255 * k ∧ Up w wr) (fun _ i _ => s.size - (intOf i).toNat)
  case atStart => exact ⟨0, 0, Nat.zero_le _, rfl, rfl, by simp [sumN], by omega, Up.refl _⟩
  case round =>
    obtain ⟨k, m, hk, rfl, rfl, hm, hmb, hup⟩ := hrel
    have HM := Lib.hid hm
    clear hm
    by_cases hlt : k < s.size
    · have hc : s.data.toList[k]? = some s[k] := by rw [List.getElem?_eq_getElem (by simpa using hlt)]; rfl
      have HC := Lib.hid (sumN_succ hc)
      have hb := s[k].toNat_lt
      clear hc
      go_wp2
      go_roundw
      case rel => exact ⟨k + 1, m + s[k].toNat, by omega, by go_num, by go_num, by rw [HC.out, HM.out], by omega, hup⟩
      case measure => simp [intOf]; omega
    · have HE := Lib.hid (show m = sumN s.data.toList by rw [HM.out, List.take_of_length_le (by simp; omega)])
      go_wp2
      go_ret
      exact ⟨ret_int (by rw [HE.out]), hup⟩

def wdB : Int → ByteArray
  | 0 => ⟨#[100, 97, 116, 101, 100]⟩
  | 1 => ⟨#[115, 117, 115, 112, 101, 99, 116, 101, 100]⟩
  | _ => ⟨#[99, 108, 101, 97, 114, 101, 100]⟩
set_option maxHeartbeats 1000000 in
theorem l26Words_any (w : World) : Calls Tryz.prog 20 #[] w fun e w' => e = .returned (.slice (some ⟨w.heap.size, 0, none⟩) 3 3) ∧ w'.cell? ⟨w.heap.size, 0, none⟩ = some (.string (wdB 0)) ∧ w'.cell? ⟨w.heap.size, 1, none⟩ = some (.string (wdB 1)) ∧ w'.cell? ⟨w.heap.size, 2, none⟩ = some (.string (wdB 2)) ∧ Up w w' := by
  go_enter Tryz.func20, Tryz.ntmps20
  go_wp2
  go_ret
  exact ⟨rfl, by go_simp; rfl, by go_simp; rfl, by go_simp; rfl, Up.alloc _ _⟩
set_option maxHeartbeats 1000000 in
theorem decisionWords_any (w : World) : Calls Tryz.prog 48 #[] w fun e w' => e = .returned (.slice (some ⟨w.heap.size, 0, none⟩) 3 3) ∧ w'.cell? ⟨w.heap.size, 0, none⟩ = some (.string (wdB 0)) ∧ w'.cell? ⟨w.heap.size, 1, none⟩ = some (.string (wdB 1)) ∧ w'.cell? ⟨w.heap.size, 2, none⟩ = some (.string (wdB 2)) ∧ Up w w' := by
  go_enter Tryz.func48, Tryz.ntmps48
  go_wp2
  go_ret
  exact ⟨rfl, by go_simp; rfl, by go_simp; rfl, by go_simp; rfl, Up.alloc _ _⟩

/-- a decision that could be in a log, with its numbers as they are -/
structure Ok (d : Dec) (kd dy : Nat) : Prop where
  kind : d.kind = (kd : Int)
  day : d.day = (dy : Int)
  k2 : kd ≤ 2
  dy2 : dy ≤ 730499
  deed : d.deed.size ≤ 12
  by_ : d.by_.size ≤ 8
def ckN (c : Nat) (d : Dec) (kd dy : Nat) : Nat := (c * 37 + 11 * kd + dy + sumN d.deed.data.toList + sumN d.by_.data.toList) % 99989
theorem ckN_lt (c : Nat) (d : Dec) (kd dy : Nat) : ckN c d kd dy < 99989 := Nat.mod_lt _ (by decide)

set_option maxRecDepth 100000 in
set_option maxHeartbeats 2000000 in
theorem l26Check_any (c : Nat) (d : Dec) (kd dy : Nat) (w : World) (hc : c < 99989) (ho : Ok d kd dy) :
    Calls Tryz.prog 25 #[.int .i64 (c : Int), d.val] w fun e w' => e = .returned (.int .i64 (ckN c d kd dy : Int)) ∧ Up w w' := by
  obtain ⟨hk, hd, hk2, hd2, hn1, hn2⟩ := ho
  have S1 := fun wx => l26Sum_any d.deed wx (by omega)
  have S2 := fun wx => l26Sum_any d.by_ wx (by omega)
  have b1 := sumN_le d.deed.data.toList
  have b2 := sumN_le d.by_.data.toList
  rw [Array.length_toList] at b1 b2
  have hE : Hid (ckN c d kd dy = (c * 37 + 11 * kd + dy + sumN d.deed.data.toList + sumN d.by_.data.toList) % 99989) := Lib.hid rfl
  have hb1 : sumN d.deed.data.toList ≤ 3060 := by have : d.deed.data.size = d.deed.size := rfl; omega
  have hb2 : sumN d.by_.data.toList ≤ 2040 := by have : d.by_.data.size = d.by_.size := rfl; omega
  clear b1 b2
  generalize sumN d.deed.data.toList = m1 at *
  generalize sumN d.by_.data.toList = m2 at *
  obtain ⟨r, hr⟩ : ∃ r, r = ckN c d kd dy := ⟨_, rfl⟩
  rw [← hr]
  have htm : ((c : Int) * 37 + 11 * (kd : Int) + (dy : Int) + (m1 : Int) + (m2 : Int)).tmod 99989 = (r : Int) := by
    rw [Int.tmod_eq_emod_of_nonneg (by omega), hr, hE.out]; omega
  have HS1 := Lib.hid S1
  have HS2 := Lib.hid S2
  have hub := Up.alloc w (.cells #[.string d.deed, .int .i64 (kd : Int), .int .i64 (dy : Int), .string d.by_] 43)
  have Q0 := cell_regrown (show (w.alloc (.cells #[.string d.deed, .int .i64 (kd : Int), .int .i64 (dy : Int), .string d.by_] 43)).cell? ⟨w.heap.size, 0, none⟩ = some (.string d.deed) by go_simp)
  have Q1 := cell_regrown (show (w.alloc (.cells #[.string d.deed, .int .i64 (kd : Int), .int .i64 (dy : Int), .string d.by_] 43)).cell? ⟨w.heap.size, 1, none⟩ = some (.int .i64 (kd : Int)) by go_simp)
  have Q2 := cell_regrown (show (w.alloc (.cells #[.string d.deed, .int .i64 (kd : Int), .int .i64 (dy : Int), .string d.by_] 43)).cell? ⟨w.heap.size, 2, none⟩ = some (.int .i64 (dy : Int)) by go_simp)
  have Q3 := cell_regrown (show (w.alloc (.cells #[.string d.deed, .int .i64 (kd : Int), .int .i64 (dy : Int), .string d.by_] 43)).cell? ⟨w.heap.size, 3, none⟩ = some (.string d.by_) by go_simp)
  obtain ⟨dd, dk, ddy, db⟩ := d
  simp only at hk hd Q0 Q1 Q2 Q3 HS1 HS2 hub
  subst hk
  subst hd
  clear S1 S2 hr hE
  go_enter Tryz.func25, Tryz.ntmps25
  go_wp2_with fail
  generalize w.alloc (.cells #[.string dd, .int .i64 (kd : Int), .int .i64 (dy : Int), .string db] 43) = wa at *
  refine wp_region_quiet_below (by kernel_rfl) (by kernel_rfl) ?_
  repeat (first | go_big_quiet_step ((go_at_call 44; first | (with_reducible exact Calls.regrown_of (HS1.out _)) | (with_reducible exact Calls.regrown_of (HS2.out _)))) | quiet_step ((go_at_call 44; first | (with_reducible exact Calls.regrown_of (HS1.out _)) | (with_reducible exact Calls.regrown_of (HS2.out _)))))
  refine wpQuiet_nil ?_
  intro w7 hw7
  obtain ⟨⟨dq, osq⟩, hw7⟩ := hw7
  have hup7 : Up wa w7 := by rw [hw7]; exact below_regrown _ _ _
  clear hw7 Q0 Q1 Q2 Q3
  go_wp2
  go_ret
  exact ⟨rfl, hub.trans hup7⟩

def spB : ByteArray := ⟨#[32]⟩
def hdB (d : Dec) (kd : Nat) : ByteArray := (((d.deed ++ spB) ++ wdB kd) ++ spB) ++ d.by_
def mdB (d : Dec) (kd dy : Nat) : ByteArray := if kd = 0 then (hdB d kd ++ spB) ++ dcB dy else hdB d kd
def lnB (d : Dec) (kd dy c : Nat) : ByteArray := (mdB d kd dy ++ spB) ++ dcB c
theorem wdB_size (k : Int) : (wdB k).size ≤ 9 := by unfold wdB; split <;> decide
theorem spB_size : spB.size = 1 := rfl
theorem hdB_size {d : Dec} {kd dy : Nat} (h : Ok d kd dy) : (hdB d kd).size ≤ 40 := by
  have h1 := h.deed
  have h2 := h.by_
  have h3 := wdB_size kd
  unfold hdB
  simp only [ByteArray.size_append, spB_size]
  omega
theorem mdB_size {d : Dec} {kd dy : Nat} (h : Ok d kd dy) : (mdB d kd dy).size ≤ 60 := by
  have h1 := hdB_size h
  have h2 := dcB_size (n := dy) (by have := h.dy2; omega)
  unfold mdB
  split
  · simp only [ByteArray.size_append, spB_size]; omega
  · omega

theorem words_at {w : World} {b kd : Nat} {wd : ByteArray} (v0 : w.cell? ⟨b, 0, none⟩ = some (.string (wdB 0))) (v1 : w.cell? ⟨b, 1, none⟩ = some (.string (wdB 1))) (v2 : w.cell? ⟨b, 2, none⟩ = some (.string (wdB 2))) (hk : kd < 3) (hw : wd = wdB kd) : w.cell? ⟨b, kd, none⟩ = some (.string wd) := by
  subst hw
  match kd, hk with
  | 0, _ => exact v0
  | 1, _ => exact v1
  | 2, _ => exact v2

set_option maxRecDepth 100000 in
set_option maxHeartbeats 4000000 in
theorem l26Line_any (c : Nat) (d : Dec) (kd dy : Nat) (w : World) (hc : c < 99989) (ho : Ok d kd dy) :
    Calls Tryz.prog 24 #[d.val, .int .i64 (c : Int)] w fun e w' => e = .returned (.string (lnB d kd dy c)) ∧ Up w w' := by
  have hmd := mdB_size ho
  have hhd := hdB_size ho
  have hwsz := wdB_size kd
  obtain ⟨hk, hd, hk2, hd2, hn1, hn2⟩ := ho
  have hdz := dcB_size (n := dy) (by omega)
  have hcz := dcB_size (n := c) (by omega)
  have D1 := Lib.hid (fun wx => l01Dec_any (dy + 1) dy (by omega) (by omega) wx)
  have D2 := Lib.hid (fun wx => l01Dec_any (c + 1) c (by omega) (by omega) wx)
  have hub := Up.alloc w (.cells #[.string d.deed, .int .i64 (kd : Int), .int .i64 (dy : Int), .string d.by_] 43)
  have q0 : (w.alloc (.cells #[.string d.deed, .int .i64 (kd : Int), .int .i64 (dy : Int), .string d.by_] 43)).cell? ⟨w.heap.size, 0, none⟩ = some (.string d.deed) := by go_simp
  have q1 : (w.alloc (.cells #[.string d.deed, .int .i64 (kd : Int), .int .i64 (dy : Int), .string d.by_] 43)).cell? ⟨w.heap.size, 1, none⟩ = some (.int .i64 (kd : Int)) := by go_simp
  have q2 : (w.alloc (.cells #[.string d.deed, .int .i64 (kd : Int), .int .i64 (dy : Int), .string d.by_] 43)).cell? ⟨w.heap.size, 2, none⟩ = some (.int .i64 (dy : Int)) := by go_simp
  have q3 : (w.alloc (.cells #[.string d.deed, .int .i64 (kd : Int), .int .i64 (dy : Int), .string d.by_] 43)).cell? ⟨w.heap.size, 3, none⟩ = some (.string d.by_) := by go_simp
  have HL : Hid (lnB d kd dy c = (mdB d kd dy ++ spB) ++ dcB c) := Lib.hid rfl
  have HH : Hid (hdB d kd = (((d.deed ++ spB) ++ wdB kd) ++ spB) ++ d.by_) := Lib.hid rfl
  have HM : Hid (mdB d kd dy = if kd = 0 then (hdB d kd ++ spB) ++ dcB dy else hdB d kd) := Lib.hid rfl
  generalize lnB d kd dy c = ln at *
  generalize mdB d kd dy = md at *
  generalize hdB d kd = hdd at *
  obtain ⟨dd, dk, ddy, db⟩ := d
  simp only at hk hd hn1 hn2 q0 q1 q2 q3 hub HH
  subst hk
  subst hd
  have hs1 : ¬ 9223372036854775807 < dd.size + 1 := by omega
  obtain ⟨wd, hwd⟩ : ∃ x, x = wdB kd := ⟨_, rfl⟩
  rw [← hwd] at hwsz HH
  have HWD := Lib.hid hwd
  clear hwd
  have hs2 : ¬ 9223372036854775807 < dd.size + 1 + wd.size := by omega
  have hs3 : ¬ 9223372036854775807 < dd.size + 1 + wd.size + 1 := by omega
  have hs4 : ¬ 9223372036854775807 < dd.size + 1 + wd.size + 1 + db.size := by omega
  have hs5 : ¬ 9223372036854775807 < dd.size + 1 + wd.size + 1 + db.size + 1 := by omega
  have hs6 : ¬ 9223372036854775807 < dd.size + 1 + wd.size + 1 + db.size + 1 + (dcB dy).size := by omega
  have hs7 : ¬ 9223372036854775807 < dd.size + 1 + wd.size + 1 + db.size + 1 + (dcB dy).size + 1 := by omega
  have hs8 : ¬ 9223372036854775807 < dd.size + 1 + wd.size + 1 + db.size + 1 + (dcB dy).size + 1 + (dcB c).size := by omega
  have hs9 : ¬ 9223372036854775807 < dd.size + 1 + wd.size + 1 + db.size + 1 + (dcB c).size := by omega
  go_enter Tryz.func24, Tryz.ntmps24
  go_wp2_with fail
  generalize w.alloc (.cells #[.string dd, .int .i64 (kd : Int), .int .i64 (dy : Int), .string db] 43) = wa at *
  have hd0 : Up wa wa.drew := (Up.refl _).drew
  have hkI : kd < 3 := by omega
  have hkI2 : (kd : Int) < 3 := by omega
  go_region_law (first
      | (go_simp; go_at_call 20
         refine (l26Words_any _).mono ?_
         rintro e wb ⟨rfl, v0, v1, v2, ub⟩
         have hSb : Up wa wb := Up.trans hd0 ub
         have kb0 := hSb.cell q0
         have kb1 := hSb.cell q1
         have kb2 := hSb.cell q2
         have kb3 := hSb.cell q3
         have kbw : wb.cell? ⟨wa.heap.size, kd, none⟩ = some (.string wd) := words_at v0 v1 v2 hkI HWD.out))
  all_goals
    have hWb := hub.trans hSb
    clear v0 v1 v2 kbw kb0 kb3 q0 q1 q2 q3
    by_cases hk0 : kd = 0
    · have hkb : ((kd : Int) == 0) = true := by simp; omega
      have HK := Lib.hid hk0
      clear hk0
      go_wp2_with fail
      refine (D1.out _).mono ?_
      rintro e wc ⟨rfl, uc⟩
      go_wp2_with fail
      refine (D2.out _).mono ?_
      rintro e we ⟨rfl, ue⟩
      go_wp2
      go_ret
      exact ⟨ret_strD (by rw [HL.out, HM.out, if_pos HK.out, HH.out]; rfl), (hWb.trans uc).trans ue⟩
    · have hkb : ((kd : Int) == 0) = false := by simp; omega
      have HK := Lib.hid hk0
      clear hk0
      go_wp2_with fail
      refine (D2.out _).mono ?_
      rintro e we ⟨rfl, ue⟩
      go_wp2
      go_ret
      exact ⟨ret_strD (by rw [HL.out, HM.out, if_neg HK.out, HH.out]; rfl), hWb.trans ue⟩
end Go.Proofs.YtngananoidplmaaGreatDoor
