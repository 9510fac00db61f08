/- The lines of a log by the program. -/
import Derived.Test.YtngananoidplmaaGreatDoorLogS
import Derived.Test.YtngananoidplmaaGreatDoorTxt
import Derived.Lib.ConvBytes
import Derived.Deep.DeepCutAuto
import Derived.Deep.Cut
import Derived.Deep.CutRange
namespace Go.Proofs.YtngananoidplmaaGreatDoor
open Go.RowKit Go.Sort

theorem up_bytesW (w : World) (e : TypeId) (s : ByteArray) : Up w (Lib.bytesWorld w e s) :=
  ⟨by unfold Lib.bytesWorld World.freeze; split <;> rfl, by unfold Lib.bytesWorld World.freeze; split <;> rfl, by unfold Lib.bytesWorld World.freeze; split <;> rfl, by rw [Lib.bytesWorld_size]; omega, fun k hk => Lib.bytesWorld_at_old w e s k hk⟩
/-- the lines of the decisions from one check number on -/
def lsL : List Dec → Nat → List ByteArray
  | [], _ => []
  | d :: l, c => (lnD (ckD c d) d ++ ⟨#[10]⟩) :: lsL l (ckD c d)
theorem lsL_at {l : List Dec} {k : Nat} {d : Dec} (h : l[k]? = some d) (c : Nat) : lsL (l.drop k) c = (lnD (ckD c d) d ++ ⟨#[10]⟩) :: lsL (l.drop (k + 1)) (ckD c d) := by
  obtain ⟨hk, e⟩ := List.getElem?_eq_some_iff.1 h
  rw [List.drop_eq_getElem_cons hk, e, lsL]
theorem lsL_len : ∀ (l : List Dec) (c : Nat), (lsL l c).length = l.length
  | [], _ => rfl
  | d :: l, c => by simp [lsL, lsL_len]
theorem lsL_flat : ∀ (l : List Dec) (c : Nat), (lsL l c).flatMap (fun x => x.data.toList) = txL l c
  | [], _ => rfl
  | d :: l, c => by simp [lsL, txL, lsL_flat, ByteArray.data_append]
theorem ln_impl0 {d : Dec} {kd dy c : Nat} (h : kd = 0) : lnB d kd dy c ++ ⟨#[10]⟩ = (((hdB d kd ++ (⟨#[32]⟩ ++ dcB dy)) ++ ⟨#[32]⟩) ++ dcB c) ++ ⟨#[10]⟩ := by
  unfold lnB mdB; rw [if_pos h]; unfold spB; simp [ByteArray.append_assoc]
theorem ln_impl1 {d : Dec} {kd dy c : Nat} (h : ¬ kd = 0) : lnB d kd dy c ++ ⟨#[10]⟩ = ((hdB d kd ++ ⟨#[32]⟩) ++ dcB c) ++ ⟨#[10]⟩ := by
  unfold lnB mdB; rw [if_neg h]; rfl

set_option maxRecDepth 100000 in
set_option maxHeartbeats 4000000 in
theorem linesOf_any (A : Option Addr) (l : List Dec) (c lo hi : Nat) (w : World) (hr : RdD w lo hi A l) (hhi : hi ≤ w.heap.size) (hlog : logB l = true) (ht : TabU w) :
    Calls Tryz.prog 30 #[.slice A l.length c] w fun e w' => ∃ v, e = .returned v ∧ w'.ownsRow w.heap.size 9 1 v (lsL l 0).length ((lsL l 0).flatMap strC) ∧ Up w w' := by
  obtain ⟨i0, hi0, hz0, hz1, hz2⟩ := info_parts infoString
  have HD := Lib.hid (logB_dec hlog)
  have h80 := logB_len hlog
  clear hlog
  go_enter Tryz.func30, Tryz.ntmps30
  go_wp2
  have hown0 := World.ownsRow_lit (base := w.heap.size) (e := 9) (size := 1) w #[] 0 (Nat.le_refl _) (by simp [maxLen]) rfl
  have hup0 := (Up.refl w).allocs (.cells #[] 9)
  obtain ⟨v0, hv0⟩ : ∃ v, v = Value.slice (some ⟨w.heap.size, 0, none⟩) 0 0 := ⟨_, rfl⟩
  rw [← hv0] at hown0 ⊢
  generalize w.alloc (.cells #[] 9) = w2 at *
  clear hv0
  go_loopw [3, 4, 6, 7, 9, 10, 14] (fun o ck bx sm ch ln i wr => ∃ k m : Nat, ∃ L : List ByteArray, k ≤ l.length ∧ i = .int .i64 k ∧ ck = .int .i64 m ∧ m < 99989 ∧ lsL l 0 = L ++ lsL (l.drop k) m ∧ L.length ≤ k ∧ wr.ownsRow w.heap.size 9 1 o L.length (L.flatMap strC) ∧ Up w wr) (fun _ _ _ _ _ _ i _ => l.length - (intOf i).toNat)
  case atStart => exact ⟨0, 0, [], Nat.zero_le _, rfl, rfl, by decide, rfl, Nat.zero_le _, hown0, hup0⟩
  case round =>
    obtain ⟨k, m, L, hk, rfl, rfl, hm, hL, hLl, hown, hup⟩ := hrel
    have HL := Lib.hid hL
    clear hL
    by_cases hlt : k < l.length
    · obtain ⟨b, off, d, rfl, hlo, hbh, hd, q0, q1, q2, q3⟩ := (hr.up hup hhi).dec hlt
      have hdb := HD.out d (List.mem_of_getElem? hd)
      have hA := Lib.hid (lsL_at hd m)
      have ho := ok_of hdb
      have hcs : ¬ 9223372036854775807 < d.deed.size + d.by_.size := by have := ho.deed; have := ho.by_; omega
      have hbs := fun wx s => Lib.run_convert_string_bytes (P := Tryz.prog) wx 9 28 5 s Tryz.underlying9 Tryz.underlying28 Tryz.underlying5
      clear hd
      have hbd := ho.deed
      have hbb := ho.by_
      have hkk := ho.kind
      have hdd := ho.day
      have hk2 := ho.k2
      have hd2 := ho.dy2
      obtain ⟨kd, hkd⟩ : ∃ x, x = d.kind.toNat := ⟨_, rfl⟩
      obtain ⟨dy, hdy⟩ : ∃ x, x = d.day.toNat := ⟨_, rfl⟩
      rw [← hkd] at hkk hk2 ho
      rw [← hdy] at hdd hd2 ho
      have HK := Lib.hid hkd
      have HY := Lib.hid hdy
      have hck : Hid (ckD m d = (m * 37 + 11 * kd + dy + sumN (d.deed ++ d.by_).data.toList) % 99989) := Lib.hid (by
        unfold ckD ckN; rw [← hkd, ← hdy, ByteArray.data_append, Array.toList_append, sumN_app, Nat.add_assoc (m * 37 + 11 * kd + dy)])
      have HLN : Hid (∀ c', lnD c' d = lnB d kd dy c') := Lib.hid (fun c' => by unfold lnD; rw [hkd, hdy])
      clear hkd hdy
      obtain ⟨m', hm'⟩ : ∃ x, x = ckD m d := ⟨_, rfl⟩
      rw [← hm'] at hA hck
      have hml : m' < 99989 := by rw [hm']; exact ckN_lt _ _ _ _
      have hms := sumN_le (d.deed ++ d.by_).data.toList
      have hss : (d.deed ++ d.by_).data.toList.length = d.deed.size + d.by_.size := by rw [Array.length_toList]; exact ByteArray.size_append ..
      rw [hss] at hms
      have hhd := hdB_size ho
      have hwsz := wdB_size kd
      have hdz := dcB_size (n := dy) (by omega)
      have hcz := dcB_size (n := m') (by omega)
      have HH : Hid (hdB d kd = (((d.deed ++ spB) ++ wdB kd) ++ spB) ++ d.by_) := Lib.hid rfl
      have H0 : Hid (kd = 0 → lnB d kd dy m' ++ ⟨#[10]⟩ = (((hdB d kd ++ (⟨#[32]⟩ ++ dcB dy)) ++ ⟨#[32]⟩) ++ dcB m') ++ ⟨#[10]⟩) := Lib.hid ln_impl0
      have H1 : Hid (¬ kd = 0 → lnB d kd dy m' ++ ⟨#[10]⟩ = ((hdB d kd ++ ⟨#[32]⟩) ++ dcB m') ++ ⟨#[10]⟩) := Lib.hid ln_impl1
      have HLD := Lib.hid (HLN.out m')
      generalize lnD m' d = lnn at *
      generalize lnB d kd dy m' = lnb at *
      generalize hdB d kd = hdd' at *
      clear hm' HLN ho hdb hms
      obtain ⟨dd, dk, ddy, db⟩ := d
      simp only at hkk hdd q0 q1 q2 q3 hck hss HH hbd hbb hcs HK HY
      subst hkk
      subst hdd
      have hn20 : dd.size + db.size ≤ 20 := by omega
      have hub := Up.alloc wr (.cells #[.string dd, .int .i64 (kd : Int), .int .i64 (dy : Int), .string db] 43)
      have x0 : (wr.alloc (.cells #[.string dd, .int .i64 (kd : Int), .int .i64 (dy : Int), .string db] 43)).cell? ⟨wr.heap.size, 0, none⟩ = some (.string dd) := by go_simp
      have x1 : (wr.alloc (.cells #[.string dd, .int .i64 (kd : Int), .int .i64 (dy : Int), .string db] 43)).cell? ⟨wr.heap.size, 1, none⟩ = some (.int .i64 (kd : Int)) := by go_simp
      have x2 : (wr.alloc (.cells #[.string dd, .int .i64 (kd : Int), .int .i64 (dy : Int), .string db] 43)).cell? ⟨wr.heap.size, 2, none⟩ = some (.int .i64 (dy : Int)) := by go_simp
      have x3 : (wr.alloc (.cells #[.string dd, .int .i64 (kd : Int), .int .i64 (dy : Int), .string db] 43)).cell? ⟨wr.heap.size, 3, none⟩ = some (.string db) := by go_simp
      have hby := fun j hj => Lib.bytesWorld_cell (wr.alloc (.cells #[.string dd, .int .i64 (kd : Int), .int .i64 (dy : Int), .string db] 43)) 5 (dd ++ db) j hj
      have hubw := up_bytesW (wr.alloc (.cells #[.string dd, .int .i64 (kd : Int), .int .i64 (dy : Int), .string db] 43)) 5 (dd ++ db)
      have hsz1 : (wr.alloc (.cells #[.string dd, .int .i64 (kd : Int), .int .i64 (dy : Int), .string db] 43)).heap.size = wr.heap.size + 1 := by simp
      rw [hsz1] at hby
      have y0 := hubw.cell x0
      have y1 := hubw.cell x1
      have y2 := hubw.cell x2
      have y3 := hubw.cell x3
      have hssz : (dd ++ db).size = dd.size + db.size := ByteArray.size_append ..
      rw [hssz] at hby
      have HBY := Lib.hid hby
      have HSS := Lib.hid hss
      clear hby hssz hss
      go_wp2_with fail
      generalize grownCap _ _ _ _ = cap
      have huy := hub.trans hubw
      generalize Lib.bytesWorld (wr.alloc (.cells #[.string dd, .int .i64 (kd : Int), .int .i64 (dy : Int), .string db] 43)) 5 (dd ++ db) = wy at *
      obtain ⟨BL, hBL⟩ : ∃ x, x = (dd ++ db).data.toList := ⟨_, rfl⟩
      rw [← hBL] at HBY HSS hck
      clear hBL x0 x1 x2 x3 hub hubw hsz1
      obtain ⟨nb, hnb⟩ : ∃ x, x = dd.size + db.size := ⟨_, rfl⟩
      rw [← hnb] at HBY HSS hcs hn20 ⊢
      have hcast : ((dd.size : Int) + (db.size : Int)) = (nb : Int) := by omega
      rw [hcast]
      have HNB := Lib.hid hnb
      clear hnb hcast
      go_loop [7, 9, 25] (fun sm ch i => ∃ j s : Nat, j ≤ nb ∧ i = .int .i64 j ∧ sm = .int .i64 s ∧ s = sumN (BL.take j) ∧ s ≤ 255 * j) (fun _ _ i => nb - (intOf i).toNat)
      case atStart => exact ⟨0, 0, Nat.zero_le _, rfl, rfl, by simp [sumN], by omega⟩
      case round =>
        obtain ⟨j, sj, hj, rfl, rfl, hsj, hsb⟩ := hrel
        have HSJ := Lib.hid hsj
        clear hsj
        by_cases hjl : j < nb
        · have z0 := HBY.out j hjl
          obtain ⟨bt, hbt⟩ : ∃ x, x = BL.getD j 0 := ⟨_, rfl⟩
          rw [← hbt] at z0
          have hbl := bt.toNat_lt
          have HB := Lib.hid (show sumN (BL.take (j + 1)) = sumN (BL.take j) + bt.toNat from sumN_succ (by
            rw [hbt, List.getD_eq_getElem?_getD, List.getElem?_eq_getElem (by rw [HSS.out]; exact hjl)]; rfl))
          clear hbt
          go_wp2
          go_round
          case rel => exact ⟨j + 1, sj + bt.toNat, by omega, by go_num, by go_num, by rw [HB.out, HSJ.out], by omega⟩
          case measure => simp [intOf]; omega
        · obtain rfl : j = nb := by omega
          have hsum : sj = sumN BL := by rw [HSJ.out, List.take_of_length_le (by rw [HSS.out]; exact Nat.le_refl _)]
          have htm : ((m : Int) * 37 + 11 * (kd : Int) + (dy : Int) + (sj : Int)).tmod 99989 = (m' : Int) := by
            rw [Int.tmod_eq_emod_of_nonneg (by omega), hck.out, ← hsum]; omega
          have hsj2 : sj ≤ 5100 := by omega
          clear hsum
          go_wp2_with fail
          obtain ⟨wd, hwd⟩ : ∃ x, x = wdB kd := ⟨_, rfl⟩
          rw [← hwd] at hwsz
          have HWD := Lib.hid hwd
          clear hwd htm
          have hs1 : ¬ 9223372036854775807 < dd.size + 1 := by omega
          have hs2 : ¬ 9223372036854775807 < dd.size + 1 + wd.size := by omega
          have hs3 : ¬ 9223372036854775807 < dd.size + 1 + wd.size + 1 := by omega
          have hs4 : ¬ 9223372036854775807 < dd.size + 1 + wd.size + 1 + db.size := by omega
          have k1 : ¬ 9223372036854775807 < 1 + (dcB dy).size := by omega
          have k2 : ¬ 9223372036854775807 < dd.size + 1 + wd.size + 1 + db.size + (1 + (dcB dy).size) := by omega
          have k3 : ¬ 9223372036854775807 < dd.size + 1 + wd.size + 1 + db.size + (1 + (dcB dy).size) + 1 := by omega
          have k4 : ¬ 9223372036854775807 < dd.size + 1 + wd.size + 1 + db.size + (1 + (dcB dy).size) + 1 + (dcB m').size := by omega
          have k5 : ¬ 9223372036854775807 < dd.size + 1 + wd.size + 1 + db.size + (1 + (dcB dy).size) + 1 + (dcB m').size + 1 := by omega
          have j3 : ¬ 9223372036854775807 < dd.size + 1 + wd.size + 1 + db.size + 1 := by omega
          have j4 : ¬ 9223372036854775807 < dd.size + 1 + wd.size + 1 + db.size + 1 + (dcB m').size := by omega
          have j5 : ¬ 9223372036854775807 < dd.size + 1 + wd.size + 1 + db.size + 1 + (dcB m').size + 1 := by omega
          have hd0 : Up wy wy.drew := (Up.refl _).drew
          have hkI : kd < 3 := by omega
          have hkI2 : (kd : Int) < 3 := by omega
          have HT := Lib.hid (ht.up (hup.trans huy))
          go_cut [10, 14] (fun ln i wx => ln = .string (dd ++ ⟨#[32]⟩ ++ wd ++ ⟨#[32]⟩ ++ db) ∧ i = .int .i64 (k : Int) ∧ Up wy wx)
          case first =>
            go_region_law (first
                | (go_simp; go_at_call 48
                   refine (decisionWords_any _).mono ?_
                   rintro e wb ⟨rfl, v0, v1, v2, ub⟩
                   have hSb : Up wy wb := Up.trans hd0 ub
                   have kb0 := hSb.cell y0
                   have kb1 := hSb.cell y1
                   have kb2 := hSb.cell y2
                   have kb3 := hSb.cell y3
                   have kbw : wb.cell? ⟨wy.heap.size, kd, none⟩ = some (.string wd) := words_at v0 v1 v2 hkI HWD.out))
            all_goals (try clear v0 v1 v2 kbw kb0 kb3)
            all_goals (try go_wp2_with fail)
            all_goals go_meet
            all_goals exact ⟨rfl, rfl, hSb⟩
          case rest =>
            obtain ⟨rfl, rfl, hSb⟩ := hcut
            have kb1 := hSb.cell y1
            have kb2 := hSb.cell y2
            clear y0 y1 y2 y3
            have HTB := Lib.hid (HT.out.up hSb)
            by_cases hk0 : kd = 0
            · have hkb : ((kd : Int) == 0) = true := by simp; omega
              have HKZ := Lib.hid hk0
              clear hk0
              go_wp2_with fail
              refine (decimal_any dy (by omega) _ HTB.out).mono ?_
              rintro e wc ⟨rfl, uc⟩
              go_wp2_with fail
              refine (decimal_any m' (by omega) _ (HTB.out.up uc)).mono ?_
              rintro e we ⟨rfl, ue⟩
              have UE := uc.trans ue
              have hown9 := own_up (own_up hown (huy.trans hSb)) UE
              have hup9 := ((hup.trans huy).trans hSb).trans UE
              have n1 : L.length + 1 ≤ maxLen := by unfold maxLen; omega
              have n2 : (L.length + 1) * 16 ≤ 140737488355328 := by omega
              have n3 := fun o : Obj => (hup9.allocs o).size
              go_wp2_with ((at_builtin; refine wpList_append_own _ rfl _ _ 38 rfl w.heap.size 9 i0 _ 1 16 Tryz.underlying38 hi0 hz0 hz1 hz2 rfl (by decide) _ _ _ rfl (hown9.alloc _) ⟨we.heap.size, 0, none⟩ 1 1 _ rfl rfl (cell_one_new _ _ _) (by simp [Value.oneCell']) n1 n2 (n3 _) ?_))
              intro v' w9 hown' hgrow _
              have hu9 := (hup9.allocs _).grown hgrow (fun k hk => (hown9.lt k hk).1)
              have HO9 := Lib.hid hown'
              clear hgrow hown9 hown'
              go_wp2
              go_roundw
              case rel => exact ⟨k + 1, m', L ++ [dd ++ ⟨#[32]⟩ ++ wd ++ ⟨#[32]⟩ ++ db ++ (⟨#[32]⟩ ++ dcB dy) ++ ⟨#[32]⟩ ++ dcB m' ++ ⟨#[10]⟩], by omega, by go_num, rfl, hml, by rw [HL.out, hA.out, HLD.out, H0.out HKZ.out, HH.out]; simp [spB, HWD.out], by simp; omega, by simpa using HO9.out, hu9⟩
              case measure => simp [intOf]; omega
            · have hkb : ((kd : Int) == 0) = false := by simp; omega
              have HKZ := Lib.hid hk0
              clear hk0
              go_wp2_with fail
              refine (decimal_any m' (by omega) _ HTB.out).mono ?_
              rintro e we ⟨rfl, ue⟩
              have UE := ue
              have hown9 := own_up (own_up hown (huy.trans hSb)) UE
              have hup9 := ((hup.trans huy).trans hSb).trans UE
              have n1 : L.length + 1 ≤ maxLen := by unfold maxLen; omega
              have n2 : (L.length + 1) * 16 ≤ 140737488355328 := by omega
              have n3 := fun o : Obj => (hup9.allocs o).size
              go_wp2_with ((at_builtin; refine wpList_append_own _ rfl _ _ 38 rfl w.heap.size 9 i0 _ 1 16 Tryz.underlying38 hi0 hz0 hz1 hz2 rfl (by decide) _ _ _ rfl (hown9.alloc _) ⟨we.heap.size, 0, none⟩ 1 1 _ rfl rfl (cell_one_new _ _ _) (by simp [Value.oneCell']) n1 n2 (n3 _) ?_))
              intro v' w9 hown' hgrow _
              have hu9 := (hup9.allocs _).grown hgrow (fun k hk => (hown9.lt k hk).1)
              have HO9 := Lib.hid hown'
              clear hgrow hown9 hown'
              go_wp2
              go_roundw
              case rel => exact ⟨k + 1, m', L ++ [dd ++ ⟨#[32]⟩ ++ wd ++ ⟨#[32]⟩ ++ db ++ ⟨#[32]⟩ ++ dcB m' ++ ⟨#[10]⟩], by omega, by go_num, rfl, hml, by rw [HL.out, hA.out, HLD.out, H1.out HKZ.out, HH.out]; simp [spB, HWD.out], by simp; omega, by simpa using HO9.out, hu9⟩
              case measure => simp [intOf]; omega
    · obtain rfl : k = l.length := by omega
      have HE := Lib.hid (show lsL l 0 = L by rw [HL.out, List.drop_length]; simp [lsL])
      go_wp2
      go_ret
      exact ⟨_, rfl, by rw [HE.out]; exact hown, hup⟩
end Go.Proofs.YtngananoidplmaaGreatDoor
