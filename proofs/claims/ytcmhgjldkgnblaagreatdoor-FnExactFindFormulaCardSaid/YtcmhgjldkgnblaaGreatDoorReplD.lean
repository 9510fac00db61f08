/- (*strings.byteStringReplacer).Replace over the table of the four letters. -/
import Derived.Test.YtcmhgjldkgnblaaGreatDoorReplC
namespace Go.Proofs.YtcmhgjldkgnblaaGreatDoor
open Go.RowKit Go.Sort

/-- buf[j:] of a row of n cells, j < n -/
theorem run_cutAt {P : Program} {t : TypeId} (ht : P.underlying t = some (.slice (P.elem t))) (hs : ∀ w, (sizeOf (P.elem t)).run P w = .ok 1 w) (G n j : Nat) (hj : j < n) (w : World) :
    (Instr.sliceAt t (.slice (some ⟨G, 0, none⟩) n n) (some (.int .i64 (j : Int))) none none).run P w = .ok (.slice (some ⟨G, j, none⟩) (n - j) (n - j)) w := by
  rw [run_sliceAt_slice w t _ _ _ _ ht, run_slice_l w t _ n n ht .i64 (j : Int) (by omega) (by omega), hs]
  have hne : ¬ n = j := by omega
  simp [Result.andThen, sliced, hne, Addr.add]
  intro h; exact h.symm

theorem made_buf (n : Nat) : madeCells #[Value.int .u8 0] n = (bufL [] n).toArray := by
  apply Array.ext
  · rw [size_madeCells]; simp [bufL]
  · intro i h1 h2
    simp [madeCells, bufL, Nat.mod_one]

set_option maxRecDepth 100000 in
set_option maxHeartbeats 4000000 in
theorem bsReplace_any (s : ByteArray) (base h : Nat) (w : World) (hT : Tab w base h) (hs : s.size < 32) :
    Calls Tryz.prog 140 #[.pointer (some ⟨h, 0, none⟩), .string s] w fun e w' => e = .returned (.string (wideB s)) ∧ Up w w' := by
  obtain ⟨A, cc, c256⟩ := hT.list
  obtain ⟨i0, hi0, hz0, hz1, hz2⟩ := info_parts infoByt
  have hle : decide ((32 : Int) ≤ (s.size : Int)) = false := by simp; omega
  have hnn := run_neNil
  have HT := Lib.hid hT
  clear hT
  have hnot : ∀ (x : Bool) (w : World), (Op.unary .not (.bool x)).run Tryz.prog w = .ok (.bool (!x)) w := fun _ _ => rfl
  go_enter Tryz.func140, Tryz.ntmps140
  go_wp2
  go_loop [5, 6, 10, 11] (fun ns ch i _ => ∃ (k n : Nat) (c : Bool), k ≤ s.size ∧ i = .int .i64 k ∧ ns = .int .i64 n ∧ n + k = s.size + (wideL (s.data.toList.take k)).length ∧ ch = .bool c ∧ (c = false → wideL (s.data.toList.take k) = s.data.toList.take k)) (fun _ _ i _ => s.size - (intOf i).toNat)
  case atStart => exact ⟨0, s.size, false, Nat.zero_le _, rfl, rfl, rfl, rfl, fun _ => rfl⟩
  case round =>
    obtain ⟨k, n, c, hk, rfl, rfl, hn, rfl, hc⟩ := hrel
    have hll : (wideL (s.data.toList.take k)).length ≤ 2 * k := by
      have := wideL_len (s.data.toList.take k); rw [List.length_take] at this; omega
    have HN := Lib.hid hn
    have HC := Lib.hid hc
    have hn64 : n ≤ 64 := by omega
    clear hc
    by_cases hlt : k < s.size
    · have hst := wideL_succ (bytes_at hlt)
      have hb256 : s[k].toNat < 256 := s[k].toNat_lt
      rcases HT.out.at_ s[k] with ⟨hr, hcell⟩ | ⟨r, q, c2, hr, hcell, hy⟩
      · have HE := Lib.hid (hst.trans (by rw [rpl_none hr]))
        clear hst hr hn
        go_wp2
        go_round
        case rel =>
          refine ⟨k + 1, n, c, by omega, by go_num, rfl, by rw [HE.out, List.length_append]; have := HN.out; simp only [List.length_cons, List.length_nil]; omega, rfl, fun h0 => ?_⟩
          rw [HE.out, HC.out h0, List.take_succ_eq_append_getElem (by simp; omega)]; rfl
        case measure => simp [intOf]; omega
      · obtain ⟨hrep, hr0, hr2⟩ := rpl_some hr
        have HE := Lib.hid (hst.trans (by rw [hrep]))
        clear hst hr hn hrep
        go_wp2
        go_round
        case rel =>
          refine ⟨k + 1, n + (r.length - 1), true, by omega, by go_num, ?_, by rw [HE.out, List.length_append]; have := HN.out; omega, rfl, fun h0 => by cases h0⟩
          congr 1; omega
        case measure => simp [intOf]; omega
    · have HK := Lib.hid (show k = s.size by omega)
      cases c with
      | false =>
        have HE := Lib.hid (ba_take_all (s := s) (k := k) (by omega) (HC.out rfl))
        clear hn
        go_wp2
        go_ret
        exact ⟨ret_ba HE.out, Up.refl _⟩
      | true =>
        have hnw : n = (wideL s.data.toList).length := by
          have h1 := hn
          rw [List.take_of_length_le (by simp; omega)] at h1; omega
        have HW := Lib.hid hnw
        have hmk := fun wx => run_make_row (P := Tryz.prog) 57 5 i0 _ Tryz.underlying57 hi0 hz0 hz1 rfl .i64 .i64 n (by rw [hz2]; omega) (by omega) wx
        have hne0 := HT.out
        clear hn hnw HN HC hll
        have hW3 : (w.alloc (.cells (madeCells #[.int .u8 0] n) 5)).heap[w.heap.size]? = some (.cells (bufL [] n).toArray 5 (0, 0)) := by rw [Go.Deep.blk_alloc_new, made_buf]
        have hU3 := Up.alloc w (.cells (madeCells #[.int .u8 0] n) 5)
        have HG3 := Lib.hid hW3
        clear hW3
        go_wp2
        generalize w.alloc (.cells (madeCells #[.int .u8 0] n) 5) = w3 at *
        go_loopw [13, 14, 15] (fun jv i _ wr => ∃ (k : Nat) (l : List UInt8), k ≤ s.size ∧ i = .int .i64 k ∧ l = wideL (s.data.toList.take k) ∧ jv = .int .i64 l.length ∧ wr.heap[w.heap.size]? = some (.cells (bufL l n).toArray 5 (0, 0)) ∧ Up w wr) (fun _ i _ _ => s.size - (intOf i).toNat)
        case atStart => exact ⟨0, [], Nat.zero_le _, rfl, rfl, rfl, HG3.out, hU3⟩
        case round =>
          obtain ⟨k, l, hk, rfl, hl, rfl, hg, hup⟩ := hrel
          have HL := Lib.hid hl
          have HG := Lib.hid hg
          clear hl hg
          by_cases hlt : k < s.size
          · have hst := wideL_succ (bytes_at hlt)
            rw [← HL.out] at hst
            have hb256 : s[k].toNat < 256 := s[k].toNat_lt
            have hle2 : (wideL (s.data.toList.take (k + 1))).length ≤ n := by
              rw [HW.out]
              have : wideL s.data.toList = wideL (s.data.toList.take (k + 1)) ++ wideL (s.data.toList.drop (k + 1)) := by
                unfold wideL; rw [← List.flatMap_append, List.take_append_drop]
              rw [this, List.length_append]; omega
            have hTr := HT.out.up hup
            rcases hTr.at_ s[k] with ⟨hr, hcell⟩ | ⟨r, q, c2, hr, hcell, hy⟩
            · have HE := Lib.hid (hst.trans (by rw [rpl_none hr]))
              have hln : l.length < n := by rw [HE.out, List.length_append, List.length_singleton] at hle2; omega
              have hcg : wr.cell? ⟨w.heap.size, l.length, none⟩ = some (.int .u8 0) := by
                have : (bufL l n).toArray[l.length]? = some (.int .u8 0) := by
                  rw [List.getElem?_toArray]; unfold bufL
                  rw [List.getElem?_append_right (by rw [bytF_len]; exact Nat.le_refl _), bytF_len, Nat.sub_self, List.getElem?_replicate, if_pos (by omega)]
                simp [World.cell?, HG.out, this]
              have hfg : wr.frozen? ⟨w.heap.size, l.length, none⟩ = false := by simp [World.frozen?, HG.out]
              have HG5 := Lib.hid (show (wr.setCell ⟨w.heap.size, l.length, none⟩ (.int .u8 (s[k].toNat : Int))).heap[w.heap.size]? = some (.cells (bufL (l ++ [s[k]]) n).toArray 5 (0, 0)) by
                rw [setCell_eq_setRow _ _ _ _ _ _ _ HG.out, setRow_heap _ _ _ _ _ _ HG.out, ← bufL_set l s[k] n hln]
                simp)
              clear hst hr hle2
              go_wp2
              go_roundw
              case rel => exact ⟨k + 1, l ++ [s[k]], by omega, by go_num, HE.out.symm, by rw [List.length_append]; go_num, HG5.out, hup.setCell (Nat.le_refl _) _⟩
              case measure => simp [intOf]; omega
            · obtain ⟨hrep, hr0, hr2⟩ := rpl_some hr
              have HE := Lib.hid (hst.trans (by rw [hrep]))
              have hln : l.length + r.length ≤ n := by rw [HE.out, List.length_append] at hle2; omega
              have hln' : l.length < n := by omega
              have HCUT := fun wx => run_cutAt (P := Tryz.prog) (t := 57) Tryz.underlying57 (fun _ => rfl) w.heap.size n l.length hln' wx
              have HY := Lib.hid hy.rd
              have hfl := bytF_len r
              obtain ⟨cs, hcs⟩ : ∃ cs, cs = r.flatMap bytC := ⟨_, rfl⟩
              have hone : ∀ v ∈ cs, v.oneCell' = true := by
                rw [hcs, byt_flat]; intro v hv
                obtain ⟨x, -, rfl⟩ := List.mem_map.1 hv; rfl
              have HSP := Lib.hid (bufL_splice l r n hln)
              rw [← hcs] at HY hfl HSP
              have HO := Lib.hid hone
              have hmin : cs.length = Nat.min r.length (n - l.length) := by rw [hfl]; show r.length = min r.length (n - l.length); omega
              have hfit : l.length + cs.length ≤ (bufL l n).length := by rw [bufL_len l n (by omega), hfl]; exact hln
              have HMI := Lib.hid hmin
              have HFI := Lib.hid hfit
              clear hst hr hle2 hrep hone hmin hfit hy hcs
              have hcv : (Tryz.prog.info? 5).map (·.size) = some 1 := by rw [hi0]; simp [hz1]
              have hb256i : (s[k].toNat : Int) < 256 := by omega
              have hcell2 : wr.drew.cell? ⟨h, s[k].toNat, none⟩ = some (.slice (some ⟨q, 0, none⟩) r.length c2) := hcell
              go_wp2_with fail
              go_region_law (refine step_copy_splice rfl (.tmp 105) (.tmp 111) 57 57 rfl 5 Tryz.underlying57 hcv (some ⟨w.heap.size, l.length, none⟩) (some ⟨q, 0, none⟩) (n - l.length) (n - l.length) r.length c2 (by simp [Act.eval]) (by simp [Act.eval]) w.heap.size l.length (bufL l n) 5 HG.out cs HMI.out (fun _ => ⟨rfl, _, rfl, HY.out⟩) HFI.out HO.out w.heap.size w hup.drew (Nat.le_refl _) ?_
                             intro w4 hg4 hb4)
              all_goals
                have HG4 := hg4
                rw [HSP.out] at HG4
                have HU := Lib.hid hb4
                clear hg4 hb4
                go_wp2
                go_roundw
              case rel => exact ⟨k + 1, l ++ r, by omega, by go_num, HE.out.symm, by rw [List.length_append]; go_num, HG4.out, HU.out⟩
              case measure => simp [intOf]; omega
          · have hK := HL.out
            rw [List.take_of_length_le (by simp; omega)] at hK
            have hrd := bufL_rd HG.out (by rw [hK]; exact HW.out.symm)
            have hcv := run_strOf (P := Tryz.prog) Tryz.underlying57 Tryz.underlying5 Tryz.underlying9 wr (cap := n) hrd
            rw [show l.length = n by rw [hK]; exact HW.out.symm] at hcv
            have HE := Lib.hid (show (⟨l.toArray⟩ : ByteArray) = wideB s by rw [hK]; rfl)
            clear hK hrd
            go_wp2
            go_ret
            exact ⟨ret_ba HE.out, hup⟩
end Go.Proofs.YtcmhgjldkgnblaaGreatDoor
