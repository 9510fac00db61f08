/- strings.Replacer.Replace over the four letters: what stands for each byte, in order. (*strings.byteStringReplacer).Replace over the table of the four letters. The normal form of a word, by the program: strings.NewReplacer(..).Replace, then the squeeze. -/
import Derived.Test.YtehoaoeahfmfpaaGreatDoorReplB
import Derived.Test.YtehoaoeahfmfpaaGreatDoorNorm
import Derived.Deep.RegionLaw
import Derived.Deep.RegionHeldLaw
import Derived.Deep.QuietTactic
import Derived.BigQuiet
import Derived.Lib.QuietBelow
namespace Go.Proofs.YtehoaoeahfmfpaaGreatDoor
open Go.RowKit Go.Sort

theorem rpl_all (b : UInt8) : rplM 0 b.toNat = if b = 118 then some [117] else if b = 106 then some [105] else if b = 121 then some [105] else if b = 119 then some [117, 117] else none := by
  have e : ∀ m : Nat, m < 256 → (b.toNat == m) = decide (b = UInt8.ofNat m) := by
    intro m hm
    have e2 : (UInt8.ofNat m).toNat = m := by simp; omega
    by_cases h : b = UInt8.ofNat m
    · rw [decide_eq_true h, h, e2]; simp
    · rw [decide_eq_false h, beq_eq_false_iff_ne]; intro e3; apply h; exact UInt8.toNat_inj.1 (by omega)
  simp only [rplM, keyV, List.drop_zero, List.lookup_cons, List.lookup_nil]
  rw [e 118 (by omega), e 106 (by omega), e 121 (by omega), e 119 (by omega)]
  have h1 : UInt8.ofNat 118 = 118 := rfl
  have h2 : UInt8.ofNat 106 = 106 := rfl
  have h3 : UInt8.ofNat 121 = 121 := rfl
  have h4 : UInt8.ofNat 119 = 119 := rfl
  rw [h1, h2, h3, h4]
  by_cases k1 : b = 118
  · simp [k1]
  · by_cases k2 : b = 106
    · simp [k2]
    · by_cases k3 : b = 121
      · simp [k3]
      · by_cases k4 : b = 119
        · simp [k4]
        · simp [k1, k2, k3, k4]
theorem rpl_none {b : UInt8} (h : rplM 0 b.toNat = none) : rep1 b = [b] := by
  rw [rpl_all] at h
  unfold rep1
  split at h; · cases h
  split at h; · cases h
  split at h; · cases h
  split at h; · cases h
  rename_i h1 h2 h3 h4
  rw [if_neg h1, if_neg h2, if_neg h3, if_neg h4]
theorem rpl_some {b : UInt8} {r : List UInt8} (h : rplM 0 b.toNat = some r) : rep1 b = r ∧ 0 < r.length ∧ r.length ≤ 2 := by
  rw [rpl_all] at h
  unfold rep1
  split at h
  · rename_i h1; rw [if_pos h1]; cases h; exact ⟨rfl, by decide, by decide⟩
  · rename_i h1; rw [if_neg h1]
    split at h
    · rename_i h2; rw [if_pos h2]; cases h; exact ⟨rfl, by decide, by decide⟩
    · rename_i h2; rw [if_neg h2]
      split at h
      · rename_i h3; rw [if_pos h3]; cases h; exact ⟨rfl, by decide, by decide⟩
      · rename_i h3; rw [if_neg h3]
        split at h
        · rename_i h4; rw [if_pos h4]; cases h; exact ⟨rfl, by decide, by decide⟩
        · cases h
theorem Tab.up {w w' : World} {base h : Nat} (ht : Tab w base h) (hu : Up w w') : Tab w' base h := by
  obtain ⟨f, h1, h2, h3⟩ := ht
  exact ⟨f, h1.of_block (hu.block h h1.lt), h2.keep (fun q _ hq _ => hu.block q hq), h3⟩
/-- the table's entry for a byte: nothing, or a row with the bytes that stand for it -/
theorem Tab.at_ {w : World} {base h : Nat} (ht : Tab w base h) (b : UInt8) :
    (rplM 0 b.toNat = none ∧ w.cell? ⟨h, b.toNat, none⟩ = some (.slice none 0 0)) ∨
    ∃ r q c, rplM 0 b.toNat = some r ∧ w.cell? ⟨h, b.toNat, none⟩ = some (.slice (some ⟨q, 0, none⟩) r.length c) ∧ Ybl w q r := by
  obtain ⟨f, h1, h2, -⟩ := ht
  have hb : b.toNat < 256 := b.toNat_lt
  have hc := World.rowIs.cell h1 (show b.toNat < 257 by omega)
  rcases hr : rplM 0 b.toNat with _ | r
  · exact .inl ⟨rfl, by rw [hc, (h2 _ hb).1 hr]⟩
  · obtain ⟨q, c, e, -, hy⟩ := (h2 _ hb).2 r hr
    exact .inr ⟨r, q, c, rfl, by rw [hc, e], hy⟩
theorem Tab.list {w : World} {base h : Nat} (ht : Tab w base h) : ∃ A cc, w.cell? ⟨h, 256, none⟩ = some (.slice A 4 cc) := by
  obtain ⟨f, h1, -, A, cc, e⟩ := ht
  exact ⟨A, cc, by rw [World.rowIs.cell h1 (show 256 < 257 by omega), e]⟩
theorem Ybl.rd {w : World} {q : Nat} {r : List UInt8} (h : Ybl w q r) : ∀ j v, (r.flatMap bytC)[j]? = some v → w.cell? (Addr.add ⟨q, 0, none⟩ j) = some v := by
  obtain ⟨cs, fr, h1, h2⟩ := h
  intro j v hv
  rw [byt_flat, List.getElem?_map] at hv
  rcases hx : r[j]? with _ | x
  · rw [hx] at hv; cases hv
  · rw [hx] at hv; simp at hv; subst hv
    rw [show (⟨q, 0, none⟩ : Addr).add j = ⟨q, j, none⟩ by cases j <;> simp [Addr.add]]
    simp [World.cell?, h1, h2 j x hx]
def wideB (s : ByteArray) : ByteArray := ⟨(wideL s.data.toList).toArray⟩
theorem ba_take_all {s : ByteArray} {k : Nat} (hk : s.size ≤ k) (h : wideL (s.data.toList.take k) = s.data.toList.take k) : s = wideB s := by
  rw [List.take_of_length_le (by simp; omega)] at h
  obtain ⟨a⟩ := s
  unfold wideB; simp only at h; rw [h]
/-- buf: the bytes so far, and zeros -/
def bufL (l : List UInt8) (n : Nat) : List Value := l.flatMap bytC ++ List.replicate (n - l.length) (.int .u8 0)
theorem bytF_len (l : List UInt8) : (l.flatMap bytC).length = l.length := by rw [byt_flat, List.length_map]
theorem bufL_len (l : List UInt8) (n : Nat) (h : l.length ≤ n) : (bufL l n).length = n := by
  unfold bufL; rw [List.length_append, bytF_len, List.length_replicate]; omega
theorem bufL_splice (l r : List UInt8) (n : Nat) (h : l.length + r.length ≤ n) : splice (bufL l n) l.length (r.flatMap bytC) = bufL (l ++ r) n := by
  unfold splice bufL
  rw [List.take_left' (bytF_len l), bytF_len, List.drop_append, bytF_len, List.drop_eq_nil_of_le (by rw [bytF_len]; omega), List.nil_append, List.drop_replicate, List.flatMap_append, List.append_assoc, List.length_append]
  congr 3; omega
theorem bufL_set (l : List UInt8) (b : UInt8) (n : Nat) (h : l.length < n) : (bufL l n).set l.length (.int .u8 (b.toNat : Int)) = bufL (l ++ [b]) n := by
  unfold bufL
  rw [List.set_append_right _ _ (by rw [bytF_len]; exact Nat.le_refl _), bytF_len, Nat.sub_self, List.flatMap_append, List.append_assoc, List.length_append]
  obtain ⟨p, hp⟩ : ∃ p, n - l.length = p + 1 := ⟨n - l.length - 1, by omega⟩
  rw [hp, List.replicate_succ, List.set_cons_zero]
  rw [show n - (l.length + [b].length) = p by simp; omega]
  rfl
theorem bufL_rd {w : World} {G n : Nat} {l : List UInt8} {t : TypeId} {fr : Nat × Nat} (hg : w.heap[G]? = some (.cells (bufL l n).toArray t fr)) (_hl : l.length = n) : RdY w 0 (G + 1) (some ⟨G, 0, none⟩) l := fun _ => by
  refine ⟨G, 0, rfl, Nat.zero_le _, Nat.lt_succ_self _, fun i x hx j u hu => ?_⟩
  match j, hu with
  | 0, hu =>
    simp at hu; subst hu
    have hi := (List.getElem?_eq_some_iff.1 hx).1
    have : (bufL l n).toArray[i]? = some (.int .u8 (x.toNat : Int)) := by
      rw [List.getElem?_toArray]; unfold bufL
      rw [List.getElem?_append_left (by rw [bytF_len]; exact hi), byt_flat, List.getElem?_map, hx]; rfl
    simp [World.cell?, hg, this]
end Go.Proofs.YtehoaoeahfmfpaaGreatDoor

namespace Go.Proofs.YtehoaoeahfmfpaaGreatDoor
open Go.RowKit Go.Sort

/-- buf[j:] of a row of n cells, j < n -/
theorem run_cutAt {P : Program} {t : TypeId} (ht : P.underlying t = some (.slice (P.elem t))) (hs : ∀ w, (sizeOf (P.elem t)).run P w = .ok 1 w) (G n j : Nat) (hj : j < n) (w : World) :
    (Instr.sliceAt t (.slice (some ⟨G, 0, none⟩) n n) (some (.int .i64 (j : Int))) none none).run P w = .ok (.slice (some ⟨G, j, none⟩) (n - j) (n - j)) w := by
  rw [run_sliceAt_slice w t _ _ _ _ ht, run_slice_l w t _ n n ht .i64 (j : Int) (by omega) (by omega), hs]
  have hne : ¬ n = j := by omega
  simp [Result.andThen, sliced, hne, Addr.add]
  intro h; exact h.symm

theorem made_buf (n : Nat) : madeCells #[Value.int .u8 0] n = (bufL [] n).toArray := by
  apply Array.ext
  · rw [size_madeCells]; simp [bufL]
  · intro i h1 h2
    simp [madeCells, bufL, Nat.mod_one]

set_option maxRecDepth 100000 in
set_option maxHeartbeats 4000000 in
theorem bsReplace_any (s : ByteArray) (base h : Nat) (w : World) (hT : Tab w base h) (hs : s.size < 32) :
    Calls Tryz.prog 226 #[.pointer (some ⟨h, 0, none⟩), .string s] w fun e w' => e = .returned (.string (wideB s)) ∧ Up w w' := by
  obtain ⟨A, cc, c256⟩ := hT.list
  obtain ⟨i0, hi0, hz0, hz1, hz2⟩ := info_parts infoByt
  have hle : decide ((32 : Int) ≤ (s.size : Int)) = false := by simp; omega
  have hnn := run_neNil
  have HT := Lib.hid hT
  clear hT
  have hnot : ∀ (x : Bool) (w : World), (Op.unary .not (.bool x)).run Tryz.prog w = .ok (.bool (!x)) w := fun _ _ => rfl
  go_enter Tryz.func226, Tryz.ntmps226
  go_wp2
  go_loop [5, 6, 10, 11] (fun ns ch i _ => ∃ (k n : Nat) (c : Bool), k ≤ s.size ∧ i = .int .i64 k ∧ ns = .int .i64 n ∧ n + k = s.size + (wideL (s.data.toList.take k)).length ∧ ch = .bool c ∧ (c = false → wideL (s.data.toList.take k) = s.data.toList.take k)) (fun _ _ i _ => s.size - (intOf i).toNat)
  case atStart => exact ⟨0, s.size, false, Nat.zero_le _, rfl, rfl, rfl, rfl, fun _ => rfl⟩
  case round =>
    obtain ⟨k, n, c, hk, rfl, rfl, hn, rfl, hc⟩ := hrel
    have hll : (wideL (s.data.toList.take k)).length ≤ 2 * k := by
      have := wideL_len (s.data.toList.take k); rw [List.length_take] at this; omega
    have HN := Lib.hid hn
    have HC := Lib.hid hc
    have hn64 : n ≤ 64 := by omega
    clear hc
    by_cases hlt : k < s.size
    · have hst := wideL_succ (bytes_at hlt)
      have hb256 : s[k].toNat < 256 := s[k].toNat_lt
      rcases HT.out.at_ s[k] with ⟨hr, hcell⟩ | ⟨r, q, c2, hr, hcell, hy⟩
      · have HE := Lib.hid (hst.trans (by rw [rpl_none hr]))
        clear hst hr hn
        go_wp2
        go_round
        case rel =>
          refine ⟨k + 1, n, c, by omega, by go_num, rfl, by rw [HE.out, List.length_append]; have := HN.out; simp only [List.length_cons, List.length_nil]; omega, rfl, fun h0 => ?_⟩
          rw [HE.out, HC.out h0, List.take_succ_eq_append_getElem (by simp; omega)]; rfl
        case measure => simp [intOf]; omega
      · obtain ⟨hrep, hr0, hr2⟩ := rpl_some hr
        have HE := Lib.hid (hst.trans (by rw [hrep]))
        clear hst hr hn hrep
        go_wp2
        go_round
        case rel =>
          refine ⟨k + 1, n + (r.length - 1), true, by omega, by go_num, ?_, by rw [HE.out, List.length_append]; have := HN.out; omega, rfl, fun h0 => by cases h0⟩
          congr 1; omega
        case measure => simp [intOf]; omega
    · have HK := Lib.hid (show k = s.size by omega)
      cases c with
      | false =>
        have HE := Lib.hid (ba_take_all (s := s) (k := k) (by omega) (HC.out rfl))
        clear hn
        go_wp2
        go_ret
        exact ⟨ret_ba HE.out, Up.refl _⟩
      | true =>
        have hnw : n = (wideL s.data.toList).length := by
          have h1 := hn
          rw [List.take_of_length_le (by simp; omega)] at h1; omega
        have HW := Lib.hid hnw
        have hmk := fun wx => run_make_row (P := Tryz.prog) 35 5 i0 _ Tryz.underlying35 hi0 hz0 hz1 rfl .i64 .i64 n (by rw [hz2]; omega) (by omega) wx
        have hne0 := HT.out
        clear hn hnw HN HC hll
        have hW3 : (w.alloc (.cells (madeCells #[.int .u8 0] n) 5)).heap[w.heap.size]? = some (.cells (bufL [] n).toArray 5 (0, 0)) := by rw [Go.Deep.blk_alloc_new, made_buf]
        have hU3 := Up.alloc w (.cells (madeCells #[.int .u8 0] n) 5)
        have HG3 := Lib.hid hW3
        clear hW3
        go_wp2
        generalize w.alloc (.cells (madeCells #[.int .u8 0] n) 5) = w3 at *
        go_loopw [13, 14, 15] (fun jv i _ wr => ∃ (k : Nat) (l : List UInt8), k ≤ s.size ∧ i = .int .i64 k ∧ l = wideL (s.data.toList.take k) ∧ jv = .int .i64 l.length ∧ wr.heap[w.heap.size]? = some (.cells (bufL l n).toArray 5 (0, 0)) ∧ Up w wr) (fun _ i _ _ => s.size - (intOf i).toNat)
        case atStart => exact ⟨0, [], Nat.zero_le _, rfl, rfl, rfl, HG3.out, hU3⟩
        case round =>
          obtain ⟨k, l, hk, rfl, hl, rfl, hg, hup⟩ := hrel
          have HL := Lib.hid hl
          have HG := Lib.hid hg
          clear hl hg
          by_cases hlt : k < s.size
          · have hst := wideL_succ (bytes_at hlt)
            rw [← HL.out] at hst
            have hb256 : s[k].toNat < 256 := s[k].toNat_lt
            have hle2 : (wideL (s.data.toList.take (k + 1))).length ≤ n := by
              rw [HW.out]
              have : wideL s.data.toList = wideL (s.data.toList.take (k + 1)) ++ wideL (s.data.toList.drop (k + 1)) := by
                unfold wideL; rw [← List.flatMap_append, List.take_append_drop]
              rw [this, List.length_append]; omega
            have hTr := HT.out.up hup
            rcases hTr.at_ s[k] with ⟨hr, hcell⟩ | ⟨r, q, c2, hr, hcell, hy⟩
            · have HE := Lib.hid (hst.trans (by rw [rpl_none hr]))
              have hln : l.length < n := by rw [HE.out, List.length_append, List.length_singleton] at hle2; omega
              have hcg : wr.cell? ⟨w.heap.size, l.length, none⟩ = some (.int .u8 0) := by
                have : (bufL l n).toArray[l.length]? = some (.int .u8 0) := by
                  rw [List.getElem?_toArray]; unfold bufL
                  rw [List.getElem?_append_right (by rw [bytF_len]; exact Nat.le_refl _), bytF_len, Nat.sub_self, List.getElem?_replicate, if_pos (by omega)]
                simp [World.cell?, HG.out, this]
              have hfg : wr.frozen? ⟨w.heap.size, l.length, none⟩ = false := by simp [World.frozen?, HG.out]
              have HG5 := Lib.hid (show (wr.setCell ⟨w.heap.size, l.length, none⟩ (.int .u8 (s[k].toNat : Int))).heap[w.heap.size]? = some (.cells (bufL (l ++ [s[k]]) n).toArray 5 (0, 0)) by
                rw [setCell_eq_setRow _ _ _ _ _ _ _ HG.out, setRow_heap _ _ _ _ _ _ HG.out, ← bufL_set l s[k] n hln]
                simp)
              clear hst hr hle2
              go_wp2
              go_roundw
              case rel => exact ⟨k + 1, l ++ [s[k]], by omega, by go_num, HE.out.symm, by rw [List.length_append]; go_num, HG5.out, hup.setCell (Nat.le_refl _) _⟩
              case measure => simp [intOf]; omega
            · obtain ⟨hrep, hr0, hr2⟩ := rpl_some hr
              have HE := Lib.hid (hst.trans (by rw [hrep]))
              have hln : l.length + r.length ≤ n := by rw [HE.out, List.length_append] at hle2; omega
              have hln' : l.length < n := by omega
              have HCUT := fun wx => run_cutAt (P := Tryz.prog) (t := 35) Tryz.underlying35 (fun _ => rfl) w.heap.size n l.length hln' wx
              have HY := Lib.hid hy.rd
              have hfl := bytF_len r
              obtain ⟨cs, hcs⟩ : ∃ cs, cs = r.flatMap bytC := ⟨_, rfl⟩
              have hone : ∀ v ∈ cs, v.oneCell' = true := by
                rw [hcs, byt_flat]; intro v hv
                obtain ⟨x, -, rfl⟩ := List.mem_map.1 hv; rfl
              have HSP := Lib.hid (bufL_splice l r n hln)
              rw [← hcs] at HY hfl HSP
              have HO := Lib.hid hone
              have hmin : cs.length = Nat.min r.length (n - l.length) := by rw [hfl]; show r.length = min r.length (n - l.length); omega
              have hfit : l.length + cs.length ≤ (bufL l n).length := by rw [bufL_len l n (by omega), hfl]; exact hln
              have HMI := Lib.hid hmin
              have HFI := Lib.hid hfit
              clear hst hr hle2 hrep hone hmin hfit hy hcs
              have hcv : (Tryz.prog.info? 5).map (·.size) = some 1 := by rw [hi0]; simp [hz1]
              have hb256i : (s[k].toNat : Int) < 256 := by omega
              have hcell2 : wr.drew.cell? ⟨h, s[k].toNat, none⟩ = some (.slice (some ⟨q, 0, none⟩) r.length c2) := hcell
              go_wp2_with fail
              go_region_law (refine step_copy_splice rfl (.tmp 105) (.tmp 111) 35 35 rfl 5 Tryz.underlying35 hcv (some ⟨w.heap.size, l.length, none⟩) (some ⟨q, 0, none⟩) (n - l.length) (n - l.length) r.length c2 (by simp [Act.eval]) (by simp [Act.eval]) w.heap.size l.length (bufL l n) 5 HG.out cs HMI.out (fun _ => ⟨rfl, _, rfl, HY.out⟩) HFI.out HO.out w.heap.size w hup.drew (Nat.le_refl _) ?_
                             intro w4 hg4 hb4)
              all_goals
                have HG4 := hg4
                rw [HSP.out] at HG4
                have HU := Lib.hid hb4
                clear hg4 hb4
                go_wp2
                go_roundw
              case rel => exact ⟨k + 1, l ++ r, by omega, by go_num, HE.out.symm, by rw [List.length_append]; go_num, HG4.out, HU.out⟩
              case measure => simp [intOf]; omega
          · have hK := HL.out
            rw [List.take_of_length_le (by simp; omega)] at hK
            have hrd := bufL_rd HG.out (by rw [hK]; exact HW.out.symm)
            have hcv := run_strOf (P := Tryz.prog) Tryz.underlying35 Tryz.underlying5 Tryz.underlying9 wr (cap := n) hrd
            rw [show l.length = n by rw [hK]; exact HW.out.symm] at hcv
            have HE := Lib.hid (show (⟨l.toArray⟩ : ByteArray) = wideB s by rw [hK]; rfl)
            clear hK hrd
            go_wp2
            go_ret
            exact ⟨ret_ba HE.out, hup⟩
end Go.Proofs.YtehoaoeahfmfpaaGreatDoor

namespace Go.Proofs.YtehoaoeahfmfpaaGreatDoor
open Go.RowKit Go.Sort

theorem Tab.setR {w : World} {base h g : Nat} {f' : Nat → Value} (ht : Tab w base h) (hr : w.rowIs g 137 5 f') (i : Nat) (v : Value) : Tab (w.setCell ⟨g, i, none⟩ v) base h := by
  obtain ⟨c, e1, -⟩ := hr
  obtain ⟨f, h1, h2, h3⟩ := ht
  have hne : h ≠ g := by
    obtain ⟨c2, e2, -⟩ := h1
    rintro rfl; rw [e1] at e2; cases e2
  refine ⟨f, h1.setOther (a := ⟨g, i, none⟩) hne v, h2.keep (fun q _ _ ⟨cs, fr, e⟩ => ?_), h3⟩
  refine Below.heap_setCell _ _ _ _ ?_
  rintro rfl; rw [e1] at e; cases e
theorem Tab.drew {w : World} {base h : Nat} (ht : Tab w base h) : Tab w.drew base h := ht

set_option maxRecDepth 100000 in
set_option maxHeartbeats 1000000 in
theorem buildOnce_any (g B cc : Nat) (c d : Value) (wa w : World) (hr : Rp w g (.int .u32 0) (.int .i32 1) c d (.slice (some ⟨B, 0, none⟩) 8 cc)) (h8 : W8 w B) (hup : Up wa w) (hga : wa.heap.size ≤ g) :
    Calls Tryz.prog 124 #[.pointer (some ⟨g, 0, none⟩)] w fun en w2 => en = .returned (.tuple #[]) ∧ ∃ d' e', Rp w2 g (.int .u32 0) (.int .i32 1) c d' e' ∧
      ∃ h base, d' = .iface 181 (.pointer (some ⟨h, 0, none⟩)) ∧ Tab w2 base h ∧ Up wa w2 := by
  have HB := Lib.hid (build_any g B cc _ _ _ _ w hr h8)
  go_enter Tryz.func124, Tryz.ntmps124
  go_wp2_with fail
  refine HB.out.mono ?_
  rintro en w1 ⟨h, rfl, hwh, hT, hu⟩
  have hr1 : Rp w1 g (.int .u32 0) (.int .i32 1) c d (.slice (some ⟨B, 0, none⟩) 8 cc) := World.rowIs.of_block hr (hu.block g (World.rowIs.lt hr))
  have m0 := hr1.c3
  have m1 : w1.frozen? ⟨g, 3, none⟩ = false := World.rowIs.frozen hr1 3
  have hr2 := hr1.set3 (.iface 181 (.pointer (some ⟨h, 0, none⟩)))
  have m2 := hr2.c4
  have m3 := World.rowIs.frozen hr2 4
  have HT := Lib.hid (((hT.setR hr1 3 (.iface 181 (.pointer (some ⟨h, 0, none⟩)))).setR hr2 4 (.slice none 0 0)))
  have HR := Lib.hid (hr2.set4 (.slice none 0 0))
  have HU := Lib.hid (((hup.trans hu).setCell (p := ⟨g, 3, none⟩) hga (.iface 181 (.pointer (some ⟨h, 0, none⟩)))).setCell (p := ⟨g, 4, none⟩) hga (.slice none 0 0))
  clear hr1 hr2 hT
  go_wp2
  go_end0
  exact ⟨rfl, _, _, HR.out, h, _, rfl, HT.out, HU.out⟩

set_option maxRecDepth 100000 in
set_option maxHeartbeats 1000000 in
theorem replace_any (s : ByteArray) (hs : s.size < 32) (g B cc : Nat) (c : Value) (wa w : World) (hr : Rp w g (.int .u32 0) (.int .i32 0) c .nilIface (.slice (some ⟨B, 0, none⟩) 8 cc)) (h8 : W8 w B) (hne : B ≠ g) (hup : Up wa w) (hga : wa.heap.size ≤ g) :
    Calls Tryz.prog 117 #[.pointer (some ⟨g, 0, none⟩), .string s] w fun e w' => e = .returned (.string (wideB s)) ∧ Up wa w' := by
  have hB := buildOnce_any g B cc c .nilIface wa (w.setCell ⟨g, 1, none⟩ (.int .i32 1)) (hr.set1 _) (h8.set hne) (hup.setCell (p := ⟨g, 1, none⟩) hga _) hga
  have HD := Lib.hid (doOnce_any 124 (fun _ _ => by kernel_rfl) g c _ _ (fun w2 d' => ∃ h base, d' = .iface 181 (.pointer (some ⟨h, 0, none⟩)) ∧ Tab w2 base h ∧ Up wa w2) w hr hB)
  have hmf : ∀ (fn : Fn) (first cap : Array Value) (w : World), (Instr.makeFunc fn first cap).run Tryz.prog w = .ok (.func fn first cap) w := fun _ _ _ _ => rfl
  clear hB
  go_enter Tryz.func117, Tryz.ntmps117
  go_wp2_with fail
  refine HD.out.mono ?_
  rintro en w1 ⟨rfl, w2, d', e', hr2, ⟨h, base, rfl, hT, hu⟩, rfl⟩
  have hr3 := Rp.set0 hr2 (.int .u32 1)
  have hr4 := Rp.set1 hr3 (.int .i32 0)
  have m0 := hr4.c3
  have hT4 := (hT.setR hr2 0 (.int .u32 1)).setR hr3 1 (.int .i32 0)
  have HU := Lib.hid (((hu.setCell (p := ⟨g, 0, none⟩) hga (.int .u32 1)).setCell (p := ⟨g, 1, none⟩) hga (.int .i32 0)).drew)
  have HR := Lib.hid (bsReplace_any s base h _ hT4.drew hs)
  clear hr3 hr4 hT hT4 hr2
  go_wp2_with fail
  refine HR.out.mono ?_
  rintro en w5 ⟨rfl, hu5⟩
  go_wp2
  go_ret
  exact ⟨rfl, HU.out.trans hu5⟩
end Go.Proofs.YtehoaoeahfmfpaaGreatDoor
