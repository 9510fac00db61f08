/- slices.DeleteFunc over strings that the call itself made, whatever function is handed in, as long as it answers a plain test and leaves old memory alone. -/
import Derived.Test.YtblpjjcjnaigiaaGreatDoorWnA
import Derived.Test.YtblpjjcjnaigiaaGreatDoorVb
import Derived.Lib.SliceRun
namespace Go.Proofs.YtblpjjcjnaigiaaGreatDoor
open Go.RowKit Go.Sort

theorem own_prefixT {w : World} {base g n c m : Nat} {e : TypeId} {xs : List Value} (h : w.ownsRow base e 1 (.slice (some ⟨g, 0, none⟩) n c) n xs) (hm : m ≤ n) : w.ownsRow base e 1 (.slice (some ⟨g, 0, none⟩) m c) m (xs.take m) := by
  refine ⟨by rw [List.length_take, h.1]; omega, ?_⟩
  rcases h.2 with ⟨h2, -⟩ | ⟨g', cap, cur, hv, hg, hh, h1, h2, h3, h4⟩
  · cases h2
  · simp only [Value.slice.injEq, Option.some.injEq, Addr.mk.injEq] at hv
    obtain ⟨⟨rfl, -, -⟩, -, rfl⟩ := hv
    refine .inr ⟨g, c, cur, rfl, hg, hh, by omega, h2, h3, ?_⟩
    rw [← h4, List.take_take]
    congr 1; omega
theorem own_cellsT {base g n c : Nat} {e : TypeId} : ∀ (vs : List Value) (o : Nat) (w : World) (xs : List Value), o + vs.length ≤ n → w.ownsRow base e 1 (.slice (some ⟨g, 0, none⟩) n c) n xs →
    ∃ ys, (w.setCells g o vs).ownsRow base e 1 (.slice (some ⟨g, 0, none⟩) n c) n ys ∧ ys.take o = xs.take o ∧ w.grownBy (w.setCells g o vs) (some g)
  | [], o, w, xs, _, h => ⟨xs, h, rfl, World.grownBy.refl w _⟩
  | v :: vs, o, w, xs, ho, h => by
    have s1 := h.stored o v
    obtain ⟨ys, h1, h2, h3⟩ := own_cellsT vs (o + 1) _ _ (by simp only [List.length_cons] at ho; omega) s1.1
    refine ⟨ys, h1, ?_, s1.2.trans h3⟩
    have e1 : (ys.take (o + 1)).take o = ((xs.set o v).take (o + 1)).take o := by rw [h2]
    rw [List.take_take, List.take_take, Nat.min_eq_left (by omega)] at e1
    rw [e1, List.take_set_of_le (Nat.le_refl _)]

theorem filtT_yes {L : List ByteArray} {p : ByteArray → Bool} {j : Nat} {z : ByteArray} (h : L[j]? = some z) (hp : p z = false) : (L.take (j + 1)).filter (fun x => !p x) = (L.take j).filter (fun x => !p x) ++ [z] := by
  rw [List.take_succ_eq_append_getElem (List.getElem?_eq_some_iff.1 h).1, (List.getElem?_eq_some_iff.1 h).2, List.filter_append]
  simp [hp]
theorem filtT_no {L : List ByteArray} {p : ByteArray → Bool} {j : Nat} {z : ByteArray} (h : L[j]? = some z) (hp : p z = true) : (L.take (j + 1)).filter (fun x => !p x) = (L.take j).filter (fun x => !p x) := by
  rw [List.take_succ_eq_append_getElem (List.getElem?_eq_some_iff.1 h).1, (List.getElem?_eq_some_iff.1 h).2, List.filter_append]
  simp [hp]
theorem flatT_get {L : List ByteArray} {j : Nat} {z : ByteArray} (h : L[j]? = some z) : (L.flatMap strC)[j]? = some (.string z) := by
  have := flat_get strC 1 strC_len L j z h 0 _ rfl
  rwa [Nat.mul_one, Nat.add_zero] at this

set_option maxRecDepth 100000 in
set_option maxHeartbeats 4000000 in
theorem deleteFuncT_any (A : Option Addr) (L : List ByteArray) (c base : Nat) (f : FuncId) (caps : Array Value) (p : ByteArray → Bool) (w0 w : World) (hu0 : Up w0 w) (hown : w.ownsRow base 9 1 (.slice A L.length c) L.length (L.flatMap strC)) (hb : w0.heap.size ≤ base) (hn : L.length ≤ 2000000) (he : EntersT f) (hf : AnsT w0 f caps p L) :
    Calls Tryz.prog 27 #[.slice A L.length c, .func (.func f) #[] caps] w fun e w' => ∃ t : Sl ByteArray, e = .returned (.slice t.A t.l.length t.c) ∧ t.l = (L.filter fun x => !p x) ∧ (rwStr t).own w' base ∧ t.val.ownBlock = (Value.slice A L.length c).ownBlock ∧ w.grownBy w' (Value.slice A L.length c).ownBlock ∧ Up w0 w' := by
  have hent : ∀ (args : Array Value) (w : World), (callFunc f args).run Tryz.prog w = .ok (.enter f args) w := he
  have hr := Rd.own strC_len hown
  have HIX := Lib.hid (indexFuncT_any A L c base w.heap.size f caps p w hr (Nat.le_refl _) hn he (fun d hd w1 hu => hf d hd w1 (hu0.trans hu)))
  have HFN := Lib.hid hf
  clear hf
  rcases hix : L.findIdx? p with _ | i0
  · have hno := List.findIdx?_eq_none_iff.1 hix
    have hfl : (L.filter fun x => !p x) = L := List.filter_eq_self.2 (fun x hx => by simp [hno x hx])
    have HFL := Lib.hid hfl
    have hv : idxFT L p = -1 := by simp [idxFT, hix]
    rw [hv] at HIX
    clear hix hno hfl hv
    go_enter Tryz.func27, Tryz.ntmps27
    go_wp2_with fail
    refine HIX.out.mono ?_
    rintro e w1 ⟨rfl, hu1⟩
    go_wp2
    go_ret
    exact ⟨⟨A, c, L⟩, rfl, HFL.out.symm, own_up hown hu1, rfl, grown_up hu1 _, hu0.trans hu1⟩
  · obtain ⟨hi0, hp0, hpn⟩ := List.findIdx?_eq_some_iff_getElem.1 hix
    have hv : idxFT L p = (i0 : Int) := by simp [idxFT, hix]
    rw [hv] at HIX
    obtain ⟨A', c', hvv, hcn, hcm, hA, -⟩ := own_form hown
    simp only [Value.slice.injEq] at hvv
    obtain ⟨rfl, -, rfl⟩ := hvv
    obtain ⟨g, rfl, hg1, hg2⟩ := hA (by omega)
    have hfl0 : (L.take i0).filter (fun x => !p x) = L.take i0 := List.filter_eq_self.2 (fun x hx => by
      obtain ⟨j, hj, e⟩ := List.getElem_of_mem hx
      have hj' : j < i0 := by rw [List.length_take] at hj; omega
      have := hpn j hj'
      rw [List.getElem_take] at e
      rw [← e]; simpa using this)
    have H0 := Lib.hid (show (L.take (i0 + 1)).filter (fun x => !p x) = L.take i0 by rw [filtT_no (List.getElem?_eq_getElem hi0) hp0, hfl0])
    have hne : (((i0 : Nat) : Int) == -1) = false := by simp
    clear hix hp0 hpn hv hfl0 hA
    go_enter Tryz.func27, Tryz.ntmps27
    go_wp2_with fail
    refine HIX.out.mono ?_
    rintro e w1 ⟨rfl, hu1⟩
    have hown1 := own_up hown hu1
    have hu01 := hu0.trans hu1
    go_wp2
    go_loopw [5, 6, 7] (fun i jj v wr => ∃ q j : Nat, ∃ ys, q < j ∧ j ≤ L.length ∧ i = .int .i64 q ∧ jj = .int .i64 j ∧ wr.ownsRow base 9 1 (.slice (some ⟨g, 0, none⟩) L.length c) L.length ys ∧ ys.take q = ((L.take j).filter fun x => !p x).flatMap strC ∧ ((L.take j).filter fun x => !p x).length = q ∧ (∀ t, j ≤ t → ys[t]? = (L.flatMap strC)[t]?) ∧ w.grownBy wr (some g) ∧ Up w0 wr) (fun _ jj _ _ => L.length - (intOf jj).toNat)
    case atStart =>
      have e1 : (L.flatMap strC).take i0 = (L.take i0).flatMap strC := by
        conv => lhs; rw [← List.take_append_drop i0 L, List.flatMap_append]
        rw [List.take_append_of_le_length (by rw [flat_length strC 1 strC_len]; simp; omega)]
        rw [List.take_of_length_le (by rw [flat_length strC 1 strC_len]; simp; omega)]
      exact ⟨i0, i0 + 1, _, by omega, by omega, rfl, by go_num, hown1, by rw [H0.out]; exact e1, by rw [H0.out]; simp; omega, fun t _ => rfl, grown_up hu1 _, hu01⟩
    case round =>
      obtain ⟨q, j, ys, hqj, hj, rfl, rfl, hown, hty, hlq, hys, hgr, hup⟩ := hrel
      have HGR := Lib.hid hgr
      clear hgr
      have HTY := Lib.hid hty
      have HLQ := Lib.hid hlq
      have HYS := Lib.hid hys
      clear hty hlq hys
      by_cases hlt : j < L.length
      · obtain ⟨z, hz⟩ : ∃ z, L[j]? = some z := ⟨L[j], List.getElem?_eq_getElem hlt⟩
        have HZ := Lib.hid hz
        have r0 := (hown.cellAt j (by omega)).trans ((HYS.out j (Nat.le_refl _)).trans (flatT_get hz))
        have HF := Lib.hid (HFN.out z (List.mem_of_getElem? hz) wr hup)
        clear hz
        rcases hpz : p z with _ | _ <;> rw [hpz] at HF
        · have HP := Lib.hid hpz
          clear hpz
          go_wp2_with fail
          refine HF.out.mono ?_
          rintro e w3 ⟨rfl, hu3⟩
          have hown3 := own_up hown hu3
          have hup3 := hup.trans hu3
          obtain ⟨y0, m0⟩ := own_cell hown3 (p := q) (by omega)
          have z0 := hown3.frozenAt q
          have s1 := hown3.stored q (.string z)
          have SS := Lib.hid (And.intro s1.1 (And.intro ((HGR.out.trans (grown_up hu3 _)).trans s1.2) (hup3.grown s1.2 (fun k hk => by simp at hk; omega))))
          have HLn := Lib.hid hown.1
          clear s1 hown hown3 r0
          go_wp2

          go_roundw
          case rel => exact ⟨q + 1, j + 1, _, by omega, by omega, by go_num, by go_num, SS.out.1, by rw [take_set_succ (by rw [HLn.out]; omega), HTY.out, filtT_yes HZ.out HP.out, List.flatMap_append]; rfl, by rw [filtT_yes HZ.out HP.out, List.length_append, HLQ.out]; rfl, fun t ht => by rw [List.getElem?_set_ne (by omega)]; exact HYS.out t (by omega), SS.out.2.1, SS.out.2.2⟩
          case measure => simp [intOf]; omega
        · have HP := Lib.hid hpz
          clear hpz
          go_wp2_with fail
          refine HF.out.mono ?_
          rintro e w3 ⟨rfl, hu3⟩
          have hown3 := own_up hown hu3
          have hup3 := hup.trans hu3
          clear hown r0
          go_wp2
          go_roundw
          case rel => exact ⟨q, j + 1, ys, by omega, by omega, rfl, by go_num, hown3, by rw [filtT_no HZ.out HP.out]; exact HTY.out, by rw [filtT_no HZ.out HP.out]; exact HLQ.out, fun t ht => HYS.out t (by omega), HGR.out.trans (grown_up hu3 _), hup3⟩
          case measure => simp [intOf]; omega
      · obtain rfl : j = L.length := by omega
        have hT := HTY.out
        have hQ := HLQ.out
        rw [List.take_of_length_le (Nat.le_refl _)] at hT hQ
        obtain ⟨zs, hz1, hz2, hz3⟩ := own_cellsT (List.replicate (L.length - q) (.string ByteArray.empty)) q wr ys (by simp; omega) hown
        have hzero : ∀ w : World, (zeroValue 9).run Tryz.prog w = .ok (.string ByteArray.empty) w := fun _ => by kernel_rfl
        have hsl : (Instr.sliceAt 29 (.slice (some ⟨g, 0, none⟩) L.length c) (some (.int .i64 (q : Int))) none none).run Tryz.prog wr = .ok (.slice (some ⟨g, q, none⟩) (L.length - q) (c - q)) wr := by
          obtain ⟨A2, hA2, hrun⟩ := run_sliceFrom (P := Tryz.prog) (t := 29) (sz := 1) Tryz.underlying29 (fun _ => rfl) g 0 L.length c q (by omega) hcn
          rcases hA2 with e | e
          · have := hrun .i64 (q : Int) wr rfl
            rw [e] at this
            simpa using this
          · omega
        have hcl : ∀ ty, (Builtin.clear_ #[29] ty #[.slice (some ⟨g, q, none⟩) (L.length - q) (c - q)]).run Tryz.prog wr = .ok (.tuple #[]) (wr.setCells g q (List.replicate (L.length - q) (.string ByteArray.empty))) :=
          fun ty => Lib.run_clear_slice wr 29 9 ty (.string ByteArray.empty) Tryz.underlying29 hzero rfl rfl g q (L.length - q) (c - q) (by omega)
            (fun t ht => by obtain ⟨u, hu⟩ := own_cell hown (p := q + t) (by omega); rw [hu]; rfl) (fun t ht => hown.frozenAt (q + t))
        have hfin := own_prefixT hz1 (show q ≤ L.length by omega)
        rw [hz2, hT] at hfin
        have HFI := Lib.hid hfin
        have HQ2 := Lib.hid hQ
        have hupz := hup.grown hz3 (fun k hk => by simp at hk; omega)
        have HGZ := Lib.hid (HGR.out.trans hz3)
        generalize wr.setCells g q (List.replicate (L.length - q) (.string ByteArray.empty)) = wz at *
        have hc0 : 0 < c := by omega
        have hqc : q ≤ c := by omega
        clear hz1 hz2 hz3 hT hQ hfin
        go_wp2_with (simp only [hcl])
        go_ret
        have hfi := HFI.out
        have hq2 := HQ2.out
        refine ⟨⟨some ⟨g, 0, none⟩, c, L.filter fun x => !p x⟩, ?_, rfl, ?_, rfl, HGZ.out, hupz⟩
        · rw [← hq2]; rfl
        · show World.ownsRow _ base 9 1 (.slice (some ⟨g, 0, none⟩) (L.filter fun x => !p x).length c) (L.filter fun x => !p x).length _
          rw [hq2]; exact hfi
end Go.Proofs.YtblpjjcjnaigiaaGreatDoor
