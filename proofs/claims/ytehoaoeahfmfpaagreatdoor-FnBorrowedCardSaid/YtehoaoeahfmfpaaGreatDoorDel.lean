/- slices.IndexFunc and ContainsFunc over integers, whatever function is handed in, as long as it answers a plain test and leaves old memory alone. slices.DeleteFunc over integers that the call itself made, whatever function is handed in, as long as it answers a plain test and leaves old memory alone. -/
import Derived.Test.YtehoaoeahfmfpaaGreatDoorInts
import Derived.Test.YtehoaoeahfmfpaaGreatDoorMk
import Derived.Lib.SliceRun
namespace Go.Proofs.YtehoaoeahfmfpaaGreatDoor
open Go.RowKit Go.Sort

/-- what a function value answers on integers, in every world that has only grown since w -/
def AnsI (w : World) (f : FuncId) (caps : Array Value) (p : Int → Bool) (l : List Int) : Prop :=
  ∀ d ∈ l, ∀ w1, Up w w1 → Calls Tryz.prog f (#[.int .i64 d] ++ caps) w1 fun e w2 => e = .returned (.bool (p d)) ∧ Up w1 w2

/-- a function with a body: a call of its value enters it -/
def EntersI (f : FuncId) : Prop := ∀ (args : Array Value) (w : World), (callFunc f args).run Tryz.prog w = .ok (.enter f args) w

def idxFI (l : List Int) (p : Int → Bool) : Int := match l.findIdx? p with | some i => (i : Int) | none => -1
theorem idxFI_yes {l : List Int} {p : Int → Bool} {k : Nat} {d : Int} (hd : l[k]? = some d) (h : p d = true) (hb : ∀ j x, j < k → l[j]? = some x → p x = false) : idxFI l p = k := by
  have hk := (List.getElem?_eq_some_iff.1 hd).1
  have : l.findIdx? p = some k := by
    rw [List.findIdx?_eq_some_iff_getElem]
    refine ⟨hk, by rw [(List.getElem?_eq_some_iff.1 hd).2]; exact h, fun j hj => ?_⟩
    have := hb j _ hj (List.getElem?_eq_getElem (by omega))
    simp [this]
  simp [idxFI, this]
theorem idxFI_no {l : List Int} {p : Int → Bool} (hb : ∀ j x, j < l.length → l[j]? = some x → p x = false) : idxFI l p = -1 := by
  have : l.findIdx? p = none := by
    rw [List.findIdx?_eq_none_iff]
    intro x hx
    obtain ⟨j, hj, e⟩ := List.getElem_of_mem hx
    exact hb j x hj (by rw [List.getElem?_eq_getElem hj, e])
  simp [idxFI, this]
theorem idxFI_any (l : List Int) (p : Int → Bool) : decide (0 ≤ idxFI l p) = l.any p := by
  unfold idxFI
  rcases h : l.findIdx? p with _ | i
  · rw [List.findIdx?_eq_none_iff] at h
    have : l.any p = false := by rw [List.any_eq_false]; intro x hx; simpa using h x hx
    rw [this]; rfl
  · have h2 := List.findIdx?_eq_some_iff_getElem.1 h
    obtain ⟨hk, hp, _⟩ := h2
    have : l.any p = true := by rw [List.any_eq_true]; exact ⟨_, List.getElem_mem hk, hp⟩
    rw [this]; simp

set_option maxRecDepth 100000 in
set_option maxHeartbeats 1000000 in
theorem indexFuncI_any (A : Option Addr) (l : List Int) (c lo hi : Nat) (f : FuncId) (caps : Array Value) (p : Int → Bool) (w : World) (hr : RdI w lo hi A l) (hhi : hi ≤ w.heap.size) (hn : l.length ≤ 2000000) (he : EntersI f) (hf : AnsI w f caps p l) :
    Calls Tryz.prog 97 #[.slice A l.length c, .func (.func f) #[] caps] w fun e w' => e = .returned (.int .i64 (idxFI l p)) ∧ Up w w' := by
  have hent : ∀ (args : Array Value) (w : World), (callFunc f args).run Tryz.prog w = .ok (.enter f args) w := he
  go_enter Tryz.func97, Tryz.ntmps97
  go_wp2
  go_loopw [4, 5, 8] (fun u4 u5 i wr => ∃ k : Nat, k ≤ l.length ∧ i = .int .i64 k ∧ (∀ j x, j < k → l[j]? = some x → p x = false) ∧ Up w wr) (fun _ _ i _ => l.length - (intOf i).toNat)
  case atStart => exact ⟨0, Nat.zero_le _, rfl, fun j x h => absurd h (by omega), Up.refl _⟩
  case round =>
    obtain ⟨k, hk, rfl, ha, hup⟩ := hrel
    have HA := Lib.hid ha
    clear ha
    by_cases hlt : k < l.length
    · obtain ⟨b, off, d, rfl, -, -, hd, q0⟩ := (hr.up hup hhi).int hlt
      have HD := Lib.hid hd
      clear hd
      have HF := Lib.hid (hf d (List.mem_of_getElem? HD.out) wr hup)
      go_wp2_with fail
      refine HF.out.mono ?_
      rintro e w2 ⟨rfl, hup2⟩
      by_cases hp : p d = true
      · have HP := Lib.hid hp
        go_wp2
        go_ret
        exact ⟨ret_int (idxFI_yes HD.out HP.out (fun j x hj hx => HA.out j x hj hx)).symm, hup.trans hup2⟩
      · have hp' : p d = false := by simpa using hp
        have HP := Lib.hid hp'
        clear hp
        go_wp2
        go_roundw
        case rel => exact ⟨k + 1, by omega, by go_num, fun j x hj hx => by
          rcases Nat.lt_or_ge j k with h | h
          · exact HA.out j x h hx
          · obtain rfl : j = k := by omega
            rw [HD.out] at hx; cases hx; exact HP.out, hup.trans hup2⟩
        case measure => simp [intOf]; omega
    · go_wp2
      go_ret
      exact ⟨ret_int (idxFI_no (fun j x hj hx => HA.out j x (by omega) hx)).symm, hup⟩

end Go.Proofs.YtehoaoeahfmfpaaGreatDoor

namespace Go.Proofs.YtehoaoeahfmfpaaGreatDoor
open Go.RowKit Go.Sort

theorem own_prefix {w : World} {base g n c m : Nat} {e : TypeId} {xs : List Value} (h : w.ownsRow base e 1 (.slice (some ⟨g, 0, none⟩) n c) n xs) (hm : m ≤ n) : w.ownsRow base e 1 (.slice (some ⟨g, 0, none⟩) m c) m (xs.take m) := by
  refine ⟨by rw [List.length_take, h.1]; omega, ?_⟩
  rcases h.2 with ⟨h2, -⟩ | ⟨g', cap, cur, hv, hg, hh, h1, h2, h3, h4⟩
  · cases h2
  · simp only [Value.slice.injEq, Option.some.injEq, Addr.mk.injEq] at hv
    obtain ⟨⟨rfl, -, -⟩, -, rfl⟩ := hv
    refine .inr ⟨g, c, cur, rfl, hg, hh, by omega, h2, h3, ?_⟩
    rw [← h4, List.take_take]
    congr 1; omega
theorem own_cells {base g n c : Nat} {e : TypeId} : ∀ (vs : List Value) (o : Nat) (w : World) (xs : List Value), o + vs.length ≤ n → w.ownsRow base e 1 (.slice (some ⟨g, 0, none⟩) n c) n xs →
    ∃ ys, (w.setCells g o vs).ownsRow base e 1 (.slice (some ⟨g, 0, none⟩) n c) n ys ∧ ys.take o = xs.take o ∧ w.grownBy (w.setCells g o vs) (some g)
  | [], o, w, xs, _, h => ⟨xs, h, rfl, World.grownBy.refl w _⟩
  | v :: vs, o, w, xs, ho, h => by
    have s1 := h.stored o v
    obtain ⟨ys, h1, h2, h3⟩ := own_cells vs (o + 1) _ _ (by simp only [List.length_cons] at ho; omega) s1.1
    refine ⟨ys, h1, ?_, s1.2.trans h3⟩
    have e1 : (ys.take (o + 1)).take o = ((xs.set o v).take (o + 1)).take o := by rw [h2]
    rw [List.take_take, List.take_take, Nat.min_eq_left (by omega)] at e1
    rw [e1, List.take_set_of_le (Nat.le_refl _)]

theorem filt_yes {L : List Int} {p : Int → Bool} {j : Nat} {z : Int} (h : L[j]? = some z) (hp : p z = false) : (L.take (j + 1)).filter (fun x => !p x) = (L.take j).filter (fun x => !p x) ++ [z] := by
  rw [List.take_succ_eq_append_getElem (List.getElem?_eq_some_iff.1 h).1, (List.getElem?_eq_some_iff.1 h).2, List.filter_append]
  simp [hp]
theorem filt_no {L : List Int} {p : Int → Bool} {j : Nat} {z : Int} (h : L[j]? = some z) (hp : p z = true) : (L.take (j + 1)).filter (fun x => !p x) = (L.take j).filter (fun x => !p x) := by
  rw [List.take_succ_eq_append_getElem (List.getElem?_eq_some_iff.1 h).1, (List.getElem?_eq_some_iff.1 h).2, List.filter_append]
  simp [hp]
theorem flatI_get {L : List Int} {j : Nat} {z : Int} (h : L[j]? = some z) : (L.flatMap intCells)[j]? = some (.int .i64 z) := by
  have := flat_get intCells 1 int_len L j z h 0 _ rfl
  rwa [Nat.mul_one, Nat.add_zero] at this

set_option maxRecDepth 100000 in
set_option maxHeartbeats 4000000 in
theorem deleteFunc_any (A : Option Addr) (L : List Int) (c base : Nat) (f : FuncId) (caps : Array Value) (p : Int → Bool) (w0 w : World) (hu0 : Up w0 w) (hown : w.ownsRow base 2 1 (.slice A L.length c) L.length (L.flatMap intCells)) (hb : w0.heap.size ≤ base) (hn : L.length ≤ 2000000) (he : EntersI f) (hf : AnsI w0 f caps p L) :
    Calls Tryz.prog 69 #[.slice A L.length c, .func (.func f) #[] caps] w fun e w' => ∃ v, e = .returned v ∧ w'.ownsRow base 2 1 v (L.filter fun x => !p x).length ((L.filter fun x => !p x).flatMap intCells) ∧ Up w0 w' := by
  have hent : ∀ (args : Array Value) (w : World), (callFunc f args).run Tryz.prog w = .ok (.enter f args) w := he
  have hr := Rd.own int_len hown
  have HIX := Lib.hid (indexFuncI_any A L c base w.heap.size f caps p w hr (Nat.le_refl _) hn he (fun d hd w1 hu => hf d hd w1 (hu0.trans hu)))
  have HFN := Lib.hid hf
  clear hf
  rcases hix : L.findIdx? p with _ | i0
  · have hno := List.findIdx?_eq_none_iff.1 hix
    have hfl : (L.filter fun x => !p x) = L := List.filter_eq_self.2 (fun x hx => by simp [hno x hx])
    have HFL := Lib.hid hfl
    have hv : idxFI L p = -1 := by simp [idxFI, hix]
    rw [hv] at HIX
    clear hix hno hfl hv
    go_enter Tryz.func69, Tryz.ntmps69
    go_wp2_with fail
    refine HIX.out.mono ?_
    rintro e w1 ⟨rfl, hu1⟩
    go_wp2
    go_ret
    exact ⟨_, rfl, by rw [HFL.out]; exact own_up hown hu1, hu0.trans hu1⟩
  · obtain ⟨hi0, hp0, hpn⟩ := List.findIdx?_eq_some_iff_getElem.1 hix
    have hv : idxFI L p = (i0 : Int) := by simp [idxFI, hix]
    rw [hv] at HIX
    obtain ⟨A', c', hvv, hcn, hcm, hA, -⟩ := own_form hown
    simp only [Value.slice.injEq] at hvv
    obtain ⟨rfl, -, rfl⟩ := hvv
    obtain ⟨g, rfl, hg1, hg2⟩ := hA (by omega)
    have hfl0 : (L.take i0).filter (fun x => !p x) = L.take i0 := List.filter_eq_self.2 (fun x hx => by
      obtain ⟨j, hj, e⟩ := List.getElem_of_mem hx
      have hj' : j < i0 := by rw [List.length_take] at hj; omega
      have := hpn j hj'
      rw [List.getElem_take] at e
      rw [← e]; simpa using this)
    have H0 := Lib.hid (show (L.take (i0 + 1)).filter (fun x => !p x) = L.take i0 by rw [filt_no (List.getElem?_eq_getElem hi0) hp0, hfl0])
    have hne : (((i0 : Nat) : Int) == -1) = false := by simp
    clear hix hp0 hpn hv hfl0 hA
    go_enter Tryz.func69, Tryz.ntmps69
    go_wp2_with fail
    refine HIX.out.mono ?_
    rintro e w1 ⟨rfl, hu1⟩
    have hown1 := own_up hown hu1
    have hu01 := hu0.trans hu1
    go_wp2
    go_loopw [5, 6, 7] (fun i jj v wr => ∃ q j : Nat, ∃ ys, q < j ∧ j ≤ L.length ∧ i = .int .i64 q ∧ jj = .int .i64 j ∧ wr.ownsRow base 2 1 (.slice (some ⟨g, 0, none⟩) L.length c) L.length ys ∧ ys.take q = ((L.take j).filter fun x => !p x).flatMap intCells ∧ ((L.take j).filter fun x => !p x).length = q ∧ (∀ t, j ≤ t → ys[t]? = (L.flatMap intCells)[t]?) ∧ Up w0 wr) (fun _ jj _ _ => L.length - (intOf jj).toNat)
    case atStart =>
      have e1 : (L.flatMap intCells).take i0 = (L.take i0).flatMap intCells := by
        conv => lhs; rw [← List.take_append_drop i0 L, List.flatMap_append]
        rw [List.take_append_of_le_length (by rw [flat_length intCells 1 int_len]; simp; omega)]
        rw [List.take_of_length_le (by rw [flat_length intCells 1 int_len]; simp; omega)]
      exact ⟨i0, i0 + 1, _, by omega, by omega, rfl, by go_num, hown1, by rw [H0.out]; exact e1, by rw [H0.out]; simp; omega, fun t _ => rfl, hu01⟩
    case round =>
      obtain ⟨q, j, ys, hqj, hj, rfl, rfl, hown, hty, hlq, hys, hup⟩ := hrel
      have HTY := Lib.hid hty
      have HLQ := Lib.hid hlq
      have HYS := Lib.hid hys
      clear hty hlq hys
      by_cases hlt : j < L.length
      · obtain ⟨z, hz⟩ : ∃ z, L[j]? = some z := ⟨L[j], List.getElem?_eq_getElem hlt⟩
        have HZ := Lib.hid hz
        have r0 := (hown.cellAt j (by omega)).trans ((HYS.out j (Nat.le_refl _)).trans (flatI_get hz))
        have HF := Lib.hid (HFN.out z (List.mem_of_getElem? hz) wr hup)
        clear hz
        rcases hpz : p z with _ | _ <;> rw [hpz] at HF
        · have HP := Lib.hid hpz
          clear hpz
          go_wp2_with fail
          refine HF.out.mono ?_
          rintro e w3 ⟨rfl, hu3⟩
          have hown3 := own_up hown hu3
          have hup3 := hup.trans hu3
          obtain ⟨y0, m0⟩ := own_cell hown3 (p := q) (by omega)
          have z0 := hown3.frozenAt q
          have s1 := hown3.stored q (.int .i64 z)
          have SS := Lib.hid (And.intro s1.1 (hup3.grown s1.2 (fun k hk => by simp at hk; omega)))
          have HLn := Lib.hid hown.1
          clear s1 hown hown3 r0
          go_wp2

          go_roundw
          case rel => exact ⟨q + 1, j + 1, _, by omega, by omega, by go_num, by go_num, SS.out.1, by rw [take_set_succ (by rw [HLn.out]; omega), HTY.out, filt_yes HZ.out HP.out, List.flatMap_append]; rfl, by rw [filt_yes HZ.out HP.out, List.length_append, HLQ.out]; rfl, fun t ht => by rw [List.getElem?_set_ne (by omega)]; exact HYS.out t (by omega), SS.out.2⟩
          case measure => simp [intOf]; omega
        · have HP := Lib.hid hpz
          clear hpz
          go_wp2_with fail
          refine HF.out.mono ?_
          rintro e w3 ⟨rfl, hu3⟩
          have hown3 := own_up hown hu3
          have hup3 := hup.trans hu3
          clear hown r0
          go_wp2
          go_roundw
          case rel => exact ⟨q, j + 1, ys, by omega, by omega, rfl, by go_num, hown3, by rw [filt_no HZ.out HP.out]; exact HTY.out, by rw [filt_no HZ.out HP.out]; exact HLQ.out, fun t ht => HYS.out t (by omega), hup3⟩
          case measure => simp [intOf]; omega
      · obtain rfl : j = L.length := by omega
        have hT := HTY.out
        have hQ := HLQ.out
        rw [List.take_of_length_le (Nat.le_refl _)] at hT hQ
        obtain ⟨zs, hz1, hz2, hz3⟩ := own_cells (List.replicate (L.length - q) (.int .i64 0)) q wr ys (by simp; omega) hown
        have hzero : ∀ w : World, (zeroValue 2).run Tryz.prog w = .ok (.int .i64 0) w := fun _ => by kernel_rfl
        have hsl : (Instr.sliceAt 43 (.slice (some ⟨g, 0, none⟩) L.length c) (some (.int .i64 (q : Int))) none none).run Tryz.prog wr = .ok (.slice (some ⟨g, q, none⟩) (L.length - q) (c - q)) wr := by
          obtain ⟨A2, hA2, hrun⟩ := run_sliceFrom (P := Tryz.prog) (t := 43) (sz := 1) Tryz.underlying43 (fun _ => rfl) g 0 L.length c q (by omega) hcn
          rcases hA2 with e | e
          · have := hrun .i64 (q : Int) wr rfl
            rw [e] at this
            simpa using this
          · omega
        have hcl : ∀ ty, (Builtin.clear_ #[43] ty #[.slice (some ⟨g, q, none⟩) (L.length - q) (c - q)]).run Tryz.prog wr = .ok (.tuple #[]) (wr.setCells g q (List.replicate (L.length - q) (.int .i64 0))) :=
          fun ty => Lib.run_clear_slice wr 43 2 ty (.int .i64 0) Tryz.underlying43 hzero rfl rfl g q (L.length - q) (c - q) (by omega)
            (fun t ht => by obtain ⟨u, hu⟩ := own_cell hown (p := q + t) (by omega); rw [hu]; rfl) (fun t ht => hown.frozenAt (q + t))
        have hfin := own_prefix hz1 (show q ≤ L.length by omega)
        rw [hz2, hT] at hfin
        have HFI := Lib.hid hfin
        have HQ2 := Lib.hid hQ
        have hupz := hup.grown hz3 (fun k hk => by simp at hk; omega)
        generalize wr.setCells g q (List.replicate (L.length - q) (.int .i64 0)) = wz at *
        have hc0 : 0 < c := by omega
        have hqc : q ≤ c := by omega
        clear hz1 hz2 hz3 hT hQ hfin
        go_wp2_with (simp only [hcl])
        go_ret
        exact ⟨_, rfl, by rw [HQ2.out]; exact HFI.out, hupz⟩
end Go.Proofs.YtehoaoeahfmfpaaGreatDoor
