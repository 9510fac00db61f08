/- Numbers in decimal: by the reference's recursion and by strconv.FormatInt. -/
import Derived.Test.YtehoaoeahfmfpaaDoorBase
import Derived.Test.YtehoaoeahfmfpaaDoorShelf
import Derived.Deep.RegionLaw
import Derived.WalkSmall
namespace Go.Proofs.YtehoaoeahfmfpaaDoor
open Go.RowKit Go.Sort

def dcB (n : Nat) : ByteArray := ⟨(Lib.decDigits n).toArray⟩
theorem ret_strD {a b : ByteArray} (h : a = b) : Ending.returned (.string a) = .returned (.string b) := by rw [h]
theorem dcB_small {n : Nat} (h : n < 10) : dcB n = ⟨#[UInt8.ofNat (48 + n)]⟩ := by unfold dcB; rw [Lib.decDigits_one h]
theorem dcB_step {n : Nat} (h : ¬ n < 10) : dcB n = dcB (n / 10) ++ ⟨#[UInt8.ofNat (48 + n % 10)]⟩ := by
  unfold dcB
  rw [Lib.decDigits, dif_neg h]
  apply ByteArray.ext
  simp [ByteArray.data_append]
theorem dcB_len : ∀ (k n : Nat), n < 10 ^ (k + 1) → (dcB n).size ≤ k + 1
  | 0, n, h => by rw [dcB_small (by simpa using h)]; exact Nat.le_refl _
  | k + 1, n, h => by
    by_cases h10 : n < 10
    · rw [dcB_small h10]; show 1 ≤ _; omega
    · rw [dcB_step h10, ByteArray.size_append]
      have h1 : n / 10 < 10 ^ (k + 1) := by rw [Nat.div_lt_iff_lt_mul (by omega)]; rw [Nat.pow_succ] at h; exact h
      have := dcB_len k (n / 10) h1
      show (dcB (n / 10)).size + 1 ≤ _
      omega
theorem dcB_size {n : Nat} (h : n ≤ 1000000000) : (dcB n).size ≤ 10 := dcB_len 9 n (by omega)
theorem run_convB {P : Program} {src dst e : TypeId} (hs : P.underlying src = some (.slice e)) (he : P.underlying e = some (.int .u8)) (hd : P.underlying dst = some .string) (wx : World) (b : Nat) (z : Int) (hc : wx.cell? ⟨b, 0, none⟩ = some (.int .u8 z)) :
    (convert src dst (.slice (some ⟨b, 0, none⟩) 1 1)).run P wx = .ok (.string ⟨#[UInt8.ofNat z.toNat]⟩) wx := by
  rw [run_convert_bytes_string _ src dst e _ _ _ hs he hd]
  have h := run_loadCells_list (P := P) wx ⟨b, 0, none⟩ [.int .u8 z] (fun j v hv => by
    match j, hv with
    | 0, hv => simp at hv; subst hv; simpa [Addr.add] using hc)
  have h2 := run_bytesToString (P := P) wx ⟨b, 0, none⟩ 1 1 [z] h
  rw [h2]
  rfl

set_option maxRecDepth 100000 in
set_option maxHeartbeats 2000000 in
theorem l01Dec_any : ∀ (k n : Nat), n < k → n ≤ 1000000000 → ∀ w, Calls Tryd.prog 21 #[.int .i64 (n : Int)] w fun e w' => e = .returned (.string (dcB n)) ∧ Up w w'
  | 0, n, h, _, w => absurd h (by omega)
  | k + 1, n, h, hb, w => by
    by_cases h10 : n < 10
    · have HE := Lib.hid (show (⟨#[UInt8.ofNat (48 + (n : Int)).toNat]⟩ : ByteArray) = dcB n by rw [dcB_small h10, show (48 + (n : Int)).toNat = 48 + n by omega])
      have hcv := fun wx z => run_conv1 (P := Tryd.prog) Tryd.underlying48 Tryd.underlying5 Tryd.underlying9 wx z
      go_enter Tryd.func21, Tryd.ntmps21
      go_wp2
      go_ret
      exact ⟨ret_strD HE.out, Up.alloc _ _⟩
    · have HE := Lib.hid (dcB_step h10)
      obtain ⟨q, hq0⟩ : ∃ q, q = n / 10 := ⟨_, rfl⟩
      obtain ⟨r, hr0⟩ : ∃ r, r = n % 10 := ⟨_, rfl⟩
      have IH := Lib.hid (l01Dec_any k q (by omega) (by omega))
      have hd10 : decide ((n : Int) < 10) = false := by simp; omega
      have hq : (n : Int).tdiv 10 = (q : Int) := by rw [Int.tdiv_eq_ediv_of_nonneg (by omega)]; omega
      have hm : (n : Int).tmod 10 = (r : Int) := by rw [Int.tmod_eq_emod_of_nonneg (by omega)]; omega
      have hr9 : r < 10 := by omega
      have hqb : q ≤ 100000000 := by omega
      have hwq : IntKind.i64.wrap (q : Int) = (q : Int) := IntWalk.i64_in _ (by omega)
      have HE2 := Lib.hid (show dcB q ++ ⟨#[UInt8.ofNat (48 + (r : Int)).toNat]⟩ = dcB n by rw [HE.out, hq0, hr0, show (48 + ((n % 10 : Nat) : Int)).toNat = 48 + n % 10 by omega])
      clear hq0 hr0 HE
      have hsz := dcB_size (n := q) (by omega)
      have hw1 : IntKind.i64.wrap (48 + (r : Int)) = 48 + (r : Int) := IntWalk.i64_in _ (by omega)
      have hw2 : IntKind.u8.wrap (48 + (r : Int)) = 48 + (r : Int) := IntWalk.u8_in _ (by omega)
      have hss : ¬ (9223372036854775807 < (dcB q).size + 1) := by omega
      have hcv := fun wx b z hc => run_convB (P := Tryd.prog) Tryd.underlying48 Tryd.underlying5 Tryd.underlying9 wx b z hc
      go_enter Tryd.func21, Tryd.ntmps21
      go_wp2_with fail
      have kn : (w.alloc (.cells #[.int .u8 (48 + (r : Int))] 5)).cell? ⟨w.heap.size, 0, none⟩ = some (.int .u8 (48 + (r : Int))) := by go_simp
      have ku := Up.alloc w (.cells #[.int .u8 (48 + (r : Int))] 5)
      have kd : Up w w.drew := (Up.refl w).drew
      have kud := ku.drew
      go_region_law (first
        | (go_simp; go_at_call 21; refine (IH.out _).mono ?_; rintro e wb ⟨rfl, hub⟩
           have hW : Up w wb := Up.trans kud hub
           have kc := hub.cell kn)
        | (go_simp; go_at_call 21; refine (IH.out _).mono ?_; rintro e wb ⟨rfl, hub⟩
           have hW : Up w wb := Up.trans kd hub))
      all_goals
        try clear kc
        go_wp2
        go_ret
        exact ⟨ret_strD HE2.out, by first | exact hW | exact hW.allocs _ | exact (hW.allocs _).drew | exact hW.drew⟩

abbrev TabU (w : World) : Prop := Lib.TabIs Tryd.prog w "internal/strconv.uint64pow10" .u64 Lib.pow10Tab
theorem TabU.up {w w' : World} (h : TabU w) (hu : Up w w') : TabU w' := by
  have hg : Tryd.prog.globalNamed "internal/strconv.uint64pow10" = some 5 := by kernel_rfl
  unfold TabU Lib.TabIs World.var? at h ⊢
  simp only [hg, Option.bind_some] at h ⊢
  have hlt : 5 < w.heap.size := by
    rcases Nat.lt_or_ge 5 w.heap.size with h1 | h1
    · exact h1
    · rw [Array.getElem?_eq_none h1] at h; cases h
  rw [hu.block _ hlt]
  exact h
theorem up_grow (w : World) (k : Nat) (os : Array Obj) : Up w (grow (w.drewN k) os) :=
  ⟨rfl, rfl, rfl, by simp, fun i hi => by rw [heap_grow_old _ _ (by simpa using hi)]; rfl⟩
set_option maxHeartbeats 400000 in
theorem decimal_any (n : Nat) (h : n ≤ 1000000000) (w : World) (ht : TabU w) :
    Calls Tryd.prog 28 #[.int .i64 (n : Int)] w fun e w' => e = .returned (.string (dcB n)) ∧ Up w w' := by
  have hF := Tryd.strconv_FormatInt_10 (n : Int) (by omega) (by omega) w ht
  rw [show (⟨(Lib.itoa (n : Int)).toArray⟩ : ByteArray) = dcB n by unfold Lib.itoa dcB; rw [if_neg (by omega), Int.toNat_natCast]] at hF
  have HF := Lib.hid hF
  clear hF
  go_enter Tryd.func28, Tryd.ntmps28
  go_wp2_with (go_at_call 43; refine HF.out.mono ?_; rintro e w' ⟨rfl, k, os, rfl⟩)
  go_ret
  exact ⟨rfl, up_grow w k os⟩
end Go.Proofs.YtehoaoeahfmfpaaDoor
