/- markText: the law package's text of a number. -/
import Derived.Test.YtblpjjcjnaigiaaGreatDoorProg
import Derived.Test.YtblpjjcjnaigiaaGreatDoorLib
namespace Go.Proofs.YtblpjjcjnaigiaaGreatDoor
open Go.RowKit Go.Sort

/-- the decimal digits of a number above 0 -/
def digs : Nat → Nat → List UInt8
  | 0, _ => []
  | f + 1, n => if n = 0 then [] else digs f (n / 10) ++ [48 + UInt8.ofNat (n % 10)]
def mtext (k : Int) : ByteArray := ⟨(109 :: digs 20 k.toNat).toArray⟩

set_option maxHeartbeats 400000 in
theorem markText_any (k : Int) (w : World) (h0 : 1 ≤ k) (hk : k ≤ 100000000) :
    Calls Tryz.prog 84 #[.int .i64 k] w fun e w' => e = .returned (.string (mtext k)) ∧ Up w w' := by
  have hcv := fun wx z => run_conv1 (P := Tryz.prog) Tryz.underlying191 Tryz.underlying5 Tryz.underlying9 wx z
  go_enter Tryz.func84, Tryz.ntmps84
  go_wp2
  go_loopw [0, 3] (fun q t wr => ∃ n f : Nat, ∃ ds, q = .int .i64 n ∧ n ≤ 100000000 ∧ t = .string ⟨List.toArray ds⟩ ∧ ds.length ≤ 20 - f ∧ f ≤ 20 ∧ n < 10 ^ f ∧ digs 20 k.toNat = digs f n ++ ds ∧ Up w wr) (fun q _ _ => (intOf q).toNat)
  case atStart => exact ⟨k.toNat, 20, [], by rw [Int.toNat_of_nonneg (by omega)], by omega, rfl, by simp, by omega, by omega, by simp, Up.refl _⟩
  case round =>
    obtain ⟨n, f, ds, rfl, hn, rfl, hds, hf, hnf, hdig, hup⟩ := hrel
    have HD := Lib.hid hdig
    have HN := Lib.hid hnf
    clear hdig hnf
    rcases Nat.eq_zero_or_pos n with rfl | hpos
    · go_wp2
      go_ret
      refine ⟨?_, hup⟩
      have h1 : mtext k = ⟨(109 :: ds).toArray⟩ := by
        unfold mtext
        rw [HD.out]
        have : digs f 0 = [] := by cases f <;> simp [digs]
        rw [this]; rfl
      rw [h1]
      exact congrArg (fun b => Ending.returned (Value.string b)) (ByteArray.ext (by simp))
    · rcases f with _ | f
      · exact absurd HN.out (by omega)
      · go_wp2
        go_roundw
        case rel => exact ⟨n / 10, f, (48 + UInt8.ofNat (n % 10)) :: ds, by go_num, by omega, congrArg Value.string (ByteArray.ext (by simp)), by simp; omega, by omega, by have := HN.out; rw [Nat.pow_succ] at this; omega, by rw [HD.out]; simp [digs, Nat.pos_iff_ne_zero.1 hpos], hup.allocs _⟩
        case measure => simp [intOf]; omega

end Go.Proofs.YtblpjjcjnaigiaaGreatDoor
