/- l01Split and strings.Cut at one byte. -/
import Derived.Test.YtehoaoeahfmfpaaDoorBase
import Derived.Lib.IndexLaws
namespace Go.Proofs.YtehoaoeahfmfpaaDoor
open Go.RowKit Go.Sort

theorem infoTxt : (Tryd.prog.info? 9).map (fun i => (i.zero, i.size, i.bytes)) = some (some (.string ByteArray.empty), 1, 16) := by kernel_rfl
abbrev txC (z : ByteArray) : List Value := [.string z]
theorem txC_len (z : ByteArray) : (txC z).length = 1 := rfl
/-- the pieces between bytes c, where cur is the piece that stands open -/
def seg (c : UInt8) : List UInt8 → List UInt8 → List (List UInt8)
  | cur, [] => [cur]
  | cur, b :: r => if b = c then cur :: seg c [] r else seg c (cur ++ [b]) r
def ofB (l : List UInt8) : ByteArray := ⟨l.toArray⟩
def spL (c : UInt8) (s : ByteArray) : List ByteArray := (seg c [] s.data.toList).map ofB
theorem ofB_ext {s : ByteArray} {l : List UInt8} (h : s.data.toList = l) : s = ofB l := by
  obtain ⟨a⟩ := s; simp at h; subst h; simp [ofB]
theorem seg_len (c : UInt8) : ∀ (l cur : List UInt8), (seg c cur l).length ≤ l.length + 1
  | [], cur => by simp [seg]
  | b :: r, cur => by
    unfold seg; split
    · have := seg_len c r []; simp; omega
    · have := seg_len c r (cur ++ [b]); simp; omega
/-- where the search stands at byte i, the open piece beginning at f -/
def spR (c : UInt8) (s : ByteArray) (out : List ByteArray) (f i : Nat) : Prop :=
  f ≤ i ∧ i ≤ s.size ∧ out ++ (seg c ((s.data.toList.drop f).take (i - f)) (s.data.toList.drop i)).map ofB = spL c s
theorem dl_len (s : ByteArray) : s.data.toList.length = s.size := by simp
theorem spR_end {c : UInt8} {s : ByteArray} {out : List ByteArray} {f : Nat} (h : spR c s out f s.size) : out ++ [s.extract f s.size] = spL c s := by
  obtain ⟨h1, h2, h3⟩ := h
  have e : s.data.toList.drop s.size = [] := List.drop_eq_nil_of_le (by rw [dl_len]; exact Nat.le_refl _)
  rw [e, seg] at h3
  rw [← h3, ofB_ext (Lib.extract_data s f s.size)]; rfl
theorem spR_hit {c : UInt8} {s : ByteArray} {out : List ByteArray} {f i : Nat} (h : spR c s out f i) (hi : i < s.size) (hb : s[i] = c) : spR c s (out ++ [s.extract f i]) (i + 1) (i + 1) := by
  obtain ⟨h1, h2, h3⟩ := h
  refine ⟨Nat.le_refl _, hi, ?_⟩
  have hc : s.data.toList.drop i = s[i] :: s.data.toList.drop (i + 1) := List.drop_eq_getElem_cons (by rw [dl_len]; exact hi)
  rw [hc, seg, if_pos hb] at h3
  rw [← h3, ofB_ext (Lib.extract_data s f i), Nat.sub_self, List.take_zero]; simp
theorem spR_miss {c : UInt8} {s : ByteArray} {out : List ByteArray} {f i : Nat} (h : spR c s out f i) (hi : i < s.size) (hb : ¬ s[i] = c) : spR c s out f (i + 1) := by
  obtain ⟨h1, h2, h3⟩ := h
  refine ⟨by omega, hi, ?_⟩
  have hc : s.data.toList.drop i = s[i] :: s.data.toList.drop (i + 1) := List.drop_eq_getElem_cons (by rw [dl_len]; exact hi)
  rw [hc, seg, if_neg hb] at h3
  rw [← h3]
  congr 2
  have hlt : i - f < (s.data.toList.drop f).length := by rw [List.length_drop, dl_len]; omega
  rw [show i + 1 - f = (i - f) + 1 by omega, List.take_succ_eq_append_getElem hlt, List.getElem_drop]
  congr 2
  simp only [show f + (i - f) = i by omega]
  rfl
theorem spL_len (c : UInt8) (s : ByteArray) : (spL c s).length ≤ s.size + 1 := by
  unfold spL; rw [List.length_map]; have := seg_len c s.data.toList []; rw [dl_len] at this; exact this
theorem spR_len {c : UInt8} {s : ByteArray} {out : List ByteArray} {f i : Nat} (h : spR c s out f i) : out.length ≤ s.size + 1 := by
  have := congrArg List.length h.2.2
  have h2 := spL_len c s
  rw [List.length_append] at this; omega
theorem txt_step {w' : World} {base : Nat} {T : TypeId} {v' : Value} {l : List ByteArray} {x : ByteArray} (ho : w'.ownsRow base T 1 v' (l.length + 1) (l.flatMap txC ++ [.string x])) : w'.ownsRow base T 1 v' (l ++ [x]).length ((l ++ [x]).flatMap txC) := by
  rw [List.length_append, List.flatMap_append]; exact ho

set_option maxRecDepth 100000 in
set_option maxHeartbeats 4000000 in
theorem l01Split_any (s : ByteArray) (c : UInt8) (w : World) (hs : s.size ≤ 100000000) :
    Calls Tryd.prog 12 #[.string s, .int .u8 (c.toNat : Int)] w fun e w' => ∃ v, e = .returned v ∧ w'.ownsRow w.heap.size 9 1 v (spL c s).length ((spL c s).flatMap txC) ∧ Up w w' := by
  obtain ⟨i0, hi0, hz0, hz1, hz2⟩ := info_parts infoTxt
  go_enter Tryd.func12, Tryd.ntmps12
  go_wp2
  have hown0 := World.ownsRow_lit (base := w.heap.size) (e := 9) (size := 1) w #[] 0 (Nat.le_refl _) (by simp [maxLen]) rfl
  have hup0 := (Up.refl w).allocs (.cells #[] 9)
  generalize w.alloc (.cells #[] 9) = w2 at *
  go_loopw [5, 6, 7] (fun o fr i wr => ∃ (out : List ByteArray) (f k : Nat) (C : Option Addr) (cc : Nat), k ≤ s.size + 1 ∧ f ≤ s.size + 1 ∧ o = .slice C out.length cc ∧ fr = .int .i64 f ∧ i = .int .i64 k ∧ (k ≤ s.size → spR c s out f k) ∧ (s.size < k → out = spL c s) ∧ wr.ownsRow w.heap.size 9 1 (.slice C out.length cc) out.length (out.flatMap txC) ∧ Up w wr) (fun _ _ i _ => s.size + 1 - (intOf i).toNat)
  case atStart => exact ⟨[], 0, 0, some ⟨w.heap.size, 0, none⟩, 0, Nat.zero_le _, Nat.zero_le _, rfl, rfl, rfl, fun _ => ⟨Nat.le_refl _, Nat.zero_le _, by simp [spL]⟩, fun h => absurd h (by omega), hown0, hup0⟩
  case round =>
    obtain ⟨out, f, k, C, cc, hk, hf, rfl, rfl, rfl, hsp, hfin, hown, hup⟩ := hrel
    by_cases hle : k ≤ s.size
    · have hR := hsp hle
      have hfk := hR.1
      have hol := spR_len hR
      have HR := Lib.hid hR
      clear hsp hfin hR
      have n1 : out.length + 1 ≤ maxLen := by unfold maxLen; omega
      have n2 : (out.length + 1) * 16 ≤ 140737488355328 := by omega
      have n3 : w.heap.size ≤ (wr.alloc (.cells #[.string (s.extract f k)] 9)).heap.size := (hup.allocs _).size
      by_cases hlt : k < s.size
      · have hb : ((k : Int) == (s.size : Int)) = false := by rw [beq_eq_false_iff_ne]; omega
        have hb' : (k == s.size) = false := by rw [beq_eq_false_iff_ne]; omega
        by_cases hc : s[k] = c
        · have hcb : ((s[k].toNat : Int) == (c.toNat : Int)) = true := by rw [hc]; simp
          have HC := Lib.hid hc
          clear hc
          go_wp2_with ((at_builtin; refine wpList_append_own _ rfl _ _ 23 rfl w.heap.size 9 i0 _ 1 16 Tryd.underlying23 hi0 hz0 hz1 hz2 rfl (by decide) _ _ _ rfl (hown.alloc _) ⟨wr.heap.size, 0, none⟩ 1 1 [.string (s.extract f k)] rfl rfl (cell_one_new _ _ _) (by simp [Value.oneCell']) n1 n2 n3 ?_))
          intro v' w4 hown' hgrow _
          have hu := (hup.allocs (.cells #[.string (s.extract f k)] 9)).grown hgrow (fun k hk => (hown.lt k hk).1)
          have ho := txt_step hown'
          obtain ⟨C2, cc2, rfl, -, -, -, -⟩ := own_form ho
          clear hown' hgrow
          go_wp2
          go_roundw
          case rel => exact ⟨out ++ [s.extract f k], k + 1, k + 1, C2, cc2, by omega, by omega, by simp, by go_num, by go_num, fun _ => spR_hit HR.out hlt HC.out, fun h => absurd h (by omega), ho, hu⟩
          case measure => simp [intOf]; omega
        · have hcb : ((s[k].toNat : Int) == (c.toNat : Int)) = false := by
            rw [beq_eq_false_iff_ne]; intro e; apply hc; exact UInt8.toNat_inj.1 (by omega)
          have HC := Lib.hid hc
          clear hc
          go_wp2
          go_roundw
          case rel => exact ⟨out, f, k + 1, C, cc, by omega, by omega, rfl, rfl, by go_num, fun _ => spR_miss HR.out hlt HC.out, fun h => absurd h (by omega), hown, hup⟩
          case measure => simp [intOf]; omega
      · obtain rfl : k = s.size := by omega
        have hb : ((s.size : Int) == (s.size : Int)) = true := by simp
        go_wp2_with ((at_builtin; refine wpList_append_own _ rfl _ _ 23 rfl w.heap.size 9 i0 _ 1 16 Tryd.underlying23 hi0 hz0 hz1 hz2 rfl (by decide) _ _ _ rfl (hown.alloc _) ⟨wr.heap.size, 0, none⟩ 1 1 [.string (s.extract f s.size)] rfl rfl (cell_one_new _ _ _) (by simp [Value.oneCell']) n1 n2 n3 ?_))
        intro v' w4 hown' hgrow _
        have hu := (hup.allocs (.cells #[.string (s.extract f s.size)] 9)).grown hgrow (fun k hk => (hown.lt k hk).1)
        have ho := txt_step hown'
        obtain ⟨C2, cc2, rfl, -, -, -, -⟩ := own_form ho
        clear hown' hgrow
        go_wp2
        go_roundw
        case rel => exact ⟨out ++ [s.extract f s.size], s.size + 1, s.size + 1, C2, cc2, by omega, by omega, by simp, by go_num, by go_num, fun h => absurd h (by omega), fun _ => spR_end HR.out, ho, hu⟩
        case measure => first | (simp [intOf]; done) | (simp [intOf]; omega)
    · have HE := Lib.hid (hfin (by omega))
      clear hsp hfin
      go_wp2
      go_ret
      exact ⟨_, rfl, by rw [← HE.out]; exact hown, hup⟩

/-- strings.Cut at one byte: what stands before the first such byte, what behind it, and whether there is one -/
def ctI (c : UInt8) (s : ByteArray) : Int := Lib.indexByte s.data.toList c
def ctN (c : UInt8) (s : ByteArray) : ByteArray := if ctI c s < 0 then s else s.extract 0 (ctI c s).toNat
def ctR (c : UInt8) (s : ByteArray) : ByteArray := if ctI c s < 0 then ⟨#[]⟩ else s.extract ((ctI c s).toNat + 1) s.size
def ctF (c : UInt8) (s : ByteArray) : Bool := decide (0 ≤ ctI c s)
theorem run_str_to {P : Program} {t : TypeId} (ht : P.underlying t = some .string) (s : ByteArray) (k : Nat) (hk : k ≤ s.size) (w : World) :
    (Instr.sliceAt t (.string s) none (some (.int .i64 (k : Int))) none).run P w = .ok (.string (s.extract 0 k)) w := by
  rw [run_sliceAt_string w t _ _ _ _ ht, run_slice_string_h w t s ht .i64 (k : Int) (by omega) (by omega)]; rfl
theorem run_str_from {P : Program} {t : TypeId} (ht : P.underlying t = some .string) (s : ByteArray) (k : Nat) (hk : k + 1 ≤ s.size) (w : World) :
    (Instr.sliceAt t (.string s) (some (.int .i64 ((k : Int) + 1))) none none).run P w = .ok (.string (s.extract (k + 1) s.size)) w := by
  rw [run_sliceAt_string w t _ _ _ _ ht, run_slice_string_l w t s ht .i64 ((k : Int) + 1) (by omega) (by omega), show ((k : Int) + 1).toNat = k + 1 by omega]
theorem ret_ssb {a b a' b' : ByteArray} {x y : Bool} (h : a = b) (h' : a' = b') (h2 : x = y) : Ending.returned (.tuple #[.string a, .string a', .bool x]) = .returned (.tuple #[.string b, .string b', .bool y]) := by rw [h, h', h2]
theorem ctI_lt (c : UInt8) (s : ByteArray) (h : 0 ≤ ctI c s) : ctI c s < s.size := by
  obtain ⟨o, ho⟩ := Int.eq_ofNat_of_zero_le h
  have h1 := (Lib.indexByte_some ho).1
  have h2 := (List.getElem?_eq_some_iff.1 h1).1
  rw [dl_len] at h2; omega
end Go.Proofs.YtehoaoeahfmfpaaDoor
