/- StemmaText: words, joining, and the reference's walk. -/
import Derived.Test.YtncmenfdnpmblaaDoorAnc
import Derived.Test.YtncmenfdnpmblaaDoorTxt
namespace Go.Proofs.YtncmenfdnpmblaaDoor
open Go.RowKit Go.Sort

/-- the first k texts, joined -/
def jnB (xs : List ByteArray) (sep : ByteArray) (k : Nat) : ByteArray := ⟨(Lib.join ((xs.take k).map (·.data.toList)) sep.data.toList).toArray⟩
theorem jn_zero (xs : List ByteArray) (sep : ByteArray) : jnB xs sep 0 = ⟨#[]⟩ := rfl
theorem jn_one {xs : List ByteArray} {sep x : ByteArray} (hx : xs[0]? = some x) : jnB xs sep 1 = jnB xs sep 0 ++ x := by
  rcases xs with _ | ⟨y, r⟩
  · simp at hx
  · simp at hx; subst hx
    apply ba_ext
    rw [ba_app, jn_zero]
    show (Lib.join [y.data.toList] sep.data.toList).toArray.toList = _
    rw [Lib.join_one]; simp
theorem jn_succ {xs : List ByteArray} {sep x : ByteArray} {k : Nat} (hk : 0 < k) (hx : xs[k]? = some x) : jnB xs sep (k + 1) = (jnB xs sep k ++ sep) ++ x := by
  rcases xs with _ | ⟨y, r⟩
  · simp at hx
  · obtain ⟨q, rfl⟩ : ∃ q, k = q + 1 := ⟨k - 1, by omega⟩
    have hx' : r[q]? = some x := by simpa using hx
    apply ba_ext
    rw [ba_app, ba_app]
    have h1 : ∀ m, (jnB (y :: r) sep (m + 1)).data.toList = y.data.toList ++ Lib.joinTail sep.data.toList ((r.map (·.data.toList)).take m) := fun m => by
      show (Lib.join (((y :: r).take (m + 1)).map (·.data.toList)) sep.data.toList).toArray.toList = _
      rw [List.take_succ_cons, List.map_cons, Lib.join_cons, List.map_take]
    rw [h1, h1, Lib.joinTail_take_succ _ _ q x.data.toList (by rw [List.getElem?_map, hx']; rfl)]
    simp
theorem jn_size {xs : List ByteArray} {sep : ByteArray} (hs : sep.size ≤ 10) (hb : ∀ x ∈ xs, x.size ≤ 100) : ∀ k, k ≤ xs.length → (jnB xs sep k).size ≤ 110 * k
  | 0, _ => by rw [jn_zero]; decide
  | k + 1, h => by
    have ih := jn_size hs hb k (by omega)
    have hx : xs[k]? = some xs[k] := List.getElem?_eq_getElem (by omega)
    have hbx := hb _ (List.mem_of_getElem? hx)
    by_cases e : k = 0
    · subst e; rw [jn_one hx, ByteArray.size_append]; omega
    · rw [jn_succ (by omega) hx, ByteArray.size_append, ByteArray.size_append]; omega

set_option maxRecDepth 100000 in
set_option maxHeartbeats 2000000 in
theorem l01Join_any (A : Option Addr) (xs : List ByteArray) (c lo hi : Nat) (sep : ByteArray) (w : World) (hr : RdT w lo hi A xs) (hn : xs.length ≤ 1000) (hs : sep.size ≤ 10) (hb : ∀ x ∈ xs, x.size ≤ 100) :
    Calls Tryd.prog 62 #[.slice A xs.length c, .string sep] w fun e w' => e = .returned (.string (jnB xs sep xs.length)) ∧ w = w' := by
  have HJ := Lib.hid (jn_size hs hb)
  have HB := Lib.hid hb
  clear hb
  go_enter Tryd.func62, Tryd.ntmps62
  go_wp2
  go_loop [5, 6] (fun o i => ∃ k : Nat, k ≤ xs.length ∧ i = .int .i64 k ∧ o = .string (jnB xs sep k)) (fun _ i => xs.length - (intOf i).toNat)
  case atStart => exact ⟨0, Nat.zero_le _, rfl, rfl⟩
  case round =>
    obtain ⟨k, hk, rfl, rfl⟩ := hrel
    have hj := HJ.out k hk
    by_cases hlt : k < xs.length
    · obtain ⟨b, off, x, rfl, -, -, hx, y0⟩ := hr.txt hlt
      have hxb := HB.out x (List.mem_of_getElem? hx)
      by_cases h0 : k = 0
      · subst h0
        have HE := Lib.hid (jn_one (sep := sep) hx)
        rw [Nat.add_zero] at y0
        clear hx
        go_wp2
        go_round
        case rel => exact ⟨1, by omega, by go_num, by rw [HE.out]⟩
        case measure => simp [intOf]; omega
      · have h0' : 0 < k := by omega
        have HE := Lib.hid (jn_succ (sep := sep) h0' hx)
        have hsz : (jnB xs sep k ++ sep).size ≤ 110 * k + 10 := by rw [ByteArray.size_append]; omega
        clear hx
        go_wp2
        go_round
        case rel => exact ⟨k + 1, by omega, by go_num, by rw [HE.out]⟩
        case measure => simp [intOf]; omega
    · have HK := Lib.hid (show k = xs.length by omega)
      go_wp2
      go_ret
      exact ⟨ret_str (by rw [show k = xs.length from HK.out]), rfl⟩

/-- the word of copy k -/
def nmT (P : List PC) (k : Nat) : ByteArray := match P[k]? with | some x => x.1 | none => ⟨#[]⟩
def frT (P : List PC) (ps : List Int) (k : Nat) : ByteArray := if upS ps (k : Int) = -1 then ⟨#[42]⟩ else nmT P (upS ps (k : Int)).toNat
def wdT (P : List PC) (ps : List Int) (k : Nat) : ByteArray := (nmT P k ++ ⟨#[60]⟩) ++ frT P ps k
def wdL (P : List PC) (ps : List Int) (k : Nat) : List ByteArray := (List.range k).map (wdT P ps)
theorem wdL_len (P : List PC) (ps : List Int) (k : Nat) : (wdL P ps k).length = k := by simp [wdL]
theorem wdL_step {w' : World} {base : Nat} {T : TypeId} {v' : Value} {P : List PC} {ps : List Int} {k : Nat} (ho : w'.ownsRow base T 1 v' (k + 1) ((wdL P ps k).flatMap strC ++ [.string (wdT P ps k)])) : w'.ownsRow base T 1 v' (k + 1) ((wdL P ps (k + 1)).flatMap strC) := by
  have e : wdL P ps (k + 1) = wdL P ps k ++ [wdT P ps k] := by simp [wdL, List.range_succ]
  rw [e, List.flatMap_append]; exact ho
theorem nmT_of {P : List PC} {k : Nat} {x : PC} (h : P[k]? = some x) : nmT P k = x.1 := by simp [nmT, h]
theorem nmT_le {P : List PC} (hA : arB P = true) (k : Nat) : (nmT P k).size ≤ 12 := by
  unfold nmT
  rcases h : P[k]? with _ | x
  · decide
  · have h1 := arB_ok hA h
    simp only [okC, Bool.and_eq_true] at h1
    have := nameB_size h1.1
    simp only; omega
theorem frT_o {P : List PC} {ps : List Int} {k : Nat} (h : upS ps (k : Int) = -1) : frT P ps k = ⟨#[42]⟩ := by unfold frT; rw [if_pos h]
theorem frT_c {P : List PC} {ps : List Int} {k j : Nat} {x : PC} (h : upS ps (k : Int) = (j : Int)) (hx : P[j]? = some x) : frT P ps k = x.1 := by
  unfold frT; rw [if_neg (by rw [h]; omega), h, Int.toNat_natCast, nmT_of hx]
theorem frT_le {P : List PC} (hA : arB P = true) (ps : List Int) (k : Nat) : (frT P ps k).size ≤ 12 := by
  unfold frT; split
  · decide
  · exact nmT_le hA _
theorem wdT_le {P : List PC} (hA : arB P = true) (ps : List Int) (k : Nat) : (wdT P ps k).size ≤ 100 := by
  unfold wdT; rw [ByteArray.size_append, ByteArray.size_append]
  have := nmT_le hA k
  have := frT_le hA ps k
  have : (⟨#[60]⟩ : ByteArray).size = 1 := rfl
  omega
theorem wdL_le {P : List PC} (hA : arB P = true) (ps : List Int) (k : Nat) : ∀ x ∈ wdL P ps k, x.size ≤ 100 := by
  intro x hx
  obtain ⟨j, -, rfl⟩ := List.mem_map.1 hx
  exact wdT_le hA ps j
def txT (P : List PC) (ps : List Int) : ByteArray := if P.length = 0 then ⟨#[45]⟩ else jnB (wdL P ps P.length) ⟨#[32]⟩ P.length
def sxC (P : List PC) (ps : List Int) : Int := if isB P ps = true then 0 else 1
def sxV (P : List PC) (ps : List Int) : ByteArray := if isB P ps = true then txT P ps else ⟨#[]⟩
theorem sx_1 {P : List PC} {ps : List Int} (h : isB P ps = false) : sxC P ps = 1 ∧ sxV P ps = ⟨#[]⟩ := by simp [sxC, sxV, h]
theorem sx_0 {P : List PC} {ps : List Int} (h : isB P ps = true) (h0 : P.length = 0) : sxC P ps = 0 ∧ sxV P ps = ⟨#[45]⟩ := by simp [sxC, sxV, h, txT, h0]
theorem sx_2 {P : List PC} {ps : List Int} {n : Nat} (h : isB P ps = true) (h0 : P.length = n) (hn : 0 < n) : sxC P ps = 0 ∧ sxV P ps = jnB (wdL P ps n) ⟨#[32]⟩ n := by
  have : ¬ n = 0 := by omega
  simp [sxC, sxV, h, txT, h0, this]

set_option maxRecDepth 100000 in
set_option maxHeartbeats 4000000 in
theorem specText_any (A : Option Addr) (l : List Cp) (c : Nat) (B : Option Addr) (ps : List Int) (cb lo hi lo' hi' : Nat) (w : World) (hr : RdC w lo hi A l) (hhi : hi ≤ w.heap.size) (hf : Fit l c) (hr' : RdI w lo' hi' B ps) (hhi' : hi' ≤ w.heap.size) (hn' : ps.length ≤ 2000000) :
    Calls Tryd.prog 26 #[.slice A l.length c, .slice B ps.length cb] w fun e w' => e = .returned (.tuple #[.string (sxV (l.map Cp.p) ps), .int .i64 (sxC (l.map Cp.p) ps)]) ∧ Up w w' := by
  obtain ⟨i0, hi0, hz0, hz1, hz2⟩ := info_parts infoString
  have HS := Lib.hid (specIsStemma_any A l c B ps cb lo hi lo' hi' w hr hhi hf hr' hhi' hn')
  clear hf
  rcases h1 : isB (l.map Cp.p) ps with _ | _
  · have HE := Lib.hid (sx_1 h1)
    go_enter Tryd.func26, Tryd.ntmps26
    go_wp2_with fail
    refine HS.out.mono ?_
    rintro e w1 ⟨rfl, hup⟩
    go_wp2
    go_ret2
    exact ⟨ret_si HE.out.2.symm HE.out.1.symm, hup⟩
  · obtain ⟨hA, hlen, hpar, -⟩ := is_inv h1
    have hll : l.length ≤ ps.length ∧ ps.length ≤ l.length := by simp at hlen; omega
    have hl8 : l.length ≤ 8 := by unfold arB at hA; simp only [Bool.and_eq_true, decide_eq_true_eq, List.length_map] at hA; exact hA.2
    have HA := Lib.hid hA
    have HP := Lib.hid hpar
    have HI := Lib.hid h1
    clear hlen hpar hA
    go_enter Tryd.func26, Tryd.ntmps26
    go_wp2_with fail
    refine HS.out.mono ?_
    rintro e w1 ⟨rfl, hup⟩
    go_wp2
    clear h1
    have hown0 := World.ownsRow_lit (base := w1.heap.size) (e := 9) (size := 1) w1 #[] 0 (Nat.le_refl _) (by simp [maxLen]) rfl
    have hup0 := (Up.refl w1).allocs (.cells #[] 9)
    generalize w1.alloc (.cells #[] 9) = w2 at *
    go_loopw [6, 7, 8] (fun o i _ wr => ∃ (k C cc : Nat), k ≤ l.length ∧ i = .int .i64 k ∧ o = .slice (some ⟨C, 0, none⟩) k cc ∧ wr.ownsRow w1.heap.size 9 1 (.slice (some ⟨C, 0, none⟩) k cc) k ((wdL (l.map Cp.p) ps k).flatMap strC) ∧ Up w1 wr) (fun _ i _ _ => l.length - (intOf i).toNat)
    case atStart => exact ⟨0, w1.heap.size, 0, Nat.zero_le _, rfl, rfl, hown0, hup0⟩
    case round =>
      obtain ⟨k, C, cc, hk, rfl, rfl, hown, hupr⟩ := hrel
      have hupx := hup.trans hupr
      by_cases hlt : k < l.length
      · have hkp : k < ps.length := by omega
        obtain ⟨b, off, x, rfl, -, -, hx, y0⟩ := (hr'.up hupx hhi').int hkp
        have hxr := parB_at HP.out hx
        have HX := Lib.hid (upS_of hx)
        obtain ⟨b2, off2, y, rfl, -, -, hy, iy, q0, q1⟩ := (hr.up hupx hhi).at_ hlt
        have HNM := Lib.hid (nmT_of (getp hy))
        have hnl := nmT_le HA.out k
        have hyl : y.name.size ≤ 12 := by have h := HNM.out; simp only [Cp.p] at h; rw [← h]; exact hnl
        have hyl2 : (y.name ++ ⟨#[60]⟩).size ≤ 13 := by rw [ByteArray.size_append]; have : (⟨#[60]⟩ : ByteArray).size = 1 := rfl; omega
        have n1 : k + 1 ≤ maxLen := by unfold maxLen; omega
        have n2 : (k + 1) * 16 ≤ 140737488355328 := by omega
        clear hx hy iy
        by_cases hx0 : x = -1
        · subst hx0
          have HW := Lib.hid (show (y.name ++ ⟨#[60]⟩) ++ ⟨#[42]⟩ = wdT (l.map Cp.p) ps k by unfold wdT; rw [frT_o HX.out, HNM.out]; rfl)
          have n3 : w1.heap.size ≤ (wr.alloc (.cells #[.string ((y.name ++ ⟨#[60]⟩) ++ ⟨#[42]⟩)] 9)).heap.size := (hupr.allocs _).size
          go_wp2_with ((at_builtin; refine wpList_append_own _ rfl _ _ 77 rfl w1.heap.size 9 i0 _ 1 16 Tryd.underlying77 hi0 hz0 hz1 hz2 rfl (by decide) _ _ _ rfl (hown.alloc _) ⟨wr.heap.size, 0, none⟩ 1 1 [.string ((y.name ++ ⟨#[60]⟩) ++ ⟨#[42]⟩)] rfl rfl (cell_one_new _ _ _) (by simp [Value.oneCell']) n1 n2 n3 ?_))
          intro v' w4 hown' hgrow _
          rw [HW.out] at hown'
          have ho := wdL_step hown'
          have hu := (hupr.allocs (.cells #[.string ((y.name ++ ⟨#[60]⟩) ++ ⟨#[42]⟩)] 9)).grown hgrow (fun k hk => (hown.lt k hk).1)
          obtain ⟨C2', cc2, rfl, -, -, hC2, -⟩ := own_form ho
          obtain ⟨C2, rfl, -, -⟩ := hC2 (Nat.succ_pos _)
          clear hown' hgrow
          go_wp2
          go_roundw
          case rel => exact ⟨k + 1, C2, cc2, by omega, by go_num, rfl, ho, hu⟩
          case measure => simp [intOf]; omega
        · obtain ⟨j, rfl⟩ : ∃ j : Nat, x = (j : Int) := ⟨x.toNat, by omega⟩
          have hx0' : ((j : Int) != -1) = true := by simp
          have hjl : j < l.length := by omega
          obtain ⟨b3, off3, z, he, -, -, hz, -, t0, -⟩ := (hr.up hupx hhi).at_ hjl
          cases he
          have hzl : z.name.size ≤ 12 := by have h := nmT_le HA.out j; rw [nmT_of (getp hz)] at h; exact h
          clear hx0
          have HW := Lib.hid (show (y.name ++ ⟨#[60]⟩) ++ z.name = wdT (l.map Cp.p) ps k by unfold wdT; rw [frT_c HX.out (getp hz), HNM.out]; rfl)
          clear hz
          have n3 : w1.heap.size ≤ (wr.alloc (.cells #[.string ((y.name ++ ⟨#[60]⟩) ++ z.name)] 9)).heap.size := (hupr.allocs _).size
          go_wp2_with ((at_builtin; refine wpList_append_own _ rfl _ _ 77 rfl w1.heap.size 9 i0 _ 1 16 Tryd.underlying77 hi0 hz0 hz1 hz2 rfl (by decide) _ _ _ rfl (hown.alloc _) ⟨wr.heap.size, 0, none⟩ 1 1 [.string ((y.name ++ ⟨#[60]⟩) ++ z.name)] rfl rfl (cell_one_new _ _ _) (by simp [Value.oneCell']) n1 n2 n3 ?_))
          intro v' w4 hown' hgrow _
          rw [HW.out] at hown'
          have ho := wdL_step hown'
          have hu := (hupr.allocs (.cells #[.string ((y.name ++ ⟨#[60]⟩) ++ z.name)] 9)).grown hgrow (fun k hk => (hown.lt k hk).1)
          obtain ⟨C2', cc2, rfl, -, -, hC2, -⟩ := own_form ho
          obtain ⟨C2, rfl, -, -⟩ := hC2 (Nat.succ_pos _)
          clear hown' hgrow
          go_wp2
          go_roundw
          case rel => exact ⟨k + 1, C2, cc2, by omega, by go_num, rfl, ho, hu⟩
          case measure => simp [intOf]; omega
      · have HK := Lib.hid (show k = l.length by omega)
        by_cases h0 : 0 < l.length
        · have HE := Lib.hid (sx_2 (n := k) HI.out (by rw [List.length_map]; exact HK.out.symm) (by omega))
          have hk0 : ((k : Int) == 0) = false := by rw [beq_eq_false_iff_ne]; omega
          have hwl := wdL_len (l.map Cp.p) ps k
          have hown2 : wr.ownsRow w1.heap.size 9 1 (.slice (some ⟨C, 0, none⟩) (wdL (l.map Cp.p) ps k).length cc) (wdL (l.map Cp.p) ps k).length ((wdL (l.map Cp.p) ps k).flatMap strC) := by rw [hwl]; exact hown
          have hj := l01Join_any (some ⟨C, 0, none⟩) (wdL (l.map Cp.p) ps k) cc _ _ ⟨#[32]⟩ wr (Rd.own strC_len hown2) (by omega) (by decide) (wdL_le HA.out ps k)
          rw [hwl] at hj
          have HJ := Lib.hid hj
          clear hwl hown2 hj
          go_wp2_with fail
          refine HJ.out.mono ?_
          rintro e w5 ⟨rfl, rfl⟩
          go_wp2
          go_ret2
          exact ⟨ret_si HE.out.2.symm HE.out.1.symm, hupx⟩
        · have HE := Lib.hid (sx_0 HI.out (by rw [List.length_map]; omega))
          have hk0 : ((k : Int) == 0) = true := by rw [beq_iff_eq]; omega
          go_wp2
          go_ret2
          exact ⟨ret_si HE.out.2.symm HE.out.1.symm, hupx⟩
end Go.Proofs.YtncmenfdnpmblaaDoor
