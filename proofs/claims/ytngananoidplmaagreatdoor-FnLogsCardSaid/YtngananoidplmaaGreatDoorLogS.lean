/- LogText by the reference. -/
import Derived.Test.YtngananoidplmaaGreatDoorLogT
import Derived.Test.YtngananoidplmaaGreatDoorNormL
import Derived.Lib.AppendStr
namespace Go.Proofs.YtngananoidplmaaGreatDoor
open Go.RowKit Go.Sort

theorem ok_of {d : Dec} (h : decB d = true) : Ok d d.kind.toNat d.day.toNat := by
  unfold decB at h
  simp only [Bool.and_eq_true] at h
  obtain ⟨⟨h1, h2, h3⟩, h4, -⟩ := h
  have e1 := nameB_size h1
  have e2 := nameB_size h2
  simp only [dayB, inB, Bool.and_eq_true, decide_eq_true_eq] at h3 h4
  exact ⟨by omega, by omega, by omega, by omega, by omega, by omega⟩
theorem logB_dec {l : List Dec} (h : logB l = true) : ∀ d ∈ l, decB d = true := by
  intro d hd
  obtain ⟨k, hk, e⟩ := List.getElem_of_mem hd
  have hg : l[k]? = some d := by rw [List.getElem?_eq_getElem hk, e]
  rcases hh : okAt l k d with _ | _
  · rw [logB_no hg hh] at h; cases h
  · unfold okAt at hh; rw [Bool.and_eq_true] at hh; exact hh.1
theorem logB_len {l : List Dec} (h : logB l = true) : l.length ≤ 80 := by
  unfold logB at h; rw [Bool.and_eq_true, decide_eq_true_eq] at h; exact h.2
def ckD (c : Nat) (d : Dec) : Nat := ckN c d d.kind.toNat d.day.toNat
def lnD (c : Nat) (d : Dec) : ByteArray := lnB d d.kind.toNat d.day.toNat c
/-- the text of the decisions from one check number on -/
def txL : List Dec → Nat → List UInt8
  | [], _ => []
  | d :: l, c => (lnD (ckD c d) d).data.toList ++ [10] ++ txL l (ckD c d)
theorem txL_at {l : List Dec} {k : Nat} {d : Dec} (h : l[k]? = some d) (c : Nat) : txL (l.drop k) c = (lnD (ckD c d) d).data.toList ++ [10] ++ txL (l.drop (k + 1)) (ckD c d) := by
  obtain ⟨hk, e⟩ := List.getElem?_eq_some_iff.1 h
  rw [List.drop_eq_getElem_cons hk, e, txL]
theorem lnD_size {d : Dec} {c : Nat} (h : decB d = true) (hc : c < 99989) : (lnD c d).size ≤ 75 := by
  have h1 := mdB_size (ok_of h)
  have h2 := dcB_size (n := c) (by omega)
  unfold lnD lnB
  simp only [ByteArray.size_append, spB_size]
  omega
def ltC (l : List Dec) : Int := if logB l = true then 0 else 1
def ltV (l : List Dec) : ByteArray := if logB l = true then ⟨(txL l 0).toArray⟩ else ⟨#[]⟩
theorem lt_1 {l : List Dec} (h : logB l = false) : ltC l = 1 ∧ ltV l = ⟨#[]⟩ := by simp [ltC, ltV, h]
theorem lt_0 {l : List Dec} (h : logB l = true) : ltC l = 0 ∧ ltV l = ⟨(txL l 0).toArray⟩ := by simp [ltC, ltV, h]
theorem ret_siL {a b : ByteArray} {x y : Int} (h : a = b) (h' : x = y) : Ending.returned (.tuple #[.string a, .int .i64 x]) = .returned (.tuple #[.string b, .int .i64 y]) := by rw [h, h']
theorem own_some {w : World} {base : Nat} {e : TypeId} {size n : Nat} {v : Value} {xs : List Value} (h : w.ownsRow base e size v n xs) (hv : v ≠ .slice none 0 0) : ∃ g cap, v = .slice (some ⟨g, 0, none⟩) n cap ∧ base ≤ g := by
  rcases h.2 with ⟨h2, -⟩ | ⟨g, cap, cur, h2, hg, -⟩
  · exact absurd h2 hv
  · exact ⟨g, cap, h2, hg⟩
theorem infoBytS : (Tryz.prog.info? 5).map (fun i => (i.zero, i.size, i.bytes)) = some (some (.int .u8 0), 1, 1) := by kernel_rfl

set_option maxRecDepth 100000 in
set_option maxHeartbeats 4000000 in
theorem specLogText_any (A : Option Addr) (l : List Dec) (c lo hi : Nat) (w : World) (hr : RdD w lo hi A l) (hhi : hi ≤ w.heap.size) (hok : ∀ d ∈ l, d.ok) (hn : l.length ≤ 2000000) (hc : l.length ≤ c) (hcm : c ≤ maxLen) :
    Calls Tryz.prog 13 #[.slice A l.length c] w fun e w' => e = .returned (.tuple #[.string (ltV l), .int .i64 (ltC l)]) ∧ Up w w' := by
  obtain ⟨i0, hi0, hz0, hz1, hz2⟩ := info_parts infoBytS
  have hI := specIsLog_any A l c lo hi w hr hhi hok hn hc hcm
  obtain ⟨b1, hb1⟩ : ∃ b, b = logB l := ⟨_, rfl⟩
  rw [← hb1] at hI
  have HI := Lib.hid hI
  clear hI hok
  cases b1
  · have HF := Lib.hid (lt_1 hb1.symm)
    clear hb1
    go_enter Tryz.func13, Tryz.ntmps13
    go_wp2_with fail
    refine HI.out.mono ?_
    rintro e w1 ⟨rfl, hu1⟩
    go_wp2
    go_ret2
    exact ⟨ret_siL HF.out.2.symm HF.out.1.symm, hu1⟩
  · have HF := Lib.hid (lt_0 hb1.symm)
    have HD := Lib.hid (logB_dec hb1.symm)
    have h80 := logB_len hb1.symm
    clear hb1
    go_enter Tryz.func13, Tryz.ntmps13
    go_wp2_with fail
    refine HI.out.mono ?_
    rintro e w1 ⟨rfl, hu1⟩
    go_wp2
    have hown0 := World.ownsRow_lit (base := w1.heap.size) (e := 5) (size := 1) w1 #[] 0 (Nat.le_refl _) (by simp [maxLen]) rfl
    have hup0 := (Up.refl w1).allocs (.cells #[] 5)
    obtain ⟨v0, hv0⟩ : ∃ v, v = Value.slice (some ⟨w1.heap.size, 0, none⟩) 0 0 := ⟨_, rfl⟩
    have hvn : v0 ≠ .slice none 0 0 := by rw [hv0]; simp
    rw [← hv0] at hown0 ⊢
    generalize w1.alloc (.cells #[] 5) = w2 at *
    clear hv0
    go_loopw [4, 5, 6] (fun o ck i wr => ∃ k m : Nat, ∃ B : List UInt8, k ≤ l.length ∧ i = .int .i64 k ∧ ck = .int .i64 m ∧ m < 99989 ∧ txL l 0 = B ++ txL (l.drop k) m ∧ B.length ≤ 80 * k ∧ o ≠ .slice none 0 0 ∧ wr.ownsRow w1.heap.size 5 1 o B.length (B.flatMap bytC) ∧ Up w1 wr) (fun _ _ i _ => l.length - (intOf i).toNat)
    case atStart => exact ⟨0, 0, [], Nat.zero_le _, rfl, rfl, by decide, rfl, Nat.zero_le _, hvn, hown0, hup0⟩
    case round =>
      obtain ⟨k, m, B, hk, rfl, rfl, hm, hB, hBl, hon, hown, hup⟩ := hrel
      have HB := Lib.hid hB
      clear hB
      have hupw := hu1.trans hup
      by_cases hlt : k < l.length
      · obtain ⟨b, off, d, rfl, hlo, hbh, hd, q0, q1, q2, q3⟩ := (hr.up hupw hhi).dec hlt
        have hdb := HD.out d (List.mem_of_getElem? hd)
        have HT := Lib.hid (txL_at hd m)
        have hk1 := (ok_of hdb).kind
        have hy1 := (ok_of hdb).day
        have HC := Lib.hid (l26Check_any m d d.kind.toNat d.day.toNat wr hm (ok_of hdb))
        obtain ⟨m', hm'⟩ : ∃ x, x = ckN m d d.kind.toNat d.day.toNat := ⟨_, rfl⟩
        rw [← hm'] at HC
        have hml : m' < 99989 := by rw [hm']; exact ckN_lt _ _ _ _
        have HL := Lib.hid (fun wx => l26Line_any m' d d.kind.toNat d.day.toNat wx hml (ok_of hdb))
        have hls := lnD_size hdb hml
        have HM := Lib.hid (show ckD m d = m' from hm'.symm)
        obtain ⟨ln, hln⟩ : ∃ x, x = lnB d d.kind.toNat d.day.toNat m' := ⟨_, rfl⟩
        rw [← hln] at HL
        have hls2 : ln.size ≤ 75 := by rw [hln]; exact hls
        have HLN := Lib.hid (show lnD m' d = ln from hln.symm)
        have hst : ¬ 9223372036854775807 < ln.size + 1 := by omega
        clear hd hdb hk1 hy1 hm' hls hln
        go_wp2_with fail
        refine HC.out.mono ?_
        rintro e w3 ⟨rfl, hu3⟩
        have p0 := hu3.cell q0
        have p1 := hu3.cell q1
        have p2 := hu3.cell q2
        have p3 := hu3.cell q3
        clear q0 q1 q2 q3
        go_wp2_with fail
        refine (HL.out _).mono ?_
        rintro e w4 ⟨rfl, hu4⟩
        have hown4 := own_up (own_up hown hu3) hu4
        have hup4 := (hup.trans hu3).trans hu4
        clear p0 p1 p2 p3 hown
        have hsz : (ln ++ ⟨#[10]⟩ : ByteArray).size = ln.size + 1 := by rw [ByteArray.size_append]; rfl
        have n1 : B.length + (ln ++ ⟨#[10]⟩ : ByteArray).size ≤ maxLen := by rw [hsz]; unfold maxLen; omega
        have n2 : B.length + (ln ++ ⟨#[10]⟩ : ByteArray).size ≤ 140737488355328 := by rw [hsz]; omega
        clear hsz
        go_wp2_with ((at_builtin; refine Lib.wpList_append_own_string _ rfl _ _ 28 9 rfl w1.heap.size 5 i0 Tryz.underlying28 Tryz.underlying9 hi0 hz0 hz1 hz2 _ _ _ rfl hown4 (ln ++ ⟨#[10]⟩) rfl n1 n2 hup4.size ?_))
        intro v' w5 hown5 hgrow hnil
        have hu5 := hup4.grown hgrow (fun k hk => (hown4.lt k hk).1)
        have hvn' : v' ≠ .slice none 0 0 := fun e => hnil e
        have HO5 := Lib.hid hown5
        clear hgrow hown4 hown5 hnil
        go_wp2
        go_roundw
        case rel => exact ⟨k + 1, m', B ++ (ln.data.toList ++ [10]), by omega, by go_num, rfl, hml, by rw [HB.out, HT.out, HM.out, HLN.out]; simp, by simp; have : ln.data.size = ln.size := rfl; omega, hvn', by
          have h5 := HO5.out
          rw [List.flatMap_append]
          have e1 : (ln.data.toList ++ [10]).flatMap bytC = Lib.strCells (ln ++ ⟨#[10]⟩) := by rw [byt_flat]; unfold Lib.strCells; rw [ByteArray.data_append]; simp
          rw [e1, List.length_append, List.length_append]
          exact h5, hu5⟩
        case measure => simp [intOf]; omega
      · obtain rfl : k = l.length := by omega
        have HE := Lib.hid (show txL l 0 = B by rw [HB.out, List.drop_length]; simp [txL])
        obtain ⟨g, cap, rfl, hg⟩ := own_some hown hon
        have hcv := run_strOf (P := Tryz.prog) (src := 28) (dst := 9) (e := 5) Tryz.underlying28 Tryz.underlying5 Tryz.underlying9 wr (cap := cap) (Rd.own bytC_len hown)
        clear hown
        go_wp2
        go_ret2
        exact ⟨ret_siL (by rw [HF.out.2, HE.out]) HF.out.1.symm, hupw⟩
end Go.Proofs.YtngananoidplmaaGreatDoor
