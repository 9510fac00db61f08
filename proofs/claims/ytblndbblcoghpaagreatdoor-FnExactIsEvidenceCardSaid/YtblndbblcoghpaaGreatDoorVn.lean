/- The law package's helpers over lists of phrases, decisions and formulas. The law package's helpers over desks: sizes, copies and equality. The law package's helpers over evidence: sizes, copies and equality. -/
import Derived.Test.YtblndbblcoghpaaGreatDoorVk
import Derived.Test.YtblndbblcoghpaaGreatDoorVm
import Derived.Test.YtblndbblcoghpaaGreatDoorVj
namespace Go.Proofs.YtblndbblcoghpaaGreatDoor
open Go.RowKit Go.Sort

abbrev SqDec := Sq Dec.cells 4 Dec.ok
/-- phrases that can be read, not yet known to be small -/
structure RawPh (w : World) (lo hi : Nat) (q : Sl (Sl ByteArray)) : Prop where
  rd : Rd w lo hi 1 phC q.A q.l
  hhi : hi ≤ w.heap.size
  len : q.l.length ≤ maxLen
  each : ∀ p ∈ q.l, SqSt w lo hi p
  cap : q.l.length ≤ q.c ∧ q.c ≤ maxLen
theorem RawPh.up {w w' : World} {lo hi : Nat} {g : Sl (Sl ByteArray)} (h : RawPh w lo hi g) (u : Up w w') : RawPh w' lo hi g := ⟨h.rd.up u h.hhi, Nat.le_trans h.hhi u.size, h.len, fun p hp => (h.each p hp).up u, h.cap⟩
def SmPh (q : Sl (Sl ByteArray)) : Prop := q.l.length ≤ 2000000 ∧ ∀ p ∈ q.l, p.l.length ≤ 2000000
theorem RawPh.sr {w : World} {lo hi : Nat} {q : Sl (Sl ByteArray)} (h : RawPh w lo hi q) (k : SmPh q) : SrPh w lo hi q := ⟨h.rd, h.hhi, k.1, fun p hp => (h.each p hp).sr (k.2 p hp), h.cap⟩
/-- formulas that can be read, not yet known to be small -/
structure RawF (w : World) (lo hi : Nat) (g : Sl Fm) : Prop where
  rd : RdF w lo hi g.A g.l
  hhi : hi ≤ w.heap.size
  len : g.l.length ≤ maxLen
  ok : ∀ x ∈ g.l, x.ok
  cap : g.l.length ≤ g.c ∧ g.c ≤ maxLen
theorem RawF.up {w w' : World} {lo hi : Nat} {g : Sl Fm} (h : RawF w lo hi g) (u : Up w w') : RawF w' lo hi g := ⟨h.rd.up u h.hhi, Nat.le_trans h.hhi u.size, h.len, h.ok, h.cap⟩
def SmFm (g : Sl Fm) : Prop := g.l.length ≤ 2000000 ∧ ∀ x ∈ g.l, x.ws.length ≤ 2000000
theorem RawF.sr {w : World} {lo hi : Nat} {g : Sl Fm} (h : RawF w lo hi g) (k : SmFm g) : SrF w lo hi g := ⟨h.rd, h.hhi, k.1, h.ok, k.2, h.cap⟩

theorem szDecS_w (s : Sl Dec) (lo hi : Nat) (left : Int) (w : World) (h : SqDec w lo hi s) (h0 : 0 ≤ left) (hl : left ≤ 2000000) :
    Calls Tryz.prog 17 #[.slice s.A s.l.length s.c, .int .i64 left] w fun e w' => ∃ z : Int, e = .returned (.int .i64 z) ∧ z ≤ left ∧ (z < 0 ∨ s.l.length ≤ 2000000) ∧ Up w w' :=
  (szDecisionS_any s.A s.l s.c lo hi left w h.rd h.hhi h.ok h0 hl h.len).mono fun e w' ⟨h1, h2⟩ => by
    refine ⟨_, h1, szDL_le s.l left h0, ?_, h2⟩
    by_cases c : szDL s.l left < 0
    · exact .inl c
    · have := szDL_len c
      exact .inr (by omega)
theorem szFormS_w (s : Sl Fm) (lo hi : Nat) (left : Int) (w : World) (h : RawF w lo hi s) (h0 : 0 ≤ left) (hl : left ≤ 2000000) :
    Calls Tryz.prog 28 #[.slice s.A s.l.length s.c, .int .i64 left] w fun e w' => ∃ z : Int, e = .returned (.int .i64 z) ∧ z ≤ left ∧ (z < 0 ∨ SmFm s) ∧ Up w w' :=
  (szFormulaS_any s.A s.l s.c lo hi left w h.rd h.hhi h.ok h0 hl h.len).mono fun e w' ⟨h1, h2⟩ => by
    by_cases c : szFL s.l left < 0
    · exact ⟨_, h1, by omega, .inl c, h2⟩
    · obtain ⟨k1, k2, k3⟩ := szFL_len h0 c
      exact ⟨_, h1, k1, .inr ⟨by omega, fun x hx => by have := k3 x hx; omega⟩, h2⟩
set_option maxRecDepth 100000 in
set_option maxHeartbeats 2000000 in
theorem szStringSS_any (s : Sl (Sl ByteArray)) (lo hi : Nat) (left : Int) (w : World) (h : RawPh w lo hi s) (h0 : 0 ≤ left) (hl : left ≤ 2000000) :
    Calls Tryz.prog 29 #[.slice s.A s.l.length s.c, .int .i64 left] w fun e w' => ∃ z : Int, e = .returned (.int .i64 z) ∧ z ≤ left ∧ (z < 0 ∨ SmPh s) ∧ Up w w' := by
  obtain ⟨A, c, l⟩ := s
  have hr := h.rd
  have hhi := h.hhi
  have hn : l.length ≤ maxLen := h.len
  have hea := Lib.hid h.each
  clear h
  unfold maxLen at hn
  show Calls _ _ #[.slice A l.length c, _] _ _
  by_cases c1 : left < l.length
  · go_enter Tryz.func29, Tryz.ntmps29
    go_wp2
    go_ret
    exact ⟨-1, rfl, by omega, .inl (by omega), Up.refl _⟩
  · go_enter Tryz.func29, Tryz.ntmps29
    have hb0 : decide (left - (l.length : Int) < 0) = false := by simp; omega
    have hll : l.length ≤ 2000000 := by omega
    go_wp2
    go_loopw [4, 1, 5] (fun r lf i wr => ∃ k : Nat, ∃ z : Int, k ≤ l.length ∧ i = .int .i64 k ∧ lf = .int .i64 z ∧ 0 ≤ z ∧ z ≤ left ∧ (∀ d ∈ l.take k, d.l.length ≤ 2000000) ∧ Up w wr) (fun _ _ i _ => l.length - (intOf i).toNat)
    case atStart => exact ⟨0, _, Nat.zero_le _, rfl, rfl, by omega, by omega, by simp, Up.refl _⟩
    case round =>
      obtain ⟨k, z, hk, rfl, rfl, hz0, hz1, hsm, hup⟩ := hrel
      have HS := Lib.hid hsm
      clear hsm
      by_cases hlt : k < l.length
      · obtain ⟨b, off, d, rfl, hlo, hb, hd, q0⟩ := (hr.up hup hhi).ph hlt
        have HD := Lib.hid hd
        clear hd
        have hq := (hea.out d (List.mem_of_getElem? HD.out)).up hup
        have HC := Lib.hid (szStringS_w d.A d.l d.c lo hi z wr hq.rd hq.hhi hq.ok hz0 (by omega) hq.len)
        clear hq
        go_wp2_with fail
        refine HC.out.mono ?_
        rintro e w' ⟨z', rfl, hz', sm, hup'⟩
        have SM := Lib.hid sm
        clear sm
        by_cases c2 : z' < 0
        · have hdec : decide (z' < 0) = true := by simpa using c2
          go_wp2
          go_ret
          exact ⟨-1, rfl, by omega, .inl (by omega), hup.trans hup'⟩
        · have hdec : decide (z' < 0) = false := by simpa using c2
          go_wp2
          go_roundw
          case rel => exact ⟨k + 1, _, by omega, by go_num, rfl, by omega, by omega, fun x hx => by
            rw [List.take_succ_eq_append_getElem (List.getElem?_eq_some_iff.1 HD.out).1, (List.getElem?_eq_some_iff.1 HD.out).2] at hx
            rcases List.mem_append.1 hx with h1 | h1
            · exact HS.out x h1
            · simp at h1; subst h1; exact SM.out.resolve_left (by omega), hup.trans hup'⟩
          case measure => simp [intOf]; omega
      · go_wp2
        go_ret
        have hk2 : k = l.length := by omega
        have := HS.out
        rw [hk2, List.take_of_length_le (Nat.le_refl _)] at this
        exact ⟨z, rfl, by omega, .inr ⟨hll, this⟩, hup⟩
theorem infoStrS : (Tryz.prog.info? 29).map (fun i => (i.zero, i.size, i.bytes)) = some (some (.slice none 0 0), 1, 24) := by kernel_rfl
/-- phrases that the call itself made -/
def OwPh (w : World) (g0 : Nat) (s : Sl (Sl ByteArray)) : Prop :=
  w.ownsRow g0 29 1 s.val s.l.length (s.l.flatMap phC) ∧ ∀ y ∈ s.l, w.ownsRow g0 9 1 y.val y.l.length (y.l.flatMap strC)
theorem OwPh.up {w w' : World} {b : Nat} {x : Sl (Sl ByteArray)} (h : OwPh w b x) (u : Up w w') : OwPh w' b x := ⟨own_up h.1 u, fun y hy => own_up (h.2 y hy) u⟩
theorem OwPh.base {w : World} {b b' : Nat} {x : Sl (Sl ByteArray)} (h : OwPh w b x) (k : b' ≤ b) : OwPh w b' x := ⟨own_base h.1 k, fun y hy => own_base (h.2 y hy) k⟩
theorem OwPh.put {w : World} {b : Nat} {x : Sl (Sl ByteArray)} (h : OwPh w b x) {p : Addr} (hp : p.block < b) (v : Value) : OwPh (w.setCell p v) b x :=
  ⟨ownsRow_setCell_below h.1 hp v, fun y hy => ownsRow_setCell_below (h.2 y hy) hp v⟩
abbrev phP (q : List (Sl ByteArray)) : List (List ByteArray) := q.map fun p => p.l
theorem OwPh.rd {w w0 : World} {b lo hi : Nat} {x y : Sl (Sl ByteArray)} (h : OwPh w b x) (e : phP x.l = phP y.l) (k : SrPh w0 lo hi y) : SrPh w b w.heap.size x := by
  refine ⟨Rd.own phC_len h.1, Nat.le_refl _, by rw [show x.l.length = y.l.length by simpa using congrArg List.length e]; exact k.len, fun d hd => ?_, own_cap h.1⟩
  have h1 : d.l ∈ phP y.l := by rw [← e]; exact List.mem_map_of_mem hd
  obtain ⟨z, hz, e2⟩ := List.mem_map.1 h1
  exact Sr.own strC_len (h.2 d hd) (by rw [← e2]; exact (k.each z hz).len) (by rw [← e2]; exact (k.each z hz).ok)
theorem OwDd.base {w : World} {b b' : Nat} {x : Sl Dd} (h : OwDd w b x) (k : b' ≤ b) : OwDd w b' x := ⟨own_base h.1 k, fun y hy => (h.2 y hy).base k⟩
theorem OwDd.put {w : World} {b : Nat} {x : Sl Dd} (h : OwDd w b x) {p : Addr} (hp : p.block < b) (v : Value) : OwDd (w.setCell p v) b x :=
  ⟨ownsRow_setCell_below h.1 hp v, fun y hy => (h.2 y hy).put hp v⟩
theorem OwnF.base {w : World} {b b' n c : Nat} {A : Option Addr} {L : List Fm} (h : OwnF w b A n c L) (k : b' ≤ b) : OwnF w b' A n c L := by
  obtain ⟨g, h1, h2⟩ := h
  exact ⟨g, Nat.le_trans k h1, h2⟩
theorem OwnF.put {w : World} {b n c : Nat} {A : Option Addr} {L : List Fm} (h : OwnF w b A n c L) {p : Addr} (hp : p.block < b) (v : Value) : OwnF (w.setCell p v) b A n c L := by
  obtain ⟨g, h1, h2, h3, h4, h5⟩ := h
  exact ⟨g, h1, ownsRow_setCell_below h2 (by omega) v, fun y hy => ⟨(h3 y hy).1, ownsRow_setCell_below (h3 y hy).2 (by omega) v⟩, h4, h5⟩
set_option maxRecDepth 100000 in
set_option maxHeartbeats 4000000 in
theorem toStringSS_any (s : Sl (Sl ByteArray)) (lo hi : Nat) (w : World) (h : SrPh w lo hi s) :
    Calls Tryz.prog 33 #[.slice s.A s.l.length s.c] w fun e w' => ∃ t : Sl (Sl ByteArray), e = .returned (.slice t.A t.l.length t.c) ∧ phP t.l = phP s.l ∧ OwPh w' w.heap.size t ∧ Up w w' := by
  obtain ⟨A, c, l⟩ := s
  have hr := h.rd
  have hhi := h.hhi
  have hn : l.length ≤ 2000000 := h.len
  have hea := Lib.hid h.each
  clear h
  obtain ⟨i0, hi0, hz0, hz1, hz2⟩ := info_parts infoStrS
  show Calls _ _ #[.slice A l.length c] _ _
  go_enter Tryz.func33, Tryz.ntmps33
  go_wp2_with ((refine wpList_make_full _ rfl _ _ 65 rfl w.heap.size 29 i0 _ 1 Tryz.underlying65 hi0 hz0 hz1 _ _ _ _ l.length rfl rfl rfl rfl ?b2 ?b3 ?b4 ?_))
  all_goals try first | (rw [hz2]; omega; done) | (omega; done) | (unfold maxLen; omega; done) | exact Nat.le_refl _
  intro w1 hown hg
  have hup1 : Up w w1 := (Up.refl w).grown hg (fun k h => by cases h)
  generalize (madeCells _ _).toList = xs0 at hown
  clear hg
  go_wp2
  go_loopw [4] (fun i wr => ∃ k : Nat, ∃ xs, ∃ L : List (Sl ByteArray), k ≤ l.length ∧ i = .int .i64 k ∧ L.length = k ∧ wr.ownsRow w.heap.size 29 1 (.slice (some ⟨w.heap.size, 0, none⟩) l.length l.length) l.length xs ∧ xs.take k = L.flatMap phC ∧ L.map (fun p => p.l) = (l.take k).map (fun p => p.l) ∧
      (∀ y ∈ L, wr.ownsRow (w.heap.size + 1) 9 1 y.val y.l.length (y.l.flatMap strC)) ∧ Up w wr) (fun i _ => l.length - (intOf i).toNat)
  case atStart => exact ⟨0, _, [], Nat.zero_le _, rfl, rfl, hown, by simp, by simp, by simp, hup1⟩
  case round =>
    obtain ⟨k, xs, L, hk, rfl, hL, hown, hxs, hmap, hin, hup⟩ := hrel
    have HX := Lib.hid hxs
    have HL := Lib.hid hL
    have HM := Lib.hid hmap
    have HIN := Lib.hid hin
    clear hxs hL hmap hin
    by_cases hlt : k < l.length
    · obtain ⟨b, off, d, rfl, hlo, hb, hd, q0⟩ := (hr.up hup hhi).ph hlt
      have HD := Lib.hid hd
      clear hd
      have hgs : w.heap.size + 1 ≤ wr.heap.size := by
        obtain ⟨A', c', hv, -, -, hA, -⟩ := own_form hown
        simp only [Value.slice.injEq] at hv
        obtain ⟨rfl, -, -⟩ := hv
        obtain ⟨g', e, -, h⟩ := hA (by omega)
        cases e; exact h
      have hq := (hea.out d (List.mem_of_getElem? HD.out)).up hup
      have HC := Lib.hid (toStringS_any d.A d.l d.c lo hi wr hq.rd hq.hhi hq.len)
      clear hq
      go_wp2_with fail
      refine HC.out.mono ?_
      rintro e w' ⟨v, rfl, hov, hup'⟩
      obtain ⟨y, rfl, hy, -, -, hyo⟩ := own_sl hov
      have HY := Lib.hid hy
      have HO := Lib.hid (own_base hyo hgs)
      have hown' := own_up hown hup'
      obtain ⟨u0, r0⟩ := own_cell hown' (p := k) (by omega)
      have z0 := hown'.frozenAt k
      clear hy hyo hov hup1 HC
      go_wp2
      go_roundw
      case rel => exact ⟨k + 1, _, L ++ [y], by omega, by go_num, by rw [List.length_append, HL.out]; rfl, (hown'.stored _ _).1, by
          rw [take_set_succ (by rw [hown'.1]; omega), HX.out]; simp,
        by rw [List.map_append, HM.out, List.take_succ_eq_append_getElem hlt, List.map_append, (List.getElem?_eq_some_iff.1 HD.out).2]; simp [HY.out],
        fun z hz => by
          rcases List.mem_append.1 hz with h | h
          · exact ownsRow_setCell_below (own_up (HIN.out z h) hup') (by simp) _
          · simp at h; subst h
            exact ownsRow_setCell_below HO.out (by simp) _,
        (hup.trans hup').setCell (by simp) _⟩
      case measure => simp [intOf]; omega
    · go_wp2
      go_ret
      have hk2 : k = l.length := by omega
      have hx := HX.out
      have hm := HM.out
      rw [hk2] at hx hm
      rw [List.take_of_length_le (by rw [hown.1]; omega)] at hx
      rw [List.take_of_length_le (Nat.le_refl _)] at hm
      subst hx
      refine ⟨⟨some ⟨w.heap.size, 0, none⟩, l.length, L⟩, ?_, hm, ⟨?_, fun y hy => own_base (HIN.out y hy) (by omega)⟩, hup⟩
      · have e : L.length = l.length := by rw [HL.out, hk2]
        show _ = Ending.returned (.slice _ L.length _)
        rw [e]
        rfl
      · show World.ownsRow _ _ _ _ (.slice _ L.length _) L.length _
        rw [HL.out, hk2]; exact hown
set_option maxRecDepth 100000 in
set_option maxHeartbeats 2000000 in
theorem eqStringSS_p (s t : Sl (Sl ByteArray)) (lo hi lo' hi' : Nat) (w : World) (h : SrPh w lo hi s) (h2 : SrPh w lo' hi' t) (e : phP t.l = phP s.l) :
    Calls Tryz.prog 39 #[.slice s.A s.l.length s.c, .slice t.A t.l.length t.c] w fun e w' => e = .returned (.bool true) ∧ Up w w' := by
  obtain ⟨A, c, l⟩ := s
  obtain ⟨B, c', m⟩ := t
  have hr := h.rd
  have hr' := h2.rd
  have hhi := h.hhi
  have hhi' := h2.hhi
  have hl : m.length = l.length := by simpa using congrArg List.length e
  have hn : l.length ≤ 2000000 := h.len
  have hb0 : ((l.length : Int) != (m.length : Int)) = false := by simp [hl]
  have E := Lib.hid e
  have hlm : l.length ≤ m.length := by omega
  clear e hl
  show Calls _ _ #[.slice A l.length c, .slice B m.length c'] _ _
  go_enter Tryz.func39, Tryz.ntmps39
  go_wp2
  go_loopw [5] (fun i wr => ∃ k : Nat, k ≤ l.length ∧ i = .int .i64 k ∧ Up w wr) (fun i _ => l.length - (intOf i).toNat)
  case atStart => exact ⟨0, Nat.zero_le _, rfl, Up.refl _⟩
  case round =>
    obtain ⟨k, hk, rfl, hup⟩ := hrel
    by_cases hlt : k < l.length
    · have hlt' : k < m.length := by omega
      obtain ⟨b1, o1, d1, rfl, -, -, hd1, p0⟩ := (hr.up hup hhi).ph hlt
      obtain ⟨b2, o2, d2, rfl, -, -, hd2, q0⟩ := (hr'.up hup hhi').ph hlt'
      have hp : d2.l = d1.l := by
        have e2 : (phP m)[k]? = (phP l)[k]? := by rw [E.out]
        rw [List.getElem?_map, List.getElem?_map, hd1, hd2] at e2
        exact Option.some.inj e2
      have s1 := h.each d1 (List.mem_of_getElem? hd1)
      have s2 := h2.each d2 (List.mem_of_getElem? hd2)
      obtain ⟨A2, c2, l2⟩ := d2
      simp only at hp
      subst hp
      have HE := Lib.hid (fun (wx : World) (u : Up wr wx) => eqStringS_same d1.A A2 d1.l d1.c c2 lo hi lo' hi' wx ((s1.up (hup.trans u)).rd) ((s1.up (hup.trans u)).hhi) ((s2.up (hup.trans u)).rd) ((s2.up (hup.trans u)).hhi) s1.len)
      clear hd1 hd2 s1 s2
      have P0 := cell_regrown p0
      have Q0 := cell_regrown q0
      go_wp2_with fail
      refine wp_region_quiet_below (by kernel_rfl) (by kernel_rfl) ?_
      repeat (quiet_step ((go_at_call 82; exact Calls.regrown_of (HE.out _ (below_regrown _ _ _)))))
      refine wpQuiet_nil ?_
      intro w2 hw2
      obtain ⟨⟨dq, osq⟩, hw2⟩ := hw2
      have hup2 : Up wr w2 := by rw [hw2]; exact below_regrown _ _ _
      clear hw2 P0 Q0
      go_wp2
      go_roundw
      case rel => exact ⟨k + 1, by omega, by go_num, hup.trans hup2⟩
      case measure => simp [intOf]; omega
    · go_wp2
      go_ret
      exact ⟨rfl, hup⟩
theorem eqDecS_p (s t : Sl Dec) (lo hi lo' hi' : Nat) (w : World) (h : SrDec w lo hi s) (h2 : SrDec w lo' hi' t) (e : t.l = s.l) :
    Calls Tryz.prog 27 #[.slice s.A s.l.length s.c, .slice t.A t.l.length t.c] w fun e w' => e = .returned (.bool true) ∧ Up w w' :=
  (eqDecisionS_any s.A t.A s.l t.l s.c t.c lo hi lo' hi' w h.rd h.hhi h2.rd h2.hhi h.len h2.len).mono fun r w' ⟨h1, h3⟩ => ⟨by rw [h1, e]; exact ret_bool (by simp [eqDs]), h3⟩
theorem eqFormS_p (s t : Sl Fm) (lo hi lo' hi' : Nat) (w : World) (h : SrF w lo hi s) (h2 : SrF w lo' hi' t) (e : t.l.map Fm.p = s.l.map Fm.p) :
    Calls Tryz.prog 38 #[.slice s.A s.l.length s.c, .slice t.A t.l.length t.c] w fun e w' => e = .returned (.bool true) ∧ Up w w' :=
  (eqFormulaS_any s.A t.A s.l t.l s.c t.c lo hi lo' hi' w h.rd h.hhi h2.rd h2.hhi h2.len h.ws).mono fun r w' ⟨h1, h3⟩ => ⟨by rw [h1]; exact ret_bool (eqFs_self e.symm), h3⟩
end Go.Proofs.YtblndbblcoghpaaGreatDoor

namespace Go.Proofs.YtblndbblcoghpaaGreatDoor
open Go.RowKit Go.Sort

/-- decisions that the call itself made -/
def OwDec (w : World) (b : Nat) (s : Sl Dec) : Prop := w.ownsRow b 117 4 s.val s.l.length (s.l.flatMap Dec.cells)
theorem OwDec.up {w w' : World} {b : Nat} {x : Sl Dec} (h : OwDec w b x) (u : Up w w') : OwDec w' b x := own_up h u
theorem OwDec.base {w : World} {b b' : Nat} {x : Sl Dec} (h : OwDec w b x) (k : b' ≤ b) : OwDec w b' x := own_base h k
theorem OwDec.put {w : World} {b : Nat} {x : Sl Dec} (h : OwDec w b x) {p : Addr} (hp : p.block < b) (v : Value) : OwDec (w.setCell p v) b x := ownsRow_setCell_below h hp v
theorem OwDec.rd {w w0 : World} {b lo hi : Nat} {x y : Sl Dec} (h : OwDec w b x) (e : x.l = y.l) (k : SrDec w0 lo hi y) : SrDec w b w.heap.size x :=
  Sr.own dec_len h (by rw [e]; exact k.len) (by rw [e]; exact k.ok)
theorem toDecS_w (s : Sl Dec) (lo hi : Nat) (w : World) (h : SrDec w lo hi s) :
    Calls Tryz.prog 22 #[.slice s.A s.l.length s.c] w fun e w' => ∃ t : Sl Dec, e = .returned (.slice t.A t.l.length t.c) ∧ t.l = s.l ∧ OwDec w' w.heap.size t ∧ Up w w' :=
  (toDecS s.A s.l s.c lo hi w h.rd h.hhi h.len).mono fun _ _ ⟨A', c', he, _, _, _, h4, h5⟩ => ⟨⟨A', c', s.l⟩, he, rfl, h4, h5⟩
set_option maxRecDepth 100000 in
set_option maxHeartbeats 2000000 in
theorem szDesk_any (x : Wd) (s : Sl Dd) (g : Sl Dec) (lo hi : Nat) (left : Int) (w : World) (h1 : RawW w lo hi x) (h2 : RawDd w lo hi s) (h3 : SqDec w lo hi g) (h0 : 0 ≤ left) (hl : left ≤ 2000000) :
    Calls Tryz.prog 5 #[.agg #[.slice x.rs.A x.rs.l.length x.rs.c, .int .i64 x.fr, .int .i64 x.to_, .slice x.ps.A x.ps.l.length x.ps.c, .slice x.ts.A x.ts.l.length x.ts.c, .slice x.pl.A x.pl.l.length x.pl.c, .slice x.ws.A x.ws.l.length x.ws.c, .slice x.st.A x.st.l.length x.st.c, .slice x.se.A x.se.l.length x.se.c, .slice x.ha.A x.ha.l.length x.ha.c, .slice s.A s.l.length s.c, .slice g.A g.l.length g.c], .int .i64 left] w fun e w' => ∃ z : Int, e = .returned (.int .i64 z) ∧ z ≤ left ∧ (z < 0 ∨ (SmW x ∧ (s.l.length ≤ 2000000 ∧ ∀ d ∈ s.l, SmE d) ∧ g.l.length ≤ 2000000)) ∧ Up w w' := by
  have u0 := Up.alloc w (.cells #[.slice x.rs.A x.rs.l.length x.rs.c, .int .i64 x.fr, .int .i64 x.to_, .slice x.ps.A x.ps.l.length x.ps.c, .slice x.ts.A x.ts.l.length x.ts.c, .slice x.pl.A x.pl.l.length x.pl.c, .slice x.ws.A x.ws.l.length x.ws.c, .slice x.st.A x.st.l.length x.st.c, .slice x.se.A x.se.l.length x.se.c, .slice x.ha.A x.ha.l.length x.ha.c, .slice s.A s.l.length s.c, .slice g.A g.l.length g.c] 40)
  have hB0 := Bx.new w #[.slice x.rs.A x.rs.l.length x.rs.c, .int .i64 x.fr, .int .i64 x.to_, .slice x.ps.A x.ps.l.length x.ps.c, .slice x.ts.A x.ts.l.length x.ts.c, .slice x.pl.A x.pl.l.length x.pl.c, .slice x.ws.A x.ws.l.length x.ws.c, .slice x.st.A x.st.l.length x.st.c, .slice x.se.A x.se.l.length x.se.c, .slice x.ha.A x.ha.l.length x.ha.c, .slice s.A s.l.length s.c, .slice g.A g.l.length g.c] 40
  go_enter Tryz.func5, Tryz.ntmps5
  go_wp2_with fail
  generalize w.alloc (.cells #[.slice x.rs.A x.rs.l.length x.rs.c, .int .i64 x.fr, .int .i64 x.to_, .slice x.ps.A x.ps.l.length x.ps.c, .slice x.ts.A x.ts.l.length x.ts.c, .slice x.pl.A x.pl.l.length x.pl.c, .slice x.ws.A x.ws.l.length x.ws.c, .slice x.st.A x.st.l.length x.st.c, .slice x.se.A x.se.l.length x.se.c, .slice x.ha.A x.ha.l.length x.ha.c, .slice s.A s.l.length s.c, .slice g.A g.l.length g.c] 40) = w0 at *
  refine (szWorld_any x lo hi left _ (h1.up u0) (by omega) (by omega)).mono ?_
  rintro e w1 ⟨z1, rfl, hz1, sm1, v1⟩
  have u1 := u0.trans v1
  have hB1 := hB0.up v1
  have SM1 := Lib.hid sm1
  clear sm1
  obtain ⟨x0, x1, x2, x3, x4, x5, x6, x7, x8, x9, x10, x11⟩ := hB1.c12
  by_cases c1 : z1 < 0
  · have hd : decide (z1 < 0) = true := by simpa using c1
    go_wp2
    go_ret
    exact ⟨-1, rfl, by omega, .inl (by omega), u1⟩
  have hd1 : decide (z1 < 0) = false := by simpa using c1
  go_wp2_with fail
  refine (szDeedS_any s lo hi z1 _ (h2.up u1) (by omega) (by omega)).mono ?_
  rintro e w2 ⟨z2, rfl, hz2, sm2, v2⟩
  have u2 := u1.trans v2
  have hB2 := hB1.up v2
  have SM2 := Lib.hid sm2
  clear sm2
  obtain ⟨x0, x1, x2, x3, x4, x5, x6, x7, x8, x9, x10, x11⟩ := hB2.c12
  by_cases c2 : z2 < 0
  · have hd : decide (z2 < 0) = true := by simpa using c2
    go_wp2
    go_ret
    exact ⟨-1, rfl, by omega, .inl (by omega), u2⟩
  have hd2 : decide (z2 < 0) = false := by simpa using c2
  go_wp2_with fail
  refine (szDecS_w g lo hi z2 _ (h3.up u2) (by omega) (by omega)).mono ?_
  rintro e w3 ⟨z3, rfl, hz3, sm3, v3⟩
  have u3 := u2.trans v3
  have hB3 := hB2.up v3
  have SM3 := Lib.hid sm3
  clear sm3
  obtain ⟨x0, x1, x2, x3, x4, x5, x6, x7, x8, x9, x10, x11⟩ := hB3.c12
  by_cases c3 : z3 < 0
  · have hd : decide (z3 < 0) = true := by simpa using c3
    go_wp2
    go_ret
    exact ⟨-1, rfl, by omega, .inl (by omega), u3⟩
  have hd3 : decide (z3 < 0) = false := by simpa using c3
  go_wp2
  go_ret
  exact ⟨z3, rfl, by omega, .inr ⟨SM1.out.resolve_left (by omega), SM2.out.resolve_left (by omega), SM3.out.resolve_left (by omega)⟩, u3⟩
set_option maxRecDepth 100000 in
set_option maxHeartbeats 8000000 in
theorem toDesk_any (x : Wd) (s : Sl Dd) (g : Sl Dec) (lo hi : Nat) (w : World) (h1 : RdW w lo hi x) (h2 : RdDd w lo hi s) (h3 : SrDec w lo hi g) :
    Calls Tryz.prog 7 #[.agg #[.slice x.rs.A x.rs.l.length x.rs.c, .int .i64 x.fr, .int .i64 x.to_, .slice x.ps.A x.ps.l.length x.ps.c, .slice x.ts.A x.ts.l.length x.ts.c, .slice x.pl.A x.pl.l.length x.pl.c, .slice x.ws.A x.ws.l.length x.ws.c, .slice x.st.A x.st.l.length x.st.c, .slice x.se.A x.se.l.length x.se.c, .slice x.ha.A x.ha.l.length x.ha.c, .slice s.A s.l.length s.c, .slice g.A g.l.length g.c]] w fun e w' => ∃ (x' : Wd) (s' : Sl Dd) (g' : Sl Dec), e = .returned (.agg #[.slice x'.rs.A x'.rs.l.length x'.rs.c, .int .i64 x'.fr, .int .i64 x'.to_, .slice x'.ps.A x'.ps.l.length x'.ps.c, .slice x'.ts.A x'.ts.l.length x'.ts.c, .slice x'.pl.A x'.pl.l.length x'.pl.c, .slice x'.ws.A x'.ws.l.length x'.ws.c, .slice x'.st.A x'.st.l.length x'.st.c, .slice x'.se.A x'.se.l.length x'.se.c, .slice x'.ha.A x'.ha.l.length x'.ha.c, .slice s'.A s'.l.length s'.c, .slice g'.A g'.l.length g'.c]) ∧ (x'.p = x.p) ∧ (s'.l.map Dd.p = s.l.map Dd.p) ∧ (g'.l = g.l) ∧ OwW w' w.heap.size x' ∧ OwDd w' w.heap.size s' ∧ OwDec w' w.heap.size g' ∧ Up w w' := by
  have u : Up w (((w.alloc (.cells #[.slice x.rs.A x.rs.l.length x.rs.c, .int .i64 x.fr, .int .i64 x.to_, .slice x.ps.A x.ps.l.length x.ps.c, .slice x.ts.A x.ts.l.length x.ts.c, .slice x.pl.A x.pl.l.length x.pl.c, .slice x.ws.A x.ws.l.length x.ws.c, .slice x.st.A x.st.l.length x.st.c, .slice x.se.A x.se.l.length x.se.c, .slice x.ha.A x.ha.l.length x.ha.c, .slice s.A s.l.length s.c, .slice g.A g.l.length g.c] 40)).alloc (.cells #[.slice none 0 0, .int .i64 0, .int .i64 0, .slice none 0 0, .slice none 0 0, .slice none 0 0, .slice none 0 0, .slice none 0 0, .slice none 0 0, .slice none 0 0, .slice none 0 0, .slice none 0 0] 60)).alloc (.cells #[.slice none 0 0, .int .i64 0, .int .i64 0, .slice none 0 0, .slice none 0 0, .slice none 0 0, .slice none 0 0, .slice none 0 0, .slice none 0 0, .slice none 0 0, .slice none 0 0, .slice none 0 0] 60)) := ((Up.alloc w _).allocs _).allocs _
  have hA := ((Bx.new w #[.slice x.rs.A x.rs.l.length x.rs.c, .int .i64 x.fr, .int .i64 x.to_, .slice x.ps.A x.ps.l.length x.ps.c, .slice x.ts.A x.ts.l.length x.ts.c, .slice x.pl.A x.pl.l.length x.pl.c, .slice x.ws.A x.ws.l.length x.ws.c, .slice x.st.A x.st.l.length x.st.c, .slice x.se.A x.se.l.length x.se.c, .slice x.ha.A x.ha.l.length x.ha.c, .slice s.A s.l.length s.c, .slice g.A g.l.length g.c] 40).up (Up.alloc _ (.cells #[.slice none 0 0, .int .i64 0, .int .i64 0, .slice none 0 0, .slice none 0 0, .slice none 0 0, .slice none 0 0, .slice none 0 0, .slice none 0 0, .slice none 0 0, .slice none 0 0, .slice none 0 0] 60))).up (Up.alloc _ (.cells #[.slice none 0 0, .int .i64 0, .int .i64 0, .slice none 0 0, .slice none 0 0, .slice none 0 0, .slice none 0 0, .slice none 0 0, .slice none 0 0, .slice none 0 0, .slice none 0 0, .slice none 0 0] 60))
  have hR : Bx (((w.alloc (.cells #[.slice x.rs.A x.rs.l.length x.rs.c, .int .i64 x.fr, .int .i64 x.to_, .slice x.ps.A x.ps.l.length x.ps.c, .slice x.ts.A x.ts.l.length x.ts.c, .slice x.pl.A x.pl.l.length x.pl.c, .slice x.ws.A x.ws.l.length x.ws.c, .slice x.st.A x.st.l.length x.st.c, .slice x.se.A x.se.l.length x.se.c, .slice x.ha.A x.ha.l.length x.ha.c, .slice s.A s.l.length s.c, .slice g.A g.l.length g.c] 40)).alloc (.cells #[.slice none 0 0, .int .i64 0, .int .i64 0, .slice none 0 0, .slice none 0 0, .slice none 0 0, .slice none 0 0, .slice none 0 0, .slice none 0 0, .slice none 0 0, .slice none 0 0, .slice none 0 0] 60)).alloc (.cells #[.slice none 0 0, .int .i64 0, .int .i64 0, .slice none 0 0, .slice none 0 0, .slice none 0 0, .slice none 0 0, .slice none 0 0, .slice none 0 0, .slice none 0 0, .slice none 0 0, .slice none 0 0] 60)) (w.heap.size + 1) [.slice none 0 0, .int .i64 0, .int .i64 0, .slice none 0 0, .slice none 0 0, .slice none 0 0, .slice none 0 0, .slice none 0 0, .slice none 0 0, .slice none 0 0, .slice none 0 0, .slice none 0 0] := by
    have := (Bx.new (w.alloc (.cells #[.slice x.rs.A x.rs.l.length x.rs.c, .int .i64 x.fr, .int .i64 x.to_, .slice x.ps.A x.ps.l.length x.ps.c, .slice x.ts.A x.ts.l.length x.ts.c, .slice x.pl.A x.pl.l.length x.pl.c, .slice x.ws.A x.ws.l.length x.ws.c, .slice x.st.A x.st.l.length x.st.c, .slice x.se.A x.se.l.length x.se.c, .slice x.ha.A x.ha.l.length x.ha.c, .slice s.A s.l.length s.c, .slice g.A g.l.length g.c] 40)) #[.slice none 0 0, .int .i64 0, .int .i64 0, .slice none 0 0, .slice none 0 0, .slice none 0 0, .slice none 0 0, .slice none 0 0, .slice none 0 0, .slice none 0 0, .slice none 0 0, .slice none 0 0] 60).up (Up.alloc _ (.cells #[.slice none 0 0, .int .i64 0, .int .i64 0, .slice none 0 0, .slice none 0 0, .slice none 0 0, .slice none 0 0, .slice none 0 0, .slice none 0 0, .slice none 0 0, .slice none 0 0, .slice none 0 0] 60))
    simpa using this
  have hO : Bx (((w.alloc (.cells #[.slice x.rs.A x.rs.l.length x.rs.c, .int .i64 x.fr, .int .i64 x.to_, .slice x.ps.A x.ps.l.length x.ps.c, .slice x.ts.A x.ts.l.length x.ts.c, .slice x.pl.A x.pl.l.length x.pl.c, .slice x.ws.A x.ws.l.length x.ws.c, .slice x.st.A x.st.l.length x.st.c, .slice x.se.A x.se.l.length x.se.c, .slice x.ha.A x.ha.l.length x.ha.c, .slice s.A s.l.length s.c, .slice g.A g.l.length g.c] 40)).alloc (.cells #[.slice none 0 0, .int .i64 0, .int .i64 0, .slice none 0 0, .slice none 0 0, .slice none 0 0, .slice none 0 0, .slice none 0 0, .slice none 0 0, .slice none 0 0, .slice none 0 0, .slice none 0 0] 60)).alloc (.cells #[.slice none 0 0, .int .i64 0, .int .i64 0, .slice none 0 0, .slice none 0 0, .slice none 0 0, .slice none 0 0, .slice none 0 0, .slice none 0 0, .slice none 0 0, .slice none 0 0, .slice none 0 0] 60)) (w.heap.size + 1 + 1) [.slice none 0 0, .int .i64 0, .int .i64 0, .slice none 0 0, .slice none 0 0, .slice none 0 0, .slice none 0 0, .slice none 0 0, .slice none 0 0, .slice none 0 0, .slice none 0 0, .slice none 0 0] := by
    have := Bx.new ((w.alloc (.cells #[.slice x.rs.A x.rs.l.length x.rs.c, .int .i64 x.fr, .int .i64 x.to_, .slice x.ps.A x.ps.l.length x.ps.c, .slice x.ts.A x.ts.l.length x.ts.c, .slice x.pl.A x.pl.l.length x.pl.c, .slice x.ws.A x.ws.l.length x.ws.c, .slice x.st.A x.st.l.length x.st.c, .slice x.se.A x.se.l.length x.se.c, .slice x.ha.A x.ha.l.length x.ha.c, .slice s.A s.l.length s.c, .slice g.A g.l.length g.c] 40)).alloc (.cells #[.slice none 0 0, .int .i64 0, .int .i64 0, .slice none 0 0, .slice none 0 0, .slice none 0 0, .slice none 0 0, .slice none 0 0, .slice none 0 0, .slice none 0 0, .slice none 0 0, .slice none 0 0] 60)) #[.slice none 0 0, .int .i64 0, .int .i64 0, .slice none 0 0, .slice none 0 0, .slice none 0 0, .slice none 0 0, .slice none 0 0, .slice none 0 0, .slice none 0 0, .slice none 0 0, .slice none 0 0] 60
    simpa using this
  have hsz : w.heap.size + 3 ≤ (((w.alloc (.cells #[.slice x.rs.A x.rs.l.length x.rs.c, .int .i64 x.fr, .int .i64 x.to_, .slice x.ps.A x.ps.l.length x.ps.c, .slice x.ts.A x.ts.l.length x.ts.c, .slice x.pl.A x.pl.l.length x.pl.c, .slice x.ws.A x.ws.l.length x.ws.c, .slice x.st.A x.st.l.length x.st.c, .slice x.se.A x.se.l.length x.se.c, .slice x.ha.A x.ha.l.length x.ha.c, .slice s.A s.l.length s.c, .slice g.A g.l.length g.c] 40)).alloc (.cells #[.slice none 0 0, .int .i64 0, .int .i64 0, .slice none 0 0, .slice none 0 0, .slice none 0 0, .slice none 0 0, .slice none 0 0, .slice none 0 0, .slice none 0 0, .slice none 0 0, .slice none 0 0] 60)).alloc (.cells #[.slice none 0 0, .int .i64 0, .int .i64 0, .slice none 0 0, .slice none 0 0, .slice none 0 0, .slice none 0 0, .slice none 0 0, .slice none 0 0, .slice none 0 0, .slice none 0 0, .slice none 0 0] 60)).heap.size := by simp
  go_enter Tryz.func7, Tryz.ntmps7
  go_wp2_with fail
  generalize ((w.alloc (.cells #[.slice x.rs.A x.rs.l.length x.rs.c, .int .i64 x.fr, .int .i64 x.to_, .slice x.ps.A x.ps.l.length x.ps.c, .slice x.ts.A x.ts.l.length x.ts.c, .slice x.pl.A x.pl.l.length x.pl.c, .slice x.ws.A x.ws.l.length x.ws.c, .slice x.st.A x.st.l.length x.st.c, .slice x.se.A x.se.l.length x.se.c, .slice x.ha.A x.ha.l.length x.ha.c, .slice s.A s.l.length s.c, .slice g.A g.l.length g.c] 40)).alloc (.cells #[.slice none 0 0, .int .i64 0, .int .i64 0, .slice none 0 0, .slice none 0 0, .slice none 0 0, .slice none 0 0, .slice none 0 0, .slice none 0 0, .slice none 0 0, .slice none 0 0, .slice none 0 0] 60)).alloc (.cells #[.slice none 0 0, .int .i64 0, .int .i64 0, .slice none 0 0, .slice none 0 0, .slice none 0 0, .slice none 0 0, .slice none 0 0, .slice none 0 0, .slice none 0 0, .slice none 0 0, .slice none 0 0] 60) = w0 at *
  refine (toWorld_any x lo hi _ (h1.up u)).mono ?_
  rintro e v1 ⟨x', rfl, e1, o1, v⟩
  have E1 := Lib.hid e1
  clear e1
  replace o1 := o1.base (b' := w.heap.size + 3) hsz
  replace u := u.trans v
  replace hA := hA.up v
  replace hR := hR.up v
  replace hO := hO.up v
  replace hsz := Nat.le_trans hsz v.size
  clear v
  obtain ⟨x0, x1, x2, x3, x4, x5, x6, x7, x8, x9, x10, x11⟩ := hA.c12
  obtain ⟨y0, y1, y2, y3, y4, y5, y6, y7, y8, y9, y10, y11⟩ := hO.c12
  obtain ⟨f0, f1, f2, f3, f4, f5, f6, f7, f8, f9, f10, f11⟩ := hO.f12
  obtain ⟨z0, z1, z2, z3, z4, z5, z6, z7, z8, z9, z10, z11⟩ := hR.c12
  obtain ⟨g0, g1, g2, g3, g4, g5, g6, g7, g8, g9, g10, g11⟩ := hR.f12
  replace hO := hO.put 0 (.slice x'.rs.A x'.rs.l.length x'.rs.c)
  replace hA := hA.other (b' := w.heap.size + 1 + 1) (by omega) 0 (.slice x'.rs.A x'.rs.l.length x'.rs.c)
  replace hR := hR.other (b' := w.heap.size + 1 + 1) (by omega) 0 (.slice x'.rs.A x'.rs.l.length x'.rs.c)
  replace o1 := o1.put (p := ⟨w.heap.size + 1 + 1, 0, none⟩) (show w.heap.size + 1 + 1 < w.heap.size + 3 by omega) (.slice x'.rs.A x'.rs.l.length x'.rs.c)
  replace u := u.setCell (p := ⟨w.heap.size + 1 + 1, 0, none⟩) (show w.heap.size ≤ w.heap.size + 1 + 1 by omega) (.slice x'.rs.A x'.rs.l.length x'.rs.c)
  replace hO := hO.put 1 (.int .i64 x'.fr)
  replace hA := hA.other (b' := w.heap.size + 1 + 1) (by omega) 1 (.int .i64 x'.fr)
  replace hR := hR.other (b' := w.heap.size + 1 + 1) (by omega) 1 (.int .i64 x'.fr)
  replace o1 := o1.put (p := ⟨w.heap.size + 1 + 1, 1, none⟩) (show w.heap.size + 1 + 1 < w.heap.size + 3 by omega) (.int .i64 x'.fr)
  replace u := u.setCell (p := ⟨w.heap.size + 1 + 1, 1, none⟩) (show w.heap.size ≤ w.heap.size + 1 + 1 by omega) (.int .i64 x'.fr)
  replace hO := hO.put 2 (.int .i64 x'.to_)
  replace hA := hA.other (b' := w.heap.size + 1 + 1) (by omega) 2 (.int .i64 x'.to_)
  replace hR := hR.other (b' := w.heap.size + 1 + 1) (by omega) 2 (.int .i64 x'.to_)
  replace o1 := o1.put (p := ⟨w.heap.size + 1 + 1, 2, none⟩) (show w.heap.size + 1 + 1 < w.heap.size + 3 by omega) (.int .i64 x'.to_)
  replace u := u.setCell (p := ⟨w.heap.size + 1 + 1, 2, none⟩) (show w.heap.size ≤ w.heap.size + 1 + 1 by omega) (.int .i64 x'.to_)
  replace hO := hO.put 3 (.slice x'.ps.A x'.ps.l.length x'.ps.c)
  replace hA := hA.other (b' := w.heap.size + 1 + 1) (by omega) 3 (.slice x'.ps.A x'.ps.l.length x'.ps.c)
  replace hR := hR.other (b' := w.heap.size + 1 + 1) (by omega) 3 (.slice x'.ps.A x'.ps.l.length x'.ps.c)
  replace o1 := o1.put (p := ⟨w.heap.size + 1 + 1, 3, none⟩) (show w.heap.size + 1 + 1 < w.heap.size + 3 by omega) (.slice x'.ps.A x'.ps.l.length x'.ps.c)
  replace u := u.setCell (p := ⟨w.heap.size + 1 + 1, 3, none⟩) (show w.heap.size ≤ w.heap.size + 1 + 1 by omega) (.slice x'.ps.A x'.ps.l.length x'.ps.c)
  replace hO := hO.put 4 (.slice x'.ts.A x'.ts.l.length x'.ts.c)
  replace hA := hA.other (b' := w.heap.size + 1 + 1) (by omega) 4 (.slice x'.ts.A x'.ts.l.length x'.ts.c)
  replace hR := hR.other (b' := w.heap.size + 1 + 1) (by omega) 4 (.slice x'.ts.A x'.ts.l.length x'.ts.c)
  replace o1 := o1.put (p := ⟨w.heap.size + 1 + 1, 4, none⟩) (show w.heap.size + 1 + 1 < w.heap.size + 3 by omega) (.slice x'.ts.A x'.ts.l.length x'.ts.c)
  replace u := u.setCell (p := ⟨w.heap.size + 1 + 1, 4, none⟩) (show w.heap.size ≤ w.heap.size + 1 + 1 by omega) (.slice x'.ts.A x'.ts.l.length x'.ts.c)
  replace hO := hO.put 5 (.slice x'.pl.A x'.pl.l.length x'.pl.c)
  replace hA := hA.other (b' := w.heap.size + 1 + 1) (by omega) 5 (.slice x'.pl.A x'.pl.l.length x'.pl.c)
  replace hR := hR.other (b' := w.heap.size + 1 + 1) (by omega) 5 (.slice x'.pl.A x'.pl.l.length x'.pl.c)
  replace o1 := o1.put (p := ⟨w.heap.size + 1 + 1, 5, none⟩) (show w.heap.size + 1 + 1 < w.heap.size + 3 by omega) (.slice x'.pl.A x'.pl.l.length x'.pl.c)
  replace u := u.setCell (p := ⟨w.heap.size + 1 + 1, 5, none⟩) (show w.heap.size ≤ w.heap.size + 1 + 1 by omega) (.slice x'.pl.A x'.pl.l.length x'.pl.c)
  replace hO := hO.put 6 (.slice x'.ws.A x'.ws.l.length x'.ws.c)
  replace hA := hA.other (b' := w.heap.size + 1 + 1) (by omega) 6 (.slice x'.ws.A x'.ws.l.length x'.ws.c)
  replace hR := hR.other (b' := w.heap.size + 1 + 1) (by omega) 6 (.slice x'.ws.A x'.ws.l.length x'.ws.c)
  replace o1 := o1.put (p := ⟨w.heap.size + 1 + 1, 6, none⟩) (show w.heap.size + 1 + 1 < w.heap.size + 3 by omega) (.slice x'.ws.A x'.ws.l.length x'.ws.c)
  replace u := u.setCell (p := ⟨w.heap.size + 1 + 1, 6, none⟩) (show w.heap.size ≤ w.heap.size + 1 + 1 by omega) (.slice x'.ws.A x'.ws.l.length x'.ws.c)
  replace hO := hO.put 7 (.slice x'.st.A x'.st.l.length x'.st.c)
  replace hA := hA.other (b' := w.heap.size + 1 + 1) (by omega) 7 (.slice x'.st.A x'.st.l.length x'.st.c)
  replace hR := hR.other (b' := w.heap.size + 1 + 1) (by omega) 7 (.slice x'.st.A x'.st.l.length x'.st.c)
  replace o1 := o1.put (p := ⟨w.heap.size + 1 + 1, 7, none⟩) (show w.heap.size + 1 + 1 < w.heap.size + 3 by omega) (.slice x'.st.A x'.st.l.length x'.st.c)
  replace u := u.setCell (p := ⟨w.heap.size + 1 + 1, 7, none⟩) (show w.heap.size ≤ w.heap.size + 1 + 1 by omega) (.slice x'.st.A x'.st.l.length x'.st.c)
  replace hO := hO.put 8 (.slice x'.se.A x'.se.l.length x'.se.c)
  replace hA := hA.other (b' := w.heap.size + 1 + 1) (by omega) 8 (.slice x'.se.A x'.se.l.length x'.se.c)
  replace hR := hR.other (b' := w.heap.size + 1 + 1) (by omega) 8 (.slice x'.se.A x'.se.l.length x'.se.c)
  replace o1 := o1.put (p := ⟨w.heap.size + 1 + 1, 8, none⟩) (show w.heap.size + 1 + 1 < w.heap.size + 3 by omega) (.slice x'.se.A x'.se.l.length x'.se.c)
  replace u := u.setCell (p := ⟨w.heap.size + 1 + 1, 8, none⟩) (show w.heap.size ≤ w.heap.size + 1 + 1 by omega) (.slice x'.se.A x'.se.l.length x'.se.c)
  replace hO := hO.put 9 (.slice x'.ha.A x'.ha.l.length x'.ha.c)
  replace hA := hA.other (b' := w.heap.size + 1 + 1) (by omega) 9 (.slice x'.ha.A x'.ha.l.length x'.ha.c)
  replace hR := hR.other (b' := w.heap.size + 1 + 1) (by omega) 9 (.slice x'.ha.A x'.ha.l.length x'.ha.c)
  replace o1 := o1.put (p := ⟨w.heap.size + 1 + 1, 9, none⟩) (show w.heap.size + 1 + 1 < w.heap.size + 3 by omega) (.slice x'.ha.A x'.ha.l.length x'.ha.c)
  replace u := u.setCell (p := ⟨w.heap.size + 1 + 1, 9, none⟩) (show w.heap.size ≤ w.heap.size + 1 + 1 by omega) (.slice x'.ha.A x'.ha.l.length x'.ha.c)
  have hsz : w.heap.size + 3 ≤ ((((((((((v1.setCell ⟨w.heap.size + 1 + 1, 0, none⟩ (.slice x'.rs.A x'.rs.l.length x'.rs.c)).setCell ⟨w.heap.size + 1 + 1, 1, none⟩ (.int .i64 x'.fr)).setCell ⟨w.heap.size + 1 + 1, 2, none⟩ (.int .i64 x'.to_)).setCell ⟨w.heap.size + 1 + 1, 3, none⟩ (.slice x'.ps.A x'.ps.l.length x'.ps.c)).setCell ⟨w.heap.size + 1 + 1, 4, none⟩ (.slice x'.ts.A x'.ts.l.length x'.ts.c)).setCell ⟨w.heap.size + 1 + 1, 5, none⟩ (.slice x'.pl.A x'.pl.l.length x'.pl.c)).setCell ⟨w.heap.size + 1 + 1, 6, none⟩ (.slice x'.ws.A x'.ws.l.length x'.ws.c)).setCell ⟨w.heap.size + 1 + 1, 7, none⟩ (.slice x'.st.A x'.st.l.length x'.st.c)).setCell ⟨w.heap.size + 1 + 1, 8, none⟩ (.slice x'.se.A x'.se.l.length x'.se.c)).setCell ⟨w.heap.size + 1 + 1, 9, none⟩ (.slice x'.ha.A x'.ha.l.length x'.ha.c)).heap.size := by simpa using hsz
  go_wp2_with fail
  generalize ((((((((((v1.setCell ⟨w.heap.size + 1 + 1, 0, none⟩ (.slice x'.rs.A x'.rs.l.length x'.rs.c)).setCell ⟨w.heap.size + 1 + 1, 1, none⟩ (.int .i64 x'.fr)).setCell ⟨w.heap.size + 1 + 1, 2, none⟩ (.int .i64 x'.to_)).setCell ⟨w.heap.size + 1 + 1, 3, none⟩ (.slice x'.ps.A x'.ps.l.length x'.ps.c)).setCell ⟨w.heap.size + 1 + 1, 4, none⟩ (.slice x'.ts.A x'.ts.l.length x'.ts.c)).setCell ⟨w.heap.size + 1 + 1, 5, none⟩ (.slice x'.pl.A x'.pl.l.length x'.pl.c)).setCell ⟨w.heap.size + 1 + 1, 6, none⟩ (.slice x'.ws.A x'.ws.l.length x'.ws.c)).setCell ⟨w.heap.size + 1 + 1, 7, none⟩ (.slice x'.st.A x'.st.l.length x'.st.c)).setCell ⟨w.heap.size + 1 + 1, 8, none⟩ (.slice x'.se.A x'.se.l.length x'.se.c)).setCell ⟨w.heap.size + 1 + 1, 9, none⟩ (.slice x'.ha.A x'.ha.l.length x'.ha.c)) = w1 at *
  refine (toDeedS_any s lo hi _ (h2.up u)).mono ?_
  rintro e v2 ⟨s', rfl, e2, o2, v⟩
  have E2 := Lib.hid e2
  clear e2
  replace o1 := o1.up v
  replace o2 := o2.base (b' := w.heap.size + 3) hsz
  replace u := u.trans v
  replace hA := hA.up v
  replace hR := hR.up v
  replace hO := hO.up v
  replace hsz := Nat.le_trans hsz v.size
  clear v
  obtain ⟨x0, x1, x2, x3, x4, x5, x6, x7, x8, x9, x10, x11⟩ := hA.c12
  obtain ⟨y0, y1, y2, y3, y4, y5, y6, y7, y8, y9, y10, y11⟩ := hO.c12
  obtain ⟨f0, f1, f2, f3, f4, f5, f6, f7, f8, f9, f10, f11⟩ := hO.f12
  obtain ⟨z0, z1, z2, z3, z4, z5, z6, z7, z8, z9, z10, z11⟩ := hR.c12
  obtain ⟨g0, g1, g2, g3, g4, g5, g6, g7, g8, g9, g10, g11⟩ := hR.f12
  replace hO := hO.put 10 (.slice s'.A s'.l.length s'.c)
  replace hA := hA.other (b' := w.heap.size + 1 + 1) (by omega) 10 (.slice s'.A s'.l.length s'.c)
  replace hR := hR.other (b' := w.heap.size + 1 + 1) (by omega) 10 (.slice s'.A s'.l.length s'.c)
  replace o1 := o1.put (p := ⟨w.heap.size + 1 + 1, 10, none⟩) (show w.heap.size + 1 + 1 < w.heap.size + 3 by omega) (.slice s'.A s'.l.length s'.c)
  replace o2 := o2.put (p := ⟨w.heap.size + 1 + 1, 10, none⟩) (show w.heap.size + 1 + 1 < w.heap.size + 3 by omega) (.slice s'.A s'.l.length s'.c)
  replace u := u.setCell (p := ⟨w.heap.size + 1 + 1, 10, none⟩) (show w.heap.size ≤ w.heap.size + 1 + 1 by omega) (.slice s'.A s'.l.length s'.c)
  have hsz : w.heap.size + 3 ≤ (v2.setCell ⟨w.heap.size + 1 + 1, 10, none⟩ (.slice s'.A s'.l.length s'.c)).heap.size := by simpa using hsz
  go_wp2_with fail
  generalize (v2.setCell ⟨w.heap.size + 1 + 1, 10, none⟩ (.slice s'.A s'.l.length s'.c)) = w2 at *
  refine (toDecS_w g lo hi _ (h3.up u)).mono ?_
  rintro e v3 ⟨g', rfl, e3, o3, v⟩
  have E3 := Lib.hid e3
  clear e3
  replace o1 := o1.up v
  replace o2 := o2.up v
  replace o3 := o3.base (b' := w.heap.size + 3) hsz
  replace u := u.trans v
  replace hA := hA.up v
  replace hR := hR.up v
  replace hO := hO.up v
  replace hsz := Nat.le_trans hsz v.size
  clear v
  obtain ⟨x0, x1, x2, x3, x4, x5, x6, x7, x8, x9, x10, x11⟩ := hA.c12
  obtain ⟨y0, y1, y2, y3, y4, y5, y6, y7, y8, y9, y10, y11⟩ := hO.c12
  obtain ⟨f0, f1, f2, f3, f4, f5, f6, f7, f8, f9, f10, f11⟩ := hO.f12
  obtain ⟨z0, z1, z2, z3, z4, z5, z6, z7, z8, z9, z10, z11⟩ := hR.c12
  obtain ⟨g0, g1, g2, g3, g4, g5, g6, g7, g8, g9, g10, g11⟩ := hR.f12
  go_wp2
  refine bodyPost_ret (v := .agg #[.slice x'.rs.A x'.rs.l.length x'.rs.c, .int .i64 x'.fr, .int .i64 x'.to_, .slice x'.ps.A x'.ps.l.length x'.ps.c, .slice x'.ts.A x'.ts.l.length x'.ts.c, .slice x'.pl.A x'.pl.l.length x'.pl.c, .slice x'.ws.A x'.ws.l.length x'.ws.c, .slice x'.st.A x'.st.l.length x'.st.c, .slice x'.se.A x'.se.l.length x'.se.c, .slice x'.ha.A x'.ha.l.length x'.ha.c, .slice s'.A s'.l.length s'.c, .slice g'.A g'.l.length g'.c]) (by simp [results, Tryz.results7, go_sem, z0, z1, z2, z3, z4, z5, z6, z7, z8, z9, z10, z11]) rfl ?_
  refine ⟨x', s', g', rfl, E1.out, E2.out, E3.out, ?_, ?_, ?_, ?_⟩
  · refine OwW.base (b := w.heap.size + 3) ?_ (by omega)
    iterate 13 refine OwW.put ?_ (by first | (simp; done) | (simp; omega)) _
    exact o1
  · refine OwDd.base (b := w.heap.size + 3) ?_ (by omega)
    iterate 13 refine OwDd.put ?_ (by first | (simp; done) | (simp; omega)) _
    exact o2
  · refine OwDec.base (b := w.heap.size + 3) ?_ (by omega)
    iterate 13 refine OwDec.put ?_ (by first | (simp; done) | (simp; omega)) _
    exact o3
  · iterate 13 refine Up.setCell ?_ (by first | (simp; done) | (simp; omega)) _
    exact u
set_option maxRecDepth 100000 in
set_option maxHeartbeats 2000000 in
theorem eqDesk_p (x : Wd) (s : Sl Dd) (g : Sl Dec) (x' : Wd) (s' : Sl Dd) (g' : Sl Dec) (lo hi lo' hi' : Nat) (w : World) (h1 : RdW w lo hi x) (h2 : RdDd w lo hi s) (h3 : SrDec w lo hi g) (k1 : RdW w lo' hi' x') (k2 : RdDd w lo' hi' s') (k3 : SrDec w lo' hi' g') (e1 : x'.p = x.p) (e2 : s'.l.map Dd.p = s.l.map Dd.p) (e3 : g'.l = g.l) :
    Calls Tryz.prog 9 #[.agg #[.slice x.rs.A x.rs.l.length x.rs.c, .int .i64 x.fr, .int .i64 x.to_, .slice x.ps.A x.ps.l.length x.ps.c, .slice x.ts.A x.ts.l.length x.ts.c, .slice x.pl.A x.pl.l.length x.pl.c, .slice x.ws.A x.ws.l.length x.ws.c, .slice x.st.A x.st.l.length x.st.c, .slice x.se.A x.se.l.length x.se.c, .slice x.ha.A x.ha.l.length x.ha.c, .slice s.A s.l.length s.c, .slice g.A g.l.length g.c], .agg #[.slice x'.rs.A x'.rs.l.length x'.rs.c, .int .i64 x'.fr, .int .i64 x'.to_, .slice x'.ps.A x'.ps.l.length x'.ps.c, .slice x'.ts.A x'.ts.l.length x'.ts.c, .slice x'.pl.A x'.pl.l.length x'.pl.c, .slice x'.ws.A x'.ws.l.length x'.ws.c, .slice x'.st.A x'.st.l.length x'.st.c, .slice x'.se.A x'.se.l.length x'.se.c, .slice x'.ha.A x'.ha.l.length x'.ha.c, .slice s'.A s'.l.length s'.c, .slice g'.A g'.l.length g'.c]] w fun e w' => e = .returned (.bool true) ∧ Up w w' := by
  have E1 := Lib.hid e1
  have E2 := Lib.hid e2
  have E3 := Lib.hid e3
  clear e1 e2 e3
  have u : Up w ((w.alloc (.cells #[.slice x.rs.A x.rs.l.length x.rs.c, .int .i64 x.fr, .int .i64 x.to_, .slice x.ps.A x.ps.l.length x.ps.c, .slice x.ts.A x.ts.l.length x.ts.c, .slice x.pl.A x.pl.l.length x.pl.c, .slice x.ws.A x.ws.l.length x.ws.c, .slice x.st.A x.st.l.length x.st.c, .slice x.se.A x.se.l.length x.se.c, .slice x.ha.A x.ha.l.length x.ha.c, .slice s.A s.l.length s.c, .slice g.A g.l.length g.c] 60)).alloc (.cells #[.slice x'.rs.A x'.rs.l.length x'.rs.c, .int .i64 x'.fr, .int .i64 x'.to_, .slice x'.ps.A x'.ps.l.length x'.ps.c, .slice x'.ts.A x'.ts.l.length x'.ts.c, .slice x'.pl.A x'.pl.l.length x'.pl.c, .slice x'.ws.A x'.ws.l.length x'.ws.c, .slice x'.st.A x'.st.l.length x'.st.c, .slice x'.se.A x'.se.l.length x'.se.c, .slice x'.ha.A x'.ha.l.length x'.ha.c, .slice s'.A s'.l.length s'.c, .slice g'.A g'.l.length g'.c] 60)) := (Up.alloc w _).allocs _
  have hX := (Bx.new w #[.slice x.rs.A x.rs.l.length x.rs.c, .int .i64 x.fr, .int .i64 x.to_, .slice x.ps.A x.ps.l.length x.ps.c, .slice x.ts.A x.ts.l.length x.ts.c, .slice x.pl.A x.pl.l.length x.pl.c, .slice x.ws.A x.ws.l.length x.ws.c, .slice x.st.A x.st.l.length x.st.c, .slice x.se.A x.se.l.length x.se.c, .slice x.ha.A x.ha.l.length x.ha.c, .slice s.A s.l.length s.c, .slice g.A g.l.length g.c] 60).up (Up.alloc _ (.cells #[.slice x'.rs.A x'.rs.l.length x'.rs.c, .int .i64 x'.fr, .int .i64 x'.to_, .slice x'.ps.A x'.ps.l.length x'.ps.c, .slice x'.ts.A x'.ts.l.length x'.ts.c, .slice x'.pl.A x'.pl.l.length x'.pl.c, .slice x'.ws.A x'.ws.l.length x'.ws.c, .slice x'.st.A x'.st.l.length x'.st.c, .slice x'.se.A x'.se.l.length x'.se.c, .slice x'.ha.A x'.ha.l.length x'.ha.c, .slice s'.A s'.l.length s'.c, .slice g'.A g'.l.length g'.c] 60))
  have hY : Bx ((w.alloc (.cells #[.slice x.rs.A x.rs.l.length x.rs.c, .int .i64 x.fr, .int .i64 x.to_, .slice x.ps.A x.ps.l.length x.ps.c, .slice x.ts.A x.ts.l.length x.ts.c, .slice x.pl.A x.pl.l.length x.pl.c, .slice x.ws.A x.ws.l.length x.ws.c, .slice x.st.A x.st.l.length x.st.c, .slice x.se.A x.se.l.length x.se.c, .slice x.ha.A x.ha.l.length x.ha.c, .slice s.A s.l.length s.c, .slice g.A g.l.length g.c] 60)).alloc (.cells #[.slice x'.rs.A x'.rs.l.length x'.rs.c, .int .i64 x'.fr, .int .i64 x'.to_, .slice x'.ps.A x'.ps.l.length x'.ps.c, .slice x'.ts.A x'.ts.l.length x'.ts.c, .slice x'.pl.A x'.pl.l.length x'.pl.c, .slice x'.ws.A x'.ws.l.length x'.ws.c, .slice x'.st.A x'.st.l.length x'.st.c, .slice x'.se.A x'.se.l.length x'.se.c, .slice x'.ha.A x'.ha.l.length x'.ha.c, .slice s'.A s'.l.length s'.c, .slice g'.A g'.l.length g'.c] 60)) (w.heap.size + 1) [.slice x'.rs.A x'.rs.l.length x'.rs.c, .int .i64 x'.fr, .int .i64 x'.to_, .slice x'.ps.A x'.ps.l.length x'.ps.c, .slice x'.ts.A x'.ts.l.length x'.ts.c, .slice x'.pl.A x'.pl.l.length x'.pl.c, .slice x'.ws.A x'.ws.l.length x'.ws.c, .slice x'.st.A x'.st.l.length x'.st.c, .slice x'.se.A x'.se.l.length x'.se.c, .slice x'.ha.A x'.ha.l.length x'.ha.c, .slice s'.A s'.l.length s'.c, .slice g'.A g'.l.length g'.c] := by
    have := Bx.new (w.alloc (.cells #[.slice x.rs.A x.rs.l.length x.rs.c, .int .i64 x.fr, .int .i64 x.to_, .slice x.ps.A x.ps.l.length x.ps.c, .slice x.ts.A x.ts.l.length x.ts.c, .slice x.pl.A x.pl.l.length x.pl.c, .slice x.ws.A x.ws.l.length x.ws.c, .slice x.st.A x.st.l.length x.st.c, .slice x.se.A x.se.l.length x.se.c, .slice x.ha.A x.ha.l.length x.ha.c, .slice s.A s.l.length s.c, .slice g.A g.l.length g.c] 60)) #[.slice x'.rs.A x'.rs.l.length x'.rs.c, .int .i64 x'.fr, .int .i64 x'.to_, .slice x'.ps.A x'.ps.l.length x'.ps.c, .slice x'.ts.A x'.ts.l.length x'.ts.c, .slice x'.pl.A x'.pl.l.length x'.pl.c, .slice x'.ws.A x'.ws.l.length x'.ws.c, .slice x'.st.A x'.st.l.length x'.st.c, .slice x'.se.A x'.se.l.length x'.se.c, .slice x'.ha.A x'.ha.l.length x'.ha.c, .slice s'.A s'.l.length s'.c, .slice g'.A g'.l.length g'.c] 60
    simpa using this
  go_enter Tryz.func9, Tryz.ntmps9
  go_wp2_with fail
  generalize (w.alloc (.cells #[.slice x.rs.A x.rs.l.length x.rs.c, .int .i64 x.fr, .int .i64 x.to_, .slice x.ps.A x.ps.l.length x.ps.c, .slice x.ts.A x.ts.l.length x.ts.c, .slice x.pl.A x.pl.l.length x.pl.c, .slice x.ws.A x.ws.l.length x.ws.c, .slice x.st.A x.st.l.length x.st.c, .slice x.se.A x.se.l.length x.se.c, .slice x.ha.A x.ha.l.length x.ha.c, .slice s.A s.l.length s.c, .slice g.A g.l.length g.c] 60)).alloc (.cells #[.slice x'.rs.A x'.rs.l.length x'.rs.c, .int .i64 x'.fr, .int .i64 x'.to_, .slice x'.ps.A x'.ps.l.length x'.ps.c, .slice x'.ts.A x'.ts.l.length x'.ts.c, .slice x'.pl.A x'.pl.l.length x'.pl.c, .slice x'.ws.A x'.ws.l.length x'.ws.c, .slice x'.st.A x'.st.l.length x'.st.c, .slice x'.se.A x'.se.l.length x'.se.c, .slice x'.ha.A x'.ha.l.length x'.ha.c, .slice s'.A s'.l.length s'.c, .slice g'.A g'.l.length g'.c] 60) = w0 at *
  refine (eqWorld_p x x' lo hi lo' hi' _ (h1.up u) (k1.up u) E1.out).mono ?_
  rintro e w1 ⟨rfl, v⟩
  replace u := u.trans v
  replace hX := hX.up v
  replace hY := hY.up v
  clear v
  obtain ⟨x0, x1, x2, x3, x4, x5, x6, x7, x8, x9, x10, x11⟩ := hX.c12
  obtain ⟨y0, y1, y2, y3, y4, y5, y6, y7, y8, y9, y10, y11⟩ := hY.c12
  go_wp2_with fail
  refine (eqDeedS_p s s' lo hi lo' hi' _ (h2.up u) (k2.up u) E2.out).mono ?_
  rintro e w2 ⟨rfl, v⟩
  replace u := u.trans v
  replace hX := hX.up v
  replace hY := hY.up v
  clear v
  obtain ⟨x0, x1, x2, x3, x4, x5, x6, x7, x8, x9, x10, x11⟩ := hX.c12
  obtain ⟨y0, y1, y2, y3, y4, y5, y6, y7, y8, y9, y10, y11⟩ := hY.c12
  go_wp2_with fail
  refine (eqDecS_p g g' lo hi lo' hi' _ (h3.up u) (k3.up u) E3.out).mono ?_
  rintro e w3 ⟨rfl, v⟩
  replace u := u.trans v
  replace hX := hX.up v
  replace hY := hY.up v
  clear v
  obtain ⟨x0, x1, x2, x3, x4, x5, x6, x7, x8, x9, x10, x11⟩ := hX.c12
  obtain ⟨y0, y1, y2, y3, y4, y5, y6, y7, y8, y9, y10, y11⟩ := hY.c12
  go_wp2
  go_ret
  exact ⟨rfl, u⟩
end Go.Proofs.YtblndbblcoghpaaGreatDoor

namespace Go.Proofs.YtblndbblcoghpaaGreatDoor
open Go.RowKit Go.Sort

/-- formulas that the call itself made -/
def OwFm (w : World) (b : Nat) (s : Sl Fm) : Prop := OwnF w b s.A s.l.length s.c s.l
theorem OwFm.up {w w' : World} {b : Nat} {x : Sl Fm} (h : OwFm w b x) (u : Up w w') : OwFm w' b x := OwnF.up h u
theorem OwFm.base {w : World} {b b' : Nat} {x : Sl Fm} (h : OwFm w b x) (k : b' ≤ b) : OwFm w b' x := OwnF.base h k
theorem OwFm.put {w : World} {b : Nat} {x : Sl Fm} (h : OwFm w b x) {p : Addr} (hp : p.block < b) (v : Value) : OwFm (w.setCell p v) b x := OwnF.put h hp v
theorem OwFm.rd {w w0 : World} {b lo hi : Nat} {x y : Sl Fm} (h : OwFm w b x) (e : x.l.map Fm.p = y.l.map Fm.p) (k : SrF w0 lo hi y) : SrF w b w.heap.size x := by
  have hl : x.l.length = y.l.length := by simpa using congrArg List.length e
  have hy : ∀ z ∈ x.l, z.ok' := by obtain ⟨g, -, -, h, -, -⟩ := h; exact fun z hz => (h z hz).1
  have hc : x.l.length ≤ x.c ∧ x.c ≤ maxLen := by obtain ⟨g, -, h, -, -, -⟩ := h; exact own_cap h
  exact ⟨OwnF.rd h, Nat.le_refl _, by rw [hl]; exact k.len, same_ok e hy k.ok, same_ws (q := fun ws => ws.length ≤ 2000000) e k.ws, hc⟩
theorem toFormS_w (s : Sl Fm) (lo hi : Nat) (w : World) (h : SrF w lo hi s) :
    Calls Tryz.prog 32 #[.slice s.A s.l.length s.c] w fun e w' => ∃ t : Sl Fm, e = .returned (.slice t.A t.l.length t.c) ∧ t.l.map Fm.p = s.l.map Fm.p ∧ OwFm w' w.heap.size t ∧ Up w w' :=
  (toForS s.A s.l s.c lo hi w h.rd h.hhi h.len h.ws).mono fun _ _ ⟨A', c', L, he, _, h2, _, _, _, _, h7, h8⟩ => ⟨⟨A', c', L⟩, he, h2, h7, h8⟩
set_option maxRecDepth 100000 in
set_option maxHeartbeats 2000000 in
theorem szEvidence_any (x : Wd) (s : Sl Dd) (g : Sl Fm) (q : Sl (Sl ByteArray)) (lo hi : Nat) (left : Int) (w : World) (h1 : RawW w lo hi x) (h2 : RawDd w lo hi s) (h3 : RawF w lo hi g) (h4 : RawPh w lo hi q) (h0 : 0 ≤ left) (hl : left ≤ 2000000) :
    Calls Tryz.prog 10 #[.agg #[.slice x.rs.A x.rs.l.length x.rs.c, .int .i64 x.fr, .int .i64 x.to_, .slice x.ps.A x.ps.l.length x.ps.c, .slice x.ts.A x.ts.l.length x.ts.c, .slice x.pl.A x.pl.l.length x.pl.c, .slice x.ws.A x.ws.l.length x.ws.c, .slice x.st.A x.st.l.length x.st.c, .slice x.se.A x.se.l.length x.se.c, .slice x.ha.A x.ha.l.length x.ha.c, .slice s.A s.l.length s.c, .slice g.A g.l.length g.c, .slice q.A q.l.length q.c], .int .i64 left] w fun e w' => ∃ z : Int, e = .returned (.int .i64 z) ∧ z ≤ left ∧ (z < 0 ∨ (SmW x ∧ (s.l.length ≤ 2000000 ∧ ∀ d ∈ s.l, SmE d) ∧ SmFm g ∧ SmPh q)) ∧ Up w w' := by
  have u0 := Up.alloc w (.cells #[.slice x.rs.A x.rs.l.length x.rs.c, .int .i64 x.fr, .int .i64 x.to_, .slice x.ps.A x.ps.l.length x.ps.c, .slice x.ts.A x.ts.l.length x.ts.c, .slice x.pl.A x.pl.l.length x.pl.c, .slice x.ws.A x.ws.l.length x.ws.c, .slice x.st.A x.st.l.length x.st.c, .slice x.se.A x.se.l.length x.se.c, .slice x.ha.A x.ha.l.length x.ha.c, .slice s.A s.l.length s.c, .slice g.A g.l.length g.c, .slice q.A q.l.length q.c] 67)
  have hB0 := Bx.new w #[.slice x.rs.A x.rs.l.length x.rs.c, .int .i64 x.fr, .int .i64 x.to_, .slice x.ps.A x.ps.l.length x.ps.c, .slice x.ts.A x.ts.l.length x.ts.c, .slice x.pl.A x.pl.l.length x.pl.c, .slice x.ws.A x.ws.l.length x.ws.c, .slice x.st.A x.st.l.length x.st.c, .slice x.se.A x.se.l.length x.se.c, .slice x.ha.A x.ha.l.length x.ha.c, .slice s.A s.l.length s.c, .slice g.A g.l.length g.c, .slice q.A q.l.length q.c] 67
  go_enter Tryz.func10, Tryz.ntmps10
  go_wp2_with fail
  generalize w.alloc (.cells #[.slice x.rs.A x.rs.l.length x.rs.c, .int .i64 x.fr, .int .i64 x.to_, .slice x.ps.A x.ps.l.length x.ps.c, .slice x.ts.A x.ts.l.length x.ts.c, .slice x.pl.A x.pl.l.length x.pl.c, .slice x.ws.A x.ws.l.length x.ws.c, .slice x.st.A x.st.l.length x.st.c, .slice x.se.A x.se.l.length x.se.c, .slice x.ha.A x.ha.l.length x.ha.c, .slice s.A s.l.length s.c, .slice g.A g.l.length g.c, .slice q.A q.l.length q.c] 67) = w0 at *
  refine (szWorld_any x lo hi left _ (h1.up u0) (by omega) (by omega)).mono ?_
  rintro e w1 ⟨z1, rfl, hz1, sm1, v1⟩
  have u1 := u0.trans v1
  have hB1 := hB0.up v1
  have SM1 := Lib.hid sm1
  clear sm1
  obtain ⟨x0, x1, x2, x3, x4, x5, x6, x7, x8, x9, x10, x11, x12⟩ := hB1.c13
  by_cases c1 : z1 < 0
  · have hd : decide (z1 < 0) = true := by simpa using c1
    go_wp2
    go_ret
    exact ⟨-1, rfl, by omega, .inl (by omega), u1⟩
  have hd1 : decide (z1 < 0) = false := by simpa using c1
  go_wp2_with fail
  refine (szDeedS_any s lo hi z1 _ (h2.up u1) (by omega) (by omega)).mono ?_
  rintro e w2 ⟨z2, rfl, hz2, sm2, v2⟩
  have u2 := u1.trans v2
  have hB2 := hB1.up v2
  have SM2 := Lib.hid sm2
  clear sm2
  obtain ⟨x0, x1, x2, x3, x4, x5, x6, x7, x8, x9, x10, x11, x12⟩ := hB2.c13
  by_cases c2 : z2 < 0
  · have hd : decide (z2 < 0) = true := by simpa using c2
    go_wp2
    go_ret
    exact ⟨-1, rfl, by omega, .inl (by omega), u2⟩
  have hd2 : decide (z2 < 0) = false := by simpa using c2
  go_wp2_with fail
  refine (szFormS_w g lo hi z2 _ (h3.up u2) (by omega) (by omega)).mono ?_
  rintro e w3 ⟨z3, rfl, hz3, sm3, v3⟩
  have u3 := u2.trans v3
  have hB3 := hB2.up v3
  have SM3 := Lib.hid sm3
  clear sm3
  obtain ⟨x0, x1, x2, x3, x4, x5, x6, x7, x8, x9, x10, x11, x12⟩ := hB3.c13
  by_cases c3 : z3 < 0
  · have hd : decide (z3 < 0) = true := by simpa using c3
    go_wp2
    go_ret
    exact ⟨-1, rfl, by omega, .inl (by omega), u3⟩
  have hd3 : decide (z3 < 0) = false := by simpa using c3
  go_wp2_with fail
  refine (szStringSS_any q lo hi z3 _ (h4.up u3) (by omega) (by omega)).mono ?_
  rintro e w4 ⟨z4, rfl, hz4, sm4, v4⟩
  have u4 := u3.trans v4
  have hB4 := hB3.up v4
  have SM4 := Lib.hid sm4
  clear sm4
  obtain ⟨x0, x1, x2, x3, x4, x5, x6, x7, x8, x9, x10, x11, x12⟩ := hB4.c13
  by_cases c4 : z4 < 0
  · have hd : decide (z4 < 0) = true := by simpa using c4
    go_wp2
    go_ret
    exact ⟨-1, rfl, by omega, .inl (by omega), u4⟩
  have hd4 : decide (z4 < 0) = false := by simpa using c4
  go_wp2
  go_ret
  exact ⟨z4, rfl, by omega, .inr ⟨SM1.out.resolve_left (by omega), SM2.out.resolve_left (by omega), SM3.out.resolve_left (by omega), SM4.out.resolve_left (by omega)⟩, u4⟩
set_option maxRecDepth 100000 in
set_option maxHeartbeats 8000000 in
theorem toEvidence_any (x : Wd) (s : Sl Dd) (g : Sl Fm) (q : Sl (Sl ByteArray)) (lo hi : Nat) (w : World) (h1 : RdW w lo hi x) (h2 : RdDd w lo hi s) (h3 : SrF w lo hi g) (h4 : SrPh w lo hi q) :
    Calls Tryz.prog 12 #[.agg #[.slice x.rs.A x.rs.l.length x.rs.c, .int .i64 x.fr, .int .i64 x.to_, .slice x.ps.A x.ps.l.length x.ps.c, .slice x.ts.A x.ts.l.length x.ts.c, .slice x.pl.A x.pl.l.length x.pl.c, .slice x.ws.A x.ws.l.length x.ws.c, .slice x.st.A x.st.l.length x.st.c, .slice x.se.A x.se.l.length x.se.c, .slice x.ha.A x.ha.l.length x.ha.c, .slice s.A s.l.length s.c, .slice g.A g.l.length g.c, .slice q.A q.l.length q.c]] w fun e w' => ∃ (x' : Wd) (s' : Sl Dd) (g' : Sl Fm) (q' : Sl (Sl ByteArray)), e = .returned (.agg #[.slice x'.rs.A x'.rs.l.length x'.rs.c, .int .i64 x'.fr, .int .i64 x'.to_, .slice x'.ps.A x'.ps.l.length x'.ps.c, .slice x'.ts.A x'.ts.l.length x'.ts.c, .slice x'.pl.A x'.pl.l.length x'.pl.c, .slice x'.ws.A x'.ws.l.length x'.ws.c, .slice x'.st.A x'.st.l.length x'.st.c, .slice x'.se.A x'.se.l.length x'.se.c, .slice x'.ha.A x'.ha.l.length x'.ha.c, .slice s'.A s'.l.length s'.c, .slice g'.A g'.l.length g'.c, .slice q'.A q'.l.length q'.c]) ∧ (x'.p = x.p) ∧ (s'.l.map Dd.p = s.l.map Dd.p) ∧ (g'.l.map Fm.p = g.l.map Fm.p) ∧ (phP q'.l = phP q.l) ∧ OwW w' w.heap.size x' ∧ OwDd w' w.heap.size s' ∧ OwFm w' w.heap.size g' ∧ OwPh w' w.heap.size q' ∧ Up w w' := by
  have u : Up w (((w.alloc (.cells #[.slice x.rs.A x.rs.l.length x.rs.c, .int .i64 x.fr, .int .i64 x.to_, .slice x.ps.A x.ps.l.length x.ps.c, .slice x.ts.A x.ts.l.length x.ts.c, .slice x.pl.A x.pl.l.length x.pl.c, .slice x.ws.A x.ws.l.length x.ws.c, .slice x.st.A x.st.l.length x.st.c, .slice x.se.A x.se.l.length x.se.c, .slice x.ha.A x.ha.l.length x.ha.c, .slice s.A s.l.length s.c, .slice g.A g.l.length g.c, .slice q.A q.l.length q.c] 67)).alloc (.cells #[.slice none 0 0, .int .i64 0, .int .i64 0, .slice none 0 0, .slice none 0 0, .slice none 0 0, .slice none 0 0, .slice none 0 0, .slice none 0 0, .slice none 0 0, .slice none 0 0, .slice none 0 0, .slice none 0 0] 72)).alloc (.cells #[.slice none 0 0, .int .i64 0, .int .i64 0, .slice none 0 0, .slice none 0 0, .slice none 0 0, .slice none 0 0, .slice none 0 0, .slice none 0 0, .slice none 0 0, .slice none 0 0, .slice none 0 0, .slice none 0 0] 72)) := ((Up.alloc w _).allocs _).allocs _
  have hA := ((Bx.new w #[.slice x.rs.A x.rs.l.length x.rs.c, .int .i64 x.fr, .int .i64 x.to_, .slice x.ps.A x.ps.l.length x.ps.c, .slice x.ts.A x.ts.l.length x.ts.c, .slice x.pl.A x.pl.l.length x.pl.c, .slice x.ws.A x.ws.l.length x.ws.c, .slice x.st.A x.st.l.length x.st.c, .slice x.se.A x.se.l.length x.se.c, .slice x.ha.A x.ha.l.length x.ha.c, .slice s.A s.l.length s.c, .slice g.A g.l.length g.c, .slice q.A q.l.length q.c] 67).up (Up.alloc _ (.cells #[.slice none 0 0, .int .i64 0, .int .i64 0, .slice none 0 0, .slice none 0 0, .slice none 0 0, .slice none 0 0, .slice none 0 0, .slice none 0 0, .slice none 0 0, .slice none 0 0, .slice none 0 0, .slice none 0 0] 72))).up (Up.alloc _ (.cells #[.slice none 0 0, .int .i64 0, .int .i64 0, .slice none 0 0, .slice none 0 0, .slice none 0 0, .slice none 0 0, .slice none 0 0, .slice none 0 0, .slice none 0 0, .slice none 0 0, .slice none 0 0, .slice none 0 0] 72))
  have hR : Bx (((w.alloc (.cells #[.slice x.rs.A x.rs.l.length x.rs.c, .int .i64 x.fr, .int .i64 x.to_, .slice x.ps.A x.ps.l.length x.ps.c, .slice x.ts.A x.ts.l.length x.ts.c, .slice x.pl.A x.pl.l.length x.pl.c, .slice x.ws.A x.ws.l.length x.ws.c, .slice x.st.A x.st.l.length x.st.c, .slice x.se.A x.se.l.length x.se.c, .slice x.ha.A x.ha.l.length x.ha.c, .slice s.A s.l.length s.c, .slice g.A g.l.length g.c, .slice q.A q.l.length q.c] 67)).alloc (.cells #[.slice none 0 0, .int .i64 0, .int .i64 0, .slice none 0 0, .slice none 0 0, .slice none 0 0, .slice none 0 0, .slice none 0 0, .slice none 0 0, .slice none 0 0, .slice none 0 0, .slice none 0 0, .slice none 0 0] 72)).alloc (.cells #[.slice none 0 0, .int .i64 0, .int .i64 0, .slice none 0 0, .slice none 0 0, .slice none 0 0, .slice none 0 0, .slice none 0 0, .slice none 0 0, .slice none 0 0, .slice none 0 0, .slice none 0 0, .slice none 0 0] 72)) (w.heap.size + 1) [.slice none 0 0, .int .i64 0, .int .i64 0, .slice none 0 0, .slice none 0 0, .slice none 0 0, .slice none 0 0, .slice none 0 0, .slice none 0 0, .slice none 0 0, .slice none 0 0, .slice none 0 0, .slice none 0 0] := by
    have := (Bx.new (w.alloc (.cells #[.slice x.rs.A x.rs.l.length x.rs.c, .int .i64 x.fr, .int .i64 x.to_, .slice x.ps.A x.ps.l.length x.ps.c, .slice x.ts.A x.ts.l.length x.ts.c, .slice x.pl.A x.pl.l.length x.pl.c, .slice x.ws.A x.ws.l.length x.ws.c, .slice x.st.A x.st.l.length x.st.c, .slice x.se.A x.se.l.length x.se.c, .slice x.ha.A x.ha.l.length x.ha.c, .slice s.A s.l.length s.c, .slice g.A g.l.length g.c, .slice q.A q.l.length q.c] 67)) #[.slice none 0 0, .int .i64 0, .int .i64 0, .slice none 0 0, .slice none 0 0, .slice none 0 0, .slice none 0 0, .slice none 0 0, .slice none 0 0, .slice none 0 0, .slice none 0 0, .slice none 0 0, .slice none 0 0] 72).up (Up.alloc _ (.cells #[.slice none 0 0, .int .i64 0, .int .i64 0, .slice none 0 0, .slice none 0 0, .slice none 0 0, .slice none 0 0, .slice none 0 0, .slice none 0 0, .slice none 0 0, .slice none 0 0, .slice none 0 0, .slice none 0 0] 72))
    simpa using this
  have hO : Bx (((w.alloc (.cells #[.slice x.rs.A x.rs.l.length x.rs.c, .int .i64 x.fr, .int .i64 x.to_, .slice x.ps.A x.ps.l.length x.ps.c, .slice x.ts.A x.ts.l.length x.ts.c, .slice x.pl.A x.pl.l.length x.pl.c, .slice x.ws.A x.ws.l.length x.ws.c, .slice x.st.A x.st.l.length x.st.c, .slice x.se.A x.se.l.length x.se.c, .slice x.ha.A x.ha.l.length x.ha.c, .slice s.A s.l.length s.c, .slice g.A g.l.length g.c, .slice q.A q.l.length q.c] 67)).alloc (.cells #[.slice none 0 0, .int .i64 0, .int .i64 0, .slice none 0 0, .slice none 0 0, .slice none 0 0, .slice none 0 0, .slice none 0 0, .slice none 0 0, .slice none 0 0, .slice none 0 0, .slice none 0 0, .slice none 0 0] 72)).alloc (.cells #[.slice none 0 0, .int .i64 0, .int .i64 0, .slice none 0 0, .slice none 0 0, .slice none 0 0, .slice none 0 0, .slice none 0 0, .slice none 0 0, .slice none 0 0, .slice none 0 0, .slice none 0 0, .slice none 0 0] 72)) (w.heap.size + 1 + 1) [.slice none 0 0, .int .i64 0, .int .i64 0, .slice none 0 0, .slice none 0 0, .slice none 0 0, .slice none 0 0, .slice none 0 0, .slice none 0 0, .slice none 0 0, .slice none 0 0, .slice none 0 0, .slice none 0 0] := by
    have := Bx.new ((w.alloc (.cells #[.slice x.rs.A x.rs.l.length x.rs.c, .int .i64 x.fr, .int .i64 x.to_, .slice x.ps.A x.ps.l.length x.ps.c, .slice x.ts.A x.ts.l.length x.ts.c, .slice x.pl.A x.pl.l.length x.pl.c, .slice x.ws.A x.ws.l.length x.ws.c, .slice x.st.A x.st.l.length x.st.c, .slice x.se.A x.se.l.length x.se.c, .slice x.ha.A x.ha.l.length x.ha.c, .slice s.A s.l.length s.c, .slice g.A g.l.length g.c, .slice q.A q.l.length q.c] 67)).alloc (.cells #[.slice none 0 0, .int .i64 0, .int .i64 0, .slice none 0 0, .slice none 0 0, .slice none 0 0, .slice none 0 0, .slice none 0 0, .slice none 0 0, .slice none 0 0, .slice none 0 0, .slice none 0 0, .slice none 0 0] 72)) #[.slice none 0 0, .int .i64 0, .int .i64 0, .slice none 0 0, .slice none 0 0, .slice none 0 0, .slice none 0 0, .slice none 0 0, .slice none 0 0, .slice none 0 0, .slice none 0 0, .slice none 0 0, .slice none 0 0] 72
    simpa using this
  have hsz : w.heap.size + 3 ≤ (((w.alloc (.cells #[.slice x.rs.A x.rs.l.length x.rs.c, .int .i64 x.fr, .int .i64 x.to_, .slice x.ps.A x.ps.l.length x.ps.c, .slice x.ts.A x.ts.l.length x.ts.c, .slice x.pl.A x.pl.l.length x.pl.c, .slice x.ws.A x.ws.l.length x.ws.c, .slice x.st.A x.st.l.length x.st.c, .slice x.se.A x.se.l.length x.se.c, .slice x.ha.A x.ha.l.length x.ha.c, .slice s.A s.l.length s.c, .slice g.A g.l.length g.c, .slice q.A q.l.length q.c] 67)).alloc (.cells #[.slice none 0 0, .int .i64 0, .int .i64 0, .slice none 0 0, .slice none 0 0, .slice none 0 0, .slice none 0 0, .slice none 0 0, .slice none 0 0, .slice none 0 0, .slice none 0 0, .slice none 0 0, .slice none 0 0] 72)).alloc (.cells #[.slice none 0 0, .int .i64 0, .int .i64 0, .slice none 0 0, .slice none 0 0, .slice none 0 0, .slice none 0 0, .slice none 0 0, .slice none 0 0, .slice none 0 0, .slice none 0 0, .slice none 0 0, .slice none 0 0] 72)).heap.size := by simp
  go_enter Tryz.func12, Tryz.ntmps12
  go_wp2_with fail
  generalize ((w.alloc (.cells #[.slice x.rs.A x.rs.l.length x.rs.c, .int .i64 x.fr, .int .i64 x.to_, .slice x.ps.A x.ps.l.length x.ps.c, .slice x.ts.A x.ts.l.length x.ts.c, .slice x.pl.A x.pl.l.length x.pl.c, .slice x.ws.A x.ws.l.length x.ws.c, .slice x.st.A x.st.l.length x.st.c, .slice x.se.A x.se.l.length x.se.c, .slice x.ha.A x.ha.l.length x.ha.c, .slice s.A s.l.length s.c, .slice g.A g.l.length g.c, .slice q.A q.l.length q.c] 67)).alloc (.cells #[.slice none 0 0, .int .i64 0, .int .i64 0, .slice none 0 0, .slice none 0 0, .slice none 0 0, .slice none 0 0, .slice none 0 0, .slice none 0 0, .slice none 0 0, .slice none 0 0, .slice none 0 0, .slice none 0 0] 72)).alloc (.cells #[.slice none 0 0, .int .i64 0, .int .i64 0, .slice none 0 0, .slice none 0 0, .slice none 0 0, .slice none 0 0, .slice none 0 0, .slice none 0 0, .slice none 0 0, .slice none 0 0, .slice none 0 0, .slice none 0 0] 72) = w0 at *
  refine (toWorld_any x lo hi _ (h1.up u)).mono ?_
  rintro e v1 ⟨x', rfl, e1, o1, v⟩
  have E1 := Lib.hid e1
  clear e1
  replace o1 := o1.base (b' := w.heap.size + 3) hsz
  replace u := u.trans v
  replace hA := hA.up v
  replace hR := hR.up v
  replace hO := hO.up v
  replace hsz := Nat.le_trans hsz v.size
  clear v
  obtain ⟨x0, x1, x2, x3, x4, x5, x6, x7, x8, x9, x10, x11, x12⟩ := hA.c13
  obtain ⟨y0, y1, y2, y3, y4, y5, y6, y7, y8, y9, y10, y11, y12⟩ := hO.c13
  obtain ⟨f0, f1, f2, f3, f4, f5, f6, f7, f8, f9, f10, f11, f12⟩ := hO.f13
  obtain ⟨z0, z1, z2, z3, z4, z5, z6, z7, z8, z9, z10, z11, z12⟩ := hR.c13
  obtain ⟨g0, g1, g2, g3, g4, g5, g6, g7, g8, g9, g10, g11, g12⟩ := hR.f13
  replace hO := hO.put 0 (.slice x'.rs.A x'.rs.l.length x'.rs.c)
  replace hA := hA.other (b' := w.heap.size + 1 + 1) (by omega) 0 (.slice x'.rs.A x'.rs.l.length x'.rs.c)
  replace hR := hR.other (b' := w.heap.size + 1 + 1) (by omega) 0 (.slice x'.rs.A x'.rs.l.length x'.rs.c)
  replace o1 := o1.put (p := ⟨w.heap.size + 1 + 1, 0, none⟩) (show w.heap.size + 1 + 1 < w.heap.size + 3 by omega) (.slice x'.rs.A x'.rs.l.length x'.rs.c)
  replace u := u.setCell (p := ⟨w.heap.size + 1 + 1, 0, none⟩) (show w.heap.size ≤ w.heap.size + 1 + 1 by omega) (.slice x'.rs.A x'.rs.l.length x'.rs.c)
  replace hO := hO.put 1 (.int .i64 x'.fr)
  replace hA := hA.other (b' := w.heap.size + 1 + 1) (by omega) 1 (.int .i64 x'.fr)
  replace hR := hR.other (b' := w.heap.size + 1 + 1) (by omega) 1 (.int .i64 x'.fr)
  replace o1 := o1.put (p := ⟨w.heap.size + 1 + 1, 1, none⟩) (show w.heap.size + 1 + 1 < w.heap.size + 3 by omega) (.int .i64 x'.fr)
  replace u := u.setCell (p := ⟨w.heap.size + 1 + 1, 1, none⟩) (show w.heap.size ≤ w.heap.size + 1 + 1 by omega) (.int .i64 x'.fr)
  replace hO := hO.put 2 (.int .i64 x'.to_)
  replace hA := hA.other (b' := w.heap.size + 1 + 1) (by omega) 2 (.int .i64 x'.to_)
  replace hR := hR.other (b' := w.heap.size + 1 + 1) (by omega) 2 (.int .i64 x'.to_)
  replace o1 := o1.put (p := ⟨w.heap.size + 1 + 1, 2, none⟩) (show w.heap.size + 1 + 1 < w.heap.size + 3 by omega) (.int .i64 x'.to_)
  replace u := u.setCell (p := ⟨w.heap.size + 1 + 1, 2, none⟩) (show w.heap.size ≤ w.heap.size + 1 + 1 by omega) (.int .i64 x'.to_)
  replace hO := hO.put 3 (.slice x'.ps.A x'.ps.l.length x'.ps.c)
  replace hA := hA.other (b' := w.heap.size + 1 + 1) (by omega) 3 (.slice x'.ps.A x'.ps.l.length x'.ps.c)
  replace hR := hR.other (b' := w.heap.size + 1 + 1) (by omega) 3 (.slice x'.ps.A x'.ps.l.length x'.ps.c)
  replace o1 := o1.put (p := ⟨w.heap.size + 1 + 1, 3, none⟩) (show w.heap.size + 1 + 1 < w.heap.size + 3 by omega) (.slice x'.ps.A x'.ps.l.length x'.ps.c)
  replace u := u.setCell (p := ⟨w.heap.size + 1 + 1, 3, none⟩) (show w.heap.size ≤ w.heap.size + 1 + 1 by omega) (.slice x'.ps.A x'.ps.l.length x'.ps.c)
  replace hO := hO.put 4 (.slice x'.ts.A x'.ts.l.length x'.ts.c)
  replace hA := hA.other (b' := w.heap.size + 1 + 1) (by omega) 4 (.slice x'.ts.A x'.ts.l.length x'.ts.c)
  replace hR := hR.other (b' := w.heap.size + 1 + 1) (by omega) 4 (.slice x'.ts.A x'.ts.l.length x'.ts.c)
  replace o1 := o1.put (p := ⟨w.heap.size + 1 + 1, 4, none⟩) (show w.heap.size + 1 + 1 < w.heap.size + 3 by omega) (.slice x'.ts.A x'.ts.l.length x'.ts.c)
  replace u := u.setCell (p := ⟨w.heap.size + 1 + 1, 4, none⟩) (show w.heap.size ≤ w.heap.size + 1 + 1 by omega) (.slice x'.ts.A x'.ts.l.length x'.ts.c)
  replace hO := hO.put 5 (.slice x'.pl.A x'.pl.l.length x'.pl.c)
  replace hA := hA.other (b' := w.heap.size + 1 + 1) (by omega) 5 (.slice x'.pl.A x'.pl.l.length x'.pl.c)
  replace hR := hR.other (b' := w.heap.size + 1 + 1) (by omega) 5 (.slice x'.pl.A x'.pl.l.length x'.pl.c)
  replace o1 := o1.put (p := ⟨w.heap.size + 1 + 1, 5, none⟩) (show w.heap.size + 1 + 1 < w.heap.size + 3 by omega) (.slice x'.pl.A x'.pl.l.length x'.pl.c)
  replace u := u.setCell (p := ⟨w.heap.size + 1 + 1, 5, none⟩) (show w.heap.size ≤ w.heap.size + 1 + 1 by omega) (.slice x'.pl.A x'.pl.l.length x'.pl.c)
  replace hO := hO.put 6 (.slice x'.ws.A x'.ws.l.length x'.ws.c)
  replace hA := hA.other (b' := w.heap.size + 1 + 1) (by omega) 6 (.slice x'.ws.A x'.ws.l.length x'.ws.c)
  replace hR := hR.other (b' := w.heap.size + 1 + 1) (by omega) 6 (.slice x'.ws.A x'.ws.l.length x'.ws.c)
  replace o1 := o1.put (p := ⟨w.heap.size + 1 + 1, 6, none⟩) (show w.heap.size + 1 + 1 < w.heap.size + 3 by omega) (.slice x'.ws.A x'.ws.l.length x'.ws.c)
  replace u := u.setCell (p := ⟨w.heap.size + 1 + 1, 6, none⟩) (show w.heap.size ≤ w.heap.size + 1 + 1 by omega) (.slice x'.ws.A x'.ws.l.length x'.ws.c)
  replace hO := hO.put 7 (.slice x'.st.A x'.st.l.length x'.st.c)
  replace hA := hA.other (b' := w.heap.size + 1 + 1) (by omega) 7 (.slice x'.st.A x'.st.l.length x'.st.c)
  replace hR := hR.other (b' := w.heap.size + 1 + 1) (by omega) 7 (.slice x'.st.A x'.st.l.length x'.st.c)
  replace o1 := o1.put (p := ⟨w.heap.size + 1 + 1, 7, none⟩) (show w.heap.size + 1 + 1 < w.heap.size + 3 by omega) (.slice x'.st.A x'.st.l.length x'.st.c)
  replace u := u.setCell (p := ⟨w.heap.size + 1 + 1, 7, none⟩) (show w.heap.size ≤ w.heap.size + 1 + 1 by omega) (.slice x'.st.A x'.st.l.length x'.st.c)
  replace hO := hO.put 8 (.slice x'.se.A x'.se.l.length x'.se.c)
  replace hA := hA.other (b' := w.heap.size + 1 + 1) (by omega) 8 (.slice x'.se.A x'.se.l.length x'.se.c)
  replace hR := hR.other (b' := w.heap.size + 1 + 1) (by omega) 8 (.slice x'.se.A x'.se.l.length x'.se.c)
  replace o1 := o1.put (p := ⟨w.heap.size + 1 + 1, 8, none⟩) (show w.heap.size + 1 + 1 < w.heap.size + 3 by omega) (.slice x'.se.A x'.se.l.length x'.se.c)
  replace u := u.setCell (p := ⟨w.heap.size + 1 + 1, 8, none⟩) (show w.heap.size ≤ w.heap.size + 1 + 1 by omega) (.slice x'.se.A x'.se.l.length x'.se.c)
  replace hO := hO.put 9 (.slice x'.ha.A x'.ha.l.length x'.ha.c)
  replace hA := hA.other (b' := w.heap.size + 1 + 1) (by omega) 9 (.slice x'.ha.A x'.ha.l.length x'.ha.c)
  replace hR := hR.other (b' := w.heap.size + 1 + 1) (by omega) 9 (.slice x'.ha.A x'.ha.l.length x'.ha.c)
  replace o1 := o1.put (p := ⟨w.heap.size + 1 + 1, 9, none⟩) (show w.heap.size + 1 + 1 < w.heap.size + 3 by omega) (.slice x'.ha.A x'.ha.l.length x'.ha.c)
  replace u := u.setCell (p := ⟨w.heap.size + 1 + 1, 9, none⟩) (show w.heap.size ≤ w.heap.size + 1 + 1 by omega) (.slice x'.ha.A x'.ha.l.length x'.ha.c)
  have hsz : w.heap.size + 3 ≤ ((((((((((v1.setCell ⟨w.heap.size + 1 + 1, 0, none⟩ (.slice x'.rs.A x'.rs.l.length x'.rs.c)).setCell ⟨w.heap.size + 1 + 1, 1, none⟩ (.int .i64 x'.fr)).setCell ⟨w.heap.size + 1 + 1, 2, none⟩ (.int .i64 x'.to_)).setCell ⟨w.heap.size + 1 + 1, 3, none⟩ (.slice x'.ps.A x'.ps.l.length x'.ps.c)).setCell ⟨w.heap.size + 1 + 1, 4, none⟩ (.slice x'.ts.A x'.ts.l.length x'.ts.c)).setCell ⟨w.heap.size + 1 + 1, 5, none⟩ (.slice x'.pl.A x'.pl.l.length x'.pl.c)).setCell ⟨w.heap.size + 1 + 1, 6, none⟩ (.slice x'.ws.A x'.ws.l.length x'.ws.c)).setCell ⟨w.heap.size + 1 + 1, 7, none⟩ (.slice x'.st.A x'.st.l.length x'.st.c)).setCell ⟨w.heap.size + 1 + 1, 8, none⟩ (.slice x'.se.A x'.se.l.length x'.se.c)).setCell ⟨w.heap.size + 1 + 1, 9, none⟩ (.slice x'.ha.A x'.ha.l.length x'.ha.c)).heap.size := by simpa using hsz
  go_wp2_with fail
  generalize ((((((((((v1.setCell ⟨w.heap.size + 1 + 1, 0, none⟩ (.slice x'.rs.A x'.rs.l.length x'.rs.c)).setCell ⟨w.heap.size + 1 + 1, 1, none⟩ (.int .i64 x'.fr)).setCell ⟨w.heap.size + 1 + 1, 2, none⟩ (.int .i64 x'.to_)).setCell ⟨w.heap.size + 1 + 1, 3, none⟩ (.slice x'.ps.A x'.ps.l.length x'.ps.c)).setCell ⟨w.heap.size + 1 + 1, 4, none⟩ (.slice x'.ts.A x'.ts.l.length x'.ts.c)).setCell ⟨w.heap.size + 1 + 1, 5, none⟩ (.slice x'.pl.A x'.pl.l.length x'.pl.c)).setCell ⟨w.heap.size + 1 + 1, 6, none⟩ (.slice x'.ws.A x'.ws.l.length x'.ws.c)).setCell ⟨w.heap.size + 1 + 1, 7, none⟩ (.slice x'.st.A x'.st.l.length x'.st.c)).setCell ⟨w.heap.size + 1 + 1, 8, none⟩ (.slice x'.se.A x'.se.l.length x'.se.c)).setCell ⟨w.heap.size + 1 + 1, 9, none⟩ (.slice x'.ha.A x'.ha.l.length x'.ha.c)) = w1 at *
  refine (toDeedS_any s lo hi _ (h2.up u)).mono ?_
  rintro e v2 ⟨s', rfl, e2, o2, v⟩
  have E2 := Lib.hid e2
  clear e2
  replace o1 := o1.up v
  replace o2 := o2.base (b' := w.heap.size + 3) hsz
  replace u := u.trans v
  replace hA := hA.up v
  replace hR := hR.up v
  replace hO := hO.up v
  replace hsz := Nat.le_trans hsz v.size
  clear v
  obtain ⟨x0, x1, x2, x3, x4, x5, x6, x7, x8, x9, x10, x11, x12⟩ := hA.c13
  obtain ⟨y0, y1, y2, y3, y4, y5, y6, y7, y8, y9, y10, y11, y12⟩ := hO.c13
  obtain ⟨f0, f1, f2, f3, f4, f5, f6, f7, f8, f9, f10, f11, f12⟩ := hO.f13
  obtain ⟨z0, z1, z2, z3, z4, z5, z6, z7, z8, z9, z10, z11, z12⟩ := hR.c13
  obtain ⟨g0, g1, g2, g3, g4, g5, g6, g7, g8, g9, g10, g11, g12⟩ := hR.f13
  replace hO := hO.put 10 (.slice s'.A s'.l.length s'.c)
  replace hA := hA.other (b' := w.heap.size + 1 + 1) (by omega) 10 (.slice s'.A s'.l.length s'.c)
  replace hR := hR.other (b' := w.heap.size + 1 + 1) (by omega) 10 (.slice s'.A s'.l.length s'.c)
  replace o1 := o1.put (p := ⟨w.heap.size + 1 + 1, 10, none⟩) (show w.heap.size + 1 + 1 < w.heap.size + 3 by omega) (.slice s'.A s'.l.length s'.c)
  replace o2 := o2.put (p := ⟨w.heap.size + 1 + 1, 10, none⟩) (show w.heap.size + 1 + 1 < w.heap.size + 3 by omega) (.slice s'.A s'.l.length s'.c)
  replace u := u.setCell (p := ⟨w.heap.size + 1 + 1, 10, none⟩) (show w.heap.size ≤ w.heap.size + 1 + 1 by omega) (.slice s'.A s'.l.length s'.c)
  have hsz : w.heap.size + 3 ≤ (v2.setCell ⟨w.heap.size + 1 + 1, 10, none⟩ (.slice s'.A s'.l.length s'.c)).heap.size := by simpa using hsz
  go_wp2_with fail
  generalize (v2.setCell ⟨w.heap.size + 1 + 1, 10, none⟩ (.slice s'.A s'.l.length s'.c)) = w2 at *
  refine (toFormS_w g lo hi _ (h3.up u)).mono ?_
  rintro e v3 ⟨g', rfl, e3, o3, v⟩
  have E3 := Lib.hid e3
  clear e3
  replace o1 := o1.up v
  replace o2 := o2.up v
  replace o3 := o3.base (b' := w.heap.size + 3) hsz
  replace u := u.trans v
  replace hA := hA.up v
  replace hR := hR.up v
  replace hO := hO.up v
  replace hsz := Nat.le_trans hsz v.size
  clear v
  obtain ⟨x0, x1, x2, x3, x4, x5, x6, x7, x8, x9, x10, x11, x12⟩ := hA.c13
  obtain ⟨y0, y1, y2, y3, y4, y5, y6, y7, y8, y9, y10, y11, y12⟩ := hO.c13
  obtain ⟨f0, f1, f2, f3, f4, f5, f6, f7, f8, f9, f10, f11, f12⟩ := hO.f13
  obtain ⟨z0, z1, z2, z3, z4, z5, z6, z7, z8, z9, z10, z11, z12⟩ := hR.c13
  obtain ⟨g0, g1, g2, g3, g4, g5, g6, g7, g8, g9, g10, g11, g12⟩ := hR.f13
  replace hO := hO.put 11 (.slice g'.A g'.l.length g'.c)
  replace hA := hA.other (b' := w.heap.size + 1 + 1) (by omega) 11 (.slice g'.A g'.l.length g'.c)
  replace hR := hR.other (b' := w.heap.size + 1 + 1) (by omega) 11 (.slice g'.A g'.l.length g'.c)
  replace o1 := o1.put (p := ⟨w.heap.size + 1 + 1, 11, none⟩) (show w.heap.size + 1 + 1 < w.heap.size + 3 by omega) (.slice g'.A g'.l.length g'.c)
  replace o2 := o2.put (p := ⟨w.heap.size + 1 + 1, 11, none⟩) (show w.heap.size + 1 + 1 < w.heap.size + 3 by omega) (.slice g'.A g'.l.length g'.c)
  replace o3 := o3.put (p := ⟨w.heap.size + 1 + 1, 11, none⟩) (show w.heap.size + 1 + 1 < w.heap.size + 3 by omega) (.slice g'.A g'.l.length g'.c)
  replace u := u.setCell (p := ⟨w.heap.size + 1 + 1, 11, none⟩) (show w.heap.size ≤ w.heap.size + 1 + 1 by omega) (.slice g'.A g'.l.length g'.c)
  have hsz : w.heap.size + 3 ≤ (v3.setCell ⟨w.heap.size + 1 + 1, 11, none⟩ (.slice g'.A g'.l.length g'.c)).heap.size := by simpa using hsz
  go_wp2_with fail
  generalize (v3.setCell ⟨w.heap.size + 1 + 1, 11, none⟩ (.slice g'.A g'.l.length g'.c)) = w3 at *
  refine (toStringSS_any q lo hi _ (h4.up u)).mono ?_
  rintro e v4 ⟨q', rfl, e4, o4, v⟩
  have E4 := Lib.hid e4
  clear e4
  replace o1 := o1.up v
  replace o2 := o2.up v
  replace o3 := o3.up v
  replace o4 := o4.base (b' := w.heap.size + 3) hsz
  replace u := u.trans v
  replace hA := hA.up v
  replace hR := hR.up v
  replace hO := hO.up v
  replace hsz := Nat.le_trans hsz v.size
  clear v
  obtain ⟨x0, x1, x2, x3, x4, x5, x6, x7, x8, x9, x10, x11, x12⟩ := hA.c13
  obtain ⟨y0, y1, y2, y3, y4, y5, y6, y7, y8, y9, y10, y11, y12⟩ := hO.c13
  obtain ⟨f0, f1, f2, f3, f4, f5, f6, f7, f8, f9, f10, f11, f12⟩ := hO.f13
  obtain ⟨z0, z1, z2, z3, z4, z5, z6, z7, z8, z9, z10, z11, z12⟩ := hR.c13
  obtain ⟨g0, g1, g2, g3, g4, g5, g6, g7, g8, g9, g10, g11, g12⟩ := hR.f13
  go_wp2
  refine bodyPost_ret (v := .agg #[.slice x'.rs.A x'.rs.l.length x'.rs.c, .int .i64 x'.fr, .int .i64 x'.to_, .slice x'.ps.A x'.ps.l.length x'.ps.c, .slice x'.ts.A x'.ts.l.length x'.ts.c, .slice x'.pl.A x'.pl.l.length x'.pl.c, .slice x'.ws.A x'.ws.l.length x'.ws.c, .slice x'.st.A x'.st.l.length x'.st.c, .slice x'.se.A x'.se.l.length x'.se.c, .slice x'.ha.A x'.ha.l.length x'.ha.c, .slice s'.A s'.l.length s'.c, .slice g'.A g'.l.length g'.c, .slice q'.A q'.l.length q'.c]) (by simp [results, Tryz.results12, go_sem, z0, z1, z2, z3, z4, z5, z6, z7, z8, z9, z10, z11, z12]) rfl ?_
  refine ⟨x', s', g', q', rfl, E1.out, E2.out, E3.out, E4.out, ?_, ?_, ?_, ?_, ?_⟩
  · refine OwW.base (b := w.heap.size + 3) ?_ (by omega)
    iterate 14 refine OwW.put ?_ (by first | (simp; done) | (simp; omega)) _
    exact o1
  · refine OwDd.base (b := w.heap.size + 3) ?_ (by omega)
    iterate 14 refine OwDd.put ?_ (by first | (simp; done) | (simp; omega)) _
    exact o2
  · refine OwFm.base (b := w.heap.size + 3) ?_ (by omega)
    iterate 14 refine OwFm.put ?_ (by first | (simp; done) | (simp; omega)) _
    exact o3
  · refine OwPh.base (b := w.heap.size + 3) ?_ (by omega)
    iterate 14 refine OwPh.put ?_ (by first | (simp; done) | (simp; omega)) _
    exact o4
  · iterate 14 refine Up.setCell ?_ (by first | (simp; done) | (simp; omega)) _
    exact u
set_option maxRecDepth 100000 in
set_option maxHeartbeats 2000000 in
theorem eqEvidence_p (x : Wd) (s : Sl Dd) (g : Sl Fm) (q : Sl (Sl ByteArray)) (x' : Wd) (s' : Sl Dd) (g' : Sl Fm) (q' : Sl (Sl ByteArray)) (lo hi lo' hi' : Nat) (w : World) (h1 : RdW w lo hi x) (h2 : RdDd w lo hi s) (h3 : SrF w lo hi g) (h4 : SrPh w lo hi q) (k1 : RdW w lo' hi' x') (k2 : RdDd w lo' hi' s') (k3 : SrF w lo' hi' g') (k4 : SrPh w lo' hi' q') (e1 : x'.p = x.p) (e2 : s'.l.map Dd.p = s.l.map Dd.p) (e3 : g'.l.map Fm.p = g.l.map Fm.p) (e4 : phP q'.l = phP q.l) :
    Calls Tryz.prog 14 #[.agg #[.slice x.rs.A x.rs.l.length x.rs.c, .int .i64 x.fr, .int .i64 x.to_, .slice x.ps.A x.ps.l.length x.ps.c, .slice x.ts.A x.ts.l.length x.ts.c, .slice x.pl.A x.pl.l.length x.pl.c, .slice x.ws.A x.ws.l.length x.ws.c, .slice x.st.A x.st.l.length x.st.c, .slice x.se.A x.se.l.length x.se.c, .slice x.ha.A x.ha.l.length x.ha.c, .slice s.A s.l.length s.c, .slice g.A g.l.length g.c, .slice q.A q.l.length q.c], .agg #[.slice x'.rs.A x'.rs.l.length x'.rs.c, .int .i64 x'.fr, .int .i64 x'.to_, .slice x'.ps.A x'.ps.l.length x'.ps.c, .slice x'.ts.A x'.ts.l.length x'.ts.c, .slice x'.pl.A x'.pl.l.length x'.pl.c, .slice x'.ws.A x'.ws.l.length x'.ws.c, .slice x'.st.A x'.st.l.length x'.st.c, .slice x'.se.A x'.se.l.length x'.se.c, .slice x'.ha.A x'.ha.l.length x'.ha.c, .slice s'.A s'.l.length s'.c, .slice g'.A g'.l.length g'.c, .slice q'.A q'.l.length q'.c]] w fun e w' => e = .returned (.bool true) ∧ Up w w' := by
  have E1 := Lib.hid e1
  have E2 := Lib.hid e2
  have E3 := Lib.hid e3
  have E4 := Lib.hid e4
  clear e1 e2 e3 e4
  have u : Up w ((w.alloc (.cells #[.slice x.rs.A x.rs.l.length x.rs.c, .int .i64 x.fr, .int .i64 x.to_, .slice x.ps.A x.ps.l.length x.ps.c, .slice x.ts.A x.ts.l.length x.ts.c, .slice x.pl.A x.pl.l.length x.pl.c, .slice x.ws.A x.ws.l.length x.ws.c, .slice x.st.A x.st.l.length x.st.c, .slice x.se.A x.se.l.length x.se.c, .slice x.ha.A x.ha.l.length x.ha.c, .slice s.A s.l.length s.c, .slice g.A g.l.length g.c, .slice q.A q.l.length q.c] 72)).alloc (.cells #[.slice x'.rs.A x'.rs.l.length x'.rs.c, .int .i64 x'.fr, .int .i64 x'.to_, .slice x'.ps.A x'.ps.l.length x'.ps.c, .slice x'.ts.A x'.ts.l.length x'.ts.c, .slice x'.pl.A x'.pl.l.length x'.pl.c, .slice x'.ws.A x'.ws.l.length x'.ws.c, .slice x'.st.A x'.st.l.length x'.st.c, .slice x'.se.A x'.se.l.length x'.se.c, .slice x'.ha.A x'.ha.l.length x'.ha.c, .slice s'.A s'.l.length s'.c, .slice g'.A g'.l.length g'.c, .slice q'.A q'.l.length q'.c] 72)) := (Up.alloc w _).allocs _
  have hX := (Bx.new w #[.slice x.rs.A x.rs.l.length x.rs.c, .int .i64 x.fr, .int .i64 x.to_, .slice x.ps.A x.ps.l.length x.ps.c, .slice x.ts.A x.ts.l.length x.ts.c, .slice x.pl.A x.pl.l.length x.pl.c, .slice x.ws.A x.ws.l.length x.ws.c, .slice x.st.A x.st.l.length x.st.c, .slice x.se.A x.se.l.length x.se.c, .slice x.ha.A x.ha.l.length x.ha.c, .slice s.A s.l.length s.c, .slice g.A g.l.length g.c, .slice q.A q.l.length q.c] 72).up (Up.alloc _ (.cells #[.slice x'.rs.A x'.rs.l.length x'.rs.c, .int .i64 x'.fr, .int .i64 x'.to_, .slice x'.ps.A x'.ps.l.length x'.ps.c, .slice x'.ts.A x'.ts.l.length x'.ts.c, .slice x'.pl.A x'.pl.l.length x'.pl.c, .slice x'.ws.A x'.ws.l.length x'.ws.c, .slice x'.st.A x'.st.l.length x'.st.c, .slice x'.se.A x'.se.l.length x'.se.c, .slice x'.ha.A x'.ha.l.length x'.ha.c, .slice s'.A s'.l.length s'.c, .slice g'.A g'.l.length g'.c, .slice q'.A q'.l.length q'.c] 72))
  have hY : Bx ((w.alloc (.cells #[.slice x.rs.A x.rs.l.length x.rs.c, .int .i64 x.fr, .int .i64 x.to_, .slice x.ps.A x.ps.l.length x.ps.c, .slice x.ts.A x.ts.l.length x.ts.c, .slice x.pl.A x.pl.l.length x.pl.c, .slice x.ws.A x.ws.l.length x.ws.c, .slice x.st.A x.st.l.length x.st.c, .slice x.se.A x.se.l.length x.se.c, .slice x.ha.A x.ha.l.length x.ha.c, .slice s.A s.l.length s.c, .slice g.A g.l.length g.c, .slice q.A q.l.length q.c] 72)).alloc (.cells #[.slice x'.rs.A x'.rs.l.length x'.rs.c, .int .i64 x'.fr, .int .i64 x'.to_, .slice x'.ps.A x'.ps.l.length x'.ps.c, .slice x'.ts.A x'.ts.l.length x'.ts.c, .slice x'.pl.A x'.pl.l.length x'.pl.c, .slice x'.ws.A x'.ws.l.length x'.ws.c, .slice x'.st.A x'.st.l.length x'.st.c, .slice x'.se.A x'.se.l.length x'.se.c, .slice x'.ha.A x'.ha.l.length x'.ha.c, .slice s'.A s'.l.length s'.c, .slice g'.A g'.l.length g'.c, .slice q'.A q'.l.length q'.c] 72)) (w.heap.size + 1) [.slice x'.rs.A x'.rs.l.length x'.rs.c, .int .i64 x'.fr, .int .i64 x'.to_, .slice x'.ps.A x'.ps.l.length x'.ps.c, .slice x'.ts.A x'.ts.l.length x'.ts.c, .slice x'.pl.A x'.pl.l.length x'.pl.c, .slice x'.ws.A x'.ws.l.length x'.ws.c, .slice x'.st.A x'.st.l.length x'.st.c, .slice x'.se.A x'.se.l.length x'.se.c, .slice x'.ha.A x'.ha.l.length x'.ha.c, .slice s'.A s'.l.length s'.c, .slice g'.A g'.l.length g'.c, .slice q'.A q'.l.length q'.c] := by
    have := Bx.new (w.alloc (.cells #[.slice x.rs.A x.rs.l.length x.rs.c, .int .i64 x.fr, .int .i64 x.to_, .slice x.ps.A x.ps.l.length x.ps.c, .slice x.ts.A x.ts.l.length x.ts.c, .slice x.pl.A x.pl.l.length x.pl.c, .slice x.ws.A x.ws.l.length x.ws.c, .slice x.st.A x.st.l.length x.st.c, .slice x.se.A x.se.l.length x.se.c, .slice x.ha.A x.ha.l.length x.ha.c, .slice s.A s.l.length s.c, .slice g.A g.l.length g.c, .slice q.A q.l.length q.c] 72)) #[.slice x'.rs.A x'.rs.l.length x'.rs.c, .int .i64 x'.fr, .int .i64 x'.to_, .slice x'.ps.A x'.ps.l.length x'.ps.c, .slice x'.ts.A x'.ts.l.length x'.ts.c, .slice x'.pl.A x'.pl.l.length x'.pl.c, .slice x'.ws.A x'.ws.l.length x'.ws.c, .slice x'.st.A x'.st.l.length x'.st.c, .slice x'.se.A x'.se.l.length x'.se.c, .slice x'.ha.A x'.ha.l.length x'.ha.c, .slice s'.A s'.l.length s'.c, .slice g'.A g'.l.length g'.c, .slice q'.A q'.l.length q'.c] 72
    simpa using this
  go_enter Tryz.func14, Tryz.ntmps14
  go_wp2_with fail
  generalize (w.alloc (.cells #[.slice x.rs.A x.rs.l.length x.rs.c, .int .i64 x.fr, .int .i64 x.to_, .slice x.ps.A x.ps.l.length x.ps.c, .slice x.ts.A x.ts.l.length x.ts.c, .slice x.pl.A x.pl.l.length x.pl.c, .slice x.ws.A x.ws.l.length x.ws.c, .slice x.st.A x.st.l.length x.st.c, .slice x.se.A x.se.l.length x.se.c, .slice x.ha.A x.ha.l.length x.ha.c, .slice s.A s.l.length s.c, .slice g.A g.l.length g.c, .slice q.A q.l.length q.c] 72)).alloc (.cells #[.slice x'.rs.A x'.rs.l.length x'.rs.c, .int .i64 x'.fr, .int .i64 x'.to_, .slice x'.ps.A x'.ps.l.length x'.ps.c, .slice x'.ts.A x'.ts.l.length x'.ts.c, .slice x'.pl.A x'.pl.l.length x'.pl.c, .slice x'.ws.A x'.ws.l.length x'.ws.c, .slice x'.st.A x'.st.l.length x'.st.c, .slice x'.se.A x'.se.l.length x'.se.c, .slice x'.ha.A x'.ha.l.length x'.ha.c, .slice s'.A s'.l.length s'.c, .slice g'.A g'.l.length g'.c, .slice q'.A q'.l.length q'.c] 72) = w0 at *
  refine (eqWorld_p x x' lo hi lo' hi' _ (h1.up u) (k1.up u) E1.out).mono ?_
  rintro e w1 ⟨rfl, v⟩
  replace u := u.trans v
  replace hX := hX.up v
  replace hY := hY.up v
  clear v
  obtain ⟨x0, x1, x2, x3, x4, x5, x6, x7, x8, x9, x10, x11, x12⟩ := hX.c13
  obtain ⟨y0, y1, y2, y3, y4, y5, y6, y7, y8, y9, y10, y11, y12⟩ := hY.c13
  go_wp2_with fail
  refine (eqDeedS_p s s' lo hi lo' hi' _ (h2.up u) (k2.up u) E2.out).mono ?_
  rintro e w2 ⟨rfl, v⟩
  replace u := u.trans v
  replace hX := hX.up v
  replace hY := hY.up v
  clear v
  obtain ⟨x0, x1, x2, x3, x4, x5, x6, x7, x8, x9, x10, x11, x12⟩ := hX.c13
  obtain ⟨y0, y1, y2, y3, y4, y5, y6, y7, y8, y9, y10, y11, y12⟩ := hY.c13
  go_wp2_with fail
  refine (eqFormS_p g g' lo hi lo' hi' _ (h3.up u) (k3.up u) E3.out).mono ?_
  rintro e w3 ⟨rfl, v⟩
  replace u := u.trans v
  replace hX := hX.up v
  replace hY := hY.up v
  clear v
  obtain ⟨x0, x1, x2, x3, x4, x5, x6, x7, x8, x9, x10, x11, x12⟩ := hX.c13
  obtain ⟨y0, y1, y2, y3, y4, y5, y6, y7, y8, y9, y10, y11, y12⟩ := hY.c13
  go_wp2_with fail
  refine (eqStringSS_p q q' lo hi lo' hi' _ (h4.up u) (k4.up u) E4.out).mono ?_
  rintro e w4 ⟨rfl, v⟩
  replace u := u.trans v
  replace hX := hX.up v
  replace hY := hY.up v
  clear v
  obtain ⟨x0, x1, x2, x3, x4, x5, x6, x7, x8, x9, x10, x11, x12⟩ := hX.c13
  obtain ⟨y0, y1, y2, y3, y4, y5, y6, y7, y8, y9, y10, y11, y12⟩ := hY.c13
  go_wp2
  go_ret
  exact ⟨rfl, u⟩
end Go.Proofs.YtblndbblcoghpaaGreatDoor
