/- What it is to be a chancery, people, a land with an itinerary, marks, a dating, deeds: plain tests on plain data. slices.IndexFunc and ContainsFunc over structs, whatever function is handed in, as long as it answers a plain test and leaves old memory alone. Reigns and chanceries by the reference. Marks, people and lands by the reference. People by the reference. The calendar in plain Lean: days and dates by the old rule, Easter, feasts, years of styles and reigns. -/
import Derived.Test.YtblpjjcjnaigiaaGreatDoorVa
import Derived.Test.YtblpjjcjnaigiaaGreatDoorRecs
import Derived.Test.YtblpjjcjnaigiaaGreatDoorVb
import Derived.Test.YtblpjjcjnaigiaaGreatDoorVc
namespace Go.Proofs.YtblpjjcjnaigiaaGreatDoor
open Go.RowKit Go.Sort

/-- a test of each element, with its place -/
def allK {α : Type} (l : List α) (q : Nat → α → Bool) : Bool := (List.range l.length).all fun k => match l[k]? with | some d => q k d | none => true
theorem allK_no {α : Type} {l : List α} {q : Nat → α → Bool} {k : Nat} {d : α} (hd : l[k]? = some d) (h : q k d = false) : allK l q = false := by
  unfold allK
  rw [List.all_eq_false]; exact ⟨k, by simpa using (List.getElem?_eq_some_iff.1 hd).1, by simp [hd, h]⟩
theorem allK_end {α : Type} {l : List α} {q : Nat → α → Bool} (h : ∀ k d, k < l.length → l[k]? = some d → q k d = true) : allK l q = true := by
  unfold allK
  rw [List.all_eq_true]; intro k hk
  have hk' : k < l.length := by simpa using hk
  rw [List.getElem?_eq_getElem hk']; exact h k _ hk' (List.getElem?_eq_getElem hk')
theorem allK_yes {α : Type} {l : List α} {q : Nat → α → Bool} (h : allK l q = true) {k : Nat} {d : α} (hd : l[k]? = some d) : q k d = true := by
  unfold allK at h
  have := List.all_eq_true.1 h k (by simpa using (List.getElem?_eq_some_iff.1 hd).1)
  rwa [hd] at this
/-- a round of such a test -/
theorem allK_step {α : Type} {l : List α} {q : Nat → α → Bool} {k : Nat} {d : α} (h : ∀ j x, j < k → l[j]? = some x → q j x = true) (hd : l[k]? = some d) (hq : q k d = true) : ∀ j x, j < k + 1 → l[j]? = some x → q j x = true := fun j x hj hx => by
  rcases Nat.lt_or_ge j k with h1 | h1
  · exact h j x h1 hx
  · obtain rfl : j = k := by omega
    rw [hd] at hx; cases hx; exact hq
/-- a test of the element before, if there is one -/
def pv {α : Type} (l : List α) (k : Nat) (q : α → Bool) : Bool := match k with | 0 => true | j + 1 => (match l[j]? with | some x => q x | none => true)
theorem pv_s {α : Type} {l : List α} {j : Nat} {q : α → Bool} {x : α} (h : l[j]? = some x) : pv l (j + 1) q = q x := by simp [pv, h]
/-- the first place at which a test is met, or -1 -/
def ixB {α : Type} (l : List α) (p : α → Bool) : Int := match l.findIdx? p with | some i => (i : Int) | none => -1
theorem ixB_yes {α : Type} {l : List α} {p : α → Bool} {k : Nat} {d : α} (hd : l[k]? = some d) (h : p d = true) (hb : ∀ j x, j < k → l[j]? = some x → p x = false) : ixB l p = k := by
  have hk := (List.getElem?_eq_some_iff.1 hd).1
  have : l.findIdx? p = some k := by
    rw [List.findIdx?_eq_some_iff_getElem]
    refine ⟨hk, by rw [(List.getElem?_eq_some_iff.1 hd).2]; exact h, fun j hj => ?_⟩
    have := hb j _ hj (List.getElem?_eq_getElem (by omega))
    simp [this]
  simp [ixB, this]
theorem ixB_no {α : Type} {l : List α} {p : α → Bool} (hb : ∀ j x, j < l.length → l[j]? = some x → p x = false) : ixB l p = -1 := by
  have : l.findIdx? p = none := by
    rw [List.findIdx?_eq_none_iff]
    intro x hx
    obtain ⟨j, hj, e⟩ := List.getElem_of_mem hx
    exact hb j x hj (by rw [List.getElem?_eq_getElem hj, e])
  simp [ixB, this]
theorem ixB_or {α : Type} (l : List α) (p : α → Bool) : (ixB l p = -1 ∧ ∀ x ∈ l, p x = false) ∨ ∃ (k : Nat) (d : α), ixB l p = k ∧ l[k]? = some d ∧ p d = true ∧ ∀ j x, j < k → l[j]? = some x → p x = false := by
  unfold ixB
  rcases h : l.findIdx? p with _ | i
  · left; rw [List.findIdx?_eq_none_iff] at h; exact ⟨rfl, fun x hx => by simpa using h x hx⟩
  · right
    obtain ⟨hk, hp, hb⟩ := List.findIdx?_eq_some_iff_getElem.1 h
    refine ⟨i, _, rfl, List.getElem?_eq_getElem hk, hp, fun j x hj hx => ?_⟩
    have := hb j hj
    rw [(List.getElem?_eq_some_iff.1 hx).2] at this; simpa using this
theorem ixB_any {α : Type} (l : List α) (p : α → Bool) : decide (0 ≤ ixB l p) = l.any p := by
  rcases ixB_or l p with ⟨h, h2⟩ | ⟨k, d, h, hd, hp, _⟩
  · have : l.any p = false := by rw [List.any_eq_false]; intro x hx; simp [h2 x hx]
    rw [h, this]; rfl
  · have : l.any p = true := List.any_eq_true.2 ⟨d, List.mem_of_getElem? hd, hp⟩
    rw [h, this]; simp

def lessB (a b : ByteArray) : Bool := Op.bytesLess a.toList b.toList
/-- a name and its days -/
def rgB (d : Nm) : Bool := nameB d.nm 12 && spanB d.fr d.to_
def arQ (l : List Nm) (k : Nat) (d : Nm) : Bool := rgB d && pv l k fun x => decide (x.fr ≤ d.fr)
def arB (l : List Nm) : Bool := allK l (arQ l) && decide (l.length ≤ 30)
def chB (l : List Nm) (fr to_ : Int) : Bool := arB l && (dayB fr && (dayB to_ && (decide (fr ≤ to_) && decide (to_ - fr ≤ 20000))))
def pix (l : List Nm) (s : ByteArray) : Int := ixB l fun x => x.nm.toList == s.toList
def psQ (l : List Nm) (k : Nat) (d : Nm) : Bool := rgB d && pv l k fun x => lessB x.nm d.nm
def tmB (l : List Nm) (t : Tm) : Bool := nameB t.of_ 12 && (match l.find? (fun x => x.nm.toList == t.pe.toList) with | some x => spanB t.fr t.to_ && (decide (x.fr ≤ t.fr) && decide (t.to_ ≤ x.to_)) | none => false)
def ppB (l : List Nm) (ts : List Tm) : Bool := (decide (l.length ≤ 40) && decide (ts.length ≤ 60)) && (allK l (psQ l) && ts.all (tmB l))
def wyB (n : Nat) (w : I3) : Bool := inB w.a 0 (n - 1) && (inB w.b 0 (n - 1) && ((w.a != w.b) && inB w.d 1 60))
def plQ (l : List ByteArray) (k : Nat) (s : ByteArray) : Bool := nameB s 12 && !(l.take k).any fun x => x.toList == s.toList
def ldB (pl : List ByteArray) (ws : List I3) : Bool := (decide (1 ≤ pl.length) && (decide (pl.length ≤ 12) && decide (ws.length ≤ 40))) && (allK pl (plQ pl) && ws.all (wyB pl.length))
def syB (n : Nat) (s : I3) : Bool := inB s.a 0 (n - 1) && spanB s.b s.d
def gapB (ws : List I3) (n : Nat) (s x : I3) : Bool := decide (fw ws n x.a.toNat s.a.toNat < 1000000) && (decide (x.d < s.b) && decide (x.d + fw ws n x.a.toNat s.a.toNat ≤ s.b))
def stQ (ws : List I3) (n : Nat) (l : List I3) (k : Nat) (s : I3) : Bool := syB n s && pv l k (gapB ws n s)
def itB (pl : List ByteArray) (ws st : List I3) : Bool := ldB pl ws && (decide (st.length ≤ 40) && allK st (stQ ws pl.length st))
def amQ (l : List Nm) (k : Nat) (d : Nm) : Bool := rgB d && pv l k fun x => lessB x.nm d.nm || (x.nm.toList == d.nm.toList && decide (x.fr < d.fr))
def amB (l : List Nm) : Bool := allK l (amQ l) && decide (l.length ≤ 40)
def wdB (x : Pw) : Bool := chB x.rs x.fr x.to_ && (ppB x.ps x.ts && (itB x.pl x.ws x.st && (amB x.se && amB x.ha)))
/-- a month and a day of a year with a day more -/
def mdB (m d : Int) : Bool := inB m 1 12 && inB d 1 (if m = 2 then 29 else if m = 4 ∨ m = 6 ∨ m = 9 ∨ m = 11 then 30 else 31)
def rlB (f r w : Int) : Bool := inB f 0 19 && (inB r 0 4 && (inB w 0 6 && (decide (3 ≤ r) || decide (w = 0))))
def z0 (i : Int) : Bool := decide (i = 0)
def zs (s : ByteArray) : Bool := decide (s.toList = [])
def clB (c : Cl) : Bool :=
  if c.ki = 0 then z0 c.fe && (z0 c.re_ && (z0 c.wk && (z0 c.sy && (zs c.kg && mdB c.mo c.nu))))
  else if c.ki = 1 then z0 c.nu && (z0 c.mo && (z0 c.sy && (zs c.kg && rlB c.fe c.re_ c.wk)))
  else if c.ki = 2 then z0 c.mo && (z0 c.fe && (z0 c.re_ && (z0 c.wk && (z0 c.sy && (inB c.nu 1 99 && nameB c.kg 12)))))
  else if c.ki = 3 then z0 c.mo && (z0 c.fe && (z0 c.re_ && (z0 c.wk && (zs c.kg && (inB c.nu 2 1999 && inB c.sy 0 6)))))
  else if c.ki = 4 then z0 c.mo && (z0 c.fe && (z0 c.re_ && (z0 c.wk && (zs c.kg && (inB c.nu 1 15 && inB c.sy 0 2)))))
  else if c.ki = 5 then z0 c.nu && (z0 c.mo && (z0 c.fe && (z0 c.re_ && (z0 c.sy && (zs c.kg && inB c.wk 0 6)))))
  else false
def dtB (l : List Cl) : Bool := decide (l.length ≤ 8) && l.all clB
def nmIn (l : List Nm) (s : ByteArray) : Bool := l.any fun x => x.nm.toList == s.toList
def ddIn (l : List Pd) (s : ByteArray) : Bool := l.any fun x => x.nm.toList == s.toList
def ctQ (l : List Pd) (d : Pd) (k : Nat) (s : ByteArray) : Bool := (!(s.toList == d.nm.toList)) && (ddIn l s && !(d.ci.take k).any fun x => x.toList == s.toList)
/-- a deed of a list, but for its name's being no earlier one's -/
def d0B (w : Pw) (l : List Pd) (d : Pd) : Bool :=
  (nameB d.nm 12 && (dtB d.da && ((decide (d.wi.length ≤ 12) && d.wi.all fun x => nmIn w.ps x.pe) && decide (d.ci.length ≤ 8)))) &&
  (((d.pl.toList == []) || w.pl.any fun x => x.toList == d.pl.toList) && (((d.se.toList == []) || nmIn w.se d.se) && ((d.ha.toList == []) || nmIn w.ha d.ha))) && allK d.ci (ctQ l d)
def ddQ (w : Pw) (l : List Pd) (k : Nat) (d : Pd) : Bool := d0B w l d && !ddIn (l.take k) d.nm
def dsB (w : Pw) (l : List Pd) : Bool := wdB w && (decide (l.length ≤ 8) && allK l (ddQ w l))

theorem less_irr : ∀ l : List UInt8, Op.bytesLess l l = false
  | [] => rfl
  | a :: l => by simp [Op.bytesLess, less_irr l]
theorem less_tri : ∀ (x y : List UInt8), Op.bytesLess x y = false → Op.bytesLess y x = false → x = y
  | [], [], _, _ => rfl
  | [], _ :: _, h, _ => by simp [Op.bytesLess] at h
  | _ :: _, [], _, h => by simp [Op.bytesLess] at h
  | a :: x, b :: y, h, k => by
    simp only [Op.bytesLess, Bool.or_eq_false_iff, decide_eq_false_iff_not, Bool.and_eq_false_iff, beq_eq_false_iff_ne] at h k
    have e : a = b := UInt8.le_antisymm (UInt8.not_lt.1 k.1) (UInt8.not_lt.1 h.1)
    subst e
    have h1 : Op.bytesLess x y = false := by simpa using h.2
    have k1 : Op.bytesLess y x = false := by simpa using k.2
    rw [less_tri x y h1 k1]
theorem less_asym : ∀ (x y : List UInt8), Op.bytesLess x y = true → Op.bytesLess y x = false
  | [], [], h => by simp [Op.bytesLess] at h
  | [], _ :: _, _ => rfl
  | _ :: _, [], h => by simp [Op.bytesLess] at h
  | a :: x, b :: y, h => by
    simp only [Op.bytesLess, Bool.or_eq_true, decide_eq_true_eq, Bool.and_eq_true, beq_iff_eq] at h
    simp only [Op.bytesLess, Bool.or_eq_false_iff, decide_eq_false_iff_not, Bool.and_eq_false_iff, beq_eq_false_iff_ne]
    rcases h with h | ⟨rfl, h⟩
    · exact ⟨UInt8.not_lt.2 (UInt8.le_of_lt h), .inl (fun e => by subst e; exact UInt8.lt_irrefl _ h)⟩
    · exact ⟨UInt8.lt_irrefl _, .inr (less_asym x y h)⟩
theorem unL_nil {l : List Sp} : unL l = [] ↔ l = [] := by
  constructor
  · intro h
    rcases l with _ | ⟨s, l⟩
    · rfl
    · exfalso
      have hne : ∀ (m o : List Sp), (o ≠ [] ∨ m ≠ []) → m.foldl stpS o ≠ [] := by
        intro m
        induction m with
        | nil => intro o ho; rcases ho with h | h; exact h; exact absurd rfl h
        | cons x m ih =>
          intro o _
          refine ih _ (.inl ?_)
          rcases List.eq_nil_or_concat o with rfl | ⟨o, z, rfl⟩
          · simp [stpS_nil]
          · rw [List.concat_eq_append, stpS_snoc]; split <;> simp
      refine hne (srtS (s :: l)) [] (.inr (fun e => ?_)) h
      have := srtS_len (s :: l)
      rw [e] at this; simp at this
  · rintro rfl; rfl
end Go.Proofs.YtblpjjcjnaigiaaGreatDoor

namespace Go.Proofs.YtblpjjcjnaigiaaGreatDoor
open Go.RowKit Go.Sort

/-- what a function value answers, in every world that has only grown since w -/
def AnsNm (w : World) (f : FuncId) (caps : Array Value) (p : Nm → Bool) (l : List (Nm)) : Prop :=
  ∀ d ∈ l, ∀ w1, Up w w1 → Calls Tryz.prog f (#[d.val] ++ caps) w1 fun e w2 => e = .returned (.bool (p d)) ∧ Up w1 w2
set_option maxRecDepth 100000 in
set_option maxHeartbeats 1000000 in
theorem indexFuncNm_any (A : Option Addr) (l : List (Nm)) (c lo hi : Nat) (f : FuncId) (caps : Array Value) (p : Nm → Bool) (w : World) (hr : RdNm w lo hi A l) (hhi : hi ≤ w.heap.size) (hn : l.length ≤ 2000000) (he : ∀ (args : Array Value) (w : World), (callFunc f args).run Tryz.prog w = .ok (.enter f args) w) (hf : AnsNm w f caps p l) :
    Calls Tryz.prog 212 #[.slice A l.length c, .func (.func f) #[] caps] w fun e w' => e = .returned (.int .i64 (ixB l p)) ∧ Up w w' := by
  have hent : ∀ (args : Array Value) (w : World), (callFunc f args).run Tryz.prog w = .ok (.enter f args) w := he
  go_enter Tryz.func212, Tryz.ntmps212
  go_wp2
  go_loopw [4, 5, 8] (fun u4 u5 i wr => ∃ k : Nat, k ≤ l.length ∧ i = .int .i64 k ∧ (∀ j x, j < k → l[j]? = some x → p x = false) ∧ Up w wr) (fun _ _ i _ => l.length - (intOf i).toNat)
  case atStart => exact ⟨0, Nat.zero_le _, rfl, fun j x h => absurd h (by omega), Up.refl _⟩
  case round =>
    obtain ⟨k, hk, rfl, ha, hup⟩ := hrel
    have HA := Lib.hid ha
    clear ha
    by_cases hlt : k < l.length
    · obtain ⟨b, off, d, rfl, -, -, hd, q0, q1, q2⟩ := (hr.up hup hhi).nm hlt
      have HD := Lib.hid hd
      clear hd
      have HF := Lib.hid (hf d (List.mem_of_getElem? HD.out) wr hup)
      go_wp2_with fail
      refine HF.out.mono ?_
      rintro e w2 ⟨rfl, hup2⟩
      by_cases hp : p d = true
      · have HP := Lib.hid hp
        go_wp2
        go_ret
        exact ⟨ret_int (ixB_yes HD.out HP.out (fun j x hj hx => HA.out j x hj hx)).symm, hup.trans hup2⟩
      · have hp' : p d = false := by simpa using hp
        have HP := Lib.hid hp'
        clear hp
        go_wp2
        go_roundw
        case rel => exact ⟨k + 1, by omega, by go_num, fun j x hj hx => by
          rcases Nat.lt_or_ge j k with h | h
          · exact HA.out j x h hx
          · obtain rfl : j = k := by omega
            rw [HD.out] at hx; cases hx; exact HP.out, hup.trans hup2⟩
        case measure => simp [intOf]; omega
    · go_wp2
      go_ret
      exact ⟨ret_int (ixB_no (fun j x hj hx => HA.out j x (by omega) hx)).symm, hup⟩

/-- what a function value answers, in every world that has only grown since w -/
def AnsI3 (w : World) (f : FuncId) (caps : Array Value) (p : I3 → Bool) (l : List (I3)) : Prop :=
  ∀ d ∈ l, ∀ w1, Up w w1 → Calls Tryz.prog f (#[d.val] ++ caps) w1 fun e w2 => e = .returned (.bool (p d)) ∧ Up w1 w2
set_option maxRecDepth 100000 in
set_option maxHeartbeats 1000000 in
theorem indexFuncI3_any (A : Option Addr) (l : List (I3)) (c lo hi : Nat) (f : FuncId) (caps : Array Value) (p : I3 → Bool) (w : World) (hr : RdI3 w lo hi A l) (hhi : hi ≤ w.heap.size) (hn : l.length ≤ 2000000) (he : ∀ (args : Array Value) (w : World), (callFunc f args).run Tryz.prog w = .ok (.enter f args) w) (hf : AnsI3 w f caps p l) :
    Calls Tryz.prog 250 #[.slice A l.length c, .func (.func f) #[] caps] w fun e w' => e = .returned (.int .i64 (ixB l p)) ∧ Up w w' := by
  have hent : ∀ (args : Array Value) (w : World), (callFunc f args).run Tryz.prog w = .ok (.enter f args) w := he
  go_enter Tryz.func250, Tryz.ntmps250
  go_wp2
  go_loopw [4, 5, 8] (fun u4 u5 i wr => ∃ k : Nat, k ≤ l.length ∧ i = .int .i64 k ∧ (∀ j x, j < k → l[j]? = some x → p x = false) ∧ Up w wr) (fun _ _ i _ => l.length - (intOf i).toNat)
  case atStart => exact ⟨0, Nat.zero_le _, rfl, fun j x h => absurd h (by omega), Up.refl _⟩
  case round =>
    obtain ⟨k, hk, rfl, ha, hup⟩ := hrel
    have HA := Lib.hid ha
    clear ha
    by_cases hlt : k < l.length
    · obtain ⟨b, off, d, rfl, -, -, hd, q0, q1, q2⟩ := (hr.up hup hhi).i3 hlt
      have HD := Lib.hid hd
      clear hd
      have HF := Lib.hid (hf d (List.mem_of_getElem? HD.out) wr hup)
      go_wp2_with fail
      refine HF.out.mono ?_
      rintro e w2 ⟨rfl, hup2⟩
      by_cases hp : p d = true
      · have HP := Lib.hid hp
        go_wp2
        go_ret
        exact ⟨ret_int (ixB_yes HD.out HP.out (fun j x hj hx => HA.out j x hj hx)).symm, hup.trans hup2⟩
      · have hp' : p d = false := by simpa using hp
        have HP := Lib.hid hp'
        clear hp
        go_wp2
        go_roundw
        case rel => exact ⟨k + 1, by omega, by go_num, fun j x hj hx => by
          rcases Nat.lt_or_ge j k with h | h
          · exact HA.out j x h hx
          · obtain rfl : j = k := by omega
            rw [HD.out] at hx; cases hx; exact HP.out, hup.trans hup2⟩
        case measure => simp [intOf]; omega
    · go_wp2
      go_ret
      exact ⟨ret_int (ixB_no (fun j x hj hx => HA.out j x (by omega) hx)).symm, hup⟩
set_option maxHeartbeats 400000 in
theorem containsFuncI3_any (A : Option Addr) (l : List (I3)) (c lo hi : Nat) (f : FuncId) (caps : Array Value) (p : I3 → Bool) (w : World) (hr : RdI3 w lo hi A l) (hhi : hi ≤ w.heap.size) (hn : l.length ≤ 2000000) (he : ∀ (args : Array Value) (w : World), (callFunc f args).run Tryz.prog w = .ok (.enter f args) w) (hf : AnsI3 w f caps p l) :
    Calls Tryz.prog 225 #[.slice A l.length c, .func (.func f) #[] caps] w fun e w' => e = .returned (.bool (l.any p)) ∧ Up w w' := by
  have H := Lib.hid (indexFuncI3_any A l c lo hi f caps p w hr hhi hn he hf)
  go_enter Tryz.func225, Tryz.ntmps225
  go_wp2_with (go_at_call 250; refine H.out.mono ?_; rintro e w' ⟨rfl, hup⟩)
  go_ret
  exact ⟨ret_bool (ixB_any l p), hup⟩

/-- what a function value answers, in every world that has only grown since w -/
def AnsCl (w : World) (f : FuncId) (caps : Array Value) (p : Cl → Bool) (l : List (Cl)) : Prop :=
  ∀ d ∈ l, ∀ w1, Up w w1 → Calls Tryz.prog f (#[d.val] ++ caps) w1 fun e w2 => e = .returned (.bool (p d)) ∧ Up w1 w2
set_option maxRecDepth 100000 in
set_option maxHeartbeats 1000000 in
theorem indexFuncCl_any (A : Option Addr) (l : List (Cl)) (c lo hi : Nat) (f : FuncId) (caps : Array Value) (p : Cl → Bool) (w : World) (hr : RdCl w lo hi A l) (hhi : hi ≤ w.heap.size) (hn : l.length ≤ 2000000) (he : ∀ (args : Array Value) (w : World), (callFunc f args).run Tryz.prog w = .ok (.enter f args) w) (hf : AnsCl w f caps p l) :
    Calls Tryz.prog 240 #[.slice A l.length c, .func (.func f) #[] caps] w fun e w' => e = .returned (.int .i64 (ixB l p)) ∧ Up w w' := by
  have hent : ∀ (args : Array Value) (w : World), (callFunc f args).run Tryz.prog w = .ok (.enter f args) w := he
  go_enter Tryz.func240, Tryz.ntmps240
  go_wp2
  go_loopw [4, 5, 8] (fun u4 u5 i wr => ∃ k : Nat, k ≤ l.length ∧ i = .int .i64 k ∧ (∀ j x, j < k → l[j]? = some x → p x = false) ∧ Up w wr) (fun _ _ i _ => l.length - (intOf i).toNat)
  case atStart => exact ⟨0, Nat.zero_le _, rfl, fun j x h => absurd h (by omega), Up.refl _⟩
  case round =>
    obtain ⟨k, hk, rfl, ha, hup⟩ := hrel
    have HA := Lib.hid ha
    clear ha
    by_cases hlt : k < l.length
    · obtain ⟨b, off, d, rfl, -, -, hd, q0, q1, q2, q3, q4, q5, q6, q7⟩ := (hr.up hup hhi).cl hlt
      have HD := Lib.hid hd
      clear hd
      have HF := Lib.hid (hf d (List.mem_of_getElem? HD.out) wr hup)
      go_wp2_with fail
      refine HF.out.mono ?_
      rintro e w2 ⟨rfl, hup2⟩
      by_cases hp : p d = true
      · have HP := Lib.hid hp
        go_wp2
        go_ret
        exact ⟨ret_int (ixB_yes HD.out HP.out (fun j x hj hx => HA.out j x hj hx)).symm, hup.trans hup2⟩
      · have hp' : p d = false := by simpa using hp
        have HP := Lib.hid hp'
        clear hp
        go_wp2
        go_roundw
        case rel => exact ⟨k + 1, by omega, by go_num, fun j x hj hx => by
          rcases Nat.lt_or_ge j k with h | h
          · exact HA.out j x h hx
          · obtain rfl : j = k := by omega
            rw [HD.out] at hx; cases hx; exact HP.out, hup.trans hup2⟩
        case measure => simp [intOf]; omega
    · go_wp2
      go_ret
      exact ⟨ret_int (ixB_no (fun j x hj hx => HA.out j x (by omega) hx)).symm, hup⟩
set_option maxHeartbeats 400000 in
theorem containsFuncCl_any (A : Option Addr) (l : List (Cl)) (c lo hi : Nat) (f : FuncId) (caps : Array Value) (p : Cl → Bool) (w : World) (hr : RdCl w lo hi A l) (hhi : hi ≤ w.heap.size) (hn : l.length ≤ 2000000) (he : ∀ (args : Array Value) (w : World), (callFunc f args).run Tryz.prog w = .ok (.enter f args) w) (hf : AnsCl w f caps p l) :
    Calls Tryz.prog 208 #[.slice A l.length c, .func (.func f) #[] caps] w fun e w' => e = .returned (.bool (l.any p)) ∧ Up w w' := by
  have H := Lib.hid (indexFuncCl_any A l c lo hi f caps p w hr hhi hn he hf)
  go_enter Tryz.func208, Tryz.ntmps208
  go_wp2_with (go_at_call 240; refine H.out.mono ?_; rintro e w' ⟨rfl, hup⟩)
  go_ret
  exact ⟨ret_bool (ixB_any l p), hup⟩

/-- what a function value answers, in every world that has only grown since w -/
def AnsWi (w : World) (f : FuncId) (caps : Array Value) (p : Wi → Bool) (l : List (Wi)) : Prop :=
  ∀ d ∈ l, ∀ w1, Up w w1 → Calls Tryz.prog f (#[d.val] ++ caps) w1 fun e w2 => e = .returned (.bool (p d)) ∧ Up w1 w2
set_option maxRecDepth 100000 in
set_option maxHeartbeats 1000000 in
theorem indexFuncWi_any (A : Option Addr) (l : List (Wi)) (c lo hi : Nat) (f : FuncId) (caps : Array Value) (p : Wi → Bool) (w : World) (hr : RdWi w lo hi A l) (hhi : hi ≤ w.heap.size) (hn : l.length ≤ 2000000) (he : ∀ (args : Array Value) (w : World), (callFunc f args).run Tryz.prog w = .ok (.enter f args) w) (hf : AnsWi w f caps p l) :
    Calls Tryz.prog 211 #[.slice A l.length c, .func (.func f) #[] caps] w fun e w' => e = .returned (.int .i64 (ixB l p)) ∧ Up w w' := by
  have hent : ∀ (args : Array Value) (w : World), (callFunc f args).run Tryz.prog w = .ok (.enter f args) w := he
  go_enter Tryz.func211, Tryz.ntmps211
  go_wp2
  go_loopw [4, 5, 8] (fun u4 u5 i wr => ∃ k : Nat, k ≤ l.length ∧ i = .int .i64 k ∧ (∀ j x, j < k → l[j]? = some x → p x = false) ∧ Up w wr) (fun _ _ i _ => l.length - (intOf i).toNat)
  case atStart => exact ⟨0, Nat.zero_le _, rfl, fun j x h => absurd h (by omega), Up.refl _⟩
  case round =>
    obtain ⟨k, hk, rfl, ha, hup⟩ := hrel
    have HA := Lib.hid ha
    clear ha
    by_cases hlt : k < l.length
    · obtain ⟨b, off, d, rfl, -, -, hd, q0, q1⟩ := (hr.up hup hhi).wi hlt
      have HD := Lib.hid hd
      clear hd
      have HF := Lib.hid (hf d (List.mem_of_getElem? HD.out) wr hup)
      go_wp2_with fail
      refine HF.out.mono ?_
      rintro e w2 ⟨rfl, hup2⟩
      by_cases hp : p d = true
      · have HP := Lib.hid hp
        go_wp2
        go_ret
        exact ⟨ret_int (ixB_yes HD.out HP.out (fun j x hj hx => HA.out j x hj hx)).symm, hup.trans hup2⟩
      · have hp' : p d = false := by simpa using hp
        have HP := Lib.hid hp'
        clear hp
        go_wp2
        go_roundw
        case rel => exact ⟨k + 1, by omega, by go_num, fun j x hj hx => by
          rcases Nat.lt_or_ge j k with h | h
          · exact HA.out j x h hx
          · obtain rfl : j = k := by omega
            rw [HD.out] at hx; cases hx; exact HP.out, hup.trans hup2⟩
        case measure => simp [intOf]; omega
    · go_wp2
      go_ret
      exact ⟨ret_int (ixB_no (fun j x hj hx => HA.out j x (by omega) hx)).symm, hup⟩
set_option maxHeartbeats 400000 in
theorem containsFuncWi_any (A : Option Addr) (l : List (Wi)) (c lo hi : Nat) (f : FuncId) (caps : Array Value) (p : Wi → Bool) (w : World) (hr : RdWi w lo hi A l) (hhi : hi ≤ w.heap.size) (hn : l.length ≤ 2000000) (he : ∀ (args : Array Value) (w : World), (callFunc f args).run Tryz.prog w = .ok (.enter f args) w) (hf : AnsWi w f caps p l) :
    Calls Tryz.prog 181 #[.slice A l.length c, .func (.func f) #[] caps] w fun e w' => e = .returned (.bool (l.any p)) ∧ Up w w' := by
  have H := Lib.hid (indexFuncWi_any A l c lo hi f caps p w hr hhi hn he hf)
  go_enter Tryz.func181, Tryz.ntmps181
  go_wp2_with (go_at_call 211; refine H.out.mono ?_; rintro e w' ⟨rfl, hup⟩)
  go_ret
  exact ⟨ret_bool (ixB_any l p), hup⟩

/-- what a function value answers, in every world that has only grown since w -/
def AnsDd (w : World) (f : FuncId) (caps : Array Value) (p : Dd → Bool) (l : List (Dd)) : Prop :=
  ∀ d ∈ l, ∀ w1, Up w w1 → Calls Tryz.prog f (#[d.val] ++ caps) w1 fun e w2 => e = .returned (.bool (p d)) ∧ Up w1 w2
set_option maxRecDepth 100000 in
set_option maxHeartbeats 1000000 in
theorem indexFuncDd_any (A : Option Addr) (l : List (Dd)) (c lo hi : Nat) (f : FuncId) (caps : Array Value) (p : Dd → Bool) (w : World) (hr : Rd w lo hi 7 Dd.cells A l) (hhi : hi ≤ w.heap.size) (hn : l.length ≤ 2000000) (he : ∀ (args : Array Value) (w : World), (callFunc f args).run Tryz.prog w = .ok (.enter f args) w) (hf : AnsDd w f caps p l) :
    Calls Tryz.prog 206 #[.slice A l.length c, .func (.func f) #[] caps] w fun e w' => e = .returned (.int .i64 (ixB l p)) ∧ Up w w' := by
  have hent : ∀ (args : Array Value) (w : World), (callFunc f args).run Tryz.prog w = .ok (.enter f args) w := he
  go_enter Tryz.func206, Tryz.ntmps206
  go_wp2
  go_loopw [4, 5, 8] (fun u4 u5 i wr => ∃ k : Nat, k ≤ l.length ∧ i = .int .i64 k ∧ (∀ j x, j < k → l[j]? = some x → p x = false) ∧ Up w wr) (fun _ _ i _ => l.length - (intOf i).toNat)
  case atStart => exact ⟨0, Nat.zero_le _, rfl, fun j x h => absurd h (by omega), Up.refl _⟩
  case round =>
    obtain ⟨k, hk, rfl, ha, hup⟩ := hrel
    have HA := Lib.hid ha
    clear ha
    by_cases hlt : k < l.length
    · obtain ⟨b, off, d, rfl, -, -, hd, q0, q1, q2, q3, q4, q5, q6⟩ := (hr.up hup hhi).dd hlt
      have HD := Lib.hid hd
      clear hd
      have HF := Lib.hid (hf d (List.mem_of_getElem? HD.out) wr hup)
      go_wp2_with fail
      refine HF.out.mono ?_
      rintro e w2 ⟨rfl, hup2⟩
      by_cases hp : p d = true
      · have HP := Lib.hid hp
        go_wp2
        go_ret
        exact ⟨ret_int (ixB_yes HD.out HP.out (fun j x hj hx => HA.out j x hj hx)).symm, hup.trans hup2⟩
      · have hp' : p d = false := by simpa using hp
        have HP := Lib.hid hp'
        clear hp
        go_wp2
        go_roundw
        case rel => exact ⟨k + 1, by omega, by go_num, fun j x hj hx => by
          rcases Nat.lt_or_ge j k with h | h
          · exact HA.out j x h hx
          · obtain rfl : j = k := by omega
            rw [HD.out] at hx; cases hx; exact HP.out, hup.trans hup2⟩
        case measure => simp [intOf]; omega
    · go_wp2
      go_ret
      exact ⟨ret_int (ixB_no (fun j x hj hx => HA.out j x (by omega) hx)).symm, hup⟩

/-- what a function value answers, in every world that has only grown since w -/
def AnsPh (w : World) (f : FuncId) (caps : Array Value) (p : Sl ByteArray → Bool) (l : List (Sl ByteArray)) : Prop :=
  ∀ d ∈ l, ∀ w1, Up w w1 → Calls Tryz.prog f (#[d.val] ++ caps) w1 fun e w2 => e = .returned (.bool (p d)) ∧ Up w1 w2
set_option maxRecDepth 100000 in
set_option maxHeartbeats 1000000 in
theorem indexFuncPh_any (A : Option Addr) (l : List (Sl ByteArray)) (c lo hi : Nat) (f : FuncId) (caps : Array Value) (p : Sl ByteArray → Bool) (w : World) (hr : Rd w lo hi 1 phC A l) (hhi : hi ≤ w.heap.size) (hn : l.length ≤ 2000000) (he : ∀ (args : Array Value) (w : World), (callFunc f args).run Tryz.prog w = .ok (.enter f args) w) (hf : AnsPh w f caps p l) :
    Calls Tryz.prog 156 #[.slice A l.length c, .func (.func f) #[] caps] w fun e w' => e = .returned (.int .i64 (ixB l p)) ∧ Up w w' := by
  have hent : ∀ (args : Array Value) (w : World), (callFunc f args).run Tryz.prog w = .ok (.enter f args) w := he
  go_enter Tryz.func156, Tryz.ntmps156
  go_wp2
  go_loopw [4, 5, 8] (fun u4 u5 i wr => ∃ k : Nat, k ≤ l.length ∧ i = .int .i64 k ∧ (∀ j x, j < k → l[j]? = some x → p x = false) ∧ Up w wr) (fun _ _ i _ => l.length - (intOf i).toNat)
  case atStart => exact ⟨0, Nat.zero_le _, rfl, fun j x h => absurd h (by omega), Up.refl _⟩
  case round =>
    obtain ⟨k, hk, rfl, ha, hup⟩ := hrel
    have HA := Lib.hid ha
    clear ha
    by_cases hlt : k < l.length
    · obtain ⟨b, off, d, rfl, -, -, hd, q0⟩ := (hr.up hup hhi).ph hlt
      have HD := Lib.hid hd
      clear hd
      have HF := Lib.hid (hf d (List.mem_of_getElem? HD.out) wr hup)
      go_wp2_with fail
      refine HF.out.mono ?_
      rintro e w2 ⟨rfl, hup2⟩
      by_cases hp : p d = true
      · have HP := Lib.hid hp
        go_wp2
        go_ret
        exact ⟨ret_int (ixB_yes HD.out HP.out (fun j x hj hx => HA.out j x hj hx)).symm, hup.trans hup2⟩
      · have hp' : p d = false := by simpa using hp
        have HP := Lib.hid hp'
        clear hp
        go_wp2
        go_roundw
        case rel => exact ⟨k + 1, by omega, by go_num, fun j x hj hx => by
          rcases Nat.lt_or_ge j k with h | h
          · exact HA.out j x h hx
          · obtain rfl : j = k := by omega
            rw [HD.out] at hx; cases hx; exact HP.out, hup.trans hup2⟩
        case measure => simp [intOf]; omega
    · go_wp2
      go_ret
      exact ⟨ret_int (ixB_no (fun j x hj hx => HA.out j x (by omega) hx)).symm, hup⟩
set_option maxHeartbeats 400000 in
theorem containsFuncPh_any (A : Option Addr) (l : List (Sl ByteArray)) (c lo hi : Nat) (f : FuncId) (caps : Array Value) (p : Sl ByteArray → Bool) (w : World) (hr : Rd w lo hi 1 phC A l) (hhi : hi ≤ w.heap.size) (hn : l.length ≤ 2000000) (he : ∀ (args : Array Value) (w : World), (callFunc f args).run Tryz.prog w = .ok (.enter f args) w) (hf : AnsPh w f caps p l) :
    Calls Tryz.prog 116 #[.slice A l.length c, .func (.func f) #[] caps] w fun e w' => e = .returned (.bool (l.any p)) ∧ Up w w' := by
  have H := Lib.hid (indexFuncPh_any A l c lo hi f caps p w hr hhi hn he hf)
  go_enter Tryz.func116, Tryz.ntmps116
  go_wp2_with (go_at_call 156; refine H.out.mono ?_; rintro e w' ⟨rfl, hup⟩)
  go_ret
  exact ⟨ret_bool (ixB_any l p), hup⟩
end Go.Proofs.YtblpjjcjnaigiaaGreatDoor

namespace Go.Proofs.YtblpjjcjnaigiaaGreatDoor
open Go.RowKit Go.Sort

theorem l01NameU (s : ByteArray) (m : Int) (w : World) (hs : s.size ≤ maxLen) : Calls Tryz.prog 168 #[.string s, .int .i64 m] w fun e w' => e = .returned (.bool (nameB s m)) ∧ Up w w' :=
  (l01Name_any s m w hs).mono fun e w' ⟨h, h2⟩ => ⟨h, by rw [← h2]; exact Up.refl _⟩
theorem l01InU (n a b : Int) (w : World) : Calls Tryz.prog 51 #[.int .i64 n, .int .i64 a, .int .i64 b] w fun e w' => e = .returned (.bool (inB n a b)) ∧ Up w w' :=
  (l01In_any n a b w).mono fun e w' ⟨h, h2⟩ => ⟨h, by rw [← h2]; exact Up.refl _⟩

set_option maxRecDepth 20000 in
set_option maxHeartbeats 1000000 in
theorem l07Reign_any (d : Nm) (w : World) (hd : d.ok) :
    Calls Tryz.prog 216 #[d.val] w fun e w' => e = .returned (.bool (rgB d)) ∧ Up w w' := by
  have hd' : d.nm.size ≤ maxLen := hd
  obtain ⟨b1, hb1⟩ : ∃ x, x = nameB d.nm 12 := ⟨_, rfl⟩
  obtain ⟨b2, hb2⟩ : ∃ x, x = dayB d.fr := ⟨_, rfl⟩
  obtain ⟨b3, hb3⟩ : ∃ x, x = dayB d.to_ := ⟨_, rfl⟩
  have c1 := fun wx => l01Name_any d.nm 12 wx hd'
  have c2 := fun wx => l01Day_any d.fr wx
  have c3 := fun wx => l01Day_any d.to_ wx
  simp only [← hb1] at c1
  simp only [← hb2] at c2
  simp only [← hb3] at c3
  have HE := Lib.hid (show rgB d = (b1 && (b2 && (b3 && decide (d.fr ≤ d.to_)))) by unfold rgB spanB; rw [hb1, hb2, hb3])
  clear hb1 hb2 hb3
  cases b1 <;> cases b2 <;> cases b3 <;> go_enter Tryz.func216, Tryz.ntmps216
  all_goals (go_wp2_with first | (go_at_call 168; refine (c1 _).mono ?_; rintro e w' ⟨rfl, rfl⟩) | (go_at_call 192; first | ((with_reducible refine (c3 _).mono ?_); rintro e w' ⟨rfl, rfl⟩) | ((with_reducible refine (c2 _).mono ?_); rintro e w' ⟨rfl, rfl⟩)))
  all_goals go_ret
  all_goals exact ⟨ret_bool (by rw [HE.out]; first | rfl | simp), Up.alloc _ _⟩

theorem arB_no {l : List Nm} {k : Nat} {d : Nm} (hd : l[k]? = some d) (h : arQ l k d = false) : arB l = false := by simp [arB, allK_no hd h]
theorem arB_end {l : List Nm} (h : ∀ k d, k < l.length → l[k]? = some d → arQ l k d = true) : arB l = decide (l.length ≤ 30) := by simp [arB, allK_end h]

set_option maxRecDepth 20000 in
set_option maxHeartbeats 2000000 in
theorem specAreReigns_any (s : Sl Nm) (lo hi : Nat) (w : World) (h : SrNm w lo hi s) :
    Calls Tryz.prog 191 #[.slice s.A s.l.length s.c] w fun e w' => e = .returned (.bool (arB s.l)) ∧ Up w w' := by
  obtain ⟨A, c, l⟩ := s
  have hr := h.rd
  have hhi := h.hhi
  have hn : l.length ≤ 2000000 := h.len
  have hok := Lib.hid h.ok
  clear h
  show Calls _ _ #[.slice A l.length c] _ fun e w' => e = .returned (.bool (arB l)) ∧ _
  go_enter Tryz.func191, Tryz.ntmps191
  go_wp2
  go_loopw [3] (fun i wr => ∃ k : Nat, k ≤ l.length ∧ i = .int .i64 k ∧ (∀ j d, j < k → l[j]? = some d → arQ l j d = true) ∧ Up w wr) (fun i _ => l.length - (intOf i).toNat)
  case atStart => exact ⟨0, Nat.zero_le _, rfl, fun j d h => absurd h (by omega), Up.refl _⟩
  case round =>
    obtain ⟨k, hk, rfl, ha, hup⟩ := hrel
    have HA := Lib.hid ha
    clear ha
    by_cases hlt : k < l.length
    · obtain ⟨b, off, d, rfl, -, -, hd, q0, q1, q2⟩ := (hr.up hup hhi).nm hlt
      have HD := Lib.hid hd
      clear hd
      have Q0 := cell_regrown q0
      have Q1 := cell_regrown q1
      have Q2 := cell_regrown q2
      have cC : ∀ dd os, Calls Tryz.prog 216 #[d.val] (grow (redrawn wr dd) os) fun e w'' => e = .returned (.bool (rgB d)) ∧ ∃ p : Regrown, w'' = grow (redrawn wr p.d) p.os :=
        fun dd os => Calls.regrown_of (l07Reign_any d _ (hok.out d (List.mem_of_getElem? HD.out)))
      rcases hq : rgB d with _ | _
      · rw [hq] at cC
        have HQ := Lib.hid hq
        clear hq
        go_wp2_with fail
        refine wp_region_quiet_below (by kernel_rfl) (by kernel_rfl) ?_
        repeat (first | go_big_quiet_step ((go_at_call 216; exact cC _ _)) | quiet_step ((go_at_call 216; exact cC _ _)))
        refine wpQuiet_nil ?_
        intro w2 hw2
        obtain ⟨⟨dq, osq⟩, hw2⟩ := hw2
        have hup2 : Up wr w2 := by rw [hw2]; exact below_regrown _ _ _
        clear hw2 Q0 Q1 Q2 cC
        go_wp2
        go_ret
        exact ⟨ret_bool (arB_no HD.out (by unfold arQ; rw [HQ.out]; rfl)).symm, hup.trans hup2⟩
      · rw [hq] at cC
        have HQ := Lib.hid hq
        clear hq
        rcases Nat.eq_zero_or_pos k with hk0 | hk0
        · have hgt : ¬ 0 < k := by omega
          have HK0 := Lib.hid hk0
          clear hk0
          go_wp2_with fail
          refine wp_region_quiet_below (by kernel_rfl) (by kernel_rfl) ?_
          repeat (first | go_big_quiet_step ((go_at_call 216; exact cC _ _)) | quiet_step ((go_at_call 216; exact cC _ _)))
          refine wpQuiet_nil ?_
          intro w2 hw2
          obtain ⟨⟨dq, osq⟩, hw2⟩ := hw2
          have hup2 : Up wr w2 := by rw [hw2]; exact below_regrown _ _ _
          clear hw2 Q0 Q1 Q2 cC
          go_wp2
          go_roundw
          case rel => exact ⟨k + 1, by omega, by go_num, allK_step HA.out HD.out (by unfold arQ; rw [HQ.out, HK0.out]; rfl), hup.trans hup2⟩
          case measure => simp [intOf]; omega
        · obtain ⟨q, hkq⟩ : ∃ q, k = q + 1 := ⟨k - 1, by omega⟩
          have hql : q < l.length := by omega
          have hwr : IntKind.i64.wrap ((k : Int) - 1) = (q : Int) := by rw [IntWalk.i64_in _ (by omega)]; omega
          obtain ⟨b', off', d', hbo, -, -, hd', p0, p1, p2⟩ := (hr.up hup hhi).nm hql
          cases hbo
          have HD' := Lib.hid hd'
          have HKQ := Lib.hid hkq
          clear hd' hkq
          have P1 := cell_regrown p1
          go_wp2_with fail
          refine wp_region_quiet_below (by kernel_rfl) (by kernel_rfl) ?_
          repeat (first | go_big_quiet_step ((go_at_call 216; exact cC _ _)) | quiet_step ((go_at_call 216; exact cC _ _)))
          refine wpQuiet_nil ?_
          intro w2 hw2
          obtain ⟨⟨dq, osq⟩, hw2⟩ := hw2
          have hup2 : Up wr w2 := by rw [hw2]; exact below_regrown _ _ _
          clear hw2 Q0 Q1 Q2 P1 cC
          go_wp2
          · have h1 : d.fr < d'.fr := by assumption
            go_ret
            exact ⟨ret_bool (arB_no HD.out (by unfold arQ; rw [HQ.out, HKQ.out, pv_s HD'.out]; simp; omega)).symm, hup.trans hup2⟩
          · have h1 : ¬ d.fr < d'.fr := by omega
            go_roundw
            case rel => exact ⟨k + 1, by omega, by go_num, allK_step HA.out HD.out (by unfold arQ; rw [HQ.out, HKQ.out, pv_s HD'.out]; simp; omega), hup.trans hup2⟩
            case measure => simp [intOf]; omega
    · have HE := Lib.hid (arB_end (l := l) (fun j d hj hd => HA.out j d (by omega) hd))
      go_wp2
      go_ret
      exact ⟨ret_bool (by rw [HE.out]; exact decide_eq_decide.2 (by omega)), hup⟩
theorem specIsChancery_any (s : Sl Nm) (fr to_ : Int) (lo hi : Nat) (w : World) (h : SrNm w lo hi s) :
    Calls Tryz.prog 164 #[.agg #[.slice s.A s.l.length s.c, .int .i64 fr, .int .i64 to_]] w fun e w' => e = .returned (.bool (chB s.l fr to_)) ∧ Up w w' := by
  obtain ⟨b1, hb1⟩ : ∃ x, x = arB s.l := ⟨_, rfl⟩
  obtain ⟨b2, hb2⟩ : ∃ x, x = dayB fr := ⟨_, rfl⟩
  obtain ⟨b3, hb3⟩ : ∃ x, x = dayB to_ := ⟨_, rfl⟩
  have u := Up.alloc w (.cells #[.slice s.A s.l.length s.c, .int .i64 fr, .int .i64 to_] 45)
  have hB := Bx.new w #[.slice s.A s.l.length s.c, .int .i64 fr, .int .i64 to_] 45
  have c1 := Lib.hid (specAreReigns_any s lo hi _ (h.up u))
  have c2 := fun wx => l01Day_any fr wx
  have c3 := fun wx => l01Day_any to_ wx
  rw [← hb1] at c1
  simp only [← hb2] at c2
  simp only [← hb3] at c3
  have HE := Lib.hid (show chB s.l fr to_ = (b1 && (b2 && (b3 && inB to_ fr (fr + 20000)))) by
    unfold chB; rw [hb1, hb2, hb3]; congr 3; unfold inB; congr 1; rw [decide_eq_decide]; omega)
  have HB2 := Lib.hid hb2
  clear hb1 hb2 hb3
  have hrange : b2 = true → 0 ≤ fr ∧ fr ≤ 730499 := fun e => by have := HB2.out; rw [e] at this; exact inB_iff.1 this.symm
  cases b1 <;> cases b2 <;> cases b3 <;> go_enter Tryz.func164, Tryz.ntmps164
  all_goals (first | (have hrange := hrange rfl; clear HB2) | clear hrange HB2)
  all_goals (go_wp2_with first | (go_at_call 191; refine c1.out.mono ?_; rintro e w1 ⟨rfl, hup⟩; obtain ⟨x0, x1, x2⟩ := (hB.up hup).c3) | (go_at_call 192; first | ((with_reducible refine (c3 _).mono ?_); rintro e w' ⟨rfl, rfl⟩) | ((with_reducible refine (c2 _).mono ?_); rintro e w' ⟨rfl, rfl⟩)) | (go_at_call 51; refine (l01In_any _ _ _ _).mono ?_; rintro e w' ⟨rfl, rfl⟩))
  all_goals go_ret
  all_goals exact ⟨ret_bool (by rw [HE.out]; first | rfl | simp), u.trans (by assumption)⟩
end Go.Proofs.YtblpjjcjnaigiaaGreatDoor

namespace Go.Proofs.YtblpjjcjnaigiaaGreatDoor
open Go.RowKit Go.Sort

/-- the test of a mark against the one before it -/
def amP (d x : Nm) : Bool := lessB x.nm d.nm || (x.nm.toList == d.nm.toList && decide (x.fr < d.fr))
theorem am_a {d x : Nm} (h : Op.bytesLess d.nm.toList x.nm.toList = true) : amP d x = false := by
  unfold amP lessB
  rw [less_asym _ _ h]
  have : (x.nm.toList == d.nm.toList) = false := by
    rw [beq_eq_false_iff_ne]; intro e; rw [e, less_irr] at h; cases h
  rw [this]; rfl
theorem am_b {d x : Nm} (h : (d.nm.toList == x.nm.toList) = true) : amP d x = decide (x.fr < d.fr) := by
  have e : d.nm.toList = x.nm.toList := by simpa using h
  unfold amP lessB
  rw [e, less_irr]; simp
theorem am_c {d x : Nm} (h : Op.bytesLess d.nm.toList x.nm.toList = false) (h2 : (d.nm.toList == x.nm.toList) = false) : amP d x = true := by
  unfold amP lessB
  rcases h3 : Op.bytesLess x.nm.toList d.nm.toList with _ | _
  · exfalso
    rw [less_tri _ _ h h3] at h2
    simp at h2
  · rfl
theorem amQ_eq (l : List Nm) (k : Nat) (d : Nm) : amQ l k d = (rgB d && pv l k (amP d)) := rfl
theorem amB_no {l : List Nm} {k : Nat} {d : Nm} (hd : l[k]? = some d) (h : amQ l k d = false) : amB l = false := by simp [amB, allK_no hd h]
theorem amB_end {l : List Nm} (h : ∀ k d, k < l.length → l[k]? = some d → amQ l k d = true) : amB l = decide (l.length ≤ 40) := by simp [amB, allK_end h]

set_option maxRecDepth 20000 in
set_option maxHeartbeats 4000000 in
theorem specAreMarks_any (s : Sl Nm) (lo hi : Nat) (w : World) (h : SrNm w lo hi s) :
    Calls Tryz.prog 167 #[.slice s.A s.l.length s.c] w fun e w' => e = .returned (.bool (amB s.l)) ∧ Up w w' := by
  obtain ⟨A, c, l⟩ := s
  have hr := h.rd
  have hhi := h.hhi
  have hn : l.length ≤ 2000000 := h.len
  have hok := Lib.hid h.ok
  clear h
  show Calls _ _ #[.slice A l.length c] _ fun e w' => e = .returned (.bool (amB l)) ∧ _
  go_enter Tryz.func167, Tryz.ntmps167
  go_wp2
  go_loopw [3, 4] (fun i u4 wr => ∃ k : Nat, k ≤ l.length ∧ i = .int .i64 k ∧ (∀ j d, j < k → l[j]? = some d → amQ l j d = true) ∧ Up w wr) (fun i _ _ => l.length - (intOf i).toNat)
  case atStart => exact ⟨0, Nat.zero_le _, rfl, fun j d h => absurd h (by omega), Up.refl _⟩
  case round =>
    obtain ⟨k, hk, rfl, ha, hup⟩ := hrel
    have HA := Lib.hid ha
    clear ha
    by_cases hlt : k < l.length
    · obtain ⟨b, off, d, rfl, -, -, hd, q0, q1, q2⟩ := (hr.up hup hhi).nm hlt
      have HD := Lib.hid hd
      clear hd
      have u1 := hup.allocs (.cells #[.string d.nm, .int .i64 d.fr, .int .i64 d.to_] 134)
      have hB := Bx.new wr #[.string d.nm, .int .i64 d.fr, .int .i64 d.to_] 134
      obtain ⟨b1, hb1⟩ : ∃ x, x = nameB d.nm 12 := ⟨_, rfl⟩
      obtain ⟨b2, hb2⟩ : ∃ x, x = spanB d.fr d.to_ := ⟨_, rfl⟩
      have c1 := fun wx => l01Name_any d.nm 12 wx (hok.out d (List.mem_of_getElem? HD.out))
      have c2 := fun wx => l13Span_any d.fr d.to_ wx
      simp only [← hb1] at c1
      simp only [← hb2] at c2
      have HE := Lib.hid (show rgB d = (b1 && b2) by unfold rgB; rw [hb1, hb2])
      clear hb1 hb2
      rcases b1 with _ | _
      · go_wp2_with (go_at_call 168; refine (c1 _).mono ?_; rintro e w' ⟨rfl, rfl⟩)
        go_ret
        exact ⟨ret_bool (amB_no HD.out (by rw [amQ_eq, HE.out]; rfl)).symm, u1⟩
      rcases b2 with _ | _
      · go_wp2_with first | (go_at_call 168; refine (c1 _).mono ?_; rintro e w' ⟨rfl, rfl⟩) | (go_at_call 173; refine (c2 _).mono ?_; rintro e w' ⟨rfl, hup'⟩)
        go_ret
        exact ⟨ret_bool (amB_no HD.out (by rw [amQ_eq, HE.out]; rfl)).symm, u1.trans hup'⟩
      rcases Nat.eq_zero_or_pos k with hk0 | hk0
      · have hgt : ¬ 0 < k := by omega
        have HK0 := Lib.hid hk0
        clear hk0
        go_wp2_with first | (go_at_call 168; refine (c1 _).mono ?_; rintro e w' ⟨rfl, rfl⟩) | (go_at_call 173; refine (c2 _).mono ?_; rintro e w' ⟨rfl, hup'⟩)
        refine wp_region_quiet_below (by kernel_rfl) (by kernel_rfl) ?_
        repeat (first | go_big_quiet_step (fail) | quiet_step (fail))
        refine wpQuiet_nil ?_
        intro w2 hw2
        obtain ⟨⟨dq, osq⟩, hw2⟩ := hw2
        have hup2 : Up w' w2 := by rw [hw2]; exact below_regrown _ _ _
        clear hw2
        go_wp2
        go_roundw
        case rel => exact ⟨k + 1, by omega, by go_num, allK_step HA.out HD.out (by rw [amQ_eq, HE.out, HK0.out]; rfl), u1.trans (hup'.trans hup2)⟩
        case measure => simp [intOf]; omega
      obtain ⟨q, hkq⟩ : ∃ q, k = q + 1 := ⟨k - 1, by omega⟩
      have hql : q < l.length := by omega
      have hwr : IntKind.i64.wrap ((k : Int) - 1) = (q : Int) := by rw [IntWalk.i64_in _ (by omega)]; omega
      obtain ⟨b', off', d', hbo, -, -, hd', p0, p1, p2⟩ := (hr.up hup hhi).nm hql
      cases hbo
      have HD' := Lib.hid hd'
      have HKQ := Lib.hid hkq
      clear hd' hkq
      have HP := Lib.hid (show amQ l k d = amP d d' by rw [amQ_eq, HE.out, HKQ.out, pv_s HD'.out]; rfl)
      rcases hl : Op.bytesLess d.nm.toList d'.nm.toList with _ | _
      · rcases he : (d.nm.toList == d'.nm.toList) with _ | _
        · have HT := Lib.hid (am_c hl he)
          go_wp2_with first | (go_at_call 168; refine (c1 _).mono ?_; rintro e w' ⟨rfl, rfl⟩) | (go_at_call 173; refine (c2 _).mono ?_; rintro e w' ⟨rfl, hup'⟩)
          have P0 := cell_regrown (hup'.cell ((Up.alloc wr _).cell p0))
          obtain ⟨x0, x1, x2⟩ := (hB.up hup').c3
          have X0 := cell_regrown x0
          refine wp_region_quiet_below (by kernel_rfl) (by kernel_rfl) ?_
          repeat (first | go_big_quiet_step (fail) | quiet_step (fail))
          refine wpQuiet_nil ?_
          intro w2 hw2
          obtain ⟨⟨dq, osq⟩, hw2⟩ := hw2
          have hup2 : Up w' w2 := by rw [hw2]; exact below_regrown _ _ _
          clear hw2 P0 X0
          go_wp2
          go_roundw
          case rel => exact ⟨k + 1, by omega, by go_num, allK_step HA.out HD.out (by rw [HP.out, HT.out]), u1.trans (hup'.trans hup2)⟩
          case measure => simp [intOf]; omega
        · have HT := Lib.hid (am_b he)
          go_wp2_with first | (go_at_call 168; refine (c1 _).mono ?_; rintro e w' ⟨rfl, rfl⟩) | (go_at_call 173; refine (c2 _).mono ?_; rintro e w' ⟨rfl, hup'⟩)
          have P0 := cell_regrown (hup'.cell ((Up.alloc wr _).cell p0))
          have P1 := cell_regrown (hup'.cell ((Up.alloc wr _).cell p1))
          obtain ⟨x0, x1, x2⟩ := (hB.up hup').c3
          have X0 := cell_regrown x0
          have X1 := cell_regrown x1
          refine wp_region_quiet_below (by kernel_rfl) (by kernel_rfl) ?_
          repeat (first | go_big_quiet_step (fail) | quiet_step (fail))
          refine wpQuiet_nil ?_
          intro w2 hw2
          obtain ⟨⟨dq, osq⟩, hw2⟩ := hw2
          have hup2 : Up w' w2 := by rw [hw2]; exact below_regrown _ _ _
          clear hw2 P0 X0 P1 X1
          go_wp2
          · have h1 : d.fr ≤ d'.fr := by assumption
            go_ret
            exact ⟨ret_bool (amB_no HD.out (by rw [HP.out, HT.out]; simp; omega)).symm, u1.trans (hup'.trans hup2)⟩
          · have h1 : ¬ d.fr ≤ d'.fr := by omega
            go_roundw
            case rel => exact ⟨k + 1, by omega, by go_num, allK_step HA.out HD.out (by rw [HP.out, HT.out]; simp; omega), u1.trans (hup'.trans hup2)⟩
            case measure => simp [intOf]; omega
      · have HT := Lib.hid (am_a hl)
        go_wp2_with first | (go_at_call 168; refine (c1 _).mono ?_; rintro e w' ⟨rfl, rfl⟩) | (go_at_call 173; refine (c2 _).mono ?_; rintro e w' ⟨rfl, hup'⟩)
        have P0 := cell_regrown (hup'.cell ((Up.alloc wr _).cell p0))
        obtain ⟨x0, x1, x2⟩ := (hB.up hup').c3
        have X0 := cell_regrown x0
        refine wp_region_quiet_below (by kernel_rfl) (by kernel_rfl) ?_
        repeat (first | go_big_quiet_step (fail) | quiet_step (fail))
        refine wpQuiet_nil ?_
        intro w2 hw2
        obtain ⟨⟨dq, osq⟩, hw2⟩ := hw2
        have hup2 : Up w' w2 := by rw [hw2]; exact below_regrown _ _ _
        clear hw2 P0 X0
        go_wp2
        go_ret
        exact ⟨ret_bool (amB_no HD.out (by rw [HP.out, HT.out])).symm, u1.trans (hup'.trans hup2)⟩
    · have HE := Lib.hid (amB_end (l := l) (fun j d hj hd => HA.out j d (by omega) hd))
      go_wp2
      go_ret
      exact ⟨ret_bool (by rw [HE.out]; exact decide_eq_decide.2 (by omega)), hup⟩

set_option maxHeartbeats 1000000 in
theorem l13Person_any (s : Sl Nm) (t : Sl Tm) (nm : ByteArray) (lo hi : Nat) (w : World) (h : SrNm w lo hi s) :
    Calls Tryz.prog 193 #[.agg #[.slice s.A s.l.length s.c, .slice t.A t.l.length t.c], .string nm] w fun e w' => e = .returned (.int .i64 (pix s.l nm)) ∧ Up w w' := by
  obtain ⟨A, c, l⟩ := s
  have hr := h.rd
  have hhi := h.hhi
  have hn : l.length ≤ 2000000 := h.len
  clear h
  show Calls _ _ #[.agg #[.slice A l.length c, .slice t.A t.l.length t.c], .string nm] _ fun e w' => e = .returned (.int .i64 (pix l nm)) ∧ _
  have u1 := Up.alloc w (.cells #[.slice A l.length c, .slice t.A t.l.length t.c] 49)
  have hB := Bx.new w #[.slice A l.length c, .slice t.A t.l.length t.c] 49
  go_enter Tryz.func193, Tryz.ntmps193
  go_wp2
  go_loop [5] (fun i => ∃ k : Nat, k ≤ l.length ∧ i = .int .i64 k ∧ (∀ j d, j < k → l[j]? = some d → (d.nm.toList == nm.toList) = false)) (fun i => l.length - (intOf i).toNat)
  case atStart => exact ⟨0, Nat.zero_le _, rfl, fun j d h => absurd h (by omega)⟩
  case round =>
    obtain ⟨k, hk, rfl, ha⟩ := hrel
    have HA := Lib.hid ha
    clear ha
    obtain ⟨x0, x1⟩ := hB.c2
    by_cases hlt : k < l.length
    · obtain ⟨b, off, d, rfl, -, -, hd, q0, q1, q2⟩ := (hr.up u1 hhi).nm hlt
      have HD := Lib.hid hd
      clear hd
      rcases he : (d.nm.toList == nm.toList) with _ | _
      · have HT := Lib.hid he
        go_wp2
        go_round
        case rel => exact ⟨k + 1, by omega, by go_num, fun j x hj hx => by
          rcases Nat.lt_or_ge j k with h | h
          · exact HA.out j x h hx
          · obtain rfl : j = k := by omega
            rw [HD.out] at hx; cases hx; exact HT.out⟩
        case measure => simp [intOf]; omega
      · have HT := Lib.hid he
        go_wp2
        go_ret
        exact ⟨ret_int (ixB_yes HD.out HT.out HA.out).symm, u1⟩
    · go_wp2
      go_ret
      exact ⟨ret_int (ixB_no (fun j d hj hd => HA.out j d (by omega) hd)).symm, u1⟩

def txIx (l : List ByteArray) (s : ByteArray) : Int := ixB l fun x => x.toList == s.toList
set_option maxHeartbeats 1000000 in
theorem l01TextB_any (A : Option Addr) (l : List ByteArray) (c lo hi : Nat) (s : ByteArray) (w : World) (hr : RdT w lo hi A l) (hn : l.length ≤ 2000000) :
    Calls Tryz.prog 171 #[.slice A l.length c, .string s] w fun e w' => e = .returned (.int .i64 (txIx l s)) ∧ Up w w' := by
  go_enter Tryz.func171, Tryz.ntmps171
  go_wp2
  go_loop [5] (fun i => ∃ k : Nat, k ≤ l.length ∧ i = .int .i64 k ∧ (∀ j d, j < k → l[j]? = some d → (d.toList == s.toList) = false)) (fun i => l.length - (intOf i).toNat)
  case atStart => exact ⟨0, Nat.zero_le _, rfl, fun j d h => absurd h (by omega)⟩
  case round =>
    obtain ⟨k, hk, rfl, ha⟩ := hrel
    have HA := Lib.hid ha
    clear ha
    by_cases hlt : k < l.length
    · obtain ⟨b, off, d, rfl, -, -, hd, q0⟩ := hr.txt hlt
      have HD := Lib.hid hd
      clear hd
      rcases he : (d.toList == s.toList) with _ | _
      · have HT := Lib.hid he
        go_wp2
        go_round
        case rel => exact ⟨k + 1, by omega, by go_num, fun j x hj hx => by
          rcases Nat.lt_or_ge j k with h | h
          · exact HA.out j x h hx
          · obtain rfl : j = k := by omega
            rw [HD.out] at hx; cases hx; exact HT.out⟩
        case measure => simp [intOf]; omega
      · have HT := Lib.hid he
        go_wp2
        go_ret
        exact ⟨ret_int (ixB_yes HD.out HT.out HA.out).symm, Up.refl _⟩
    · go_wp2
      go_ret
      exact ⟨ret_int (ixB_no (fun j d hj hd => HA.out j d (by omega) hd)).symm, Up.refl _⟩

theorem l14Place_any (s : Sl ByteArray) (t : Sl I3) (n : Int) (w : World) (hn : s.l.length ≤ 2000000) :
    Calls Tryz.prog 217 #[.agg #[.slice s.A s.l.length s.c, .slice t.A t.l.length t.c], .int .i64 n] w fun e w' => e = .returned (.bool (inB n 0 (s.l.length - 1))) ∧ Up w w' := by
  go_enter Tryz.func217, Tryz.ntmps217
  go_wp2_with (go_at_call 51; refine (l01In_any _ _ _ _).mono ?_; rintro e w' ⟨rfl, rfl⟩)
  go_ret
  exact ⟨rfl, Up.alloc _ _⟩
set_option maxRecDepth 20000 in
set_option maxHeartbeats 1000000 in
theorem l15Stay_any (s : Sl ByteArray) (t : Sl I3) (d : I3) (w : World) (hn : s.l.length ≤ 2000000) :
    Calls Tryz.prog 195 #[.agg #[.slice s.A s.l.length s.c, .slice t.A t.l.length t.c], d.val] w fun e w' => e = .returned (.bool (syB s.l.length d)) ∧ Up w w' := by
  obtain ⟨b1, hb1⟩ : ∃ x, x = inB d.a 0 (s.l.length - 1) := ⟨_, rfl⟩
  obtain ⟨b2, hb2⟩ : ∃ x, x = spanB d.b d.d := ⟨_, rfl⟩
  have c1 := fun wx => l14Place_any s t d.a wx hn
  have c2 := fun wx => l13Span_any d.b d.d wx
  simp only [← hb1] at c1
  simp only [← hb2] at c2
  have HE := Lib.hid (show syB s.l.length d = (b1 && b2) by unfold syB; rw [hb1, hb2])
  clear hb1 hb2
  have u : Up w ((w.alloc (.cells #[.slice s.A s.l.length s.c, .slice t.A t.l.length t.c] 52)).alloc (.cells #[.int .i64 d.a, .int .i64 d.b, .int .i64 d.d] 132)) := (Up.alloc _ _).allocs _
  have hB : Bx ((w.alloc (.cells #[.slice s.A s.l.length s.c, .slice t.A t.l.length t.c] 52)).alloc (.cells #[.int .i64 d.a, .int .i64 d.b, .int .i64 d.d] 132)) (w.heap.size + 1) [.int .i64 d.a, .int .i64 d.b, .int .i64 d.d] := by
    have := Bx.new (w.alloc (.cells #[.slice s.A s.l.length s.c, .slice t.A t.l.length t.c] 52)) #[.int .i64 d.a, .int .i64 d.b, .int .i64 d.d] 132
    simpa using this
  cases b1 <;> cases b2 <;> go_enter Tryz.func195, Tryz.ntmps195
  all_goals (go_wp2_with first | (go_at_call 217; refine (c1 _).mono ?_; rintro e w1 ⟨rfl, hup⟩; obtain ⟨x0, x1, x2⟩ := (hB.up hup).c3) | (go_at_call 173; refine (c2 _).mono ?_; rintro e w' ⟨rfl, hup'⟩))
  all_goals go_ret
  all_goals exact ⟨ret_bool (by rw [HE.out]; first | rfl | simp), u.trans (by first | exact hup.trans hup' | exact hup)⟩
end Go.Proofs.YtblpjjcjnaigiaaGreatDoor

namespace Go.Proofs.YtblpjjcjnaigiaaGreatDoor
open Go.RowKit Go.Sort

theorem find_yes {α : Type} {l : List α} {p : α → Bool} {k : Nat} {d : α} (hd : l[k]? = some d) (h : p d = true) (hb : ∀ j x, j < k → l[j]? = some x → p x = false) : l.find? p = some d := by
  rw [List.find?_eq_some_iff_getElem]
  have hk := (List.getElem?_eq_some_iff.1 hd).1
  refine ⟨h, k, hk, (List.getElem?_eq_some_iff.1 hd).2, fun j hj => ?_⟩
  have := hb j _ hj (List.getElem?_eq_getElem (by omega))
  simp [this]
theorem find_no {α : Type} {l : List α} {p : α → Bool} (h : ∀ x ∈ l, p x = false) : l.find? p = none := by
  rw [List.find?_eq_none]; intro x hx; simp [h x hx]
theorem tm_no {l : List Nm} {t : Tm} (h : ∀ x ∈ l, (x.nm.toList == t.pe.toList) = false) : tmB l t = false := by
  unfold tmB; rw [find_no h]; simp
theorem tm_yes {l : List Nm} {t : Tm} {m : Nat} {x : Nm} (hd : l[m]? = some x) (h : (x.nm.toList == t.pe.toList) = true) (hb : ∀ j y, j < m → l[j]? = some y → (y.nm.toList == t.pe.toList) = false) :
    tmB l t = (nameB t.of_ 12 && (spanB t.fr t.to_ && (decide (x.fr ≤ t.fr) && decide (t.to_ ≤ x.to_)))) := by
  unfold tmB; rw [find_yes (p := fun x => x.nm.toList == t.pe.toList) hd h hb]
theorem ppB_ps {l : List Nm} {ts : List Tm} {k : Nat} {d : Nm} (hd : l[k]? = some d) (h : psQ l k d = false) : ppB l ts = false := by simp [ppB, allK_no hd h]
theorem ppB_ts {l : List Nm} {ts : List Tm} {k : Nat} {d : Tm} (hd : ts[k]? = some d) (h : tmB l d = false) : ppB l ts = false := by
  have : ts.all (tmB l) = false := by rw [List.all_eq_false]; exact ⟨d, List.mem_of_getElem? hd, by simp [h]⟩
  simp [ppB, this]
theorem ppB_end {l : List Nm} {ts : List Tm} (h : ∀ k d, k < l.length → l[k]? = some d → psQ l k d = true) (h2 : ∀ k d, k < ts.length → ts[k]? = some d → tmB l d = true) : ppB l ts = (decide (l.length ≤ 40) && decide (ts.length ≤ 60)) := by
  have : ts.all (tmB l) = true := by
    rw [List.all_eq_true]; intro x hx
    obtain ⟨j, hj, e⟩ := List.getElem_of_mem hx
    exact h2 j x hj (by rw [List.getElem?_eq_getElem hj, e])
  simp [ppB, allK_end h, this]
theorem ps_eq (l : List Nm) (k : Nat) (d : Nm) : psQ l k d = (rgB d && pv l k fun x => lessB x.nm d.nm) := rfl
theorem ps_bad {d x : Nm} (h : (Op.bytesLess d.nm.toList x.nm.toList || d.nm.toList == x.nm.toList) = true) : lessB x.nm d.nm = false := by
  unfold lessB
  rcases Bool.or_eq_true _ _ ▸ h with h | h
  · exact less_asym _ _ h
  · rw [show d.nm.toList = x.nm.toList by simpa using h, less_irr]
theorem ps_good {d x : Nm} (h : (Op.bytesLess d.nm.toList x.nm.toList || d.nm.toList == x.nm.toList) = false) : lessB x.nm d.nm = true := by
  unfold lessB
  rw [Bool.or_eq_false_iff] at h
  rcases h3 : Op.bytesLess x.nm.toList d.nm.toList with _ | _
  · exfalso
    have := less_tri _ _ h.1 h3
    rw [this] at h; simp at h
  · rfl

set_option maxRecDepth 20000 in
set_option maxHeartbeats 8000000 in
theorem specIsPeople_any (s : Sl Nm) (t : Sl Tm) (lo hi : Nat) (w : World) (h : SrNm w lo hi s) (h2 : SrTm w lo hi t) :
    Calls Tryz.prog 165 #[.agg #[.slice s.A s.l.length s.c, .slice t.A t.l.length t.c]] w fun e w' => e = .returned (.bool (ppB s.l t.l)) ∧ Up w w' := by
  obtain ⟨A, c, l⟩ := s
  obtain ⟨B, ct, ts⟩ := t
  have hn : l.length ≤ 2000000 := h.len
  have hn2 : ts.length ≤ 2000000 := h2.len
  have hok := Lib.hid h.ok
  have hok2 := Lib.hid h2.ok
  have hr := h.rd
  have hhi := h.hhi
  have hr2 := h2.rd
  have HS := Lib.hid h
  clear h h2
  show Calls _ _ #[.agg #[.slice A l.length c, .slice B ts.length ct]] _ fun e w' => e = .returned (.bool (ppB l ts)) ∧ _
  have u0 := Up.alloc w (.cells #[.slice A l.length c, .slice B ts.length ct] 49)
  have hB := Bx.new w #[.slice A l.length c, .slice B ts.length ct] 49
  go_enter Tryz.func165, Tryz.ntmps165
  go_wp2
  generalize w.alloc (.cells #[.slice A l.length c, .slice B ts.length ct] 49) = w0 at *
  go_loopw [3, 4] (fun i u4 wr => ∃ k : Nat, k ≤ l.length ∧ i = .int .i64 k ∧ (∀ j d, j < k → l[j]? = some d → psQ l j d = true) ∧ Up w0 wr) (fun i _ _ => l.length - (intOf i).toNat)
  case atStart => exact ⟨0, Nat.zero_le _, rfl, fun j d h => absurd h (by omega), Up.refl _⟩
  case round =>
    obtain ⟨k, hk, rfl, ha, hup⟩ := hrel
    have HA := Lib.hid ha
    clear ha
    obtain ⟨x0, x1⟩ := (hB.up hup).c2
    by_cases hlt : k < l.length
    · obtain ⟨b, off, d, rfl, -, -, hd, q0, q1, q2⟩ := ((hr.up u0 hhi).up hup (Nat.le_trans hhi u0.size)).nm hlt
      have HD := Lib.hid hd
      clear hd
      have v1 := Up.alloc wr (.cells #[.string d.nm, .int .i64 d.fr, .int .i64 d.to_] 123)
      have hX := Bx.new wr #[.string d.nm, .int .i64 d.fr, .int .i64 d.to_] 123
      go_wp2_with fail
      generalize wr.alloc (.cells #[.string d.nm, .int .i64 d.fr, .int .i64 d.to_] 123) = W1 at *
      obtain ⟨x0, x1⟩ := (hB.up (hup.trans v1)).c2
      obtain ⟨y0, y1, y2⟩ := hX.c3
      have X0 := cell_regrown x0
      have Y0 := cell_regrown y0
      have Y1 := cell_regrown y1
      have Y2 := cell_regrown y2
      obtain ⟨b1, hb1⟩ : ∃ x, x = nameB d.nm 12 := ⟨_, rfl⟩
      obtain ⟨b2, hb2⟩ : ∃ x, x = spanB d.fr d.to_ := ⟨_, rfl⟩
      have cN : ∀ dd os, Calls Tryz.prog 168 #[.string d.nm, .int .i64 12] (grow (redrawn W1 dd) os) fun e w'' => e = .returned (.bool (nameB d.nm 12)) ∧ ∃ p : Regrown, w'' = grow (redrawn W1 p.d) p.os :=
          fun dd os => Calls.regrown_of (l01NameU d.nm 12 _ (hok.out d (List.mem_of_getElem? HD.out)))
      have cS : ∀ dd os, Calls Tryz.prog 173 #[.int .i64 d.fr, .int .i64 d.to_] (grow (redrawn W1 dd) os) fun e w'' => e = .returned (.bool (spanB d.fr d.to_)) ∧ ∃ p : Regrown, w'' = grow (redrawn W1 p.d) p.os :=
          fun dd os => Calls.regrown_of (l13Span_any d.fr d.to_ _)
      rw [← hb1] at cN
      rw [← hb2] at cS
      have HE := Lib.hid (show rgB d = (b1 && b2) by unfold rgB; rw [hb1, hb2])
      clear hb1 hb2 x0 x1 y0 y1 y2
      rcases b1 with _ | _
      · refine wp_region_quiet_below (by kernel_rfl) (by kernel_rfl) ?_
        repeat (first | go_big_quiet_step ((first | (go_at_call 168; exact cN _ _) | (go_at_call 173; exact cS _ _))) | quiet_step ((first | (go_at_call 168; exact cN _ _) | (go_at_call 173; exact cS _ _))))
        refine wpQuiet_nil ?_
        intro w2 hw2
        obtain ⟨⟨dq, osq⟩, hw2⟩ := hw2
        have hup2 : Up W1 w2 := by rw [hw2]; exact below_regrown _ _ _
        clear hw2 X0 Y0 Y1 Y2 cN cS
        go_wp2
        go_ret
        exact ⟨ret_bool (ppB_ps HD.out (by rw [ps_eq, HE.out]; rfl)).symm, u0.trans (hup.trans (v1.trans hup2))⟩
      rcases b2 with _ | _
      · refine wp_region_quiet_below (by kernel_rfl) (by kernel_rfl) ?_
        repeat (first | go_big_quiet_step ((first | (go_at_call 168; exact cN _ _) | (go_at_call 173; exact cS _ _))) | quiet_step ((first | (go_at_call 168; exact cN _ _) | (go_at_call 173; exact cS _ _))))
        refine wpQuiet_nil ?_
        intro w2 hw2
        obtain ⟨⟨dq, osq⟩, hw2⟩ := hw2
        have hup2 : Up W1 w2 := by rw [hw2]; exact below_regrown _ _ _
        clear hw2 X0 Y0 Y1 Y2 cN cS
        go_wp2
        go_ret
        exact ⟨ret_bool (ppB_ps HD.out (by rw [ps_eq, HE.out]; rfl)).symm, u0.trans (hup.trans (v1.trans hup2))⟩
      rcases Nat.eq_zero_or_pos k with hk0 | hk0
      · have hgt : ¬ 0 < k := by omega
        have HK0 := Lib.hid hk0
        clear hk0
        refine wp_region_quiet_below (by kernel_rfl) (by kernel_rfl) ?_
        repeat (first | go_big_quiet_step ((first | (go_at_call 168; exact cN _ _) | (go_at_call 173; exact cS _ _))) | quiet_step ((first | (go_at_call 168; exact cN _ _) | (go_at_call 173; exact cS _ _))))
        refine wpQuiet_nil ?_
        intro w2 hw2
        obtain ⟨⟨dq, osq⟩, hw2⟩ := hw2
        have hup2 : Up W1 w2 := by rw [hw2]; exact below_regrown _ _ _
        clear hw2 X0 Y0 Y1 Y2 cN cS
        go_wp2
        go_roundw
        case rel => exact ⟨k + 1, by omega, by go_num, allK_step HA.out HD.out (by rw [ps_eq, HE.out, HK0.out]; rfl), hup.trans (v1.trans hup2)⟩
        case measure => simp [intOf]; omega
      obtain ⟨q, hkq⟩ : ∃ q, k = q + 1 := ⟨k - 1, by omega⟩
      have hql : q < l.length := by omega
      have hwr : IntKind.i64.wrap ((k : Int) - 1) = (q : Int) := by rw [IntWalk.i64_in _ (by omega)]; omega
      obtain ⟨b', off', d', hbo, -, -, hd', p0, p1, p2⟩ := ((hr.up u0 hhi).up (hup.trans v1) (Nat.le_trans hhi u0.size)).nm hql
      cases hbo
      have HD' := Lib.hid hd'
      have HKQ := Lib.hid hkq
      have P0 := cell_regrown p0
      clear hd' hkq p0 p1 p2
      obtain ⟨rr, hrr⟩ : ∃ x, x = (Op.bytesLess d.nm.toList d'.nm.toList || d.nm.toList == d'.nm.toList) := ⟨_, rfl⟩
      have HRR := Lib.hid hrr
      rcases rr with _ | _
      · have HT := Lib.hid (ps_good HRR.out.symm)
        have hz1 : Op.bytesLess d.nm.toList d'.nm.toList = false := (Bool.or_eq_false_iff.1 hrr.symm).1
        have hz2 : (d.nm.toList == d'.nm.toList) = false := (Bool.or_eq_false_iff.1 hrr.symm).2
        clear hrr
        refine wp_region_quiet_below (by kernel_rfl) (by kernel_rfl) ?_
        repeat (first | go_big_quiet_step ((first | (go_at_call 168; exact cN _ _) | (go_at_call 173; exact cS _ _))) | quiet_step ((first | (go_at_call 168; exact cN _ _) | (go_at_call 173; exact cS _ _))))
        refine wpQuiet_nil ?_
        intro w2 hw2
        obtain ⟨⟨dq, osq⟩, hw2⟩ := hw2
        have hup2 : Up W1 w2 := by rw [hw2]; exact below_regrown _ _ _
        clear hw2 X0 Y0 Y1 Y2 P0 cN cS
        go_wp2
        go_roundw
        case rel => exact ⟨k + 1, by omega, by go_num, allK_step HA.out HD.out (by rw [ps_eq, HE.out, HKQ.out, pv_s HD'.out, HT.out]; rfl), hup.trans (v1.trans hup2)⟩
        case measure => simp [intOf]; omega
      · have HT := Lib.hid (ps_bad HRR.out.symm)
        rcases Bool.or_eq_true _ _ ▸ hrr.symm with hz | hz
        all_goals clear hrr
        all_goals (
          refine wp_region_quiet_below (by kernel_rfl) (by kernel_rfl) ?_
          repeat (first | go_big_quiet_step ((first | (go_at_call 168; exact cN _ _) | (go_at_call 173; exact cS _ _))) | quiet_step ((first | (go_at_call 168; exact cN _ _) | (go_at_call 173; exact cS _ _))))
          refine wpQuiet_nil ?_
          intro w2 hw2
          obtain ⟨⟨dq, osq⟩, hw2⟩ := hw2
          have hup2 : Up W1 w2 := by rw [hw2]; exact below_regrown _ _ _
          clear hw2 X0 Y0 Y1 Y2 P0 cN cS
          go_wp2
          go_ret
          exact ⟨ret_bool (ppB_ps HD.out (by rw [ps_eq, HE.out, HKQ.out, pv_s HD'.out, HT.out]; rfl)).symm, u0.trans (hup.trans (v1.trans hup2))⟩)
    · have HPS : Hid (∀ j d, j < l.length → l[j]? = some d → psQ l j d = true) := Lib.hid (fun j d hj hd => HA.out j d (by omega) hd)
      clear HA
      go_wp2
      obtain ⟨wo, hwo⟩ : ∃ x, x = wr := ⟨_, rfl⟩
      rw [← hwo] at hup
      have hupo := hup
      have HWO := Lib.hid hwo
      clear hwo hup x0 x1
      go_loopw [5, 6, 7] (fun i u6 u7 wr => ∃ k : Nat, k ≤ ts.length ∧ i = .int .i64 k ∧ (∀ j d, j < k → ts[j]? = some d → tmB l d = true) ∧ Up w0 wr) (fun i _ _ _ => ts.length - (intOf i).toNat)
      case atStart => exact ⟨0, Nat.zero_le _, rfl, fun j d h => absurd h (by omega), by rw [← HWO.out]; exact hupo⟩
      case round =>
        obtain ⟨k2, hk2, rfl, ha, hup⟩ := hrel
        have HA := Lib.hid ha
        clear ha
        obtain ⟨x0, x1⟩ := (hB.up hup).c2
        by_cases hlt2 : k2 < ts.length
        · obtain ⟨b, off, d, rfl, -, -, hd, q0, q1, q2, q3⟩ := ((hr2.up u0 hhi).up hup (Nat.le_trans hhi u0.size)).tm hlt2
          have HD := Lib.hid hd
          clear hd
          have v1 := Up.alloc wr (.cells #[.string d.of_, .string d.pe, .int .i64 d.fr, .int .i64 d.to_] 126)
          have hX := Bx.new wr #[.string d.of_, .string d.pe, .int .i64 d.fr, .int .i64 d.to_] 126
          have hpix := l13Person_any ⟨A, c, l⟩ ⟨some ⟨b, off, none⟩, ct, ts⟩ d.pe lo hi (wr.alloc (.cells #[.string d.of_, .string d.pe, .int .i64 d.fr, .int .i64 d.to_] 126)) (HS.out.up (u0.trans (hup.trans v1)))
          obtain ⟨pz, hpz⟩ : ∃ x, x = pix l d.pe := ⟨_, rfl⟩
          have HPX : Hid (Calls Tryz.prog 193 #[.agg #[.slice A l.length c, .slice (some ⟨b, off, none⟩) ts.length ct], .string d.pe] (wr.alloc (.cells #[.string d.of_, .string d.pe, .int .i64 d.fr, .int .i64 d.to_] 126)) fun e w' => e = .returned (.int .i64 pz) ∧ Up (wr.alloc (.cells #[.string d.of_, .string d.pe, .int .i64 d.fr, .int .i64 d.to_] 126)) w') := Lib.hid (by rw [hpz]; exact hpix)
          clear hpix
          have HPZ := Lib.hid hpz
          clear hpz
          obtain ⟨x0, x1⟩ := (hB.up (hup.trans v1)).c2
          go_wp2_with (go_at_call 193; refine HPX.out.mono ?_; rintro e W1 ⟨rfl, v2⟩)
          clear HPX x0 x1
          have uW := hup.trans (v1.trans v2)
          obtain ⟨x0, x1⟩ := (hB.up uW).c2
          obtain ⟨y0, y1, y2, y3⟩ := (hX.up v2).c4
          have X0 := cell_regrown x0
          have Y0 := cell_regrown y0
          have Y2 := cell_regrown y2
          have Y3 := cell_regrown y3
          obtain ⟨b1, hb1⟩ : ∃ x, x = nameB d.of_ 12 := ⟨_, rfl⟩
          obtain ⟨b2, hb2⟩ : ∃ x, x = spanB d.fr d.to_ := ⟨_, rfl⟩
          have cN : ∀ dd os, Calls Tryz.prog 168 #[.string d.of_, .int .i64 12] (grow (redrawn W1 dd) os) fun e w'' => e = .returned (.bool (nameB d.of_ 12)) ∧ ∃ p : Regrown, w'' = grow (redrawn W1 p.d) p.os :=
            fun dd os => Calls.regrown_of (l01NameU d.of_ 12 _ (hok2.out d (List.mem_of_getElem? HD.out)).1)
          have cS : ∀ dd os, Calls Tryz.prog 173 #[.int .i64 d.fr, .int .i64 d.to_] (grow (redrawn W1 dd) os) fun e w'' => e = .returned (.bool (spanB d.fr d.to_)) ∧ ∃ p : Regrown, w'' = grow (redrawn W1 p.d) p.os :=
            fun dd os => Calls.regrown_of (l13Span_any d.fr d.to_ _)
          rw [← hb1] at cN
          rw [← hb2] at cS
          have HB1 := Lib.hid hb1
          have HB2 := Lib.hid hb2
          clear hb1 hb2 x0 x1 y0 y1 y2 y3
          rcases ixB_or l (fun x => x.nm.toList == d.pe.toList) with ⟨hz, hno⟩ | ⟨m, d', hz, hd', hpe, hfst⟩
          · have hpn : pz = -1 := HPZ.out.trans hz
            subst hpn
            have HT := Lib.hid (tm_no (t := d) hno)
            clear hz hno
            rcases b1 with _ | _
            all_goals (
              refine wp_region_quiet_below (by kernel_rfl) (by kernel_rfl) ?_
              repeat (first | go_big_quiet_step ((first | (go_at_call 168; exact cN _ _) | (go_at_call 173; exact cS _ _))) | quiet_step ((first | (go_at_call 168; exact cN _ _) | (go_at_call 173; exact cS _ _))))
              refine wpQuiet_nil ?_
              intro w2 hw2
              obtain ⟨⟨dq, osq⟩, hw2⟩ := hw2
              have hup2 : Up W1 w2 := by rw [hw2]; exact below_regrown _ _ _
              clear hw2 X0 Y0 Y2 Y3 cN cS
              go_wp2
              go_ret
              exact ⟨ret_bool (ppB_ts HD.out HT.out).symm, u0.trans (uW.trans hup2)⟩)
          · have hpn : pz = (m : Int) := HPZ.out.trans hz
            subst hpn
            have hml := (List.getElem?_eq_some_iff.1 hd').1
            have HT := Lib.hid (tm_yes (t := d) hd' hpe hfst)
            have R3 := (hr.up u0 hhi).up uW (Nat.le_trans hhi u0.size)
            obtain ⟨b', off', d'', rfl, -, -, hd'', p0, p1, p2⟩ := R3.nm hml
            obtain rfl : d' = d'' := by rw [hd'] at hd''; exact Option.some.inj hd''
            clear hz hd' hpe hfst hd'' R3 p0
            have P1 := cell_regrown p1
            have P2 := cell_regrown p2
            clear p1 p2
            have hm0 : ¬ (m : Int) < 0 := by omega
            rcases b1 with _ | _
            · refine wp_region_quiet_below (by kernel_rfl) (by kernel_rfl) ?_
              repeat (first | go_big_quiet_step ((first | (go_at_call 168; exact cN _ _) | (go_at_call 173; exact cS _ _))) | quiet_step ((first | (go_at_call 168; exact cN _ _) | (go_at_call 173; exact cS _ _))))
              refine wpQuiet_nil ?_
              intro w2 hw2
              obtain ⟨⟨dq, osq⟩, hw2⟩ := hw2
              have hup2 : Up W1 w2 := by rw [hw2]; exact below_regrown _ _ _
              clear hw2 X0 Y0 Y2 Y3 P1 P2 cN cS
              go_wp2
              go_ret
              exact ⟨ret_bool (ppB_ts HD.out (by rw [HT.out, ← HB1.out]; rfl)).symm, u0.trans (uW.trans hup2)⟩
            rcases b2 with _ | _
            · refine wp_region_quiet_below (by kernel_rfl) (by kernel_rfl) ?_
              repeat (first | go_big_quiet_step ((first | (go_at_call 168; exact cN _ _) | (go_at_call 173; exact cS _ _))) | quiet_step ((first | (go_at_call 168; exact cN _ _) | (go_at_call 173; exact cS _ _))))
              refine wpQuiet_nil ?_
              intro w2 hw2
              obtain ⟨⟨dq, osq⟩, hw2⟩ := hw2
              have hup2 : Up W1 w2 := by rw [hw2]; exact below_regrown _ _ _
              clear hw2 X0 Y0 Y2 Y3 P1 P2 cN cS
              go_wp2
              go_ret
              exact ⟨ret_bool (ppB_ts HD.out (by rw [HT.out, ← HB1.out, ← HB2.out]; rfl)).symm, u0.trans (uW.trans hup2)⟩
            by_cases h1 : d.fr < d'.fr
            · refine wp_region_quiet_below (by kernel_rfl) (by kernel_rfl) ?_
              repeat (first | go_big_quiet_step ((first | (go_at_call 168; exact cN _ _) | (go_at_call 173; exact cS _ _))) | quiet_step ((first | (go_at_call 168; exact cN _ _) | (go_at_call 173; exact cS _ _))))
              refine wpQuiet_nil ?_
              intro w2 hw2
              obtain ⟨⟨dq, osq⟩, hw2⟩ := hw2
              have hup2 : Up W1 w2 := by rw [hw2]; exact below_regrown _ _ _
              clear hw2 X0 Y0 Y2 Y3 P1 P2 cN cS
              go_wp2
              go_ret
              exact ⟨ret_bool (ppB_ts HD.out (by rw [HT.out, ← HB1.out, ← HB2.out]; simp; omega)).symm, u0.trans (uW.trans hup2)⟩
            by_cases h3 : d'.to_ < d.to_
            · refine wp_region_quiet_below (by kernel_rfl) (by kernel_rfl) ?_
              repeat (first | go_big_quiet_step ((first | (go_at_call 168; exact cN _ _) | (go_at_call 173; exact cS _ _))) | quiet_step ((first | (go_at_call 168; exact cN _ _) | (go_at_call 173; exact cS _ _))))
              refine wpQuiet_nil ?_
              intro w2 hw2
              obtain ⟨⟨dq, osq⟩, hw2⟩ := hw2
              have hup2 : Up W1 w2 := by rw [hw2]; exact below_regrown _ _ _
              clear hw2 X0 Y0 Y2 Y3 P1 P2 cN cS
              go_wp2
              go_ret
              exact ⟨ret_bool (ppB_ts HD.out (by rw [HT.out, ← HB1.out, ← HB2.out]; simp; omega)).symm, u0.trans (uW.trans hup2)⟩
            have HG := Lib.hid (show tmB l d = true by rw [HT.out, ← HB1.out, ← HB2.out]; simp; omega)
            refine wp_region_quiet_below (by kernel_rfl) (by kernel_rfl) ?_
            repeat (first | go_big_quiet_step ((first | (go_at_call 168; exact cN _ _) | (go_at_call 173; exact cS _ _))) | quiet_step ((first | (go_at_call 168; exact cN _ _) | (go_at_call 173; exact cS _ _))))
            refine wpQuiet_nil ?_
            intro w2 hw2
            obtain ⟨⟨dq, osq⟩, hw2⟩ := hw2
            have hup2 : Up W1 w2 := by rw [hw2]; exact below_regrown _ _ _
            clear hw2 X0 Y0 Y2 Y3 P1 P2 cN cS
            go_wp2
            go_roundw
            case rel => exact ⟨k2 + 1, by omega, by go_num, allK_step (q := fun _ => tmB l) HA.out HD.out HG.out, uW.trans hup2⟩
            case measure => simp [intOf]; omega
        · have HE := Lib.hid (ppB_end (l := l) (ts := ts) HPS.out (fun j d hj hd => HA.out j d (by omega) hd))
          clear HPS HA
          by_cases g1 : l.length ≤ 40
          · go_wp2
            go_ret
            exact ⟨ret_bool (by rw [HE.out, decide_eq_true g1]; exact decide_eq_decide.2 (by omega)), u0.trans hup⟩
          · go_wp2
            go_ret
            exact ⟨ret_bool (by rw [HE.out, decide_eq_false g1]; rfl), u0.trans hup⟩
end Go.Proofs.YtblpjjcjnaigiaaGreatDoor

namespace Go.Proofs.YtblpjjcjnaigiaaGreatDoor

/-- days of a month -/
def ml (y m : Int) : Int := if m = 2 then (if y % 4 = 0 then 29 else 28) else if m = 4 ∨ m = 6 ∨ m = 9 ∨ m = 11 then 30 else 31
end Go.Proofs.YtblpjjcjnaigiaaGreatDoor
