/- No stemma costs less than the one that the search gives. -/
import Derived.Test.YtncmenfdnpmblaaDoorBestL
import Derived.Test.YtncmenfdnpmblaaDoorChain
namespace Go.Proofs.YtncmenfdnpmblaaDoor
namespace Pr

def sumN (f : Nat → Nat) : Nat → Nat
  | 0 => 0
  | n + 1 => sumN f n + f n
def hv (f : Nat → Nat) (t n : Nat) : List Nat := (List.range n).filter fun i => decide (t < f i)
theorem hv_succ (f : Nat → Nat) (t n : Nat) : (hv f t (n + 1)).length = (hv f t n).length + (if t < f n then 1 else 0) := by
  unfold hv
  rw [List.range_succ, List.filter_append, List.length_append]
  by_cases h : t < f n
  · simp [h]
  · simp [h]
theorem cap_step (f : Nat → Nat) (D : Nat) : ∀ n, sumN (fun i => min (f i) (D + 1)) n = sumN (fun i => min (f i) D) n + (hv f D n).length
  | 0 => rfl
  | n + 1 => by
    rw [hv_succ]
    simp only [sumN]
    rw [cap_step f D n]
    split <;> omega
theorem cap_zero (f : Nat → Nat) : ∀ n, sumN (fun i => min (f i) 0) n = 0
  | 0 => rfl
  | n + 1 => by simp only [sumN]; rw [cap_zero f n]; omega
theorem cap_le (f g : Nat → Nat) (n : Nat) (h : ∀ t, (hv f t n).length ≤ (hv g t n).length) : ∀ D, sumN (fun i => min (f i) D) n ≤ sumN (fun i => min (g i) D) n
  | 0 => by rw [cap_zero, cap_zero]; exact Nat.le_refl _
  | D + 1 => by rw [cap_step, cap_step]; exact Nat.add_le_add (cap_le f g n h D) (h D)
theorem sum_mono (f g : Nat → Nat) : ∀ n, (∀ i, i < n → f i ≤ g i) → sumN f n ≤ sumN g n
  | 0, _ => Nat.le_refl _
  | n + 1, h => Nat.add_le_add (sum_mono f g n fun i hi => h i (by omega)) (h n (by omega))
theorem sum_bound (f : Nat → Nat) : ∀ n, ∃ D, ∀ i, i < n → f i ≤ D
  | 0 => ⟨0, fun i h => absurd h (by omega)⟩
  | n + 1 => by
    obtain ⟨D, h⟩ := sum_bound f n
    exact ⟨D + f n, fun i hi => by
      by_cases e : i = n
      · subst e; omega
      · have := h i (by omega); omega⟩
theorem sum_le (f g : Nat → Nat) (n : Nat) (h : ∀ t, (hv f t n).length ≤ (hv g t n).length) : sumN f n ≤ sumN g n := by
  obtain ⟨D, hD⟩ := sum_bound f n
  exact Nat.le_trans (sum_mono f (fun i => min (f i) D) n fun i hi => by have := hD i hi; omega) (Nat.le_trans (cap_le f g n h D) (sum_mono _ g n fun i hi => Nat.min_le_left _ _))
/-- an injection by labels -/
theorem len_le (lab : Nat → Nat) : ∀ (H G : List Nat), H.Nodup → (∀ i ∈ H, ∀ j ∈ H, lab i = lab j → i = j) → (∀ i ∈ H, ∃ x ∈ G, lab x = lab i) → H.length ≤ G.length
  | [], G, _, _, _ => Nat.zero_le _
  | i :: H, G, hn, hi, hx => by
    obtain ⟨x, hxG, hxl⟩ := hx i (by simp)
    have hn' := List.nodup_cons.1 hn
    have := len_le lab H (G.erase x) hn'.2 (fun a ha b hb => hi a (by simp [ha]) b (by simp [hb])) (fun a ha => by
      obtain ⟨y, hy, hyl⟩ := hx a (by simp [ha])
      refine ⟨y, ?_, hyl⟩
      have hne : y ≠ x := by
        intro e
        rw [e, hxl] at hyl
        have := hi i (by simp) a (by simp [ha]) hyl
        rw [this] at hn'
        exact hn'.1 ha
      exact (List.mem_erase_of_ne hne).2 hy)
    rw [List.length_erase_of_mem hxG] at this
    have hp : 0 < G.length := List.length_pos_of_mem hxG
    simp only [List.length_cons]; omega

/-- the last heavy time up to a node's own, plus one; 0 for the root -/
def labT (H : List Nat) (time : Nat → Nat) (m : Nat) : Nat := (H.filter fun j => decide (time j < m)).foldl (fun a j => max a (time j + 1)) 0
theorem foldl_ge : ∀ (H : List Nat) (f : Nat → Nat) (a : Nat), a ≤ H.foldl (fun a j => max a (f j)) a
  | [], _, _ => Nat.le_refl _
  | j :: H, f, a => Nat.le_trans (Nat.le_max_left _ _) (foldl_ge H f (max a (f j)))
theorem foldl_mem : ∀ (H : List Nat) (f : Nat → Nat) (a : Nat), ∀ j ∈ H, f j ≤ H.foldl (fun a j => max a (f j)) a
  | [], _, _ => by simp
  | i :: H, f, a => fun j hj => by
    rcases List.mem_cons.1 hj with e | e
    · subst e; exact Nat.le_trans (Nat.le_max_right _ _) (foldl_ge H f _)
    · exact foldl_mem H f _ j e
theorem foldl_ex : ∀ (H : List Nat) (f : Nat → Nat) (a : Nat), H.foldl (fun a j => max a (f j)) a = a ∨ ∃ j ∈ H, H.foldl (fun a j => max a (f j)) a = f j
  | [], _, _ => .inl rfl
  | i :: H, f, a => by
    rcases foldl_ex H f (max a (f i)) with h | ⟨j, hj, h⟩
    · rcases Nat.le_total a (f i) with h2 | h2
      · exact .inr ⟨i, by simp, by rw [List.foldl_cons, h]; omega⟩
      · exact .inl (by rw [List.foldl_cons, h]; omega)
    · exact .inr ⟨j, by simp [hj], by rw [List.foldl_cons, h]⟩
theorem labT_mem {H : List Nat} {time : Nat → Nat} {m j : Nat} (hj : j ∈ H) (h : time j < m) : time j + 1 ≤ labT H time m :=
  foldl_mem _ (fun j => time j + 1) 0 j (by simp [hj, h])
theorem labT_ex (H : List Nat) (time : Nat → Nat) (m : Nat) : labT H time m = 0 ∨ ∃ j ∈ H, time j < m ∧ labT H time m = time j + 1 := by
  rcases foldl_ex (H.filter fun j => decide (time j < m)) (fun j => time j + 1) 0 with h | ⟨j, hj, h⟩
  · exact .inl h
  · simp at hj; exact .inr ⟨j, hj.1, hj.2, h⟩
theorem labT_self {H : List Nat} {time : Nat → Nat} {j : Nat} (hj : j ∈ H) : labT H time (time j + 1) = time j + 1 := by
  have h1 : time j + 1 ≤ labT H time (time j + 1) := labT_mem hj (Nat.lt_succ_self (time j))
  rcases labT_ex H time (time j + 1) with h | ⟨i, _, h2, h3⟩
  · omega
  · omega

/-- a node's age: 0 for the root, else its time plus one -/
def age (time : Nat → Nat) (z : Int) : Nat := if z < 0 then 0 else time z.toNat + 1
/-- parents that lead to the root -/
inductive Up (ps : Nat → Int) : Int → Prop
  | root {z : Int} (h : z < 0) : Up ps z
  | step {i : Nat} (h : Up ps (ps i)) : Up ps (i : Int)

theorem heavy_le (n : Nat) (d : Int → Int → Nat) (sym : ∀ x y, d x y = d y x) (par ps : Nat → Int) (time : Nat → Nat)
    (hinj : ∀ i, i < n → ∀ j, j < n → time i = time j → i = j)
    (hps : ∀ i, i < n → Up ps (i : Int)) (hr : ∀ i, i < n → -1 ≤ ps i ∧ ps i < n)
    (hprim : ∀ (j y : Nat) (x : Int), j < n → y < n → time j ≤ time y → -1 ≤ x → x < n → age time x ≤ time j → d (par j) j ≤ d x y) (t : Nat) :
    (hv (fun i => d (par i) i) t n).length ≤ (hv (fun i => d (ps i) i) t n).length := by
  obtain ⟨H, hH⟩ : ∃ H, H = hv (fun i => d (par i) i) t n := ⟨_, rfl⟩
  have hmem : ∀ j, j ∈ H ↔ j < n ∧ t < d (par j) j := fun j => by rw [hH]; simp [hv]
  -- nodes of two labels are far apart
  have far1 : ∀ (x : Int) (y : Nat), -1 ≤ x → x < n → y < n → labT H time (age time x) < labT H time (age time y) → t < d x y := by
    intro x y h0 h1 hy hl
    rcases labT_ex H time (age time y) with h | ⟨j, hj, h2, h3⟩
    · omega
    · have hj' := (hmem j).1 hj
      refine Nat.lt_of_lt_of_le hj'.2 (hprim j y x hj'.1 hy ?_ h0 h1 ?_)
      · unfold age at h2; rw [if_neg (by omega)] at h2; simp at h2; omega
      · rcases Nat.lt_or_ge (time j) (age time x) with h4 | h4
        · have := labT_mem hj h4; omega
        · exact h4
  have far : ∀ (x : Int) (y : Nat), -1 ≤ x → x < n → y < n → labT H time (age time x) ≠ labT H time (age time y) → t < d x y := by
    intro x y h0 h1 hy hl
    rcases Nat.lt_or_gt_of_ne hl with h | h
    · exact far1 x y h0 h1 hy h
    · have hx : 0 ≤ x := by
        rcases Int.lt_or_le x 0 with h5 | h5
        · exfalso
          have e : age time x = 0 := by simp [age, h5]
          rw [e] at h
          rcases labT_ex H time 0 with h6 | ⟨j, _, h6, _⟩
          · omega
          · omega
        · exact h5
      obtain ⟨k, rfl⟩ := Int.eq_ofNat_of_zero_le hx
      rw [sym]
      exact far1 (y : Int) k (by omega) (by omega) (by omega) h
  rw [← hH]
  refine len_le (fun i => labT H time (age time (i : Int))) H _ (by rw [hH]; exact List.Nodup.sublist List.filter_sublist List.nodup_range) ?_ ?_
  · intro i hi j hj e
    have ei : age time (i : Int) = time i + 1 := by unfold age; rw [if_neg (by omega)]; simp
    have ej : age time (j : Int) = time j + 1 := by unfold age; rw [if_neg (by omega)]; simp
    simp only [ei, ej] at e
    rw [labT_self hi, labT_self hj] at e
    exact hinj i ((hmem i).1 hi).1 j ((hmem j).1 hj).1 (by omega)
  · intro i hi
    have hin := ((hmem i).1 hi).1
    have hpos : 0 < labT H time (age time (i : Int)) := by
      have ei : age time (i : Int) = time i + 1 := by unfold age; rw [if_neg (by omega)]; simp
      rw [ei, labT_self hi]; omega
    -- walk up till the label turns
    have walk : ∀ z : Int, Up ps z → -1 ≤ z → z < n → ∀ c, 0 < c → labT H time (age time z) = c → ∃ x : Nat, x < n ∧ labT H time (age time (x : Int)) = c ∧ t < d (ps x) x := by
      intro z hz
      induction hz with
      | @root z h =>
        intro _ _ c hc hl
        have e : age time z = 0 := by simp [age, h]
        rw [e] at hl
        rcases labT_ex H time 0 with h6 | ⟨j, _, h6, _⟩
        · omega
        · omega
      | @step i h ih =>
        intro h0 h1 c hc hl
        have hi' : i < n := by omega
        by_cases e : labT H time (age time (ps i)) = c
        · exact ih (hr i hi').1 (hr i hi').2 c hc e
        · exact ⟨i, hi', hl, far (ps i) i (hr i hi').1 (hr i hi').2 hi' (by rw [hl]; exact e)⟩
    obtain ⟨x, hx, hl, hd⟩ := walk (i : Int) (hps i hin) (by omega) (by omega) _ hpos rfl
    exact ⟨x, by simp [hv, hx, hd], hl⟩

theorem prim_le (n : Nat) (d : Int → Int → Nat) (sym : ∀ x y, d x y = d y x) (par ps : Nat → Int) (time : Nat → Nat)
    (hinj : ∀ i, i < n → ∀ j, j < n → time i = time j → i = j)
    (hps : ∀ i, i < n → Up ps (i : Int)) (hr : ∀ i, i < n → -1 ≤ ps i ∧ ps i < n)
    (hprim : ∀ (j y : Nat) (x : Int), j < n → y < n → time j ≤ time y → -1 ≤ x → x < n → age time x ≤ time j → d (par j) j ≤ d x y) :
    sumN (fun i => d (par i) i) n ≤ sumN (fun i => d (ps i) i) n :=
  sum_le _ _ n (heavy_le n d sym par ps time hinj hps hr hprim)
end Pr

/-- what a step of the search has seen -/
structure Min (o : List Int) (P : List PC) (T : List Bool) (Seen : Nat → Int → Prop) (s : Int × Int × Int) : Prop where
  none_ : s.1 < 0 → ∀ i k, Seen i k → gT T i = false → okK T k = false
  some_ : 0 ≤ s.1 → okK T s.2.1 = true ∧ s.2.2 = (dsN o P s.2.1 s.1 : Int) ∧ ∀ (i : Nat) k, Seen i k → gT T i = false → okK T k = true → s.2.2 ≤ (dsN o P k (i : Int) : Int)
theorem bsS_min {o : List Int} {P : List PC} {T : List Bool} {Seen : Nat → Int → Prop} {s : Int × Int × Int} (h : Min o P T Seen s) (i : Nat) (k : Int) : Min o P T (fun a b => Seen a b ∨ a = i ∧ b = k) (bsS o P T i k s) := by
  rcases h1 : gT T i with _ | _
  · rcases h2 : okK T k with _ | _
    · rw [bsS_2 h2]
      refine ⟨fun hs a b hab ha => ?_, fun hs => ⟨(h.some_ hs).1, (h.some_ hs).2.1, fun a b hab ha hb => ?_⟩⟩
      · rcases hab with hab | ⟨rfl, rfl⟩
        · exact h.none_ hs a b hab ha
        · exact h2
      · rcases hab with hab | ⟨rfl, rfl⟩
        · exact (h.some_ hs).2.2 a b hab ha hb
        · rw [h2] at hb; cases hb
    · by_cases h3 : s.1 < 0 ∨ (dsN o P k (i : Int) : Int) < s.2.2
      · rw [bsS_3 h1 h2 h3]
        refine ⟨fun hs => absurd hs (by show ¬ (i : Int) < 0; omega), fun _ => ⟨h2, rfl, fun a b hab ha hb => ?_⟩⟩
        rcases hab with hab | ⟨rfl, rfl⟩
        · show (dsN o P k (i : Int) : Int) ≤ _
          by_cases hs : s.1 < 0
          · have := h.none_ hs a b hab ha
            rw [this] at hb; cases hb
          · have h4 := (h.some_ (by omega)).2.2 a b hab ha hb
            rcases h3 with h3 | h3
            · exact absurd h3 hs
            · omega
        · exact Int.le_refl _
      · rw [bsS_4 h3]
        refine ⟨fun hs => absurd (Or.inl hs) h3, fun hs => ⟨(h.some_ hs).1, (h.some_ hs).2.1, fun a b hab ha hb => ?_⟩⟩
        rcases hab with hab | ⟨rfl, rfl⟩
        · exact (h.some_ hs).2.2 a b hab ha hb
        · have := not_or.1 h3
          omega
  · rw [bsS_1 h1]
    refine ⟨fun hs a b hab ha => ?_, fun hs => ⟨(h.some_ hs).1, (h.some_ hs).2.1, fun a b hab ha hb => ?_⟩⟩
    · rcases hab with hab | ⟨rfl, rfl⟩
      · exact h.none_ hs a b hab ha
      · rw [h1] at ha; cases ha
    · rcases hab with hab | ⟨rfl, rfl⟩
      · exact (h.some_ hs).2.2 a b hab ha hb
      · rw [h1] at ha; cases ha
theorem Min.weak {o : List Int} {P : List PC} {T : List Bool} {S S' : Nat → Int → Prop} {s : Int × Int × Int} (h : Min o P T S s) (hs : ∀ i k, S' i k → S i k) : Min o P T S' s :=
  ⟨fun h1 i k h2 => h.none_ h1 i k (hs i k h2), fun h1 => ⟨(h.some_ h1).1, (h.some_ h1).2.1, fun i k h2 => (h.some_ h1).2.2 i k (hs i k h2)⟩⟩
theorem bsK_min {o : List Int} {P : List PC} {T : List Bool} {S : Nat → Int → Prop} {s : Int × Int × Int} (h : Min o P T S s) (i : Nat) : ∀ m : Nat, Min o P T (fun a b => S a b ∨ a = i ∧ -1 ≤ b ∧ b + 1 < ((m : Nat) : Int)) (bsK o P T i m s)
  | 0 => h.weak fun a b hab => by
    rcases hab with hab | ⟨-, h1, h2⟩
    · exact hab
    · omega
  | m + 1 => (bsS_min (bsK_min h i m) i ((m : Int) - 1)).weak fun a b hab => by
    rcases hab with hab | ⟨h0, h1, h2⟩
    · exact .inl (.inl hab)
    · by_cases e : b + 1 < (m : Int)
      · exact .inl (.inr ⟨h0, h1, e⟩)
      · exact .inr ⟨h0, by omega⟩
theorem bsI_min (o : List Int) (P : List PC) (T : List Bool) (n : Nat) : ∀ i, Min o P T (fun a b => a < i ∧ -1 ≤ b ∧ b < (n : Int)) (bsI o P T n i)
  | 0 => ⟨fun _ a b hab => absurd hab.1 (by omega), fun hs => absurd hs (by simp [bsI])⟩
  | i + 1 => (bsK_min (bsI_min o P T n i) i (n + 1)).weak fun a b hab => by
    by_cases e : a < i
    · exact .inl ⟨e, hab.2⟩
    · exact .inr ⟨by omega, hab.2.1, by omega⟩
/-- when each copy was placed -/
def bsTm (o : List Int) (P : List PC) (n : Nat) : Nat → Nat → Nat
  | 0, _ => 0
  | r + 1, j => if j = (bsI o P (bsR o P n r).2 n n).1.toNat then r else bsTm o P n r j
theorem gT_set {T : List Bool} {j i : Nat} (hj : j < T.length) : gT (T.set j true) i = (decide (i = j) || gT T i) := by
  unfold gT
  by_cases e : i = j
  · subst e; simp [hj]
  · rw [List.getElem?_set_ne (fun h => e h.symm)]; simp [e]
theorem upS_set {Q : List Int} {j : Nat} {z : Int} (hj : j < Q.length) (i : Nat) : upS (Q.set j z) (i : Int) = if i = j then z else upS Q (i : Int) := by
  unfold upS
  simp only [Int.toNat_natCast]
  by_cases e : i = j
  · subst e; simp [hj]
  · rw [List.getElem?_set_ne (fun h => e h.symm), if_neg e]
/-- a place in the order: the original, or a copy placed before time m -/
def plc (T : List Bool) (tm : Nat → Nat) (m : Nat) (x : Int) : Prop := x = -1 ∨ gT T x.toNat = true ∧ tm x.toNat < m
structure Tim (o : List Int) (P : List PC) (n r : Nat) (Q : List Int) (T : List Bool) (tm : Nat → Nat) : Prop where
  lt : ∀ j, gT T j = true → tm j < r
  inj : ∀ i j, gT T i = true → gT T j = true → tm i = tm j → i = j
  par : ∀ j : Nat, gT T j = true → plc T tm (tm j) (upS Q (j : Int))
  min : ∀ (j y : Nat) (x : Int), j < n → y < n → gT T j = true → (gT T y = false ∨ tm j ≤ tm y) → -1 ≤ x → x < n → plc T tm (tm j) x → dsN o P (upS Q (j : Int)) (j : Int) ≤ dsN o P x (y : Int)
theorem bsR_tim (o : List Int) (P : List PC) (n : Nat) : ∀ r, r ≤ n → Tim o P n r (bsR o P n r).1 (bsR o P n r).2 (bsTm o P n r)
  | 0, _ => by
    have h0 : ∀ j, gT (List.replicate n false) j = false := fun j => by
      unfold gT
      rw [List.getElem?_replicate]
      split <;> simp_all
    refine ⟨fun j h => ?_, fun i j h => ?_, fun j h => ?_, fun j y x _ _ h => ?_⟩ <;> · simp only [bsR] at h; rw [h0] at h; cases h
  | r + 1, h => by
    have ih := bsR_tim o P n r (by omega)
    have hok := bsR_ok o P n r (by omega)
    obtain ⟨h1, h2, h3⟩ := bsI_fin (o := o) (P := P) hok (by omega)
    obtain ⟨m1, m2, m3⟩ := (bsI_min o P (bsR o P n r).2 n n).some_ h1
    obtain ⟨c, hc⟩ : ∃ c, c = bsI o P (bsR o P n r).2 n n := ⟨_, rfl⟩
    obtain ⟨q, hq⟩ := Int.eq_ofNat_of_zero_le h1
    have hqn : q < n := by have := h2.2.1; omega
    have hTl : q < (bsR o P n r).2.length := by rw [hok.t]; exact hqn
    have hQl : q < (bsR o P n r).1.length := by rw [hok.q]; exact hqn
    have hTq : gT (bsR o P n r).2 q = false := by rw [hq] at h3; exact gT_of h3
    have hk0 := h2.2.2.2.1
    have hk1 := h2.2.2.2.2.1
    simp only [bsR]
    rw [hq] at m2 ⊢
    simp only [Int.toNat_natCast]
    generalize (bsI o P (bsR o P n r).2 n n).2.1 = k at *
    generalize (bsI o P (bsR o P n r).2 n n).2.2 = l at *
    have htm : ∀ j, bsTm o P n (r + 1) j = if j = q then r else bsTm o P n r j := fun j => by
      simp only [bsTm]; rw [hq]; rfl
    generalize bsTm o P n (r + 1) = tm' at *
    generalize bsTm o P n r = tm at *
    generalize (bsR o P n r).2 = T at *
    generalize (bsR o P n r).1 = Q at *
    clear hc c hq h1 h2 h3
    have old : ∀ j, gT T j = true → j ≠ q := fun j hj e => by rw [e, hTq] at hj; cases hj
    have tmo : ∀ j, gT T j = true → tm' j = tm j := fun j hj => by rw [htm, if_neg (old j hj)]
    have tmq : tm' q = r := by rw [htm, if_pos rfl]
    have hplc : ∀ m x, m ≤ r → (plc (T.set q true) tm' m x ↔ plc T tm m x) := fun m x hm => by
      unfold plc
      rw [gT_set hTl]
      constructor
      · rintro (h | ⟨h4, h5⟩)
        · exact .inl h
        · by_cases e : x.toNat = q
          · rw [e, tmq] at h5; omega
          · simp only [e, decide_false, Bool.false_or] at h4
            exact .inr ⟨h4, by rw [tmo _ h4] at h5; exact h5⟩
      · rintro (h | ⟨h4, h5⟩)
        · exact .inl h
        · exact .inr ⟨by rw [h4]; simp, by rw [tmo _ h4]; exact h5⟩
    have cases' : ∀ j, gT (T.set q true) j = true → j = q ∨ gT T j = true := fun j hj => by
      rw [gT_set hTl] at hj
      by_cases e : j = q
      · exact .inl e
      · simp only [e, decide_false, Bool.false_or] at hj; exact .inr hj
    refine ⟨fun j hj => ?_, fun i j hi hj e => ?_, fun j hj => ?_, fun j y x hj hy hg hty hx0 hx1 hp => ?_⟩
    · rcases cases' j hj with rfl | hj'
      · omega
      · rw [tmo j hj']; have := ih.lt j hj'; omega
    · rcases cases' i hi with rfl | hi' <;> rcases cases' j hj with rfl | hj'
      · rfl
      · rw [tmq, tmo j hj'] at e; have := ih.lt j hj'; omega
      · rw [tmq, tmo i hi'] at e; have := ih.lt i hi'; omega
      · rw [tmo i hi', tmo j hj'] at e; exact ih.inj i j hi' hj' e
    · rcases cases' j hj with rfl | hj'
      · rw [upS_set hQl, if_pos rfl, tmq, hplc r _ (Nat.le_refl _)]
        by_cases hkk : k = -1
        · exact .inl hkk
        · obtain ⟨kn, rfl⟩ := Int.eq_ofNat_of_zero_le (show 0 ≤ k by omega)
          rw [okK_c] at m1
          exact .inr ⟨m1, ih.lt _ m1⟩
      · rw [upS_set hQl, if_neg (old j hj'), tmo j hj', hplc _ _ (Nat.le_of_lt (ih.lt j hj'))]
        exact ih.par j hj'
    · rcases cases' j hg with rfl | hj'
      · rw [upS_set hQl, if_pos rfl]
        rw [tmq] at hty hp
        rw [hplc r x (Nat.le_refl _)] at hp
        have hTy : gT T y = false := by
          rcases hh : gT T y with _ | _
          · rfl
          · exfalso
            rcases hty with h | h
            · rw [gT_set hTl, hh] at h; simp at h
            · rw [tmo y hh] at h; have := ih.lt y hh; omega
        have hokx : okK T x = true := by
          rcases hp with e | ⟨h4, -⟩
          · rw [e]; exact okK_o T
          · unfold okK; rw [h4]; simp
        have := m3 y x ⟨hy, hx0, hx1⟩ hTy hokx
        omega
      · rw [upS_set hQl, if_neg (old j hj')]
        have hlt := ih.lt j hj'
        rw [tmo j hj'] at hty hp
        rw [hplc _ x (Nat.le_of_lt hlt)] at hp
        refine ih.min j y x hj hy hj' ?_ hx0 hx1 hp
        rcases hh : gT T y with _ | _
        · exact .inl rfl
        · right
          rcases hty with h | h
          · rw [gT_set hTl, hh] at h; simp at h
          · rwa [tmo y hh] at h
theorem cntT_all : ∀ (T : List Bool), cntT T = T.length → ∀ j, j < T.length → gT T j = true
  | [], _, j, h => absurd h (by simp)
  | t :: T, h, j, hj => by
    have hle : ∀ T : List Bool, cntT T ≤ T.length := fun T => by
      induction T with
      | nil => simp [cntT]
      | cons a T ih => simp only [cntT, List.length_cons]; split <;> omega
    have := hle T
    simp only [cntT, List.length_cons] at h
    cases t with
    | false => simp at h; omega
    | true =>
      cases j with
      | zero => rfl
      | succ j =>
        have := cntT_all T (by simp at h; omega) j (by simpa using hj)
        simpa [gT] using this
theorem upi_of {ps : List Int} : ∀ (m : Nat) (z : Int), -1 ≤ z → (∀ k : Nat, k < ps.length → -1 ≤ upS ps (k : Int)) → reaB ps m z = true → Pr.Up (fun k => upS ps (k : Int)) z
  | 0, z, _, _, h => .root (by have : z = -1 := by simpa [reaB] using h
                               omega)
  | m + 1, z, h0, hp, h => by
    by_cases hz : z = -1
    · exact .root (by omega)
    · obtain ⟨i, rfl⟩ := Int.eq_ofNat_of_zero_le (show 0 ≤ z by omega)
      rw [rea_step hz] at h
      refine .step (upi_of m _ ?_ hp h)
      by_cases hi : i < ps.length
      · exact hp i hi
      · unfold upS; simp [List.getElem?_eq_none (show ps.length ≤ i by omega)]
theorem csN_sum (o : List Int) (P : List PC) (ps : List Int) : ∀ k, csN o P ps k = Pr.sumN (fun i => dsN o P (upS ps (i : Int)) (i : Int)) k
  | 0 => rfl
  | k + 1 => by rw [csN, Pr.sumN, csN_sum o P ps k]
theorem rea_le {ps : List Int} {m m' : Nat} {z : Int} (h : reaB ps m z = true) (hm : m ≤ m') : reaB ps m' z = true := by
  induction hm with
  | refl => exact h
  | step _ ih => exact rea_mono ih
/-- the best stemma is one -/
theorem best_st (o : List Int) (P : List PC) (n : Nat) : stB (bsR o P n n).1 = true := by
  have hok := bsR_ok o P n n (Nat.le_refl _)
  have ht := bsR_tim o P n n (Nat.le_refl _)
  have hall := cntT_all _ (hok.c.trans hok.t.symm)
  rw [hok.t] at hall
  have hp := hok.p
  have hq := hok.q
  generalize (bsR o P n n).1 = Q at *
  generalize (bsR o P n n).2 = T at *
  generalize bsTm o P n n = tm at *
  have main : ∀ (m : Nat) (z : Int), -1 ≤ z → z < n → plc T tm m z → reaB Q m z = true := by
    intro m
    induction m with
    | zero =>
      intro z _ _ h
      rcases h with rfl | ⟨-, h⟩
      · exact rea_end _ _
      · omega
    | succ m ih =>
      intro z h0 h1 h
      by_cases hz : z = -1
      · rw [hz]; exact rea_end _ _
      · obtain ⟨j, rfl⟩ := Int.eq_ofNat_of_zero_le (show 0 ≤ z by omega)
        rw [rea_step hz]
        have hj : j < n := by omega
        have hb := upS_in (ps := Q) (by rw [hq]; exact hp) (z := (j : Int)) (by omega) (by rw [hq]; omega)
        refine ih _ hb.1 (by rw [hq] at hb; exact hb.2) ?_
        rcases ht.par j (hall j hj) with e | ⟨h2, h3⟩
        · exact .inl e
        · right
          refine ⟨h2, ?_⟩
          rcases h with e | ⟨-, h4⟩
          · exact absurd e hz
          · simp only [Int.toNat_natCast] at h4
            omega
  refine stB_yes fun k hk => ?_
  unfold lnB
  rw [hq] at hk
  exact rea_le (main n (k : Int) (by omega) (by omega) (.inr ⟨by simpa using hall k hk, by simpa using ht.lt k (hall k hk)⟩)) (by omega)
/-- no stemma costs less than the best one -/
theorem best_le (o : List Int) (P : List PC) (sym : ∀ x y, dsN o P x y = dsN o P y x) (ps : List Int) (n : Nat) (hn : ps.length = n) (hp : parB ps n = true) (hs : stB ps = true) : csN o P (bsR o P n n).1 n ≤ csN o P ps n := by
  have hok := bsR_ok o P n n (Nat.le_refl _)
  have ht := bsR_tim o P n n (Nat.le_refl _)
  have hall := cntT_all _ (hok.c.trans hok.t.symm)
  rw [hok.t] at hall
  have hpr : ∀ i : Nat, i < n → -1 ≤ upS ps (i : Int) ∧ upS ps (i : Int) < n := fun i hi => by
    have := upS_in (ps := ps) (by rw [hn]; exact hp) (z := (i : Int)) (by omega) (by omega)
    rw [hn] at this; exact this
  rw [csN_sum, csN_sum]
  refine Pr.prim_le n (fun x y => dsN o P x y) sym (fun i => upS (bsR o P n n).1 (i : Int)) (fun i => upS ps (i : Int)) (bsTm o P n n) ?_ ?_ hpr ?_
  · intro i hi j hj e
    exact ht.inj i j (hall i hi) (hall j hj) e
  · intro i hi
    exact upi_of (ps.length + 1) (i : Int) (by omega) (fun k hk => (hpr k (by omega)).1) (stB_at hs (by omega))
  · intro j y x hj hy hty hx0 hx1 hage
    refine ht.min j y x hj hy (hall j hj) (.inr hty) hx0 hx1 ?_
    unfold Pr.age at hage
    by_cases e : x = -1
    · exact .inl e
    · rw [if_neg (by omega)] at hage
      exact .inr ⟨hall _ (by omega), by omega⟩
end Go.Proofs.YtncmenfdnpmblaaDoor
