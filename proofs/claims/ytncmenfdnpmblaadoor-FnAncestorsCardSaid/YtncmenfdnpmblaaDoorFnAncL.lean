/- FnAncestors' and FnStemmas' plain laws. -/
import Derived.Test.YtncmenfdnpmblaaDoorChain
import Derived.Test.YtncmenfdnpmblaaDoorBestP
import Derived.Test.YtncmenfdnpmblaaDoorCA
import Derived.Test.YtncmenfdnpmblaaDoorChg
namespace Go.Proofs.YtncmenfdnpmblaaDoor
open Go.RowKit Go.Sort

theorem mxD_ge (ps : List Int) : ∀ (n k : Nat), k < n → (lnL ps (k : Int)).length + 1 ≤ mxD ps n
  | 0, k, h => absurd h (by omega)
  | n + 1, k, h => by
    rw [mxD]
    by_cases e : k = n
    · subst e; exact Nat.le_max_right _ _
    · exact Nat.le_trans (mxD_ge ps n k (by omega)) (Nat.le_max_left _ _)
theorem isB_inv {P : List PC} {ps : List Int} (h : isB P ps = true) : arB P = true ∧ ps.length = P.length ∧ parB ps ps.length = true ∧ stB ps = true := by
  simp only [isB, Bool.and_eq_true, decide_eq_true_eq] at h
  obtain ⟨h1, h2, h3, h4⟩ := h
  exact ⟨h1, h2, by rw [h2]; exact h3, h4⟩
theorem isB_mk {P : List PC} {ps : List Int} (h1 : arB P = true) (h2 : ps.length = P.length) (h3 : parB ps ps.length = true) (h4 : stB ps = true) : isB P ps = true := by
  rw [h2] at h3
  simp [isB, h1, h2, h3, h4]
/-- a line has fewer ancestors than the stemma is deep -/
theorem ao_lt {P : List PC} {ps : List Int} {i : Int} (h : aoC P ps i = 0) : ((aoL P ps i).length : Int) < sdV P ps := by
  obtain ⟨h1, -, h3⟩ := stC_inv (show stC true P ps [i] = 0 from h)
  obtain ⟨h4, h5⟩ := h3 i (by simp)
  obtain ⟨n, rfl⟩ := Int.eq_ofNat_of_zero_le h4
  rw [ao_yes h, (sd_0 h1).2]
  have := mxD_ge ps ps.length n (by have := (isB_inv h1).2.1; omega)
  omega
/-- the changes on every copy are there, and add up -/
theorem cg_all {o : List Int} {P : List PC} {ps : List Int} {m : Int} (h : cgC o P ps m = 0) : ∀ y : Nat, y < P.length → cgC o P ps (y : Int) = 0 := by
  obtain ⟨h1, h2, -⟩ := stC_inv (show stC (orB o P) P ps [m] = 0 from h)
  intro y hy
  unfold cgC
  rw [stC_0 h1, cd_0 (by rw [(isB_inv h1).1, h2]; rfl) (by simp [ixB, inB]; omega)]
theorem cg_sum {o : List Int} {P : List PC} {ps : List Int} {y : Nat} (h : cgC o P ps (y : Int) = 0) : csN o P ps (y + 1) = csN o P ps y + (cgL o P ps (y : Int)).length := by
  rw [cg_yes h, csN]; rfl
theorem cg_sc {o : List Int} {P : List PC} {ps : List Int} {m : Int} (h : cgC o P ps m = 0) : scC o P ps = 0 ∧ scV o P ps = (csN o P ps P.length : Nat) := by
  obtain ⟨h1, h2, -⟩ := stC_inv (show stC (orB o P) P ps [m] = 0 from h)
  have := sc_0 (o := o) (P := P) (ps := ps) (by rw [h1, h2]; rfl)
  rw [(isB_inv h1).2.1] at this
  exact this
theorem fsC_eq (L T : List Int) : fsC L T = match fsA L T with | some a => a | none => -1 := rfl
/-- the common ancestor is one of both -/
theorem ca_law {P : List PC} {ps : List Int} {i k : Int} (h : caC P ps i k = 0) : caC P ps k i = 0 ∧ caV P ps k i = caV P ps i k ∧ aoC P ps i = 0 ∧ aoC P ps k = 0 ∧ (caV P ps i k = -1 ∨ (caV P ps i k = i ∨ caV P ps i k ∈ aoL P ps i) ∧ (caV P ps i k = k ∨ caV P ps i k ∈ aoL P ps k)) := by
  obtain ⟨h1, -, h3⟩ := stC_inv (show stC true P ps [i, k] = 0 from h)
  obtain ⟨hi0, hi1⟩ := h3 i (by simp)
  obtain ⟨hk0, hk1⟩ := h3 k (by simp)
  obtain ⟨hA, hlen, hp, hs⟩ := isB_inv h1
  have hx : ∀ ix : List Int, ix.all (ixB P.length) = true → stC true P ps ix = 0 := fun ix hh => by rw [stC_0 h1, cd_0 (by rw [hA]; rfl) hh]
  have ei : ixB P.length i = true := by simp [ixB, inB]; omega
  have ek : ixB P.length k = true := by simp [ixB, inB]; omega
  have h' : caC P ps k i = 0 := hx _ (by simp [ei, ek])
  have ai : aoC P ps i = 0 := hx _ (by simp [ei])
  have ak : aoC P ps k = 0 := hx _ (by simp [ek])
  have li : lnB ps i = true := by
    obtain ⟨n, rfl⟩ := Int.eq_ofNat_of_zero_le hi0
    exact stB_at hs (by omega)
  have lk : lnB ps k = true := by
    obtain ⟨n, rfl⟩ := Int.eq_ofNat_of_zero_le hk0
    exact stB_at hs (by omega)
  have hvi : caV P ps i k = fsC (lnF ps i) (lnF ps k) := by unfold caV; rw [if_pos h]
  have hvk : caV P ps k i = fsC (lnF ps k) (lnF ps i) := by unfold caV; rw [if_pos h']
  have hsym : fsA (lnF ps i) (lnF ps k) = fsA (lnF ps k) (lnF ps i) := by
    rw [← lnF_eq hi0 li, ← lnF_eq hk0 lk]
    exact fsA_sym li lk
  refine ⟨h', by rw [hvi, hvk, fsC_eq, fsC_eq, hsym], ai, ak, ?_⟩
  rw [hvi, ao_yes ai, ao_yes ak, fsC_eq]
  rcases e : fsA (lnF ps i) (lnF ps k) with _ | x
  · exact .inl rfl
  · right
    obtain ⟨h4, p, t, h5, -⟩ := fsA_some e
    have h6 : x ∈ lnF ps i := by rw [h5]; simp
    exact ⟨by simpa [lnF] using h6, by simpa [lnF] using h4⟩
theorem pl_sym (o : List Int) (P : List PC) (x y : Int) : dsN o P x y = dsN o P y x := by
  rw [← ds_swap]; rfl
/-- the best stemma is a stemma, costs what is said, and no stemma costs less -/
theorem bs_law {o : List Int} {P : List PC} (h : bcC o P = 0) : isB P (bcL o P) = true ∧ scC o P (bcL o P) = 0 ∧ scV o P (bcL o P) = bcV o P := by
  obtain ⟨hA, hO, -⟩ := cd_inv (show cdB (orB o P) P [] = 0 from h)
  have hok := bsR_ok o P P.length P.length (Nat.le_refl _)
  obtain ⟨e1, e2⟩ := bc_yes h
  have hI : isB P (bcL o P) = true := by
    rw [e1]
    exact isB_mk hA hok.q (by rw [hok.q]; exact hok.p) (best_st o P P.length)
  have hs := sc_0 (o := o) (P := P) (ps := bcL o P) (by rw [hI, hO]; rfl)
  refine ⟨hI, hs.1, ?_⟩
  rw [hs.2, e2, e1, hok.q]
theorem bs_least {o : List Int} {P : List PC} {ps : List Int} (h : scC o P ps = 0) : bcC o P = 0 ∧ bcV o P ≤ scV o P ps := by
  have hb : (isB P ps && orB o P) = true := by
    rcases hh : (isB P ps && orB o P) with _ | _
    · rw [(sc_1 hh).1] at h; cases h
    · rfl
  have h2 := sc_0 hb
  rw [Bool.and_eq_true] at hb
  obtain ⟨hA, hlen, hp, hs⟩ := isB_inv hb.1
  have hc : bcC o P = 0 := cd_0 (by rw [hA, hb.2]; rfl) rfl
  refine ⟨hc, ?_⟩
  rw [h2.2, (bc_yes hc).2, hlen]
  have := best_le o P (pl_sym o P) ps P.length hlen (by rw [← hlen]; exact hp) hs
  omega
end Go.Proofs.YtncmenfdnpmblaaDoor
