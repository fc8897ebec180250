/- Heaps: plain Lean. -/
import Derived.Test.YtmpniapbjoailaaOrd
namespace Go.Proofs.Ytmpniapbjoailaa.Hand
set_option linter.unusedVariables false
set_option linter.unusedSimpArgs false

section
variable {α : Type} {lt : α → α → Bool} {z : α} {l : List α} {n i j : Nat}
def sw (z : α) (l : List α) (i j : Nat) : List α := (l.set i (l.getD j z)).set j (l.getD i z)
theorem sw_len : (sw z l i j).length = l.length := by simp [sw]
theorem sw_get (hi : i < l.length) (hj : j < l.length) (k : Nat) : (sw z l i j).getD k z = if k = j then l.getD i z else if k = i then l.getD j z else l.getD k z := by
  unfold sw
  simp only [List.getD_eq_getElem?_getD]
  by_cases h1 : k = j
  · subst h1
    rw [if_pos rfl, List.getElem?_set_self (by simpa using hj)]; rfl
  · rw [if_neg h1, List.getElem?_set_ne (Ne.symm h1)]
    by_cases h2 : k = i
    · subst h2
      rw [if_pos rfl, List.getElem?_set_self hi]; rfl
    · rw [if_neg h2, List.getElem?_set_ne (Ne.symm h2)]
theorem sw_perm (hi : i < l.length) (hj : j < l.length) : (sw z l i j).Perm l := by
  have h := Array.swap_perm (xs := l.toArray) (i := i) (j := j) (by simpa using hi) (by simpa using hj)
  have h2 := Array.perm_iff_toList_perm.1 h
  have e : (l.toArray.swap i j (by simpa using hi) (by simpa using hj)).toList = sw z l i j := by
    unfold sw
    simp [Array.swap, List.getD_eq_getElem?_getD, hi, hj]
  rw [e] at h2
  simpa using h2
def par (k : Nat) : Nat := (k - 1) / 2
/-- The first n are a heap. -/
def Hp (lt : α → α → Bool) (z : α) (l : List α) (n : Nat) : Prop := ∀ k, 0 < k → k < n → lt (l.getD k z) (l.getD (par k) z) = false
/-- .. but for place j, which may be too high up. -/
def UpI (lt : α → α → Bool) (z : α) (l : List α) (n j : Nat) : Prop := (∀ k, 0 < k → k < n → k ≠ j → lt (l.getD k z) (l.getD (par k) z) = false) ∧ ∀ k, 0 < k → k < n → par k = j → 0 < j → lt (l.getD k z) (l.getD (par j) z) = false
/-- .. but for place i, which may be too far down. -/
def DnI (lt : α → α → Bool) (z : α) (l : List α) (n i : Nat) : Prop := (∀ k, 0 < k → k < n → par k ≠ i → lt (l.getD k z) (l.getD (par k) z) = false) ∧ ∀ k, 0 < k → k < n → par k = i → 0 < i → lt (l.getD k z) (l.getD (par i) z) = false

theorem up_start {x : α} (h : Hp lt z l l.length) : UpI lt z (l ++ [x]) (l.length + 1) l.length := by
  refine ⟨fun k h1 h2 h3 => ?_, fun k h1 h2 h3 h4 => by unfold par at h3; omega⟩
  have hp : par k < k := by unfold par; omega
  have e : ∀ m, m < l.length → (l ++ [x]).getD m z = l.getD m z := fun m hm => by simp [List.getD_eq_getElem?_getD, List.getElem?_append_left hm]
  rw [e k (by omega), e (par k) (by omega)]
  exact h k h1 (by omega)
theorem up_stop (h : UpI lt z l n j) (hj : j = 0 ∨ lt (l.getD j z) (l.getD (par j) z) = false) : Hp lt z l n := by
  intro k h1 h2
  by_cases hk : k = j
  · subst hk
    rcases hj with h3 | h3
    · omega
    · exact h3
  · exact h.1 k h1 h2 hk
theorem up_step (ho : STO lt) (hn : n ≤ l.length) (h : UpI lt z l n j) (h0 : 0 < j) (hj : j < n) (hlt : lt (l.getD j z) (l.getD (par j) z) = true) : UpI lt z (sw z l (par j) j) n (par j) := by
  have hp : par j < j := by unfold par; omega
  have g := fun k => sw_get (z := z) (l := l) (i := par j) (j := j) (by omega) (by omega) k
  refine ⟨fun k h1 h2 h3 => ?_, fun k h1 h2 h3 h4 => ?_⟩
  · have hpk : par k < k := by unfold par; omega
    by_cases hkj : k = j
    · subst hkj
      rw [g k, if_pos rfl, g (par k), if_neg (by omega), if_pos rfl]
      exact ho.asym hlt
    · rw [g k, if_neg hkj, if_neg h3]
      by_cases h5 : par k = par j
      · rw [g (par k), if_neg (by omega), if_pos h5]
        have h6 := h.1 k h1 h2 hkj
        rw [h5] at h6
        cases h7 : lt (l.getD k z) (l.getD j z) with
        | false => rfl
        | true => rw [ho.tr _ _ _ h7 hlt] at h6; cases h6
      · by_cases h6 : par k = j
        · rw [g (par k), if_pos h6]
          exact h.2 k h1 h2 h6 h0
        · rw [g (par k), if_neg h6, if_neg h5]
          exact h.1 k h1 h2 hkj
  · have hpp : par (par j) < par j := by unfold par at *; omega
    rw [g (par (par j)), if_neg (by omega), if_neg (by omega)]
    have hi := h.1 (par j) h4 (by omega) (by omega)
    have hpk : par k < k := by unfold par; omega
    by_cases hkj : k = j
    · rw [g k, if_pos hkj]; exact hi
    · rw [g k, if_neg hkj, if_neg (by omega)]
      have h6 := h.1 k h1 h2 hkj
      rw [h3] at h6
      exact ho.ntr hi h6

theorem dn_start (hl : l.length = n + 1) (h : Hp lt z l (n + 1)) : DnI lt z (sw z l 0 n) n 0 ∧ (sw z l 0 n).getD n z = l.getD 0 z := by
  have g := fun k => sw_get (z := z) (l := l) (i := 0) (j := n) (by omega) (by omega) k
  refine ⟨⟨fun k h1 h2 h3 => ?_, fun k h1 h2 h3 h4 => by omega⟩, ?_⟩
  · have hpk : par k < k := by unfold par; omega
    rw [g k, if_neg (by omega), if_neg (by omega), g (par k), if_neg (by omega), if_neg h3]
    exact h k h1 (by omega)
  · rw [g n, if_pos rfl]
theorem dn_none (h : DnI lt z l n i) (hi : n ≤ 2 * i + 1) : Hp lt z l n := by
  intro k h1 h2
  exact h.1 k h1 h2 (by unfold par; omega)
/-- j is i's lesser child. -/
def Least (lt : α → α → Bool) (z : α) (l : List α) (n i j : Nat) : Prop := 0 < j ∧ j < n ∧ par j = i ∧ ∀ k, 0 < k → k < n → par k = i → lt (l.getD k z) (l.getD j z) = false
theorem least_left (ho : STO lt) (h1 : 2 * i + 1 < n) (h : n ≤ 2 * i + 2 ∨ lt (l.getD (2 * i + 2) z) (l.getD (2 * i + 1) z) = false) : Least lt z l n i (2 * i + 1) := by
  refine ⟨by omega, h1, by unfold par; omega, fun k h2 h3 h4 => ?_⟩
  have : k = 2 * i + 1 ∨ k = 2 * i + 2 := by unfold par at h4; omega
  rcases this with rfl | rfl
  · exact ho.irr _
  · rcases h with h | h
    · omega
    · exact h
theorem least_right (ho : STO lt) (h1 : 2 * i + 2 < n) (h : lt (l.getD (2 * i + 2) z) (l.getD (2 * i + 1) z) = true) : Least lt z l n i (2 * i + 2) := by
  refine ⟨by omega, h1, by unfold par; omega, fun k h2 h3 h4 => ?_⟩
  have : k = 2 * i + 1 ∨ k = 2 * i + 2 := by unfold par at h4; omega
  rcases this with rfl | rfl
  · exact ho.asym h
  · exact ho.irr _
theorem dn_stop (ho : STO lt) (h : DnI lt z l n i) (hj : Least lt z l n i j) (hlt : lt (l.getD j z) (l.getD i z) = false) : Hp lt z l n := by
  intro k h1 h2
  by_cases h3 : par k = i
  · rw [h3]
    exact ho.ntr hlt (hj.2.2.2 k h1 h2 h3)
  · exact h.1 k h1 h2 h3
theorem dn_step (ho : STO lt) (hn : n ≤ l.length) (h : DnI lt z l n i) (hj : Least lt z l n i j) (hlt : lt (l.getD j z) (l.getD i z) = true) : DnI lt z (sw z l i j) n j := by
  obtain ⟨j0, j1, j2, j3⟩ := hj
  have hp : i < j := by unfold par at j2; omega
  have g := fun k => sw_get (z := z) (l := l) (i := i) (j := j) (by omega) (by omega) k
  refine ⟨fun k h1 h2 h3 => ?_, fun k h1 h2 h3 h4 => ?_⟩
  · have hpk : par k < k := by unfold par; omega
    by_cases hkj : k = j
    · subst hkj
      rw [g k, if_pos rfl, g (par k), if_neg (by omega), if_pos j2]
      exact ho.asym hlt
    · by_cases h5 : par k = i
      · rw [g k, if_neg hkj, if_neg (by omega), g (par k), if_neg h3, if_pos h5]
        exact j3 k h1 h2 h5
      · rw [g (par k), if_neg h3, if_neg h5, g k, if_neg hkj]
        by_cases h6 : k = i
        · subst h6
          rw [if_pos rfl]
          have := h.2 j j0 j1 j2 h1
          exact this
        · rw [if_neg h6]
          exact h.1 k h1 h2 h5
  · have hpk : par k < k := by unfold par; omega
    rw [j2, g k, if_neg (by omega), if_neg (by omega), g i, if_neg (by omega), if_pos rfl]
    have := h.1 k h1 h2 (by omega)
    rw [h3] at this
    exact this
theorem hp_min (ho : STO lt) (h : Hp lt z l n) : ∀ k, k < n → lt (l.getD k z) (l.getD 0 z) = false := by
  intro k
  induction k using Nat.strongRecOn with
  | _ k ih =>
    intro hk
    by_cases h0 : k = 0
    · subst h0; exact ho.irr _
    · have hp : par k < k := by unfold par; omega
      exact ho.ntr (ih (par k) hp (by omega)) (h k (by omega) hk)
theorem hp_take (h : Hp lt z l n) (hn : n ≤ l.length) : Hp lt z (l.take n) n := by
  intro k h1 h2
  have e : ∀ m, m < n → (l.take n).getD m z = l.getD m z := fun m hm => by simp [List.getD_eq_getElem?_getD, List.getElem?_take, hm]
  have hp : par k < k := by unfold par; omega
  rw [e k h2, e (par k) (by omega)]
  exact h k h1 h2
theorem hp_nil : Hp lt z [] 0 := fun k h1 h2 => by omega
end
end Go.Proofs.Ytmpniapbjoailaa.Hand
