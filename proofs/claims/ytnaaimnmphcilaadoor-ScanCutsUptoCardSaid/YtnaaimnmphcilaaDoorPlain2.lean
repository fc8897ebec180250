/- Plain facts on lists of bytes: which are right, their code points, where the first fault is; code points laid one behind the other. No program in it. -/
import Derived.Test.YtnaaimnmphcilaaDoorPlain
import Derived.Test.YtnaaimnmphcilaaDoorCodes
namespace Go.Proofs.YtnaaimnmphcilaaDoor.Hand
open Go.RowKit Go.Proofs.YtnaaimnmphcilaaDoorW.PrintWords
set_option linter.unusedVariables false
set_option linter.unusedSimpArgs false

def layI (cs : List Int) : List Int := cs.flatMap putI
def AllPt (cs : List Int) : Prop := ∀ c ∈ cs, Pt c
instance (cs : List Int) : Decidable (AllPt cs) := inferInstanceAs (Decidable (∀ c ∈ cs, Pt c))
def validI (l : List Int) : Bool := Lib.validD (toB l)

theorem layI_nil : layI [] = [] := rfl
theorem layI_cons (c : Int) (cs : List Int) : layI (c :: cs) = putI c ++ layI cs := by simp [layI]
theorem layI_append (a b : List Int) : layI (a ++ b) = layI a ++ layI b := by simp [layI]
theorem putI_len4 (c : Int) : 1 ≤ (putI c).length ∧ (putI c).length ≤ 4 := Lib.encodeRuneZ_length c
theorem layI_len (cs : List Int) : cs.length ≤ (layI cs).length ∧ (layI cs).length ≤ 4 * cs.length := by
  induction cs with
  | nil => simp [layI]
  | cons c cs ih => have := putI_len4 c; rw [layI_cons]; simp only [List.length_append, List.length_cons]; omega
theorem allB_append {a b : List Int} : allB (a ++ b) = (allB a && allB b) := by simp [allB]
theorem allB_putI (c : Int) : allB (putI c) = true := by
  unfold allB
  rw [List.all_eq_true]
  intro x hx
  have := Lib.encodeRuneZ_byte c x hx
  simpa [isB] using this
theorem allB_layI (cs : List Int) : allB (layI cs) = true := by
  induction cs with
  | nil => rfl
  | cons c cs ih => rw [layI_cons, allB_append, allB_putI, ih]; rfl
theorem allB_take {l : List Int} (h : allB l = true) (n : Nat) : allB (l.take n) = true := by
  unfold allB at *
  rw [List.all_eq_true] at *
  exact fun x hx => h x (List.mem_of_mem_take hx)
theorem allB_drop {l : List Int} (h : allB l = true) (n : Nat) : allB (l.drop n) = true := by
  unfold allB at *
  rw [List.all_eq_true] at *
  exact fun x hx => h x (List.mem_of_mem_drop hx)
theorem toB_drop (l : List Int) (n : Nat) : toB (l.drop n) = (toB l).drop n := by simp [toB, List.map_drop]
theorem toB_getD {l : List Int} (h : allB l = true) (j : Nat) : ((toB l).getD j 0).toNat = (rd l (j : Int)).toNat := by
  by_cases hj : j < l.length
  · have hx := allB_mem h (l[j]) (List.getElem_mem hj)
    simp [toB, rd, hj]
    omega
  · simp [toB, rd, hj]

theorem decodeN_min (n b0 b1 b2 b3 : Nat) : Lib.decodeN (min n 4) b0 b1 b2 b3 = Lib.decodeN n b0 b1 b2 b3 := by
  have h1 : (1 < min n 4) = (1 < n) := propext (by omega)
  have h2 : (2 < min n 4) = (2 < n) := propext (by omega)
  have h3 : (3 < min n 4) = (3 < n) := propext (by omega)
  unfold Lib.decodeN
  simp only [h1, h2, h3]
theorem decI_L {l : List Int} (h : allB l = true) : decI l = Lib.decodeL (toB l) := by
  rw [Lib.decodeL_N, toB_length, toB_getD h 0, toB_getD h 1, toB_getD h 2, toB_getD h 3]
  unfold decI
  rw [decodeN_min]
  rfl
theorem decI_width {l : List Int} (h : allB l = true) : 1 ≤ (decI l).2 := by rw [decI_L h]; exact Lib.decodeL_width _
theorem good_iff {l : List Int} (h : allB l = true) : Good (decI l) ↔ ¬ ((Lib.decodeL (toB l)).1 = 65533 ∧ (Lib.decodeL (toB l)).2 = 1) := by
  have := decI_width h
  rw [decI_L h] at this ⊢
  unfold Good
  omega
theorem toB_ne {l : List Int} (hne : l ≠ []) : toB l ≠ [] := by simpa [toB] using hne
theorem validI_nil : validI [] = true := rfl
theorem validI_step {l : List Int} (h : allB l = true) (hne : l ≠ []) : validI l = if Good (decI l) then validI (l.drop (decI l).2) else false := by
  unfold validI
  rw [Lib.validD_step _ (toB_ne hne), toB_drop, decI_L h]
  by_cases hg : Good (Lib.decodeL (toB l))
  · rw [if_pos hg, if_neg ((good_iff h).1 (by rw [decI_L h]; exact hg))]
  · rw [if_neg hg, if_pos]
    have := mt (good_iff h).2 (by rw [decI_L h]; exact hg)
    exact Classical.not_not.1 this
theorem runesI_step {l : List Int} (h : allB l = true) (hne : l ≠ []) : runesI l = ((decI l).1 : Int) :: runesI (l.drop (decI l).2) := by
  have hl : 0 < l.length := List.length_pos_iff.2 hne
  have hw := decI_width h
  obtain ⟨n, hn⟩ : ∃ n, l.length = n + 1 := ⟨l.length - 1, by omega⟩
  unfold runesI
  rw [hn]
  show (if toB l = [] then [] else _) = _
  rw [if_neg (toB_ne hne), decI_L h, toB_drop]
  rw [decI_L h] at hw
  rw [runesL_fuel n (l.drop (Lib.decodeL (toB l)).2).length _ (by rw [List.length_drop, toB_length]; omega) (by rw [List.length_drop, List.length_drop, toB_length]; omega)]

/-- What is laid is right, and its code points are those that were laid. -/
theorem lay_valid : ∀ (cs : List Int), AllPt cs → validI (layI cs) = true ∧ runesI (layI cs) = cs
  | [], _ => ⟨rfl, rfl⟩
  | c :: cs, h => by
    have hc : Pt c := h c (by simp)
    have hcs : AllPt cs := fun x hx => h x (by simp [hx])
    obtain ⟨ih1, ih2⟩ := lay_valid cs hcs
    have hB := allB_layI (c :: cs)
    rw [layI_cons] at hB ⊢
    have hne : putI c ++ layI cs ≠ [] := by
      intro h0
      have h4 := putI_len4 c
      rw [(List.append_eq_nil_iff.1 h0).1] at h4
      simp at h4
    have hd := dec_put hc (layI cs)
    have hdrop : (putI c ++ layI cs).drop (widI c) = layI cs := by rw [← putI_len hc]; simp
    have hcc : ((c.toNat : Nat) : Int) = c := by unfold Pt at hc; omega
    have hg : Good (decI (putI c ++ layI cs)) := by
      rw [hd]
      unfold Good widI
      rintro ⟨h1, h2⟩
      simp only at h1 h2
      split at h2
      · unfold Pt at hc; omega
      · split at h2
        · omega
        · split at h2 <;> omega
    refine ⟨?_, ?_⟩
    · rw [validI_step hB hne, if_pos hg, hd, hdrop]; exact ih1
    · rw [runesI_step hB hne, hd, hdrop, ih2, hcc]
/-- Right bytes are code points that were laid. -/
theorem valid_lay : ∀ (n : Nat) (l : List Int), l.length ≤ n → allB l = true → validI l = true → ∃ cs, AllPt cs ∧ l = layI cs
  | 0, l, hn, _, _ => ⟨[], (fun _ h => by cases h), List.eq_nil_of_length_eq_zero (by omega)⟩
  | n + 1, l, hn, hB, hv => by
    by_cases hne : l = []
    · exact ⟨[], (fun _ h => by cases h), hne⟩
    · rw [validI_step hB hne] at hv
      by_cases hg : Good (decI l)
      · rw [if_pos hg] at hv
        obtain ⟨c, hc, hd, ht, hle⟩ := dec_good_I hne (allB_take hB 4) hg
        have hw := widI_le c
        rw [hd] at hv
        obtain ⟨cs, h1, h2⟩ := valid_lay n (l.drop (widI c)) (by rw [List.length_drop]; omega) (allB_drop hB _) hv
        refine ⟨c :: cs, ?_, ?_⟩
        · intro x hx
          rcases List.mem_cons.1 hx with rfl | hx
          · exact hc
          · exact h1 x hx
        · rw [layI_cons, ← ht, ← h2, List.take_append_drop]
      · rw [if_neg hg] at hv
        cases hv
theorem runes_lay {l : List Int} (hB : allB l = true) (hv : validI l = true) : AllPt (runesI l) ∧ layI (runesI l) = l := by
  obtain ⟨cs, h1, rfl⟩ := valid_lay l.length l (Nat.le_refl _) hB hv
  rw [(lay_valid cs h1).2]
  exact ⟨h1, rfl⟩
theorem runes_len {l : List Int} (hB : allB l = true) (hv : validI l = true) : (runesI l).length ≤ l.length := by
  have h := runes_lay hB hv
  have := (layI_len (runesI l)).1
  rw [h.2] at this
  exact this
theorem codes_f {l : List Int} (hB : allB l = true) (hlen : validI l = true → (runesI l).length < 35184372088832) : code_Codes.f l = some (if validI l = true then (runesI l, 0) else ([], 6)) := by
  unfold code_Codes.f
  rw [if_pos hB]
  by_cases hv : validI l = true
  · rw [if_pos hv, if_pos (by exact hv), if_pos (hlen hv)]
  · rw [if_neg hv, if_neg (by exact hv)]

/-- Where the first fault is. -/
def faultL : Nat → List Int → Int → Int
  | 0, _, _ => -1
  | n + 1, l, at' => if l = [] then -1 else if Good (decI l) then faultL n (l.drop (decI l).2) (at' + (decI l).2) else at'
def faultI (l : List Int) : Int := faultL l.length l 0
theorem faultL_valid : ∀ (n : Nat) (l : List Int) (at' : Int), l.length ≤ n → allB l = true → 0 ≤ at' → (validI l = true ∧ faultL n l at' = -1) ∨ (validI l = false ∧ at' ≤ faultL n l at' ∧ faultL n l at' < at' + l.length)
  | 0, l, at', hn, _, _ => by
    have : l = [] := List.eq_nil_of_length_eq_zero (by omega)
    subst this
    exact .inl ⟨rfl, rfl⟩
  | n + 1, l, at', hn, hB, h0 => by
    unfold faultL
    by_cases hne : l = []
    · subst hne; exact .inl ⟨rfl, rfl⟩
    · have hw := decI_width hB
      have hl : 0 < l.length := List.length_pos_iff.2 hne
      rw [if_neg hne, validI_step hB hne]
      by_cases hg : Good (decI l)
      · rw [if_pos hg, if_pos hg]
        obtain ⟨c, hc, hd, ht, hle⟩ := dec_good_I hne (allB_take hB 4) hg
        rw [hd] at hw ⊢
        simp only at hw ⊢
        rcases faultL_valid n (l.drop (widI c)) (at' + (widI c : Nat)) (by rw [List.length_drop]; omega) (allB_drop hB _) (by omega) with h | ⟨h1, h2, h3⟩
        · exact .inl h
        · rw [List.length_drop] at h3
          exact .inr ⟨h1, by omega, by omega⟩
      · rw [if_neg hg, if_neg hg]
        exact .inr ⟨rfl, by omega, by omega⟩
theorem faultI_valid {l : List Int} (hB : allB l = true) : (validI l = true ∧ faultI l = -1) ∨ (validI l = false ∧ 0 ≤ faultI l ∧ faultI l < l.length) := by
  have := faultL_valid l.length l 0 (Nat.le_refl _) hB (by omega)
  simpa [faultI] using this
end Go.Proofs.YtnaaimnmphcilaaDoor.Hand
