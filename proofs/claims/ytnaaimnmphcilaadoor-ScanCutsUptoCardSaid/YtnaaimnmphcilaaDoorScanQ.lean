/- The state of a scan behind all of its bytes: plain Lean. -/
import Derived.Test.YtnaaimnmphcilaaDoorScanP
namespace Go.Proofs.YtnaaimnmphcilaaDoor.Hand
open Go.RowKit Go.Proofs.YtnaaimnmphcilaaDoorW.PrintWords Go.Proofs.YtnaaimnmphcilaaDoorW.PrintLast Go.Proofs.YtnaaimnmphcilaaDoorW.PrintMore
set_option linter.unusedVariables false
set_option linter.unusedSimpArgs false

theorem faultL_ge : ∀ (n : Nat) (l : List Int), faultL n l 0 = -1 ∨ 0 ≤ faultL n l 0 := by
  have : ∀ (n : Nat) (l : List Int) (a : Int), 0 ≤ a → faultL n l a = -1 ∨ 0 ≤ faultL n l a := by
    intro n
    induction n with
    | zero => intro l a _; exact .inl rfl
    | succ n ih =>
      intro l a ha
      unfold faultL
      split
      · exact .inl rfl
      · split
        · exact ih _ _ (by omega)
        · exact .inr ha
  exact fun n l => this n l 0 (by omega)
theorem faultL_shift : ∀ (n : Nat) (l : List Int) (a : Int), 0 ≤ a → faultL n l a = if faultL n l 0 < 0 then -1 else a + faultL n l 0
  | 0, l, a, _ => by simp [faultL]
  | n + 1, l, a, ha => by
    by_cases hne : l = []
    · simp [faultL, hne]
    · by_cases hg : Good (decI l)
      · have e1 : faultL (n + 1) l a = faultL n (l.drop (decI l).2) (a + (decI l).2) := by rw [faultL, if_neg hne, if_pos hg]
        have e2 : faultL (n + 1) l 0 = faultL n (l.drop (decI l).2) (0 + (decI l).2) := by rw [faultL, if_neg hne, if_pos hg]
        have h1 := faultL_shift n (l.drop (decI l).2) (a + (decI l).2) (by omega)
        have h2 := faultL_shift n (l.drop (decI l).2) (0 + (decI l).2) (by omega)
        rw [e1, e2, h1, h2]
        rcases faultL_ge n (l.drop (decI l).2) with h | h
        · rw [h]; simp
        · rw [if_neg (by omega), if_neg (by omega), if_neg (by omega)]; omega
      · have e1 : ∀ a, faultL (n + 1) l a = a := fun a => by rw [faultL, if_neg hne, if_neg hg]
        rw [e1, e1]; simp
theorem faultL_fuel : ∀ (n m : Nat) (l : List Int) (a : Int), allB l = true → l.length ≤ n → l.length ≤ m → faultL n l a = faultL m l a
  | 0, m, l, a, hB, hn, _ => by
    have : l = [] := List.eq_nil_of_length_eq_zero (by omega)
    subst this
    cases m <;> simp [faultL]
  | n + 1, 0, l, a, hB, _, hm => by
    have : l = [] := List.eq_nil_of_length_eq_zero (by omega)
    subst this
    simp [faultL]
  | n + 1, m + 1, l, a, hB, hn, hm => by
    unfold faultL
    by_cases hne : l = []
    · simp [hne]
    · have hw := decI_width hB
      have hl : 0 < l.length := List.length_pos_iff.2 hne
      rw [if_neg hne, if_neg hne]
      rw [faultL_fuel n m (l.drop (decI l).2) _ (allB_drop hB _) (by rw [List.length_drop]; omega) (by rw [List.length_drop]; omega)]
theorem faultI_step {l : List Int} (hB : allB l = true) (hne : l ≠ []) :
    faultI l = if Good (decI l) then (if faultI (l.drop (decI l).2) < 0 then -1 else ((decI l).2 : Nat) + faultI (l.drop (decI l).2)) else 0 := by
  have hl : 0 < l.length := List.length_pos_iff.2 hne
  have hw := decI_width hB
  obtain ⟨n, hn⟩ : ∃ n, l.length = n + 1 := ⟨l.length - 1, by omega⟩
  conv => lhs; unfold faultI; rw [hn, faultL]
  rw [if_neg hne]
  by_cases hg : Good (decI l)
  · rw [if_pos hg, if_pos hg, faultL_shift n _ _ (by omega)]
    have : faultL n (l.drop (decI l).2) 0 = faultI (l.drop (decI l).2) := by
      unfold faultI
      exact faultL_fuel _ _ _ _ (allB_drop hB _) (by rw [List.length_drop]; omega) (Nat.le_refl _)
    rw [this]; simp
  · rw [if_neg hg, if_neg hg]
theorem faultI_nil : faultI [] = -1 := rfl

theorem fault_app : ∀ (cs : List Int), AllPt cs → ∀ x, allB x = true → faultI (layI cs ++ x) = if faultI x < 0 then -1 else ((layI cs).length : Int) + faultI x
  | [], _, x, hx => by
    rcases faultL_ge x.length x with h | h
    · have h' : faultI x = -1 := h
      simp [layI_nil, h']
    · have h' : 0 ≤ faultI x := h
      simp [layI_nil]; omega
  | c :: cs, hc, x, hx => by
    have hp := hc c (by simp)
    have ih := fault_app cs (fun y hy => hc y (by simp [hy])) x hx
    have hB : allB (putI c ++ (layI cs ++ x)) = true := by rw [allB_append, allB_putI, allB_append, allB_layI, hx]; rfl
    have hl := putI_len hp
    have hne : putI c ++ (layI cs ++ x) ≠ [] := fun h => by
      have := congrArg List.length h
      rw [List.length_append, hl] at this
      have := widI_le c
      simp at *
      omega
    have hd := dec_put hp (layI cs ++ x)
    have hg : Good (decI (putI c ++ (layI cs ++ x))) := by
      rw [hd]
      intro ⟨h1, h2⟩
      simp only at h1 h2
      have : c = 65533 := by omega
      subst this
      have : widI 65533 = 3 := by decide
      omega
    have hdr : (putI c ++ (layI cs ++ x)).drop (widI c) = layI cs ++ x := by rw [← hl, List.drop_left]
    rw [layI_cons, List.append_assoc, faultI_step hB hne, if_pos hg, hd]
    simp only
    rw [hdr, ih, List.length_append, hl]
    rcases faultL_ge x.length x with h | h
    · have h' : faultI x = -1 := h
      rw [h']; simp
    · have h' : 0 ≤ faultI x := h
      rw [if_neg (show ¬ faultI x < 0 by omega), if_neg (show ¬ faultI x < 0 by omega), if_neg (by omega)]
      omega

theorem fault_split : ∀ (n : Nat) (l : List Int), l.length ≤ n → allB l = true → 0 ≤ faultI l → ∃ cs r, AllPt cs ∧ l = layI cs ++ r ∧ ((layI cs).length : Int) = faultI l ∧ r ≠ [] ∧ ¬ Good (decI r)
  | 0, l, hn, hB, hf => by
    have : l = [] := List.eq_nil_of_length_eq_zero (by omega)
    subst this
    rw [faultI_nil] at hf; omega
  | n + 1, l, hn, hB, hf => by
    by_cases hne : l = []
    · subst hne; rw [faultI_nil] at hf; omega
    · have hl : 0 < l.length := List.length_pos_iff.2 hne
      have hs := faultI_step hB hne
      by_cases hg : Good (decI l)
      · rw [if_pos hg] at hs
        obtain ⟨c, hc, hd, ht, hle⟩ := dec_good_I hne (allB_take hB 4) hg
        have hw := widI_le c
        rw [hd] at hs
        simp only at hs
        have hf2 : 0 ≤ faultI (l.drop (widI c)) := by
          by_cases h : faultI (l.drop (widI c)) < 0
          · rw [if_pos h] at hs; omega
          · omega
        rw [if_neg (by omega)] at hs
        obtain ⟨cs, r, h1, h2, h3, h4, h5⟩ := fault_split n (l.drop (widI c)) (by rw [List.length_drop]; omega) (allB_drop hB _) hf2
        refine ⟨c :: cs, r, fun y hy => ?_, ?_, ?_, h4, h5⟩
        · rcases List.mem_cons.1 hy with rfl | hy
          · exact hc
          · exact h1 y hy
        · rw [layI_cons, List.append_assoc, ← h2, ← ht, List.take_append_drop]
        · rw [layI_cons, List.length_append, putI_len hc]; omega
      · rw [if_neg hg] at hs
        exact ⟨[], l, fun _ h => (by cases h), by simp [layI_nil], by rw [hs]; rfl, hne, hg⟩

theorem open_dec {r : List Int} (hB : allB r = true) (hne : r ≠ []) (hg : ¬ Good (decI r)) (ho : openI r = false) (m : List Int) (hm : allB m = true) : ¬ Good (decI (r ++ m)) ∧ openI (r ++ m) = false := by
  have hBm : allB (r ++ m) = true := by rw [allB_append, hB, hm]; rfl
  have hnm : r ++ m ≠ [] := fun h => hne (List.append_eq_nil_iff.1 h).1
  have hno : ¬ OpenS r := fun h => by rw [open_of hne h] at ho; cases ho
  refine ⟨fun hgm => ?_, ?_⟩
  · obtain ⟨c, hc, hd, ht, hle⟩ := dec_good_I hnm (allB_take hBm 4) hgm
    by_cases hw : widI c ≤ r.length
    · rw [List.take_append_of_le_length hw] at ht
      have := dec_put hc (r.drop (widI c))
      rw [← ht, List.take_append_drop] at this
      apply hg
      rw [this]
      intro ⟨h1, h2⟩
      simp only at h1 h2
      have h0 : 0 ≤ c := by unfold Pt at hc; omega
      have : c = 65533 := by omega
      subst this
      have : widI 65533 = 3 := by decide
      omega
    · refine hno ⟨c, m.take (widI c - r.length), hc, fun h => ?_, ?_⟩
      · have := congrArg List.length ht
        have h2 := congrArg List.length h
        rw [List.length_take, List.length_nil] at h2
        rw [List.length_append] at hle
        omega
      · rw [← ht, List.take_append, List.take_of_length_le (by omega)]
  · by_cases h : openI (r ++ m) = true
    · obtain ⟨c, q, hc, hq, he⟩ := open_to hBm h
      exact absurd ⟨c, m ++ q, hc, fun h => hq (List.append_eq_nil_iff.1 h).2, by rw [he, List.append_assoc]⟩ hno
    · simpa using h

theorem look_app (cs : List Int) (hcs : AllPt cs) (x : List Int) (hx : allB x = true) (hlen : (layI cs).length + x.length ≤ 9223372036854775807) :
    lookB ((layI cs).length : Int) (-1) x = stB (layI cs ++ x) ∧ lookP x = stP (layI cs ++ x) := by
  have ha := fault_app cs hcs x hx
  unfold stP lookB lookP stB
  rw [ha]
  rcases faultI_valid hx with h | h
  · rw [h.2]; simp
  · have h0 : ¬ faultI x < 0 := by omega
    have h1 : ¬ ((layI cs).length : Int) + faultI x < 0 := by omega
    have hdr : (layI cs ++ x).drop (((layI cs).length : Int) + faultI x).toNat = x.drop (faultI x).toNat := by
      rw [show (((layI cs).length : Int) + faultI x).toNat = (layI cs).length + (faultI x).toNat by omega, List.drop_append, List.drop_eq_nil_of_le (by omega), List.nil_append]
      congr 1; omega
    have hw : wrap64 (((layI cs).length : Int) + faultI x) = ((layI cs).length : Int) + faultI x := by unfold wrap64; omega
    simp only [if_neg h0, if_neg h1, hdr, hw]
    refine ⟨?_, ?_⟩ <;> first | rfl | trivial

theorem st_feed (l m : List Int) (hl : allB l = true) (hm : allB m = true) (hlen : l.length + m.length ≤ 9223372036854775807) :
    feedB (l.length : Int) (stB l) (stP l) m = stB (l ++ m) ∧ feedP (stB l) (stP l) m = stP (l ++ m) := by
  rcases faultI_valid hl with ⟨hv, hf⟩ | ⟨hv, hf0, hf1⟩
  · obtain ⟨cs, hcs, rfl⟩ := valid_lay l.length l (Nat.le_refl _) hl hv
    have h1 : stB (layI cs) = -1 := by unfold stB; rw [hf]; rfl
    have h2 : stP (layI cs) = [] := by unfold stP lookP; rw [hf]; rfl
    unfold feedB feedP
    rw [h1, h2, if_neg (by decide), if_neg (by decide)]
    simpa using look_app cs hcs m hm hlen
  · obtain ⟨cs, r, hcs, he, hlr, hne, hg⟩ := fault_split l.length l (Nat.le_refl _) hl hf0
    have hdr : l.drop (faultI l).toNat = r := by
      rw [show (faultI l).toNat = (layI cs).length by omega]
      conv => lhs; rw [he]
      rw [List.drop_left]
    have hBr : allB r = true := by rw [← hdr]; exact allB_drop hl _
    have hll : l.length = (layI cs).length + r.length := by conv => lhs; rw [he, List.length_append]
    have hf : ¬ faultI l < 0 := by omega
    by_cases ho : openI r = true
    · have h1 : stB l = -1 := by unfold stB; rw [if_neg hf, hdr, if_pos ho]
      have h2 : stP l = r := by unfold stP lookP; rw [if_neg hf, hdr, if_pos ho]
      unfold feedB feedP
      rw [h1, h2, if_neg (by decide), if_neg (by decide)]
      have := look_app cs hcs (r ++ m) (by rw [allB_append, hBr, hm]; rfl) (by rw [List.length_append]; omega)
      rw [← List.append_assoc, ← he] at this
      rw [show (l.length : Int) - (r.length : Int) = ((layI cs).length : Int) by omega]
      exact this
    · rw [Bool.not_eq_true] at ho
      have h1 : stB l = faultI l := by unfold stB; rw [if_neg hf, hdr, if_neg (by simp [ho])]
      have h2 : stP l = [] := by unfold stP lookP; rw [if_neg hf, hdr, if_neg (by simp [ho])]
      unfold feedB feedP
      rw [h1, h2, if_pos hf0, if_pos hf0]
      obtain ⟨hg2, ho2⟩ := open_dec hBr hne hg ho m hm
      have hB2 : allB (r ++ m) = true := by rw [allB_append, hBr, hm]; rfl
      have hf2 : faultI (r ++ m) = 0 := by rw [faultI_step hB2 (fun h => hne (List.append_eq_nil_iff.1 h).1), if_neg hg2]
      have hfa : faultI (l ++ m) = faultI l := by
        have := fault_app cs hcs (r ++ m) hB2
        rw [hf2, if_neg (by omega), ← List.append_assoc, ← he] at this
        omega
      have hd2 : (l ++ m).drop (faultI l).toNat = r ++ m := by
        rw [show (faultI l).toNat = (layI cs).length by omega]
        conv => lhs; rw [he, List.append_assoc]
        rw [List.drop_left]
      unfold stB stP lookP
      rw [hfa, if_neg hf, hd2, if_neg (by simp [ho2]), if_neg hf, if_neg (by simp [ho2])]
      exact ⟨rfl, rfl⟩

theorem st_end (l : List Int) (hl : allB l = true) (hlen : l.length ≤ 9223372036854775807) : endI (l.length : Int) (stB l) (stP l) = faultI l := by
  unfold endI stB stP lookP
  rcases faultI_valid hl with ⟨hv, hf⟩ | ⟨hv, hf0, hf1⟩
  · rw [hf]; simp
  · have hf : ¬ faultI l < 0 := by omega
    rw [if_neg hf, if_neg hf]
    by_cases ho : openI (l.drop (faultI l).toNat) = true
    · rw [if_pos ho, if_pos ho, List.length_drop, if_pos ⟨by decide, by omega⟩]
      unfold wrap64
      omega
    · rw [if_neg ho, if_neg ho, if_neg (by simp)]
end Go.Proofs.YtnaaimnmphcilaaDoor.Hand
