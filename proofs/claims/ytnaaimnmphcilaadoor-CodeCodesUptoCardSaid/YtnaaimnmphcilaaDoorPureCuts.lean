/- The plain side of CodeCuts: right bytes are cut between two code points, or both parts are not right. -/
import Derived.Test.YtnaaimnmphcilaaDoorPureBack
namespace Go.Proofs.YtnaaimnmphcilaaDoor.PureA
open Go.RowKit Go.Proofs.YtnaaimnmphcilaaDoor.Hand Go.Proofs.YtnaaimnmphcilaaDoor.QA Go.Proofs.YtnaaimnmphcilaaDoorW.PrintWords Go.Proofs.YtnaaimnmphcilaaDoorW.PrintLast
set_option linter.unusedVariables false
set_option linter.unusedSimpArgs false

theorem putI_ne (c : Int) : putI c ≠ [] := fun h => by have := putI_len4 c; rw [h] at this; simp at this
/-- The bytes behind the first are from 80 to bf, the first is not. -/
theorem putI_tail {c : Int} (h : Pt c) (j : Nat) (h1 : 1 ≤ j) (h2 : j < (putI c).length) : 128 ≤ (putI c).getD j 0 ∧ (putI c).getD j 0 < 192 := by
  by_cases a : c < 128
  · rw [putI_1 h a] at h2; simp at h2; omega
  · by_cases b : c < 2048
    · rw [putI_2 h a b] at h2 ⊢
      have : j = 1 := by simp at h2; omega
      subst this; simp; omega
    · by_cases d : c < 65536
      · rw [putI_3 h b d] at h2 ⊢
        have : j = 1 ∨ j = 2 := by simp at h2; omega
        rcases this with rfl | rfl <;> simp <;> omega
      · rw [putI_4 h d] at h2 ⊢
        have : j = 1 ∨ j = 2 ∨ j = 3 := by simp at h2; omega
        rcases this with rfl | rfl | rfl <;> simp <;> omega
theorem putI_head {c : Int} (h : Pt c) : (putI c).getD 0 0 < 128 ∨ 192 ≤ (putI c).getD 0 0 := by
  have hp := h
  unfold Pt at hp
  by_cases a : c < 128
  · rw [putI_1 h a]; simp; omega
  · by_cases b : c < 2048
    · rw [putI_2 h a b]; simp; omega
    · by_cases d : c < 65536
      · rw [putI_3 h b d]; simp; omega
      · rw [putI_4 h d]; simp; omega
theorem layI_ne {c : Int} {cs : List Int} : layI (c :: cs) ≠ [] := fun h => by
  rw [layI_cons] at h
  exact putI_ne c (List.append_eq_nil_iff.1 h).1

/-- A right part behind: it begins between two code points. -/
theorem cut_suffix (cs : List Int) (hcs : AllPt cs) : ∀ (l p : List Int), AllPt l → layI l = p ++ layI cs → ∃ j, j ≤ l.length ∧ p = layI (l.take j) := by
  intro l
  induction l with
  | nil =>
    intro p _ h
    rw [layI_nil] at h
    exact ⟨0, Nat.le_refl _, by rw [List.take_nil]; exact (List.append_eq_nil_iff.1 h.symm).1⟩
  | cons d l ih =>
    intro p hl h
    have hd : Pt d := hl d (by simp)
    have hl' : AllPt l := fun x hx => hl x (by simp [hx])
    by_cases hp : p = []
    · exact ⟨0, by simp, by rw [hp]; rfl⟩
    · have hplen : 0 < p.length := List.length_pos_iff.2 hp
      rw [layI_cons] at h
      by_cases hw : (putI d).length ≤ p.length
      · have e1 : p.take (putI d).length = putI d := by
          have := congrArg (List.take (putI d).length) h
          rw [List.take_left, List.take_append_of_le_length hw] at this
          exact this.symm
        have e2 : layI l = p.drop (putI d).length ++ layI cs := by
          have := congrArg (List.drop (putI d).length) h
          rw [List.drop_left, List.drop_append_of_le_length hw] at this
          exact this
        obtain ⟨j, hj, hpj⟩ := ih (p.drop (putI d).length) hl' e2
        refine ⟨j + 1, by simp; omega, ?_⟩
        rw [List.take_succ_cons, layI_cons, ← hpj, ← e1, List.length_take, Nat.min_eq_left (by omega), List.take_append_drop]
      · exfalso
        have e := congrArg (fun x => x.getD p.length 0) h
        simp only [List.getD_eq_getElem?_getD, List.getElem?_append_right (Nat.le_refl p.length), Nat.sub_self, List.getElem?_append_left (show p.length < (putI d).length by omega)] at e
        have ht := putI_tail hd p.length hplen (by omega)
        rw [List.getD_eq_getElem?_getD] at ht
        rw [e] at ht
        match cs, hcs with
        | [], _ =>
          have := congrArg List.length h
          simp [layI_nil] at this
          omega
        | c :: cs, hcs =>
          have hc : Pt c := hcs c (by simp)
          have h4 := putI_len4 c
          rw [layI_cons, List.getElem?_append_left (by omega), ← List.getD_eq_getElem?_getD] at ht
          have := putI_head hc
          omega
/-- A right part ahead: it ends between two code points. -/
theorem cut_prefix : ∀ (cs : List Int), AllPt cs → ∀ (l q : List Int), AllPt l → layI l = layI cs ++ q → ∃ j, j ≤ l.length ∧ cs = l.take j := by
  intro cs
  induction cs with
  | nil => exact fun _ l q _ _ => ⟨0, Nat.zero_le _, by simp⟩
  | cons c cs ih =>
    intro hcs l q hl h
    have hc : Pt c := hcs c (by simp)
    match l, hl with
    | [], _ =>
      rw [layI_nil] at h
      exact absurd (List.append_eq_nil_iff.1 h.symm).1 layI_ne
    | d :: l, hl =>
      have hd : Pt d := hl d (by simp)
      rw [layI_cons, layI_cons, List.append_assoc] at h
      have e1 := dec_put hd (layI l)
      have e2 := dec_put hc (layI cs ++ q)
      rw [h, e2] at e1
      have hcd : c = d := by
        have := congrArg Prod.fst e1
        simp only at this
        unfold Pt at hc hd
        omega
      subst hcd
      have h2 := List.append_cancel_left h
      obtain ⟨j, hj, hcj⟩ := ih (fun x hx => hcs x (by simp [hx])) l q (fun x hx => hl x (by simp [hx])) h2
      exact ⟨j + 1, by simp; omega, by rw [List.take_succ_cons, ← hcj]⟩

/-- kk is a place between two code points. -/
def Betw (l : List Int) (kk : Int) (m : Nat) : Prop := ∃ j, j ≤ m ∧ ((layI (l.take j)).length : Int) = kk

theorem cuts_end (l : List Int) (n : Nat) (fl : Bool) (hl : AllPt l) (hn : n ≤ (layI l).length) (hf : fl = true ↔ Betw l n l.length) (hlen : l.length * 4 ≤ 140737488351232) :
    if fl = true then ∃ x y, code_Codes.f ((layI l).take n) = some (x, 0) ∧ code_Codes.f ((layI l).drop n) = some (y, 0) ∧ x ++ y = l
    else code_Codes.f ((layI l).take n) = some ([], 6) ∧ code_Codes.f ((layI l).drop n) = some ([], 6) := by
  have hB := allB_layI l
  by_cases h : fl = true
  · rw [if_pos h]
    obtain ⟨j, hj, hjn⟩ := hf.1 h
    have hsplit : layI l = layI (l.take j) ++ layI (l.drop j) := by rw [← layI_append, List.take_append_drop]
    have hn' : n = (layI (l.take j)).length := by omega
    have et : (layI l).take n = layI (l.take j) := by rw [hsplit, hn', List.take_left]
    have ed : (layI l).drop n = layI (l.drop j) := by rw [hsplit, hn', List.drop_left]
    have p1 : AllPt (l.take j) := fun x hx => hl x (List.mem_of_mem_take hx)
    have p2 : AllPt (l.drop j) := fun x hx => hl x (List.mem_of_mem_drop hx)
    obtain ⟨v1, r1⟩ := lay_valid _ p1
    obtain ⟨v2, r2⟩ := lay_valid _ p2
    refine ⟨l.take j, l.drop j, ?_, ?_, List.take_append_drop _ _⟩
    · rw [et, codes_f (allB_layI _) (fun _ => by rw [r1, List.length_take]; omega), if_pos v1, r1]
    · rw [ed, codes_f (allB_layI _) (fun _ => by rw [r2, List.length_drop]; omega), if_pos v2, r2]
  · rw [if_neg h]
    have hno : ¬ Betw l n l.length := fun hb => h (hf.2 hb)
    have v1 : ¬ validI ((layI l).take n) = true := fun hv => by
      obtain ⟨cs, hcs, he⟩ := valid_lay _ _ (Nat.le_refl _) (allB_take hB n) hv
      obtain ⟨j, hj, hcj⟩ := cut_prefix cs hcs l ((layI l).drop n) hl (by rw [← he, List.take_append_drop])
      refine hno ⟨j, hj, ?_⟩
      rw [← hcj, ← he, List.length_take]
      omega
    have v2 : ¬ validI ((layI l).drop n) = true := fun hv => by
      obtain ⟨cs, hcs, he⟩ := valid_lay _ _ (Nat.le_refl _) (allB_drop hB n) hv
      obtain ⟨j, hj, hcj⟩ := cut_suffix cs hcs l ((layI l).take n) hl (by rw [← he, List.take_append_drop])
      refine hno ⟨j, hj, ?_⟩
      rw [← hcj, List.length_take]
      omega
    exact ⟨by rw [codes_f (allB_take hB n) (fun hv => absurd hv v1), if_neg v1], by rw [codes_f (allB_drop hB n) (fun hv => absurd hv v2), if_neg v2]⟩

theorem betw_succ (l : List Int) (kk : Int) (m : Nat) : Betw l kk (m + 1) ↔ Betw l kk m ∨ ((layI (l.take (m + 1))).length : Int) = kk := by
  constructor
  · rintro ⟨j, hj, h⟩
    by_cases e : j = m + 1
    · subst e; exact .inr h
    · exact .inl ⟨j, by omega, h⟩
  · rintro (⟨j, hj, h⟩ | h)
    · exact ⟨j, by omega, h⟩
    · exact ⟨m + 1, Nat.le_refl _, h⟩

theorem cuts_loop (L : List Int) (n : Nat) (hL : AllPt L) (hn : n ≤ (layI L).length) (hlen : L.length * 4 ≤ 140737488351232) (rest : List Int) :
    ∀ (pre : List Int) (k : Nat) (fl : Bool), L = pre ++ rest → rest.length + L.length + 30 ≤ k → (fl = true ↔ Betw L n pre.length) →
      gessolaw01_CodeCuts.l0 k L (layI L) (n : Int) fl ((layI pre).length : Int) (pre.length : Int) = some true := by
  have hll := layI_len L
  induction rest with
  | nil =>
    intro pre k fl hpre hk hfl
    obtain ⟨k, rfl⟩ : ∃ m, k = m + 1 := ⟨k - 1, by omega⟩
    rw [List.append_nil] at hpre
    subst hpre
    have hend := cuts_end L n fl hL hn hfl hlen
    have haw := awake_f k (by omega)
    rw [gessolaw01_CodeCuts.l0, if_neg (by omega), if_pos (by omega), if_pos (by omega), Int.toNat_natCast]
    by_cases h : fl = true
    · rw [if_pos h] at hend
      obtain ⟨x, y, hx, hy, hxy⟩ := hend
      have hxl : x.length + y.length = L.length := by rw [← hxy]; simp
      have hs := same_f L k (by omega) (by omega)
      rw [hx, hy]
      simp only [Option.bind_some, if_pos h, if_true, List.nil_append, List.length_nil]
      rw [if_pos (by omega), if_pos (by omega), hxy, hs]
      simp only [Option.bind_some, if_true, haw]
    · rw [if_neg h] at hend
      rw [hend.1, hend.2]
      simp only [Option.bind_some, if_neg h, if_true, haw]
  | cons c rest ih =>
    intro pre k fl hpre hk hfl
    simp only [List.length_cons] at hk
    obtain ⟨k, rfl⟩ : ∃ m, k = m + 2 := ⟨k - 2, by omega⟩
    have hlenL : L.length = pre.length + rest.length + 1 := by rw [hpre]; simp; omega
    have hrd : rd L (pre.length : Int) = c := by rw [rd_nat _ _ (by omega)]; simp [hpre]
    have hc : Pt c := hL c (by rw [hpre]; simp)
    have hc0 : 0 ≤ c := by unfold Pt at hc; omega
    have hw := width_f k c hc0
    rw [if_pos hc, ← putI_len hc] at hw
    have e1 : ((layI (pre ++ [c])).length : Int) = ((layI pre).length : Int) + ((putI c).length : Int) := by rw [layI_append]; simp [layI]
    have e2 : (((pre ++ [c]).length : Nat) : Int) = (pre.length : Int) + 1 := by simp
    have htake : L.take (pre.length + 1) = pre ++ [c] := by rw [hpre]; simp [List.take_append, List.take_of_length_le]
    have h4 := putI_len4 c
    have hpl := (layI_len pre).2
    have hb : Betw L n (pre.length + 1) ↔ Betw L n pre.length ∨ ((layI pre).length : Int) + ((putI c).length : Int) = n := by rw [betw_succ, htake, e1]
    have e3 : (pre ++ [c]).length = pre.length + 1 := by simp
    rw [gessolaw01_CodeCuts.l0, if_pos (by omega), if_pos (by omega), hrd, hw, Option.bind_some, wrap_small (by omega) (by omega), wrap_id (by omega) (by omega), ← e1, ← e2]
    by_cases h : fl = true
    · rw [if_pos h]
      exact ih (pre ++ [c]) (k + 1) true (by rw [hpre]; simp) (by omega) (by rw [e3, hb]; exact ⟨fun _ => .inl (hfl.1 h), fun _ => rfl⟩)
    · rw [if_neg h]
      refine ih (pre ++ [c]) (k + 1) _ (by rw [hpre]; simp) (by omega) ?_
      rw [e3, hb, beq_iff_eq, e1]
      exact ⟨fun h' => .inr h', fun h' => h'.resolve_left (fun hb' => h (hfl.2 hb'))⟩

theorem cuts_pure (l0 : List Int) (a1 : Int) (h0 : ∀ x ∈ l0, (Lit.int .u32 x).wf = true) (n0 : l0.length * 4 ≤ 140737488351232) (ha : (Lit.int .u16 a1).wf = true) : ∃ k, gessolaw01_CodeCuts.f k l0 a1 = some true := by
  have hA := wf_u16 ha
  refine ⟨l0.length + l0.length + 40, ?_⟩
  have hb := bytes_f l0 (l0.length + l0.length + 40) (by omega) n0 (fun x hx => (wf_u32 (h0 x hx)).1)
  unfold gessolaw01_CodeCuts.f
  rw [hb, Option.bind_some]
  by_cases hp : AllPt l0
  · rw [if_pos hp]
    have hll := layI_len l0
    simp only [if_true]
    rw [wrap_small (by omega) (by omega), if_neg (by omega), wrap_id (by omega) (by omega)]
    obtain ⟨a, rfl⟩ := Int.eq_ofNat_of_zero_le hA.1
    have e : Int.tmod (a : Int) (((layI l0).length : Int) + 1) = ((a % ((layI l0).length + 1) : Nat) : Int) := by
      rw [show (((layI l0).length : Int) + 1) = (((layI l0).length + 1 : Nat) : Int) from by simp, Int.tmod_eq_emod_of_nonneg (by omega)]
      simp
    rw [e]
    have hlt : a % ((layI l0).length + 1) < (layI l0).length + 1 := Nat.mod_lt _ (by omega)
    generalize a % ((layI l0).length + 1) = n at *
    refine cuts_loop l0 n hp (by omega) n0 l0 [] _ _ rfl (by omega) ?_
    rw [beq_iff_eq]
    constructor
    · intro h; exact ⟨0, Nat.zero_le _, by simp [layI]; omega⟩
    · rintro ⟨j, hj, h⟩
      have : j = 0 := by simpa using hj
      subst this
      simp [layI] at h
      omega
  · rw [if_neg hp]
    simp [awake_f (l0.length + l0.length + 40) (by omega)]
end Go.Proofs.YtnaaimnmphcilaaDoor.PureA
