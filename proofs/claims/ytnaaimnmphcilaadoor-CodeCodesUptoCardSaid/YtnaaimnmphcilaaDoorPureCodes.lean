/- The plain side of CodeCodes. -/
import Derived.Test.YtnaaimnmphcilaaDoorPureBack
import Derived.Test.YtnaaimnmphcilaaDoorPureCuts
namespace Go.Proofs.YtnaaimnmphcilaaDoor.PureA
open Go.RowKit Go.Proofs.YtnaaimnmphcilaaDoor.Hand Go.Proofs.YtnaaimnmphcilaaDoor.QA Go.Proofs.YtnaaimnmphcilaaDoorW.PrintWords Go.Proofs.YtnaaimnmphcilaaDoorW.PrintLast
set_option linter.unusedVariables false
set_option linter.unusedSimpArgs false

theorem ref_is (c : Int) (h0 : 0 ≤ c) : gessoref01_Is.f c = some (decide (Pt c)) := by
  unfold gessoref01_Is.f Pt
  by_cases h1 : c ≤ 1114111
  · by_cases h2 : c < 55296
    · simp [h0, h1, h2]
    · simp [h1, h2]
  · have h2 : ¬ c < 55296 := by omega
    simp [h1, h2]
theorem ref_width (c : Int) (h0 : 0 ≤ c) : gessoref01_Width.f c = some (if Pt c then ((widI c : Nat) : Int) else 0) := by
  unfold gessoref01_Width.f
  rw [ref_is c h0, Option.bind_some]
  by_cases hp : Pt c
  · simp only [hp, decide_true, if_true]
    unfold widI
    by_cases h1 : c < 128
    · simp [h1]
    · by_cases h2 : c < 2048
      · simp [h1, h2]
      · by_cases h3 : c < 65536
        · simp [h1, h2, h3]
        · simp [h1, h2, h3]
  · simp [hp]
theorem ref_put (c : Int) (hp : Pt c) : gessoref01_Put.f c = some (putI c) := by
  have h0 : 0 ≤ c := by unfold Pt at hp; omega
  have hm : c ≤ 1114111 := by unfold Pt at hp; omega
  unfold gessoref01_Put.f
  rw [ref_width c h0, Option.bind_some, if_pos hp]
  have ht : ∀ d : Int, Int.tmod c d = c % d := fun d => Int.tmod_eq_emod_of_nonneg h0
  have hd : ∀ d : Int, Int.tdiv c d = c / d := fun d => Int.tdiv_eq_ediv_of_nonneg h0
  by_cases h1 : c < 128
  · rw [putI_1 hp h1]
    have hw : widI c = 1 := by unfold widI; rw [if_pos h1]
    rw [hw, if_pos (by decide), Int.emod_eq_of_lt h0 (by omega)]
  · by_cases h2 : c < 2048
    · rw [putI_2 hp h1 h2]
      have hw : widI c = 2 := by unfold widI; rw [if_neg h1, if_pos h2]
      rw [hw, if_neg (by decide), if_pos (by decide), ht, hd]
      congr 2
      · omega
      · congr 1; omega
    · by_cases h3 : c < 65536
      · rw [putI_3 hp h2 h3]
        have hw : widI c = 3 := by unfold widI; rw [if_neg h1, if_neg h2, if_pos h3]
        rw [hw, if_neg (by decide), if_neg (by decide), if_pos (by decide), ht, hd, hd]
        congr 2
        · omega
        · congr 1
          · omega
          · congr 1; omega
      · rw [putI_4 hp h3]
        have hw : widI c = 4 := by unfold widI; rw [if_neg h1, if_neg h2, if_neg h3]
        rw [hw, if_neg (by decide), if_neg (by decide), if_neg (by decide), if_pos (by decide), ht, hd, hd, hd]
        congr 2
        · omega
        · congr 1
          · omega
          · congr 1
            · omega
            · congr 1; omega

/-- One pass of the number's loop. -/
theorem num_step (k : Nat) (b : List Int) (n s i : Int) (h1 : i < n) (h2 : 0 ≤ i) (h3 : i < b.length) :
    gessoref01_number.l0 (k + 1) b n s i = if 128 ≤ rd b i ∧ rd b i ≤ 191 then gessoref01_number.l0 k b n ((((64 * s) % 4294967296) + (((rd b i) - 128) % 256)) % 4294967296) (wrap64 (i + 1)) else some (0, false) := by
  rw [gessoref01_number.l0, if_pos h1, if_pos h2, if_pos h3]
  by_cases ha : rd b i < 128
  · rw [if_pos ha, if_neg (by omega)]
  · by_cases hb : rd b i > 191
    · rw [if_neg ha, if_pos hb, if_neg (by omega)]
    · rw [if_neg ha, if_neg hb, if_pos (by omega)]
theorem num_end (k : Nat) (b : List Int) (n s i : Int) (h1 : ¬ i < n) : gessoref01_number.l0 (k + 1) b n s i = some (s, true) := by
  rw [gessoref01_number.l0, if_neg h1]
theorem num_total (b : List Int) (n : Int) (hn : n ≤ b.length) : ∀ (d k : Nat) (s i : Int), n - i ≤ d → d + 1 ≤ k → 0 ≤ i → i ≤ n → n ≤ 4 → 0 ≤ s → s < 4294967296 → ∃ s' ok, gessoref01_number.l0 k b n s i = some (s', ok) ∧ 0 ≤ s' ∧ s' < 4294967296
  | d, k, s, i, hd, hk, h0, hi, h4, hs, hs' => by
    obtain ⟨k, rfl⟩ : ∃ m, k = m + 1 := ⟨k - 1, by omega⟩
    by_cases h : i < n
    · rw [num_step k b n s i h h0 (by omega)]
      by_cases hc : 128 ≤ rd b i ∧ rd b i ≤ 191
      · rw [if_pos hc, wrap_small (by omega) (by omega)]
        match d, hd, hk with
        | 0, hd, hk => omega
        | d + 1, hd, hk => exact num_total b n hn d k _ _ (by omega) (by omega) (by omega) (by omega) h4 (by omega) (by omega)
      · rw [if_neg hc]
        exact ⟨0, false, rfl, by omega, by omega⟩
    · rw [num_end k b n s i h]
      exact ⟨s, true, rfl, hs, hs'⟩
theorem num_some (b : List Int) (n : Nat) (k : Nat) (h1 : 1 ≤ n) (h4 : n ≤ 4) (hn : n ≤ b.length) (hk : 8 ≤ k) : ∃ s' ok, gessoref01_number.f k b (n : Int) = some (s', ok) ∧ 0 ≤ s' ∧ s' < 4294967296 := by
  obtain ⟨k, rfl⟩ : ∃ m, k = m + 1 := ⟨k - 1, by omega⟩
  unfold gessoref01_number.f
  rw [if_pos (by omega)]
  have hall : ∀ s : Int, 0 ≤ s → s < 4294967296 → ∃ s' ok, gessoref01_number.j0 (k + 1) b (n : Int) s = some (s', ok) ∧ 0 ≤ s' ∧ s' < 4294967296 := fun s ha hb => by
    rw [gessoref01_number.j0]
    exact num_total b n (by omega) 4 k s 1 (by omega) (by omega) (by omega) (by omega) (by omega) ha hb
  split
  · exact hall _ (by omega) (by omega)
  · split
    · exact hall _ (by omega) (by omega)
    · split
      · exact hall _ (by omega) (by omega)
      · exact hall _ (by omega) (by omega)

theorem rd_cons0 (a : Int) (l : List Int) : rd (a :: l) 0 = a := by simp [rd]
theorem rd_cons1 (a b : Int) (l : List Int) : rd (a :: b :: l) 1 = b := by simp [rd]
theorem rd_cons2 (a b c : Int) (l : List Int) : rd (a :: b :: c :: l) 2 = c := by simp [rd]
theorem rd_cons3 (a b c d : Int) (l : List Int) : rd (a :: b :: c :: d :: l) 3 = d := by simp [rd]

theorem num_put (c : Int) (hp : Pt c) (rest : List Int) (k : Nat) (hk : 8 ≤ k) : gessoref01_number.f k (putI c ++ rest) (widI c : Nat) = some (c, true) := by
  have h0 : 0 ≤ c := by unfold Pt at hp; omega
  have hm : c ≤ 1114111 := by unfold Pt at hp; omega
  obtain ⟨k, rfl⟩ : ∃ m, k = m + 5 := ⟨k - 5, by omega⟩
  unfold gessoref01_number.f
  by_cases h1 : c < 128
  · have hw : widI c = 1 := by unfold widI; rw [if_pos h1]
    rw [putI_1 hp h1, hw]
    simp only [List.cons_append, List.nil_append, rd_cons0]
    rw [if_pos (by simp <;> omega), if_neg (by decide), if_neg (by decide), if_neg (by decide), gessoref01_number.j0, num_end _ _ _ _ _ (by decide), Int.emod_eq_of_lt h0 (by omega)]
  · by_cases h2 : c < 2048
    · have hw : widI c = 2 := by unfold widI; rw [if_neg h1, if_pos h2]
      rw [putI_2 hp h1 h2, hw]
      simp only [List.cons_append, List.nil_append, rd_cons0]
      rw [if_pos (by simp <;> omega), if_pos (by decide), gessoref01_number.j0, num_step _ _ _ _ _ (by decide) (by decide) (by simp <;> omega), rd_cons1, if_pos (by omega), wrap_small (by decide) (by decide), num_end _ _ _ _ _ (by decide)]
      congr 2; omega
    · by_cases h3 : c < 65536
      · have hw : widI c = 3 := by unfold widI; rw [if_neg h1, if_neg h2, if_pos h3]
        rw [putI_3 hp h2 h3, hw]
        simp only [List.cons_append, List.nil_append, rd_cons0]
        rw [if_pos (by simp <;> omega), if_neg (by decide), if_pos (by decide), gessoref01_number.j0, num_step _ _ _ _ _ (by decide) (by decide) (by simp <;> omega), rd_cons1, if_pos (by omega), wrap_small (by decide) (by decide),
          num_step _ _ _ _ _ (by decide) (by decide) (by simp <;> omega)]
        rw [show (1 : Int) + 1 = 2 from rfl, rd_cons2, if_pos (by omega), wrap_small (by decide) (by decide), num_end _ _ _ _ _ (by decide)]
        congr 2; omega
      · have hw : widI c = 4 := by unfold widI; rw [if_neg h1, if_neg h2, if_neg h3]
        rw [putI_4 hp h3, hw]
        simp only [List.cons_append, List.nil_append, rd_cons0]
        rw [if_pos (by simp <;> omega), if_neg (by decide), if_neg (by decide), if_pos (by decide), gessoref01_number.j0, num_step _ _ _ _ _ (by decide) (by decide) (by simp <;> omega), rd_cons1, if_pos (by omega), wrap_small (by decide) (by decide),
          num_step _ _ _ _ _ (by decide) (by decide) (by simp <;> omega)]
        rw [show (1 : Int) + 1 = 2 from rfl, rd_cons2, if_pos (by omega), wrap_small (by decide) (by decide), num_step _ _ _ _ _ (by decide) (by decide) (by simp <;> omega)]
        rw [show (2 : Int) + 1 = 3 from rfl, rd_cons3, if_pos (by omega), wrap_small (by decide) (by decide), num_end _ _ _ _ _ (by decide)]
        congr 2; omega

/-- What n bytes stand for: the head of l, decoded. -/
theorem ex_dec {l : List Int} {n : Nat} {c : Int} (hc : Pt c) (h : putI c = l.take n) (hn : n ≤ l.length) : decI l = (c.toNat, n) ∧ widI c = n := by
  have hw : widI c = n := by rw [← putI_len hc, h, List.length_take]; omega
  have := dec_put hc (l.drop n)
  rw [h, List.take_append_drop, hw] at this
  exact ⟨this, hw⟩

def oneI (l : List Int) : Int × Int := if Hand.Good (decI l) then ((((decI l).1 : Nat) : Int), (((decI l).2 : Nat) : Int)) else (0, 0)

theorem one_j1 (l : List Int) (hB : allB l = true) (n k : Nat) (h1 : 1 ≤ n) (h4 : n ≤ 4) (hn : n ≤ l.length) (hk : 8 ≤ k) :
    (∃ c : Int, Pt c ∧ putI c = l.take n ∧ gessoref01_One.j1 (k + 1) l n true = some (c, (n : Int))) ∨
    ((¬ ∃ c : Int, Pt c ∧ putI c = l.take n) ∧ gessoref01_One.j1 (k + 1) l n true = gessoref01_One.l0 k l ((n : Int) + 1)) := by
  rw [gessoref01_One.j1, if_pos rfl]
  obtain ⟨s, ok, hs, hs0, hs1⟩ := num_some l n k h1 h4 hn hk
  by_cases he : ∃ c : Int, Pt c ∧ putI c = l.take n
  · obtain ⟨c, hc, hp⟩ := he
    obtain ⟨hd, hw⟩ := ex_dec hc hp hn
    have hnum := num_put c hc (l.drop n) k hk
    rw [hp, List.take_append_drop, hw] at hnum
    refine .inl ⟨c, hc, hp, ?_⟩
    have hc0 : 0 ≤ c := by unfold Pt at hc; omega
    rw [hnum, Option.bind_some]
    simp only [if_true]
    rw [ref_width c hc0, Option.bind_some, if_pos hc, hw, if_pos rfl, ref_put c hc, Option.bind_some, if_pos (by omega), if_pos (by omega), Int.toNat_natCast, hp, if_pos rfl]
  · refine .inr ⟨he, ?_⟩
    rw [hs, Option.bind_some]
    simp only
    have hwr : wrap64 ((n : Int) + 1) = (n : Int) + 1 := wrap_small (by omega) (by omega)
    by_cases ho : ok = true
    · rw [if_pos ho, ref_width s hs0, Option.bind_some]
      by_cases hp : Pt s
      · rw [if_pos hp]
        by_cases hw : ((widI s : Nat) : Int) = (n : Int)
        · rw [if_pos hw, ref_put s hp, Option.bind_some, if_pos (by omega), if_pos (by omega), Int.toNat_natCast]
          rw [if_neg, hwr]
          intro heq
          exact he ⟨s, hp, (bytes_eq (allB_putI s) (allB_take hB n)).1 heq⟩
        · rw [if_neg hw, hwr]
      · rw [if_neg hp, if_neg (by omega), hwr]
    · rw [if_neg ho, hwr]

theorem one_l0 (l : List Int) (hB : allB l = true) (hne : l ≠ []) : ∀ (d n k : Nat), n + d = 5 → 1 ≤ n → 2 * d + 12 ≤ k → (∀ m, 1 ≤ m → m < n → m ≤ l.length → ¬ ∃ c : Int, Pt c ∧ putI c = l.take m) → gessoref01_One.l0 k l (n : Int) = some (oneI l)
  | d, n, k, hd, h1, hk, hno => by
    obtain ⟨k, rfl⟩ : ∃ m, k = m + 2 := ⟨k - 2, by omega⟩
    have hlen : 0 < l.length := List.length_pos_iff.2 hne
    have stop : 5 ≤ n ∨ l.length < n → oneI l = (0, 0) := by
      intro h
      unfold oneI
      rw [if_neg]
      intro hg
      obtain ⟨c, hc, hdd, ht, hle⟩ := dec_good_I hne (allB_take hB 4) hg
      have := widI_le c
      exact hno (widI c) (by omega) (by omega) hle ⟨c, hc, ht.symm⟩
    rw [gessoref01_One.l0]
    by_cases h4 : (n : Int) ≤ 4
    · rw [if_pos h4]
      by_cases hn : (n : Int) ≤ (l.length : Int)
      · rw [decide_eq_true hn]
        rcases one_j1 l hB n k h1 (by omega) (by omega) (by omega) with ⟨c, hc, hp, hr⟩ | ⟨hne', hr⟩
        · rw [hr]
          obtain ⟨hdd, hw⟩ := ex_dec hc hp (by omega)
          have hc0 : 0 ≤ c := by unfold Pt at hc; omega
          unfold oneI
          rw [hdd, if_pos]
          · simp only [Int.toNat_of_nonneg hc0]
          · intro ⟨ha, hb⟩
            simp only at ha hb
            have : c = 65533 := by omega
            subst this
            have : widI 65533 = 3 := by decide
            omega
        · rw [hr]
          match d, hd, hk with
          | 0, hd, hk => omega
          | d + 1, hd, hk =>
            have := one_l0 l hB hne d (n + 1) k (by omega) (by omega) (by omega) (fun m hm1 hm2 hm3 => by
              by_cases hmn : m = n
              · rw [hmn]; exact hne'
              · exact hno m hm1 (by omega) hm3)
            rw [show ((n : Int) + 1) = ((n + 1 : Nat) : Int) by omega]
            exact this
      · rw [decide_eq_false hn, gessoref01_One.j1, if_neg (by decide), stop (by omega)]
    · rw [if_neg h4, gessoref01_One.j1, if_neg (by decide), stop (by omega)]
theorem one_f (l : List Int) (hB : allB l = true) (hne : l ≠ []) (k : Nat) (hk : 20 ≤ k) : gessoref01_One.f k l = some (oneI l) :=
  one_l0 l hB hne 4 1 k (by omega) (by omega) (by omega) (fun m h1 h2 => by omega)

theorem oneI_good {l : List Int} (hB : allB l = true) (hne : l ≠ []) (hg : Hand.Good (decI l)) : ∃ c : Int, Pt c ∧ oneI l = (c, ((widI c : Nat) : Int)) ∧ decI l = (c.toNat, widI c) ∧ widI c ≤ l.length := by
  obtain ⟨c, hc, hdd, ht, hle⟩ := dec_good_I hne (allB_take hB 4) hg
  have hc0 : 0 ≤ c := by unfold Pt at hc; omega
  refine ⟨c, hc, ?_, hdd, hle⟩
  unfold oneI
  rw [if_pos hg, hdd]
  simp only [Int.toNat_of_nonneg hc0]
theorem oneI_bad {l : List Int} (hg : ¬ Hand.Good (decI l)) : oneI l = (0, 0) := by unfold oneI; rw [if_neg hg]

theorem rcodes_loop : ∀ (m : Nat) (l acc : List Int) (k : Nat), l.length ≤ m → l.length + 25 ≤ k → allB l = true → acc.length + l.length < 35184372088832 →
    gessoref01_Codes.l0 k l acc = some (if validI l = true then (acc ++ runesI l, 0) else ([], 6))
  | m, l, acc, k, hm, hk, hB, ha => by
    obtain ⟨k, rfl⟩ : ∃ j, k = j + 1 := ⟨k - 1, by omega⟩
    rw [gessoref01_Codes.l0]
    by_cases hne : l = []
    · subst hne
      rw [if_neg (by simp), if_pos validI_nil]
      simp [runesI, runesL]
    · have hl : 0 < l.length := List.length_pos_iff.2 hne
      rw [if_pos (by omega), one_f l hB hne k (by omega), Option.bind_some, validI_step hB hne]
      by_cases hg : Hand.Good (decI l)
      · obtain ⟨c, hc, h1, h2, h3⟩ := oneI_good hB hne hg
        have hw := widI_le c
        have hc0 : 0 ≤ c := by unfold Pt at hc; omega
        rw [if_pos hg, h1, runesI_step hB hne, h2]
        simp only [Int.toNat_natCast, Int.toNat_of_nonneg hc0]
        rw [if_neg (by omega), if_pos (by omega), if_pos (by omega), if_pos (by omega)]
        match m, hm with
        | 0, hm => omega
        | m + 1, hm =>
          rw [rcodes_loop m (l.drop (widI c)) (acc ++ [c]) k (by rw [List.length_drop]; omega) (by rw [List.length_drop]; omega) (allB_drop hB _) (by simp only [List.length_append, List.length_drop, List.length_singleton]; omega)]
          simp only [List.append_assoc, List.singleton_append]
      · rw [oneI_bad hg, if_neg hg]
        simp
theorem rcodes_f (l : List Int) (k : Nat) (hk : l.length + 25 ≤ k) (hB : allB l = true) (hl : l.length < 35184372088832) :
    gessoref01_Codes.f k l = some (if validI l = true then (runesI l, 0) else ([], 6)) := by
  have := rcodes_loop l.length l [] k (Nat.le_refl _) hk hB (by simpa using hl)
  unfold gessoref01_Codes.f
  simpa using this

theorem codes_pure (l0 : List Int) (h0 : ∀ x ∈ l0, (Lit.int .u8 x).wf = true) (n0 : l0.length ≤ 1048576) : ∃ k, gessolaw01_CodeCodes.f k l0 = some true := by
  refine ⟨20000000, ?_⟩
  have hB := allB_wf h0
  have hrl : validI l0 = true → (runesI l0).length ≤ l0.length := runes_len hB
  have hc := codes_f hB (fun h => by have := hrl h; omega)
  have hr := rcodes_f l0 20000000 (by omega) hB (by omega)
  have haw := awake_f 20000000 (by omega)
  unfold gessolaw01_CodeCodes.f
  simp only [Option.bind_some, List.nil_append, List.length_nil, Nat.zero_add]
  rw [if_pos (by omega), hc, Option.bind_some, hr, Option.bind_some]
  by_cases hv : validI l0 = true
  · have hs := same_f (runesI l0) 20000000 (by have := hrl hv; omega) (by have := hrl hv; omega)
    simp only [if_pos hv, hs, Option.bind_some, if_true, haw]
  · have hs := same_f [] 20000000 (by simp) (by simp)
    simp only [if_neg hv, hs, Option.bind_some, if_true, haw]
end Go.Proofs.YtnaaimnmphcilaaDoor.PureA
