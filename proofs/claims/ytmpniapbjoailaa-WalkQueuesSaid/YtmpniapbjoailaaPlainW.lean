/- Package walk's laws: plain facts on the document's functions. -/
import Derived.Test.YtmpniapbjoailaaAwake
namespace Go.Proofs.Ytmpniapbjoailaa.Hand
open Go.RowKit Go.Proofs.Ytmpniapbjoailaa.QA Go.Proofs.YtmpniapbjoailaaW.PrintWords Go.Proofs.YtmpniapbjoailaaW.PrintLast Go.Proofs.YtmpniapbjoailaaW.PrintMore
set_option linter.unusedVariables false
set_option linter.unusedSimpArgs false

theorem same11_loop (l0 l1 : List ByteArray) (he : l0.length = l1.length) (hl : l0.length ≤ 9223372036854775806) : ∀ (d k i : Nat), l0.length - i ≤ d → d + 1 ≤ k → i ≤ l0.length →
    gessoref11_Same.l0 k l0 l1 (i : Int) = some (decide (l0.drop i = l1.drop i)) := by
  intro d
  induction d with
  | zero =>
    intro k i hd hk h0
    obtain ⟨k, rfl⟩ : ∃ m, k = m + 1 := ⟨k - 1, by omega⟩
    have hi : i = l0.length := by omega
    rw [gessoref11_Same.l0, if_neg (by omega), List.drop_eq_nil_iff.2 (by omega), List.drop_eq_nil_iff.2 (by omega)]
    simp
  | succ d ih =>
    intro k i hd hk h0
    obtain ⟨k, rfl⟩ : ∃ m, k = m + 1 := ⟨k - 1, by omega⟩
    by_cases hi : i = l0.length
    · rw [gessoref11_Same.l0, if_neg (by omega), List.drop_eq_nil_iff.2 (by omega), List.drop_eq_nil_iff.2 (by omega)]
      simp
    · have h1 : i < l0.length := by omega
      have h2 : i < l1.length := by omega
      rw [gessoref11_Same.l0, if_pos (by omega), if_pos (by omega), if_pos (by omega), rd_drop h1, rd_drop h2, wrap_small (by omega) (by omega)]
      by_cases h : rdOf ByteArray.empty l0 (i : Int) = rdOf ByteArray.empty l1 (i : Int)
      · rw [if_pos (by rw [h])]
        have := ih k (i + 1) (by omega) (by omega) (by omega)
        rw [show ((i + 1 : Nat) : Int) = (i : Int) + 1 from by omega] at this
        rw [this, h]
        congr 1
        simp
      · rw [if_neg (fun e => h (toList_inj e))]
        congr 1
        simp [h]
theorem same11_f (k : Nat) (l0 l1 : List ByteArray) (hl : l0.length ≤ 9223372036854775806) (hk : l0.length + 1 ≤ k) : gessoref11_Same.f k l0 l1 = some (decide (l0 = l1)) := by
  unfold gessoref11_Same.f
  by_cases h : l0.length = l1.length
  · rw [if_pos (by omega)]
    have := same11_loop l0 l1 h hl l0.length k 0 (by omega) hk (by omega)
    simpa using this
  · rw [if_neg (by omega)]
    congr 1
    symm
    rw [decide_eq_false_iff_not]
    intro e
    exact h (by rw [e])
theorem rd2_drop {l : List (List ByteArray)} {i : Nat} (h : i < l.length) : l.drop i = rd_L2 l (i : Int) :: l.drop (i + 1) := by
  rw [List.drop_eq_getElem_cons h]
  simp [rd_L2, List.getD, h]
theorem rd2_mem {l : List (List ByteArray)} {i : Nat} (h : i < l.length) : rd_L2 l (i : Int) ∈ l := by simp [rd_L2, List.getD, h]
theorem same15_loop (l0 l1 : List (List ByteArray)) (he : l0.length = l1.length) (hl : l0.length ≤ 9223372036854775806) (M : Nat) (hM : ∀ x ∈ l0, x.length ≤ M) (hM2 : M ≤ 9223372036854775806) : ∀ (d k i : Nat), l0.length - i ≤ d → d + M + 2 ≤ k → i ≤ l0.length →
    gessoref15_Same.l0 k l0 l1 (i : Int) = some (decide (l0.drop i = l1.drop i)) := by
  intro d
  induction d with
  | zero =>
    intro k i hd hk h0
    obtain ⟨k, rfl⟩ : ∃ m, k = m + 1 := ⟨k - 1, by omega⟩
    rw [gessoref15_Same.l0, if_neg (by omega), List.drop_eq_nil_iff.2 (by omega), List.drop_eq_nil_iff.2 (by omega)]
    simp
  | succ d ih =>
    intro k i hd hk h0
    obtain ⟨k, rfl⟩ : ∃ m, k = m + 1 := ⟨k - 1, by omega⟩
    by_cases hi : i = l0.length
    · rw [gessoref15_Same.l0, if_neg (by omega), List.drop_eq_nil_iff.2 (by omega), List.drop_eq_nil_iff.2 (by omega)]
      simp
    · have h1 : i < l0.length := by omega
      have h2 : i < l1.length := by omega
      have h3 := hM _ (rd2_mem h1)
      rw [gessoref15_Same.l0, if_pos (by omega), if_pos (by omega), if_pos (by omega), rd2_drop h1, rd2_drop h2, wrap_small (by omega) (by omega), same11_f k _ _ (by omega) (by omega), Option.bind_some]
      by_cases h : rd_L2 l0 (i : Int) = rd_L2 l1 (i : Int)
      · rw [if_pos (by simp [h])]
        have := ih k (i + 1) (by omega) (by omega) (by omega)
        rw [show ((i + 1 : Nat) : Int) = (i : Int) + 1 from by omega] at this
        rw [this, h]
        congr 1
        simp
      · rw [if_neg (by simp [h])]
        congr 1
        simp [h]
theorem same15_f (k : Nat) (l0 l1 : List (List ByteArray)) (hl : l0.length ≤ 9223372036854775806) (M : Nat) (hM : ∀ x ∈ l0, x.length ≤ M) (hM2 : M ≤ 9223372036854775806) (hk : l0.length + M + 2 ≤ k) : gessoref15_Same.f k l0 l1 = some (decide (l0 = l1)) := by
  unfold gessoref15_Same.f
  by_cases h : l0.length = l1.length
  · rw [if_pos (by omega)]
    have := same15_loop l0 l1 h hl M hM hM2 l0.length k 0 (by omega) hk (by omega)
    simpa using this
  · rw [if_neg (by omega)]
    congr 1
    symm
    rw [decide_eq_false_iff_not]
    intro e
    exact h (by rw [e])
/-! What lies in what is above it. -/
theorem pl_append (a : List ByteArray) (x : ByteArray) : pl a (a ++ [x]) = true := by
  unfold pl
  induction a with
  | nil => rfl
  | cons y a ih => simp [lexL, ih]
theorem deep_append (a : List ByteArray) (x : ByteArray) : lt true (a ++ [x]) a = true := by
  simp [lt]
end Go.Proofs.Ytmpniapbjoailaa.Hand
