/- gessolaw15.light: what it tells. -/
import Derived.Test.YtmpniapbjoailaaPlainW
namespace Go.Proofs.Ytmpniapbjoailaa.Hand
open Go.RowKit Go.Proofs.Ytmpniapbjoailaa.QA Go.Proofs.YtmpniapbjoailaaW.PrintWords Go.Proofs.YtmpniapbjoailaaW.PrintLast Go.Proofs.YtmpniapbjoailaaW.PrintMore
set_option linter.unusedVariables false
set_option linter.unusedSimpArgs false
def msum (l : List (List ByteArray)) : Nat := (l.map fun x => min x.length 1001).sum
def lightOf (l : List (List ByteArray)) : Bool := decide (l.length ≤ 200) && decide (msum l ≤ 1000)
theorem light_loop (l0 : List (List ByteArray)) (hl : l0.length ≤ 200) : ∀ (d k i s : Nat), l0.length - i ≤ d → d + 1 ≤ k → i ≤ l0.length → s ≤ i * 1001 →
    gessolaw15_light.l0 k l0 (s : Int) (i : Int) = some (decide (s + msum (l0.drop i) ≤ 1000)) := by
  intro d
  induction d with
  | zero =>
    intro k i s hd hk h0 hs
    obtain ⟨k, rfl⟩ : ∃ m, k = m + 1 := ⟨k - 1, by omega⟩
    rw [gessolaw15_light.l0, if_neg (by omega), List.drop_eq_nil_iff.2 (by omega)]
    congr 1
    rw [Bool.eq_iff_iff, decide_eq_true_eq, decide_eq_true_eq]
    simp [msum]
    omega
  | succ d ih =>
    intro k i s hd hk h0 hs
    obtain ⟨k, rfl⟩ : ∃ m, k = m + 1 := ⟨k - 1, by omega⟩
    by_cases hi : i = l0.length
    · rw [gessolaw15_light.l0, if_neg (by omega), List.drop_eq_nil_iff.2 (by omega)]
      congr 1
      rw [Bool.eq_iff_iff, decide_eq_true_eq, decide_eq_true_eq]
      simp [msum]
      omega
    · have h1 : i < l0.length := by omega
      have hmn : mn ((rd_L2 l0 (i : Int)).length : Int) 1001 = ((min (rd_L2 l0 (i : Int)).length 1001 : Nat) : Int) := by unfold mn; split <;> omega
      have hw : wrap64 ((s : Int) + ((min (rd_L2 l0 (i : Int)).length 1001 : Nat) : Int)) = ((s + min (rd_L2 l0 (i : Int)).length 1001 : Nat) : Int) := by unfold wrap64; omega
      rw [gessolaw15_light.l0, if_pos (by omega), if_pos (by omega), hmn, hw, wrap_small (by omega) (by omega)]
      have := ih k (i + 1) (s + min (rd_L2 l0 (i : Int)).length 1001) (by omega) (by omega) (by omega) (by omega)
      rw [show ((i + 1 : Nat) : Int) = (i : Int) + 1 from by omega] at this
      rw [this, rd2_drop h1]
      congr 1
      rw [Bool.eq_iff_iff, decide_eq_true_eq, decide_eq_true_eq]
      simp [msum]
      omega
theorem light_f (l0 : List (List ByteArray)) (k : Nat) (hk : 202 ≤ k) : gessolaw15_light.f k l0 = some (lightOf l0) := by
  unfold gessolaw15_light.f lightOf
  by_cases h : l0.length ≤ 200
  · rw [if_neg (by omega)]
    have := light_loop l0 h l0.length k 0 0 (by omega) (by omega) (by omega) (by omega)
    simpa [h] using this
  · rw [if_pos (by omega)]
    simp [h]
theorem msum_mem {l : List (List ByteArray)} {x : List ByteArray} (h : x ∈ l) : min x.length 1001 ≤ msum l := by
  induction l with
  | nil => cases h
  | cons y l ih =>
    simp only [msum, List.map_cons, List.sum_cons]
    rcases List.mem_cons.1 h with rfl | h
    · omega
    · have := ih h
      unfold msum at this
      omega
theorem light_true {l : List (List ByteArray)} (h : lightOf l = true) : l.length ≤ 200 ∧ ∀ x ∈ l, x.length ≤ 1000 := by
  simp only [lightOf, Bool.and_eq_true, decide_eq_true_eq] at h
  exact ⟨h.1, fun x hx => by have := msum_mem hx; omega⟩
theorem light_m (A : Option Addr) (c n : Nat) (l : List (List ByteArray)) (hn : n = l.length) (w : World) (hr : Kd.C dP w A l.length l) (hc : l.length ≤ c) : Calls Try.prog 15 #[.slice A n c] w fun e w' => e = .returned (.bool (lightOf l)) ∧ Below w.heap.size w w' := by
  subst hn
  exact gessolaw15_light.calls 202 A c l _ w hr hc (light_f l 202 (Nat.le_refl _))
end Go.Proofs.Ytmpniapbjoailaa.Hand
