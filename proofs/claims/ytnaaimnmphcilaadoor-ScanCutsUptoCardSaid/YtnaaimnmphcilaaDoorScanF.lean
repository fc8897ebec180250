/- code.Fault at every slice of bytes. -/
import Derived.Test.YtnaaimnmphcilaaDoorQAx1
import Derived.Test.YtnaaimnmphcilaaDoorPlain2
namespace Go.Proofs.YtnaaimnmphcilaaDoor.ScanF
open Go.RowKit Go.Proofs.YtnaaimnmphcilaaDoor.Hand Go.Proofs.YtnaaimnmphcilaaDoor.QA Go.Proofs.YtnaaimnmphcilaaDoorW.PrintWords Go.Proofs.YtnaaimnmphcilaaDoorW.PrintLast
set_option linter.unusedVariables false
set_option linter.unusedSimpArgs false

theorem wrap_small {i : Int} (h0 : 0 ≤ i) (h1 : i < 9223372036854775807) : wrap64 (i + 1) = i + 1 := by unfold wrap64; omega
theorem wrap_id {i : Int} (h0 : 0 ≤ i) (h1 : i ≤ 9223372036854775807) : wrap64 i = i := by unfold wrap64; omega
/-! ### code.Fault -/
theorem fault_loop : ∀ (n : Nat) (rest pre : List Int) (k : Nat), rest.length ≤ n → rest.length + 1 ≤ k → allB rest = true → (pre ++ rest).length ≤ 9223372036854775807 →
    code_Fault.l0 k (pre ++ rest) (pre.length : Int) = some (faultL n rest pre.length)
  | n, [], pre, k, hn, hk, hB, hl => by
    obtain ⟨k, rfl⟩ : ∃ m, k = m + 1 := ⟨k - 1, by omega⟩
    simp only [code_Fault.l0, List.append_nil]
    rw [if_neg (by omega)]
    cases n <;> simp [faultL]
  | 0, c :: rest, pre, k, hn, hk, hB, hl => by simp at hn
  | n + 1, c :: rest, pre, k, hn, hk, hB, hl => by
    obtain ⟨k, rfl⟩ : ∃ m, k = m + 1 := ⟨k - 1, by omega⟩
    have hlen : (pre ++ c :: rest).length = pre.length + (c :: rest).length := by simp
    have hpos : 0 < (c :: rest).length := by simp
    rw [code_Fault.l0, if_pos (by omega), if_pos (by omega), if_pos (by omega), Int.toNat_natCast, List.drop_left]
    generalize hr : c :: rest = r at *
    have hne : r ≠ [] := by rw [← hr]; simp
    have h1 : code_One.f r = some (oneI r) := by unfold code_One.f; rw [if_pos ⟨hne, allB_take hB 4⟩]
    rw [h1]
    simp only [Option.bind_some]
    unfold faultL
    rw [if_neg hne]
    have hw := decI_width hB
    unfold oneI
    by_cases hg : Hand.Good (decI r)
    · rw [if_pos hg, if_neg hg]
      simp only
      obtain ⟨x, hx, hd, ht, hle⟩ := dec_good_I hne (allB_take hB 4) hg
      have hdw : (decI r).2 = widI x := by rw [hd]
      rw [if_neg (by omega), wrap_id (by omega) (by omega)]
      have := fault_loop n (r.drop (decI r).2) (pre ++ r.take (decI r).2) k (by rw [List.length_drop]; omega) (by rw [List.length_drop]; omega) (allB_drop hB _) (by rw [List.append_assoc, List.take_append_drop]; exact hl)
      rw [List.append_assoc, List.take_append_drop, List.length_append, List.length_take, show min (decI r).2 r.length = (decI r).2 by omega, Int.natCast_add] at this
      exact this
    · rw [if_neg hg, if_pos (Classical.not_not.1 hg)]
      simp
theorem fault_f (l : List Int) (k : Nat) (hk : l.length + 1 ≤ k) (hB : allB l = true) (hl : l.length ≤ 9223372036854775807) : code_Fault.f k l = some (faultI l) := by
  have := fault_loop l.length l [] k (Nat.le_refl _) hk hB (by simpa using hl)
  unfold code_Fault.f faultI
  simpa using this


theorem fault_calls (A : Option Addr) (c : Nat) (l : List Int) (w : World) (hr : Kd.C (Kd.int .u8) w A l.length l) (hc : l.length ≤ c) (hT : Tabs w) (hB : allB l = true) :
    Calls Tryd.prog 15 #[.slice A l.length c] w fun e w' => e = .returned (.int .i64 (faultI l)) ∧ Below w.heap.size w w' :=
  code_Fault.calls (l.length + 1) A c l (faultI l) w hr hc hT (fault_f l _ (Nat.le_refl _) hB hr.2.1)
end Go.Proofs.YtnaaimnmphcilaaDoor.ScanF
