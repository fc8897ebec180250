/- What code.One answers at every slice of bytes that is not empty. -/
import Derived.Test.YtnaaimnmphcilaaDoorBase
import Derived.Laws.IdiomAt
namespace Go.Proofs.YtnaaimnmphcilaaDoor.Hand
open Go.RowKit Go.Proofs.YtnaaimnmphcilaaDoorW.PrintWords Go.Proofs.YtnaaimnmphcilaaDoorW.PrintLast Go.Proofs.YtnaaimnmphcilaaDoorW.PrintMore
attribute [local go_sem] max2_int min2_int max_two min_two
set_option linter.unusedVariables false
set_option linter.unusedSimpArgs false

theorem decodeGo_I (l : List Int) (hne : l ≠ []) (hB : allB (l.take 4) = true) : Lib.decodeGo ⟨(toB (l.take 4)).toArray⟩ = decI l := by
  have hl : 0 < l.length := List.length_pos_iff.2 hne
  have hsz : (⟨(toB (l.take 4)).toArray⟩ : ByteArray).size = min l.length 4 := by
    simp [ByteArray.size, toB_length]; omega
  have hg : ∀ j, ((⟨(toB (l.take 4)).toArray⟩ : ByteArray).get! j).toNat = if j < min l.length 4 then (l.getD j 0).toNat else 0 := by
    intro j
    split
    · rename_i hj
      have := toB_get (l.take 4) hB j (by simp; omega)
      have e : (l.take 4).getD j 0 = l.getD j 0 := by simp [List.getD, show j < 4 by omega]
      rw [e] at this
      omega
    · rename_i hj
      rw [← Lib.getD_get!', List.getD_eq_getElem?_getD, List.getElem?_eq_none (by simp [toB_length]; omega)]
      rfl
  unfold Lib.decodeGo
  rw [if_neg (by omega), Lib.decode_at, hsz]
  simp only [hg, Nat.zero_add]
  unfold decI
  have key : ∀ j : Nat, (if j < min l.length 4 then (l.getD j 0).toNat else 0) = if j < 4 then (rd l j).toNat else 0 := by
    intro j
    by_cases h4 : j < 4
    · by_cases hj : j < l.length
      · rw [if_pos (by omega), if_pos h4]; simp [rd]
      · rw [if_neg (by omega), if_pos h4]; simp [rd, List.getElem?_eq_none (Nat.le_of_not_lt hj)]
    · rw [if_neg (by omega), if_neg h4]
  rw [key 0, key 1, key 2, key 3]
  simp

theorem one_lit (l : List Int) : (oneI l).1 = if (decI l).1 = 65533 ∧ (decI l).2 < 2 then 0 else ((decI l).1 : Int) := by unfold oneI; split <;> rfl

set_option maxHeartbeats 1000000 in
theorem code_One.calls (A0 : Option Addr) (c0 : Nat) (l0 : List Int) (r1 r2 : Int) (w : World) (hr0 : Kd.C (Kd.int .u8) w A0 l0.length l0) (hc0 : l0.length ≤ c0) (hT : Tabs w) (h : code_One.f l0 = some (r1, r2)) :
    Calls Tryd.prog 34 #[.slice A0 l0.length c0] w fun e w' => e = .returned (.tuple #[.int .u32 r1, .int .i64 r2]) ∧ Below w.heap.size w w' := by
  unfold code_One.f at h
  split at h
  case isFalse => exact absurd h (by simp)
  case isTrue hh =>
  obtain ⟨hne, hB⟩ := hh
  simp only [Option.some.injEq] at h
  have hl : 0 < l0.length := List.length_pos_iff.2 hne
  have hmax := hr0.2.1
  obtain ⟨b, off, rfl, hb, hcell⟩ := view hr0 hne
  have hsz : (⟨(toB (l0.take 4)).toArray⟩ : ByteArray).size = min l0.length 4 := by
    simp [ByteArray.size, toB_length]; omega
  have cD := Tryd.utf8_DecodeRune ⟨(toB (l0.take 4)).toArray⟩ b off l0.length w hT.out (by
    intro j hj
    rw [hsz] at hj
    rw [hcell j (by omega), ← show (l0.take 4).getD j 0 = l0.getD j 0 from by simp [List.getD, show j < 4 by omega], ← toB_get (l0.take 4) hB j (by simp; omega)])
  rw [hsz, decodeGo_I l0 hne hB] at cD
  have hd1 : (decI l0).1 ≤ 1114111 := Lib.decodeN_rune_le _ _ _ _ _ (by
    have hr : 0 ≤ rd l0 0 ∧ rd l0 0 < 256 := by
      match l0, hne with
      | x :: t, _ => exact allB_mem hB x (by simp)
    omega)
  have hr : r1 = (oneI l0).1 ∧ r2 = (oneI l0).2 := by rw [h]; exact ⟨rfl, rfl⟩
  unfold oneI at hr
  clear h hcell hr0 hB hsz hT
  generalize decI l0 = d at *
  obtain ⟨d1, d2⟩ := d
  simp only at cD hd1 hr
  generalize l0.length = n at *
  clear hne
  have hd1z : (d1 : Int) ≤ 1114111 := by omega
  have hd0z : (0 : Int) ≤ (d1 : Int) := by omega
  have hout : (d1 = 65533 ∧ d2 < 2 ∧ r1 = 0 ∧ r2 = 0) ∨ (¬ (d1 = 65533 ∧ d2 < 2) ∧ r1 = d1 ∧ r2 = d2) := by
    by_cases hc : d1 = 65533 ∧ d2 < 2
    · rw [if_pos hc] at hr; exact .inl ⟨hc.1, hc.2, hr.1, hr.2⟩
    · rw [if_neg hc] at hr; exact .inr ⟨hc, hr.1, hr.2⟩
  clear hr
  have h4 : (4 < n ∧ min n 4 = 4) ∨ (¬ 4 < n ∧ min n 4 = n) := by omega
  have hcase : (d1 = 65533 ∧ d2 < 2 ∧ r1 = 0 ∧ r2 = 0) ∨ (d1 = 65533 ∧ ¬ d2 < 2 ∧ r1 = d1 ∧ r2 = d2) ∨ (d1 ≠ 65533 ∧ r1 = d1 ∧ r2 = d2) := by
    rcases hout with h | ⟨h, h1, h2⟩
    · exact .inl h
    · by_cases e : d1 = 65533
      · exact .inr (.inl ⟨e, fun h2 => h ⟨e, h2⟩, h1, h2⟩)
      · exact .inr (.inr ⟨e, h1, h2⟩)
  clear hout
  rcases h4 with ⟨h4, hm⟩ | ⟨h4, hm⟩
  all_goals
    rw [hm] at cD
    clear hm
    have h4z := h4
    first | (have h4i : (4 : Int) < (n : Int) := by omega) | (have h4i : ¬ (4 : Int) < (n : Int) := by omega)
    clear h4z h4
    rcases hcase with ⟨rfl, h2, rfl, rfl⟩ | ⟨rfl, h2, rfl, rfl⟩ | ⟨h3, rfl, rfl⟩
    · have h2i : (d2 : Int) < 2 := by omega
      go_enter Tryd.func34, Tryd.ntmps34
      go_wp2_with (go_at_call 49; refine cD.mono ?_; rintro e w1 ⟨rfl, hb1⟩)
      go_ret2
      exact ⟨rfl, hb1⟩
    · have h2i : ¬ (d2 : Int) < 2 := by omega
      go_enter Tryd.func34, Tryd.ntmps34
      go_wp2_with (go_at_call 49; refine cD.mono ?_; rintro e w1 ⟨rfl, hb1⟩)
      go_ret2
      exact ⟨rfl, hb1⟩
    · have h3i : ((d1 : Int) == 65533) = false := by simp; omega
      go_enter Tryd.func34, Tryd.ntmps34
      go_wp2_with (go_at_call 49; refine cD.mono ?_; rintro e w1 ⟨rfl, hb1⟩)
      go_ret2
      exact ⟨rfl, hb1⟩
end Go.Proofs.YtnaaimnmphcilaaDoor.Hand
