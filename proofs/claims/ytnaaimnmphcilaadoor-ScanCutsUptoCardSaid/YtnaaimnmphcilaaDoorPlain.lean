/- Plain facts on code points and their bytes: what is laid is decoded as it was, what is decoded is laid so. No program in it. -/
import Derived.Test.YtnaaimnmphcilaaDoorBase
import Derived.Lib.RuneBytes
import Derived.Lib.TrimUEq
namespace Go.Proofs.YtnaaimnmphcilaaDoor.Hand
open Go.RowKit Go.Proofs.YtnaaimnmphcilaaDoorW.PrintWords
set_option linter.unusedVariables false
set_option linter.unusedSimpArgs false

/-- Is a number a code point? -/
def Pt (c : Int) : Prop := (0 ≤ c ∧ c < 55296) ∨ (57343 < c ∧ c ≤ 1114111)
instance (c : Int) : Decidable (Pt c) := inferInstanceAs (Decidable (_ ∨ _))
/-- Its bytes; its width. -/
def putI (c : Int) : List Int := Lib.encodeRuneZ c
def widI (c : Int) : Nat := if c < 128 then 1 else if c < 2048 then 2 else if c < 65536 then 3 else 4
theorem putI_1 {c : Int} (h : Pt c) (h1 : c < 128) : putI c = [c] := Lib.encodeRuneZ_one (by unfold Pt at h; omega) (by omega)
theorem putI_2 {c : Int} (h : Pt c) (h1 : ¬ c < 128) (h2 : c < 2048) : putI c = [192 + c / 64, 128 + c % 64] := Lib.encodeRuneZ_two (by omega) (by omega)
theorem putI_3 {c : Int} (h : Pt c) (h1 : ¬ c < 2048) (h2 : c < 65536) : putI c = [224 + c / 4096, 128 + c / 64 % 64, 128 + c % 64] := Lib.encodeRuneZ_three (by unfold Pt at h; omega)
theorem putI_4 {c : Int} (h : Pt c) (h1 : ¬ c < 65536) : putI c = [240 + c / 262144, 128 + c / 4096 % 64, 128 + c / 64 % 64, 128 + c % 64] := Lib.encodeRuneZ_four (by omega) (by unfold Pt at h; omega)
theorem putI_len {c : Int} (h : Pt c) : (putI c).length = widI c := by
  unfold widI
  split
  · rw [putI_1 h ‹_›]; rfl
  · split
    · rw [putI_2 h ‹_› ‹_›]; rfl
    · split
      · rw [putI_3 h ‹_› ‹_›]; rfl
      · rw [putI_4 h ‹_›]; rfl
theorem widI_le (c : Int) : 1 ≤ widI c ∧ widI c ≤ 4 := by unfold widI; split <;> (try split) <;> (try split) <;> omega
theorem putI_byte {c : Int} (h : Pt c) : ∀ x ∈ putI c, 0 ≤ x ∧ x < 256 := Lib.encodeRuneZ_byte c

/-- Not a fault: what the decoder tells of a code point. -/
def Good (d : Nat × Nat) : Prop := ¬ (d.1 = 65533 ∧ d.2 < 2)
instance (d : Nat × Nat) : Decidable (Good d) := inferInstanceAs (Decidable (¬ _))

set_option maxRecDepth 100000 in
set_option maxHeartbeats 4000000 in
theorem decN_1 (n b0 b1 b2 b3 : Nat) (h : b0 < 128) : Lib.decodeN n b0 b1 b2 b3 = (b0, 1) := by simp [Lib.decodeN, h]
set_option maxRecDepth 100000 in
set_option maxHeartbeats 4000000 in
theorem decN_2 (n b2 b3 c : Nat) (hn : 2 ≤ n) (h1 : 128 ≤ c) (h2 : c < 2048) : Lib.decodeN n (192 + c / 64) (128 + c % 64) b2 b3 = (c, 2) := by
  unfold Lib.decodeN
  repeat' split
  all_goals first | (exfalso; omega) | (apply Prod.ext <;> simp only <;> omega)
set_option maxRecDepth 100000 in
set_option maxHeartbeats 4000000 in
theorem decN_3 (n b3 c : Nat) (hn : 3 ≤ n) (h1 : 2048 ≤ c) (h2 : c < 65536) (hp : c < 55296 ∨ 57343 < c) : Lib.decodeN n (224 + c / 4096) (128 + c / 64 % 64) (128 + c % 64) b3 = (c, 3) := by
  unfold Lib.decodeN
  repeat' split
  all_goals first | (exfalso; omega) | (apply Prod.ext <;> simp only <;> omega)
set_option maxRecDepth 100000 in
set_option maxHeartbeats 4000000 in
theorem decN_4 (n c : Nat) (hn : 4 ≤ n) (h1 : 65536 ≤ c) (h2 : c ≤ 1114111) : Lib.decodeN n (240 + c / 262144) (128 + c / 4096 % 64) (128 + c / 64 % 64) (128 + c % 64) = (c, 4) := by
  unfold Lib.decodeN
  repeat' split
  all_goals first | (exfalso; omega) | (apply Prod.ext <;> simp only <;> omega)

/-- What is laid is decoded as it was. -/
theorem dec_put {c : Int} (h : Pt c) (rest : List Int) : decI (putI c ++ rest) = (c.toNat, widI c) := by
  have hc := h
  unfold Pt at hc
  by_cases h1 : c < 128
  · rw [putI_1 h h1]
    unfold decI
    rw [decN_1 _ _ _ _ _ (by simp [rd]; try omega)]
    simp [rd, widI, h1]
  · by_cases h2 : c < 2048
    · rw [putI_2 h h1 h2]
      unfold decI
      have e0 : (rd ([192 + c / 64, 128 + c % 64] ++ rest) 0).toNat = 192 + c.toNat / 64 := by simp [rd]; omega
      have e1 : (rd ([192 + c / 64, 128 + c % 64] ++ rest) 1).toNat = 128 + c.toNat % 64 := by simp [rd]; omega
      rw [e0, e1, decN_2 _ _ _ _ (by simp; omega) (by omega) (by omega)]
      simp [widI, h1, h2]
    · by_cases h3 : c < 65536
      · rw [putI_3 h h2 h3]
        unfold decI
        have e0 : (rd ([224 + c / 4096, 128 + c / 64 % 64, 128 + c % 64] ++ rest) 0).toNat = 224 + c.toNat / 4096 := by simp [rd]; omega
        have e1 : (rd ([224 + c / 4096, 128 + c / 64 % 64, 128 + c % 64] ++ rest) 1).toNat = 128 + c.toNat / 64 % 64 := by simp [rd]; omega
        have e2 : (rd ([224 + c / 4096, 128 + c / 64 % 64, 128 + c % 64] ++ rest) 2).toNat = 128 + c.toNat % 64 := by simp [rd]; omega
        rw [e0, e1, e2, decN_3 _ _ _ (by simp; omega) (by omega) (by omega) (by omega)]
        simp [widI, h1, h2, h3]
      · rw [putI_4 h h3]
        unfold decI
        have e0 : (rd ([240 + c / 262144, 128 + c / 4096 % 64, 128 + c / 64 % 64, 128 + c % 64] ++ rest) 0).toNat = 240 + c.toNat / 262144 := by simp [rd]; omega
        have e1 : (rd ([240 + c / 262144, 128 + c / 4096 % 64, 128 + c / 64 % 64, 128 + c % 64] ++ rest) 1).toNat = 128 + c.toNat / 4096 % 64 := by simp [rd]; omega
        have e2 : (rd ([240 + c / 262144, 128 + c / 4096 % 64, 128 + c / 64 % 64, 128 + c % 64] ++ rest) 2).toNat = 128 + c.toNat / 64 % 64 := by simp [rd]; omega
        have e3 : (rd ([240 + c / 262144, 128 + c / 4096 % 64, 128 + c / 64 % 64, 128 + c % 64] ++ rest) 3).toNat = 128 + c.toNat % 64 := by simp [rd]; omega
        rw [e0, e1, e2, e3, decN_4 _ _ (by simp <;> omega) (by omega) (by omega)]
        simp [widI, h1, h2, h3]

set_option maxRecDepth 100000 in
set_option maxHeartbeats 8000000 in
/-- What is decoded is laid so: by its numbers. -/
theorem dec_good (n b0 b1 b2 b3 : Nat) (h0 : b0 < 256) (h1 : b1 < 256) (h2 : b2 < 256) (h3 : b3 < 256) (hn : 1 ≤ n) (hg : Good (Lib.decodeN n b0 b1 b2 b3)) :
    ∃ c : Nat, Pt (c : Int) ∧ ((c < 128 ∧ Lib.decodeN n b0 b1 b2 b3 = (c, 1) ∧ b0 = c) ∨
      (128 ≤ c ∧ c < 2048 ∧ 2 ≤ n ∧ Lib.decodeN n b0 b1 b2 b3 = (c, 2) ∧ b0 = 192 + c / 64 ∧ b1 = 128 + c % 64) ∨
      (2048 ≤ c ∧ c < 65536 ∧ 3 ≤ n ∧ Lib.decodeN n b0 b1 b2 b3 = (c, 3) ∧ b0 = 224 + c / 4096 ∧ b1 = 128 + c / 64 % 64 ∧ b2 = 128 + c % 64) ∨
      (65536 ≤ c ∧ c ≤ 1114111 ∧ 4 ≤ n ∧ Lib.decodeN n b0 b1 b2 b3 = (c, 4) ∧ b0 = 240 + c / 262144 ∧ b1 = 128 + c / 4096 % 64 ∧ b2 = 128 + c / 64 % 64 ∧ b3 = 128 + c % 64)) := by
  by_cases a : b0 < 128
  · exact ⟨b0, by unfold Pt; omega, .inl ⟨a, decN_1 _ _ _ _ _ a, rfl⟩⟩
  by_cases c2 : b0 / 32 = 6 ∧ (1 < n ∧ b1 / 64 = 2)
  · have e : Lib.decodeN n b0 b1 b2 b3 = if b0 % 32 * 64 + b1 % 64 ≥ 128 then (b0 % 32 * 64 + b1 % 64, 2) else (65533, 1) := by
      unfold Lib.decodeN; rw [if_neg a, if_pos c2]
    by_cases c : b0 % 32 * 64 + b1 % 64 ≥ 128
    · rw [if_pos c] at e
      exact ⟨b0 % 32 * 64 + b1 % 64, by unfold Pt; omega, .inr (.inl ⟨by omega, by omega, by omega, e, by omega, by omega⟩)⟩
    · rw [if_neg c] at e
      rw [e] at hg
      exact absurd ⟨rfl, by decide⟩ hg
  by_cases c3 : b0 / 16 = 14 ∧ (1 < n ∧ b1 / 64 = 2) ∧ (2 < n ∧ b2 / 64 = 2)
  · have e : Lib.decodeN n b0 b1 b2 b3 = if b0 % 16 * 4096 + b1 % 64 * 64 + b2 % 64 ≥ 2048 ∧ (b0 % 16 * 4096 + b1 % 64 * 64 + b2 % 64 < 55296 ∨ (57344 ≤ b0 % 16 * 4096 + b1 % 64 * 64 + b2 % 64 ∧ b0 % 16 * 4096 + b1 % 64 * 64 + b2 % 64 ≤ 1114111)) then (b0 % 16 * 4096 + b1 % 64 * 64 + b2 % 64, 3) else (65533, 1) := by
      unfold Lib.decodeN; rw [if_neg a, if_neg c2, if_pos c3]
    by_cases c : b0 % 16 * 4096 + b1 % 64 * 64 + b2 % 64 ≥ 2048 ∧ (b0 % 16 * 4096 + b1 % 64 * 64 + b2 % 64 < 55296 ∨ (57344 ≤ b0 % 16 * 4096 + b1 % 64 * 64 + b2 % 64 ∧ b0 % 16 * 4096 + b1 % 64 * 64 + b2 % 64 ≤ 1114111))
    · rw [if_pos c] at e
      exact ⟨b0 % 16 * 4096 + b1 % 64 * 64 + b2 % 64, by unfold Pt; omega, .inr (.inr (.inl ⟨by omega, by omega, by omega, e, by omega, by omega, by omega⟩))⟩
    · rw [if_neg c] at e
      rw [e] at hg
      exact absurd ⟨rfl, by decide⟩ hg
  by_cases c4 : b0 / 8 = 30 ∧ (1 < n ∧ b1 / 64 = 2) ∧ (2 < n ∧ b2 / 64 = 2) ∧ (3 < n ∧ b3 / 64 = 2)
  · have e : Lib.decodeN n b0 b1 b2 b3 = if b0 % 8 * 262144 + b1 % 64 * 4096 + b2 % 64 * 64 + b3 % 64 ≥ 65536 ∧ (b0 % 8 * 262144 + b1 % 64 * 4096 + b2 % 64 * 64 + b3 % 64 < 55296 ∨ (57344 ≤ b0 % 8 * 262144 + b1 % 64 * 4096 + b2 % 64 * 64 + b3 % 64 ∧ b0 % 8 * 262144 + b1 % 64 * 4096 + b2 % 64 * 64 + b3 % 64 ≤ 1114111)) then (b0 % 8 * 262144 + b1 % 64 * 4096 + b2 % 64 * 64 + b3 % 64, 4) else (65533, 1) := by
      unfold Lib.decodeN; rw [if_neg a, if_neg c2, if_neg c3, if_pos c4]
    by_cases c : b0 % 8 * 262144 + b1 % 64 * 4096 + b2 % 64 * 64 + b3 % 64 ≥ 65536 ∧ (b0 % 8 * 262144 + b1 % 64 * 4096 + b2 % 64 * 64 + b3 % 64 < 55296 ∨ (57344 ≤ b0 % 8 * 262144 + b1 % 64 * 4096 + b2 % 64 * 64 + b3 % 64 ∧ b0 % 8 * 262144 + b1 % 64 * 4096 + b2 % 64 * 64 + b3 % 64 ≤ 1114111))
    · rw [if_pos c] at e
      exact ⟨b0 % 8 * 262144 + b1 % 64 * 4096 + b2 % 64 * 64 + b3 % 64, by unfold Pt; omega, .inr (.inr (.inr ⟨by omega, by omega, by omega, e, by omega, by omega, by omega, by omega⟩))⟩
    · rw [if_neg c] at e
      rw [e] at hg
      exact absurd ⟨rfl, by decide⟩ hg
  · have e : Lib.decodeN n b0 b1 b2 b3 = (65533, 1) := by
      unfold Lib.decodeN; rw [if_neg a, if_neg c2, if_neg c3, if_neg c4]
    rw [e] at hg
    exact absurd ⟨rfl, by decide⟩ hg

theorem rd_byte {l : List Int} {m j : Nat} (hB : allB (l.take m) = true) (hj : j < m) : 0 ≤ rd l (j : Int) ∧ rd l (j : Int) < 256 := by
  simp only [rd, Int.toNat_natCast]
  by_cases h : j < l.length
  · have := allB_mem hB (l[j]) (by rw [List.mem_take_iff_getElem]; exact ⟨j, by omega, rfl⟩)
    rw [List.getD_eq_getElem?_getD, List.getElem?_eq_getElem h]
    exact this
  · rw [List.getD_eq_getElem?_getD, List.getElem?_eq_none (by omega)]
    simp

/-- What is decoded is laid so: of a list of bytes. -/
theorem dec_good_I {l : List Int} (hne : l ≠ []) (hB : allB (l.take 4) = true) (hg : Good (decI l)) :
    ∃ c : Int, Pt c ∧ decI l = (c.toNat, widI c) ∧ l.take (widI c) = putI c ∧ widI c ≤ l.length := by
  have hl : 0 < l.length := List.length_pos_iff.2 hne
  have r0 := rd_byte hB (j := 0) (by omega)
  have r1 := rd_byte hB (j := 1) (by omega)
  have r2 := rd_byte hB (j := 2) (by omega)
  have r3 := rd_byte hB (j := 3) (by omega)
  simp only [Int.natCast_zero, Int.cast_ofNat_Int, Int.natCast_one] at r0 r1 r2 r3
  obtain ⟨c, hP, h⟩ := dec_good (min l.length 4) (rd l 0).toNat (rd l 1).toNat (rd l 2).toNat (rd l 3).toNat (by omega) (by omega) (by omega) (by omega) (by omega) hg
  refine ⟨(c : Int), hP, ?_⟩
  rcases h with ⟨h1, he, e0⟩ | ⟨h1, h2, hn, he, e0, e1⟩ | ⟨h1, h2, hn, he, e0, e1, e2⟩ | ⟨h1, h2, hn, he, e0, e1, e2, e3⟩
  · have w : widI (c : Int) = 1 := by unfold widI; rw [if_pos (by omega)]
    rw [w, putI_1 hP (by omega)]
    refine ⟨he, ?_, hl⟩
    match l, hne with
    | x :: t, _ => simp [rd] at e0 r0 ⊢; omega
  · have w : widI (c : Int) = 2 := by unfold widI; rw [if_neg (by omega), if_pos (by omega)]
    rw [w, putI_2 hP (by omega) (by omega)]
    refine ⟨he, ?_, by omega⟩
    match l, (show 2 ≤ l.length by omega) with
    | x :: y :: t, _ => simp [rd] at e0 r0 e1 r1 ⊢; omega
  · have w : widI (c : Int) = 3 := by unfold widI; rw [if_neg (by omega), if_neg (by omega), if_pos (by omega)]
    rw [w, putI_3 hP (by omega) (by omega)]
    refine ⟨he, ?_, by omega⟩
    match l, (show 3 ≤ l.length by omega) with
    | x :: y :: z :: t, _ => simp [rd] at e0 r0 e1 r1 e2 r2 ⊢; omega
  · have w : widI (c : Int) = 4 := by unfold widI; rw [if_neg (by omega), if_neg (by omega), if_neg (by omega)]
    rw [w, putI_4 hP (by omega)]
    refine ⟨he, ?_, by omega⟩
    match l, (show 4 ≤ l.length by omega) with
    | x :: y :: z :: u :: t, _ => simp [rd] at e0 r0 e1 r1 e2 r2 e3 r3 ⊢; omega
end Go.Proofs.YtnaaimnmphcilaaDoor.Hand
