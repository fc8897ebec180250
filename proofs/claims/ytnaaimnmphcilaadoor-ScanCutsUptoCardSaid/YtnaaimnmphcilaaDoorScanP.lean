/- Open bytes, and the first fault of bytes that are put together: plain Lean. -/
import Derived.Test.YtnaaimnmphcilaaDoorScanStays
namespace Go.Proofs.YtnaaimnmphcilaaDoor.Hand
open Go.RowKit Go.Proofs.YtnaaimnmphcilaaDoorW.PrintWords Go.Proofs.YtnaaimnmphcilaaDoorW.PrintLast Go.Proofs.YtnaaimnmphcilaaDoorW.PrintMore
set_option linter.unusedVariables false
set_option linter.unusedSimpArgs false

def okB (b0 b1 : Nat) : Prop := (b0 = 224 → 160 ≤ b1) ∧ (b0 = 237 → b1 ≤ 159) ∧ (b0 = 240 → 144 ≤ b1) ∧ (b0 = 244 → b1 ≤ 143) ∧ 128 ≤ b1 ∧ b1 ≤ 191
theorem full_eq (n b0 b1 b2 k lo hi : Nat) (hk : Lib.firstT b0 = k) (hlo : Lib.accLo (k / 16) = lo) (hhi : Lib.accHi (k / 16) = hi) :
    fullN n b0 b1 b2 = false ↔ ¬ k % 8 ≤ n ∧ ¬ (1 < n ∧ (b1 < lo ∨ hi < b1)) ∧ ¬ (2 < n ∧ (b2 < 128 ∨ 191 < b2)) := by
  unfold fullN
  rw [hk, hlo, hhi]
  by_cases h1 : k % 8 ≤ n
  · rw [if_pos h1]; exact ⟨fun h => (by cases h), fun h => absurd h1 h.1⟩
  · rw [if_neg h1]
    by_cases h2 : 1 < n ∧ (b1 < lo ∨ hi < b1)
    · rw [if_pos h2]; exact ⟨fun h => (by cases h), fun h => absurd h2 h.2.1⟩
    · rw [if_neg h2]
      by_cases h3 : 2 < n ∧ (b2 < 128 ∨ 191 < b2)
      · rw [if_pos h3]; exact ⟨fun h => (by cases h), fun h => absurd h3 h.2.2⟩
      · rw [if_neg h3]; exact ⟨fun _ => ⟨h1, h2, h3⟩, fun _ => rfl⟩
theorem first_class (b0 : Nat) : (b0 < 128 ∧ Lib.firstT b0 = 240) ∨ (128 ≤ b0 ∧ b0 < 194 ∧ Lib.firstT b0 = 241) ∨ (194 ≤ b0 ∧ b0 < 224 ∧ Lib.firstT b0 = 2) ∨ (b0 = 224 ∧ Lib.firstT b0 = 19) ∨ (225 ≤ b0 ∧ b0 < 237 ∧ Lib.firstT b0 = 3) ∨
    (b0 = 237 ∧ Lib.firstT b0 = 35) ∨ (238 ≤ b0 ∧ b0 < 240 ∧ Lib.firstT b0 = 3) ∨ (b0 = 240 ∧ Lib.firstT b0 = 52) ∨ (241 ≤ b0 ∧ b0 < 244 ∧ Lib.firstT b0 = 4) ∨ (b0 = 244 ∧ Lib.firstT b0 = 68) ∨ (245 ≤ b0 ∧ Lib.firstT b0 = 241) := by
  unfold Lib.firstT
  repeat' split
  all_goals omega
theorem fullN1 (b0 b1 b2 : Nat) : fullN 1 b0 b1 b2 = false ↔ 194 ≤ b0 ∧ b0 ≤ 244 := by
  rcases first_class b0 with ⟨h, e⟩ | ⟨h, h', e⟩ | ⟨h, h', e⟩ | ⟨h, e⟩ | ⟨h, h', e⟩ | ⟨h, e⟩ | ⟨h, h', e⟩ | ⟨h, e⟩ | ⟨h, h', e⟩ | ⟨h, e⟩ | ⟨h, e⟩
  all_goals
    rw [full_eq 1 b0 b1 b2 _ _ _ e rfl rfl]
    omega
theorem fullN2 (b0 b1 b2 : Nat) : fullN 2 b0 b1 b2 = false ↔ 224 ≤ b0 ∧ b0 ≤ 244 ∧ okB b0 b1 := by
  unfold okB
  rcases first_class b0 with ⟨h, e⟩ | ⟨h, h', e⟩ | ⟨h, h', e⟩ | ⟨h, e⟩ | ⟨h, h', e⟩ | ⟨h, e⟩ | ⟨h, h', e⟩ | ⟨h, e⟩ | ⟨h, h', e⟩ | ⟨h, e⟩ | ⟨h, e⟩
  all_goals
    first
    | (rw [full_eq 2 b0 b1 b2 _ 0 0 e (by decide) (by decide)]; omega)
    | (rw [full_eq 2 b0 b1 b2 _ 128 191 e (by decide) (by decide)]; omega)
    | (rw [full_eq 2 b0 b1 b2 _ 160 191 e (by decide) (by decide)]; omega)
    | (rw [full_eq 2 b0 b1 b2 _ 128 159 e (by decide) (by decide)]; omega)
    | (rw [full_eq 2 b0 b1 b2 _ 144 191 e (by decide) (by decide)]; omega)
    | (rw [full_eq 2 b0 b1 b2 _ 128 143 e (by decide) (by decide)]; omega)
theorem fullN3 (b0 b1 b2 : Nat) : fullN 3 b0 b1 b2 = false ↔ 240 ≤ b0 ∧ b0 ≤ 244 ∧ okB b0 b1 ∧ 128 ≤ b2 ∧ b2 ≤ 191 := by
  unfold okB
  rcases first_class b0 with ⟨h, e⟩ | ⟨h, h', e⟩ | ⟨h, h', e⟩ | ⟨h, e⟩ | ⟨h, h', e⟩ | ⟨h, e⟩ | ⟨h, h', e⟩ | ⟨h, e⟩ | ⟨h, h', e⟩ | ⟨h, e⟩ | ⟨h, e⟩
  all_goals
    first
    | (rw [full_eq 3 b0 b1 b2 _ 0 0 e (by decide) (by decide)]; omega)
    | (rw [full_eq 3 b0 b1 b2 _ 128 191 e (by decide) (by decide)]; omega)
    | (rw [full_eq 3 b0 b1 b2 _ 160 191 e (by decide) (by decide)]; omega)
    | (rw [full_eq 3 b0 b1 b2 _ 128 159 e (by decide) (by decide)]; omega)
    | (rw [full_eq 3 b0 b1 b2 _ 144 191 e (by decide) (by decide)]; omega)
    | (rw [full_eq 3 b0 b1 b2 _ 128 143 e (by decide) (by decide)]; omega)
theorem fullN4 (n b0 b1 b2 : Nat) (h : 4 ≤ n) : fullN n b0 b1 b2 = true := by
  have : Lib.firstT b0 % 8 ≤ n := by rcases Lib.firstT_cases b0 with hX | hX | hX | hX | hX | hX | hX | hX | hX <;> rw [hX] <;> omega
  unfold fullN
  rw [if_pos this]

/-- Bytes that go on to one code point. -/
def OpenS (r : List Int) : Prop := ∃ c q, Pt c ∧ q ≠ [] ∧ putI c = r ++ q

theorem open_1 (x : Int) (h0 : 0 ≤ x) (h1 : x < 256) : openI [x] = true ↔ 194 ≤ x ∧ x ≤ 244 := by
  have := fullN1 x.toNat 0 0
  have e : fullI [x] = fullN 1 x.toNat 0 0 := by simp [fullI, rd]
  unfold openI
  rw [e]
  cases hh : fullN 1 x.toNat 0 0
  · rw [hh] at this; simp at this ⊢; omega
  · rw [hh] at this; simp at this ⊢; omega
def okI (x y : Int) : Prop := (x = 224 → 160 ≤ y) ∧ (x = 237 → y ≤ 159) ∧ (x = 240 → 144 ≤ y) ∧ (x = 244 → y ≤ 143) ∧ 128 ≤ y ∧ y ≤ 191
theorem open_2 (x y : Int) (h0 : 0 ≤ x) (h1 : x < 256) (h2 : 0 ≤ y) (h3 : y < 256) : openI [x, y] = true ↔ 224 ≤ x ∧ x ≤ 244 ∧ okI x y := by
  have := fullN2 x.toNat y.toNat 0
  have e : fullI [x, y] = fullN 2 x.toNat y.toNat 0 := by simp [fullI, rd]
  unfold openI
  rw [e]
  unfold okB at this
  unfold okI
  cases hh : fullN 2 x.toNat y.toNat 0
  · rw [hh] at this; simp only [true_iff] at this; simp; omega
  · rw [hh] at this; simp only [Bool.true_eq_false, false_iff] at this; simp; omega
theorem open_3 (x y z : Int) (h0 : 0 ≤ x) (h1 : x < 256) (h2 : 0 ≤ y) (h3 : y < 256) (h4 : 0 ≤ z) (h5 : z < 256) : openI [x, y, z] = true ↔ 240 ≤ x ∧ x ≤ 244 ∧ okI x y ∧ 128 ≤ z ∧ z ≤ 191 := by
  have := fullN3 x.toNat y.toNat z.toNat
  have e : fullI [x, y, z] = fullN 3 x.toNat y.toNat z.toNat := by simp [fullI, rd]
  unfold openI
  rw [e]
  unfold okB at this
  unfold okI
  cases hh : fullN 3 x.toNat y.toNat z.toNat
  · rw [hh] at this; simp only [true_iff] at this; simp; omega
  · rw [hh] at this; simp only [Bool.true_eq_false, false_iff] at this; simp; omega
theorem open_4 {r : List Int} (h : openI r = true) : r.length = 1 ∨ r.length = 2 ∨ r.length = 3 := by
  unfold openI at h
  simp only [Bool.and_eq_true, decide_eq_true_eq] at h
  omega

theorem open_to {r : List Int} (hB : allB r = true) (h : openI r = true) : OpenS r := by
  have hl := open_4 h
  match r, hl with
  | [x], _ =>
    have hx := allB_mem hB x (by simp)
    have h := (open_1 x hx.1 hx.2).1 h
    by_cases a : x < 224
    · exact ⟨(x - 192) * 64, [128], by unfold Pt; omega, by simp, by rw [putI_2 (by unfold Pt; omega) (by omega) (by omega)]; simp; omega⟩
    · by_cases b : x = 224
      · exact ⟨2048, [160, 128], by unfold Pt; omega, by simp, by rw [putI_3 (by unfold Pt; omega) (by omega) (by omega)]; simp; omega⟩
      · by_cases c : x < 240
        · exact ⟨(x - 224) * 4096, [128, 128], by unfold Pt; omega, by simp, by rw [putI_3 (by unfold Pt; omega) (by omega) (by omega)]; simp; omega⟩
        · by_cases d : x = 240
          · exact ⟨65536, [144, 128, 128], by unfold Pt; omega, by simp, by rw [putI_4 (by unfold Pt; omega) (by omega)]; simp; omega⟩
          · exact ⟨(x - 240) * 262144, [128, 128, 128], by unfold Pt; omega, by simp, by rw [putI_4 (by unfold Pt; omega) (by omega)]; simp; omega⟩
  | [x, y], _ =>
    have hx := allB_mem hB x (by simp)
    have hy := allB_mem hB y (by simp)
    have h := (open_2 x y hx.1 hx.2 hy.1 hy.2).1 h
    unfold okI at h
    by_cases c : x < 240
    · exact ⟨(x - 224) * 4096 + (y - 128) * 64, [128], by unfold Pt; omega, by simp, by rw [putI_3 (by unfold Pt; omega) (by omega) (by omega)]; simp; omega⟩
    · exact ⟨(x - 240) * 262144 + (y - 128) * 4096, [128, 128], by unfold Pt; omega, by simp, by rw [putI_4 (by unfold Pt; omega) (by omega)]; simp; omega⟩
  | [x, y, z], _ =>
    have hx := allB_mem hB x (by simp)
    have hy := allB_mem hB y (by simp)
    have hz := allB_mem hB z (by simp)
    have h := (open_3 x y z hx.1 hx.2 hy.1 hy.2 hz.1 hz.2).1 h
    unfold okI at h
    exact ⟨(x - 240) * 262144 + (y - 128) * 4096 + (z - 128) * 64, [128], by unfold Pt; omega, by simp, by rw [putI_4 (by unfold Pt; omega) (by omega)]; simp; omega⟩
  | [], hl => exact absurd hl (by simp)
  | _ :: _ :: _ :: _ :: _, hl => exact absurd hl (by simp)

theorem open_of {r : List Int} (hne : r ≠ []) (h : OpenS r) : openI r = true := by
  obtain ⟨c, q, hc, hq, he⟩ := h
  have hp := hc
  unfold Pt at hp
  have hlen := congrArg List.length he
  rw [List.length_append] at hlen
  have hq0 : 0 < q.length := List.length_pos_iff.2 hq
  have hr0 : 0 < r.length := List.length_pos_iff.2 hne
  by_cases h1 : c < 128
  · rw [putI_1 hc h1] at hlen; simp at hlen; omega
  · by_cases h2 : c < 2048
    · rw [putI_2 hc h1 h2] at hlen he
      match r, hne with
      | [x], _ => simp at he; exact (open_1 x (by omega) (by omega)).2 (by omega)
      | _ :: _ :: _, _ => simp at hlen; omega
    · by_cases h3 : c < 65536
      · rw [putI_3 hc h2 h3] at hlen he
        match r, hne with
        | [x], _ => simp at he; exact (open_1 x (by omega) (by omega)).2 (by omega)
        | [x, y], _ => simp at he; exact (open_2 x y (by omega) (by omega) (by omega) (by omega)).2 (by unfold okI; omega)
        | _ :: _ :: _ :: _, _ => simp at hlen; omega
      · rw [putI_4 hc h3] at hlen he
        match r, hne with
        | [x], _ => simp at he; exact (open_1 x (by omega) (by omega)).2 (by omega)
        | [x, y], _ => simp at he; exact (open_2 x y (by omega) (by omega) (by omega) (by omega)).2 (by unfold okI; omega)
        | [x, y, z], _ => simp at he; exact (open_3 x y z (by omega) (by omega) (by omega) (by omega) (by omega) (by omega)).2 (by unfold okI; omega)
        | _ :: _ :: _ :: _ :: _, _ => simp at hlen; omega
end Go.Proofs.YtnaaimnmphcilaaDoor.Hand
