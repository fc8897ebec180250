/- The order of paths: plain Lean; what walk.Less and walk.Deeper tell. -/
import Derived.Test.YtmpniapbjoailaaQAx1
namespace Go.Proofs.Ytmpniapbjoailaa.Hand
open Go.RowKit Go.Proofs.Ytmpniapbjoailaa.QA Go.Proofs.YtmpniapbjoailaaW.PrintWords Go.Proofs.YtmpniapbjoailaaW.PrintLast Go.Proofs.YtmpniapbjoailaaW.PrintMore
set_option linter.unusedVariables false
set_option linter.unusedSimpArgs false

/-- A strict total order. -/
structure STO {α : Type} (lt : α → α → Bool) : Prop where
  irr : ∀ a, lt a a = false
  tr : ∀ a b c, lt a b = true → lt b c = true → lt a c = true
  tri : ∀ a b, lt a b = false → lt b a = false → a = b
theorem STO.asym {α : Type} {lt : α → α → Bool} (h : STO lt) {a b : α} (hab : lt a b = true) : lt b a = false := by
  cases hba : lt b a with
  | false => rfl
  | true => have := h.tr a b a hab hba; rw [h.irr] at this; cases this
/-- What is not above is not above what is not above .. -/
theorem STO.ntr {α : Type} {lt : α → α → Bool} (h : STO lt) {a b c : α} (hba : lt b a = false) (hcb : lt c b = false) : lt c a = false := by
  cases hca : lt c a with
  | false => rfl
  | true =>
    cases hbc : lt b c with
    | true => have := h.tr b c a hbc hca; rw [hba] at this; cases this
    | false =>
      have := h.tri b c hbc hcb
      subst this
      rw [hba] at hca; cases hca
def lexL {α : Type} [DecidableEq α] (lt : α → α → Bool) : List α → List α → Bool
  | _, [] => false
  | [], _ :: _ => true
  | a :: x, b :: y => lt a b || (decide (a = b) && lexL lt x y)
theorem lex_irr {α : Type} [DecidableEq α] {lt : α → α → Bool} (h : STO lt) : ∀ a : List α, lexL lt a a = false
  | [] => rfl
  | a :: x => by simp [lexL, h.irr, lex_irr h x]
theorem lex_tr {α : Type} [DecidableEq α] {lt : α → α → Bool} (h : STO lt) : ∀ a b c : List α, lexL lt a b = true → lexL lt b c = true → lexL lt a c = true
  | _, _, [], _, h2 => by cases ‹List α› <;> simp [lexL] at h2
  | [], _, _ :: _, _, _ => rfl
  | a :: x, [], c :: z, h1, _ => by simp [lexL] at h1
  | a :: x, b :: y, c :: z, h1, h2 => by
    simp only [lexL, Bool.or_eq_true, Bool.and_eq_true, decide_eq_true_eq] at h1 h2 ⊢
    rcases h1 with h1 | ⟨rfl, h1⟩
    · rcases h2 with h2 | ⟨rfl, h2⟩
      · exact .inl (h.tr _ _ _ h1 h2)
      · exact .inl h1
    · rcases h2 with h2 | ⟨rfl, h2⟩
      · exact .inl h2
      · exact .inr ⟨rfl, lex_tr h x y z h1 h2⟩
theorem lex_tri {α : Type} [DecidableEq α] {lt : α → α → Bool} (h : STO lt) : ∀ a b : List α, lexL lt a b = false → lexL lt b a = false → a = b
  | [], [], _, _ => rfl
  | [], _ :: _, h1, _ => by simp [lexL] at h1
  | _ :: _, [], _, h2 => by simp [lexL] at h2
  | a :: x, b :: y, h1, h2 => by
    simp only [lexL, Bool.or_eq_false_iff, Bool.and_eq_false_iff, decide_eq_false_iff_not] at h1 h2
    have e := h.tri a b h1.1 h2.1
    subst e
    rcases h1.2 with h3 | h3
    · exact absurd rfl h3
    · rcases h2.2 with h4 | h4
      · exact absurd rfl h4
      · rw [lex_tri h x y h3 h4]
theorem lex_sto {α : Type} [DecidableEq α] {lt : α → α → Bool} (h : STO lt) : STO (lexL lt) := ⟨lex_irr h, lex_tr h, lex_tri h⟩

theorem bytes_lex : ∀ a b : List UInt8, Op.bytesLess a b = lexL (fun x y : UInt8 => decide (x < y)) a b
  | a, [] => by cases a <;> simp [Op.bytesLess, lexL]
  | [], _ :: _ => rfl
  | a :: x, b :: y => by
    rw [Op.bytesLess, lexL, bytes_lex x y]
    congr 1
theorem u8_sto : STO (fun x y : UInt8 => decide (x < y)) :=
  ⟨fun a => by simp, fun a b c h1 h2 => by simp only [decide_eq_true_eq, UInt8.lt_iff_toNat_lt] at *; omega, fun a b h1 h2 => by
    simp only [decide_eq_false_iff_not, UInt8.lt_iff_toNat_lt] at h1 h2
    exact UInt8.toNat_inj.1 (by omega)⟩
/-- Below, of two names. -/
def nl (a b : ByteArray) : Bool := Op.bytesLess a.toList b.toList
theorem toList_inj {a b : ByteArray} (h : a.toList = b.toList) : a = b := by
  rw [ByteArray.toList_eq, ByteArray.toList_eq] at h
  cases a; cases b; simp at h; rw [h]
theorem nl_sto : STO nl := by
  have h := lex_sto u8_sto
  refine ⟨fun a => ?_, fun a b c => ?_, fun a b h1 h2 => ?_⟩
  · unfold nl; rw [bytes_lex]; exact h.irr _
  · unfold nl; rw [bytes_lex, bytes_lex, bytes_lex]; exact h.tr _ _ _
  · unfold nl at h1 h2; rw [bytes_lex] at h1 h2; exact toList_inj (h.tri _ _ h1 h2)
instance : DecidableEq ByteArray := fun a b => if h : a.toList = b.toList then isTrue (toList_inj h) else isFalse (fun e => h (by rw [e]))
/-- Below, of two paths. -/
def pl (a b : List ByteArray) : Bool := lexL nl a b
theorem pl_sto : STO pl := lex_sto nl_sto
/-- .. in a queue that is deep, or not. -/
def lt (deep : Bool) (a b : List ByteArray) : Bool := if deep = true then (if a.length = b.length then pl a b else decide (a.length > b.length)) else pl a b
theorem lt_sto (deep : Bool) : STO (lt deep) := by
  cases deep
  · exact ⟨fun a => pl_sto.irr a, fun a b c => pl_sto.tr a b c, fun a b => pl_sto.tri a b⟩
  · refine ⟨fun a => ?_, fun a b c h1 h2 => ?_, fun a b h1 h2 => ?_⟩
    · simp [lt, pl_sto.irr]
    · simp only [lt, if_true] at *
      by_cases e1 : a.length = b.length
      · rw [if_pos e1] at h1
        by_cases e2 : b.length = c.length
        · rw [if_pos e2] at h2; rw [if_pos (e1.trans e2)]; exact pl_sto.tr _ _ _ h1 h2
        · rw [if_neg e2] at h2; rw [if_neg (by omega)]; simp at *; omega
      · rw [if_neg e1] at h1
        by_cases e2 : b.length = c.length
        · rw [if_pos e2] at h2; rw [if_neg (by omega)]; simp at *; omega
        · rw [if_neg e2] at h2; simp at h1 h2; rw [if_neg (by omega)]; simp; omega
    · simp only [lt, if_true] at *
      by_cases e1 : a.length = b.length
      · rw [if_pos e1] at h1; rw [if_pos e1.symm] at h2; exact pl_sto.tri _ _ h1 h2
      · rw [if_neg e1] at h1; rw [if_neg (Ne.symm e1)] at h2; simp at h1 h2; omega

/-! ### slices.Compare, walk.Less and walk.Deeper -/
def cmpL : List ByteArray → List ByteArray → Int
  | [], [] => 0
  | [], _ :: _ => -1
  | _ :: _, [] => 1
  | a :: x, b :: y => if cmpI a b = 0 then cmpL x y else cmpI a b
theorem cmpI_lt (a b : ByteArray) : cmpI a b < 0 ↔ nl a b = true := by
  unfold cmpI nl
  cases hb : Op.bytesLess a.toList b.toList with
  | true => simp
  | false =>
    rw [if_neg (by decide)]
    split <;> simp
theorem cmpI_eq (a b : ByteArray) : cmpI a b = 0 ↔ a = b := by
  unfold cmpI
  constructor
  · intro h
    split at h
    · omega
    · split at h
      · exact toList_inj ‹_›
      · omega
  · rintro rfl
    have := nl_sto.irr a
    unfold nl at this
    rw [this]; simp
theorem cmpL_lt : ∀ a b : List ByteArray, cmpL a b < 0 ↔ pl a b = true
  | [], [] => by simp [cmpL, pl, lexL]
  | [], _ :: _ => by simp [cmpL, pl, lexL]
  | _ :: _, [] => by simp [cmpL, pl, lexL]
  | a :: x, b :: y => by
    have ih := cmpL_lt x y
    have h1 := cmpI_lt a b
    have h2 := cmpI_eq a b
    unfold cmpL
    unfold pl lexL
    unfold pl at ih
    by_cases h : cmpI a b = 0
    · rw [if_pos h, ih]
      have e := h2.1 h
      subst e
      simp [nl_sto.irr]
    · rw [if_neg h, h1]
      have e : ¬ a = b := fun e => h (h2.2 e)
      simp [e]
theorem wrap_small {i : Int} (h0 : 0 ≤ i) (h1 : i < 9223372036854775807) : wrap64 (i + 1) = i + 1 := by unfold wrap64; omega
theorem rd_drop {l : List ByteArray} {i : Nat} (h : i < l.length) : l.drop i = rdOf ByteArray.empty l (i : Int) :: l.drop (i + 1) := by
  rw [List.drop_eq_getElem_cons h]
  simp [rdOf, List.getD, h]
theorem compare_loop (l0 l1 : List ByteArray) (hl : l0.length ≤ 9223372036854775806) : ∀ (d k i : Nat), l0.length - i ≤ d → d + 1 ≤ k → i ≤ l0.length → i ≤ l1.length →
    slices_Compare_string_string.l0 k l0 l1 l0 (l0.length : Int) (i : Int) = some (cmpL (l0.drop i) (l1.drop i)) := by
  intro d
  induction d with
  | zero =>
    intro k i hd hk h0 h1
    obtain ⟨k, rfl⟩ : ∃ m, k = m + 1 := ⟨k - 1, by omega⟩
    have hi : i = l0.length := by omega
    subst hi
    rw [slices_Compare_string_string.l0, if_neg (by omega), List.drop_length]
    by_cases h : (l0.length : Int) < (l1.length : Int)
    · rw [if_pos h]
      have : l1.drop l0.length ≠ [] := fun e => by have := congrArg List.length e; rw [List.length_drop] at this; simp at this; omega
      cases hd : l1.drop l0.length with
      | nil => exact absurd hd this
      | cons x y => rfl
    · rw [if_neg h]
      have : l1.drop l0.length = [] := List.drop_eq_nil_iff.2 (by omega)
      rw [this]; rfl
  | succ d ih =>
    intro k i hd hk h0 h1
    obtain ⟨k, rfl⟩ : ∃ m, k = m + 1 := ⟨k - 1, by omega⟩
    by_cases hi : i = l0.length
    · subst hi
      rw [slices_Compare_string_string.l0, if_neg (by omega), List.drop_length]
      by_cases h : (l0.length : Int) < (l1.length : Int)
      · rw [if_pos h]
        have : l1.drop l0.length ≠ [] := fun e => by have := congrArg List.length e; rw [List.length_drop] at this; simp at this; omega
        cases hd : l1.drop l0.length with
        | nil => exact absurd hd this
        | cons x y => rfl
      · rw [if_neg h]
        have : l1.drop l0.length = [] := List.drop_eq_nil_iff.2 (by omega)
        rw [this]; rfl
    · have hlt : i < l0.length := by omega
      rw [slices_Compare_string_string.l0, if_pos (by omega), if_pos (by omega), if_pos (by omega), rd_drop hlt]
      by_cases h : i = l1.length
      · rw [if_pos (by omega)]
        have : l1.drop i = [] := List.drop_eq_nil_iff.2 (by omega)
        rw [this]; rfl
      · have hlt1 : i < l1.length := by omega
        rw [if_neg (by omega), if_pos (by omega), rd_drop hlt1]
        simp only [cmp_Compare_string.f, Option.bind_some, cmpL]
        by_cases h2 : cmpI (rdOf ByteArray.empty l0 (i : Int)) (rdOf ByteArray.empty l1 (i : Int)) = 0
        · rw [if_pos h2, if_pos h2, wrap_small (by omega) (by omega)]
          exact ih k (i + 1) (by omega) (by omega) (by omega) (by omega)
        · rw [if_neg h2, if_neg h2]
theorem less_f (k : Nat) (l0 l1 : List ByteArray) (hl : l0.length ≤ 9223372036854775806) (hk : l0.length + 1 ≤ k) : walk_Less.f k l0 l1 = some (pl l0 l1) := by
  unfold walk_Less.f slices_Compare_string_string.f
  have := compare_loop l0 l1 hl l0.length k 0 (by omega) (by omega) (by omega) (by omega)
  rw [show ((0 : Nat) : Int) = 0 from rfl] at this
  rw [this]
  simp only [Option.bind_some, List.drop_zero]
  congr 1
  rw [Bool.eq_iff_iff, decide_eq_true_eq, cmpL_lt]
theorem deeper_f (k : Nat) (l0 l1 : List ByteArray) (hl : l0.length ≤ 9223372036854775806) (hk : l0.length + 1 ≤ k) : walk_Deeper.f k l0 l1 = some (lt true l0 l1) := by
  unfold walk_Deeper.f lt
  rw [if_pos rfl]
  by_cases h : l0.length = l1.length
  · rw [if_pos (by omega), if_pos h, less_f k l0 l1 hl hk]; rfl
  · rw [if_neg (by omega), if_neg h]
    congr 1
    rw [Bool.eq_iff_iff, decide_eq_true_eq, decide_eq_true_eq]; omega

/-- The function in a queue: 9, or, deep, 11. -/
def fnOf (deep : Bool) : Nat := if deep = true then 11 else 9
theorem lt_calls (deep : Bool) (A0 : Option Addr) (c0 n0 : Nat) (l0 : List ByteArray) (A1 : Option Addr) (c1 n1 : Nat) (l1 : List ByteArray) (h0 : n0 = l0.length) (h1 : n1 = l1.length) (w : World) (hr0 : Kd.C Kd.string w A0 l0.length l0) (hc0 : l0.length ≤ c0) (hr1 : Kd.C Kd.string w A1 l1.length l1) (hc1 : l1.length ≤ c1) (hl : l0.length ≤ 9223372036854775806) :
    Calls Try.prog (fnOf deep) #[.slice A0 n0 c0, .slice A1 n1 c1] w fun e w' => e = .returned (.bool (lt deep l0 l1)) ∧ Drawn0 w w' := by
  subst h0
  subst h1
  cases deep
  · exact walk_Less.calls (l0.length + 1) A0 c0 l0 A1 c1 l1 _ w hr0 hc0 hr1 hc1 (less_f _ l0 l1 hl (Nat.le_refl _))
  · exact walk_Deeper.calls (l0.length + 1) A0 c0 l0 A1 c1 l1 _ w hr0 hc0 hr1 hc1 (deeper_f _ l0 l1 hl (Nat.le_refl _))
end Go.Proofs.Ytmpniapbjoailaa.Hand
