/- What came in, read kind by kind: out of the form's own reading. -/
import Derived.Test.YtmpniapbjoailaaWWords
import Derived.Deep.Slices
import Derived.ChangeArms
import Derived.WalkKit
namespace Go.Proofs.Ytmpniapbjoailaa.Hand
open Go.RowKit Go.ChangeShapes Go.WideShapes Go.Deep Go.Proofs.YtmpniapbjoailaaW.PrintWords
set_option linter.unusedVariables false
set_option linter.unusedSimpArgs false

/-- One cell that reads at type t is a value of kind d that satisfies Q; B: a measure of readings, sz: of values. -/
def Opens {α : Type} (P : Program) (d : Kd α) (t : TypeId) (Q : α → Prop) (H : Type) (B : DataW H → Nat) (sz : α → Nat) : Prop :=
  ∀ (enc : TypeId × Value → H) (w : World) (base fuel : Nat) (v : Value) (x : DataW H × List MemPlace), DataW.trod enc P w base (fun _ => true) true fuel t [v] = some x → ∃ a : α, d.K w a [v] ∧ Q a ∧ sz a ≤ B x.1
theorem opens_int {P : Program} {k : IntKind} {t : TypeId} {H : Type} {B : DataW H → Nat} (ht : P.underlying t = some (.int k)) (hB : ∀ l, 1 ≤ B (.lit l)) : Opens P (Kd.int k) t (fun n => (Lit.int k n).wf = true) H B (fun _ => 1) := by
  intro enc w base fuel v x h
  obtain ⟨n, hc, rfl, hw⟩ := DataW.trod_int ht h
  exact ⟨n, hc, hw, hB _⟩
theorem opens_string {P : Program} {t : TypeId} {H : Type} {B : DataW H → Nat} (ht : P.underlying t = some .string) (hB : ∀ b, b.length + 1 ≤ B (.lit (.string b))) : Opens P Kd.string t (fun s => s.size ≤ maxLen) H B (fun s => s.size + 1) := by
  intro enc w base fuel v x h
  obtain ⟨s, hc, rfl, hw⟩ := DataW.trod_string ht h
  exact ⟨s, hc, hw, by have := hB s.data.toList; simpa using this⟩
theorem choose_list {α : Type} {p : Nat → α → Prop} : ∀ (n : Nat), (∀ i, i < n → ∃ a, p i a) → ∃ l : List α, l.length = n ∧ ∀ i a, l[i]? = some a → p i a
  | 0, _ => ⟨[], rfl, fun i a h => by simp at h⟩
  | n + 1, h => by
    obtain ⟨l, hl, hp⟩ := choose_list n (fun i hi => h i (by omega))
    obtain ⟨a, ha⟩ := h n (by omega)
    refine ⟨l ++ [a], by simp [hl], fun i b hb => ?_⟩
    by_cases hi : i < l.length
    · rw [List.getElem?_append_left hi] at hb
      exact hp i b hb
    · rw [List.getElem?_append_right (by omega)] at hb
      by_cases h0 : i = l.length
      · subst h0
        simp at hb
        subst hb
        rw [hl]; exact ha
      · rw [List.getElem?_eq_none (by simp; omega)] at hb
        cases hb
theorem sum_le {α β : Type} (f : α → Nat) (g : β → Nat) : ∀ (l : List α) (m : List β), l.length ≤ m.length → (∀ (i : Nat) a b, l[i]? = some a → m[i]? = some b → f a ≤ g b) → (l.map f).sum ≤ (m.map g).sum
  | [], _, _, _ => by simp
  | a :: l, [], h, _ => by simp at h
  | a :: l, b :: m, h, hp => by
    have h1 := hp 0 a b rfl rfl
    have h2 := sum_le f g l m (by simpa using h) (fun i x y hx hy => hp (i + 1) x y (by simpa using hx) (by simpa using hy))
    simp only [List.map_cons, List.sum_cons]
    omega
theorem opens_slice {α : Type} {P : Program} {d : Kd α} {t e : TypeId} {Q : α → Prop} {H : Type} {B : DataW H → Nat} {sz : α → Nat} (ht : P.underlying t = some (.slice e)) (hc : P.cellsOf e = 1) (hsz : d.sz = 1) (he : Opens P d e Q H B sz)
    (hB : ∀ a b, (a.map B).sum + 1 ≤ B (.slice a b)) (hN : 1 ≤ B .nil) : Opens P (Kd.slice e d) t (fun l => ∀ a ∈ l, Q a) H B (fun l => (l.map sz).sum + 1) := by
  intro enc w base fuel v x h
  rcases open_slice1 ht hc h with ⟨hv, rfl⟩ | ⟨a, len, cap, m, n, V, D, Pl, hv, hb, hl, hm, hmm, rfl, hx⟩
  · exact ⟨[], ⟨none, 0, hv, Nat.le_refl _, ⟨rfl, by simp, fun h => absurd h (Nat.lt_irrefl 0)⟩⟩, (fun a (ha : a ∈ []) => (by cases ha)), by simpa using hN⟩
  · simp only [if_true] at hmm
    subst hmm
    obtain ⟨l, hl1, hl2⟩ := choose_list (α := α) (p := fun i a' => d.K w a' [V i] ∧ Q a' ∧ sz a' ≤ B (D i)) len (fun i hi => he enc w base n (V i) (D i, Pl i) (hx i (by omega)).2)
    refine ⟨l, ⟨some a, m, by rw [hl1]; exact hv, by omega, ⟨rfl, by unfold maxLen at hm; omega, fun _ => ⟨a, rfl, fun i p hp => ?_⟩⟩⟩, fun p hp => ?_, ?_⟩
    · have hi := (List.getElem?_eq_some_iff.1 hp).1
      refine ⟨[V i], by rw [hsz]; rfl, (hl2 i p hp).1, fun j u hu => ?_⟩
      cases j with
      | zero =>
        simp at hu
        subst hu
        rw [hsz, Nat.mul_one, Nat.add_zero]
        exact (hx i (by omega)).1
      | succ j => simp at hu
    · obtain ⟨i, hi⟩ := List.getElem?_of_mem hp
      exact (hl2 i p hi).2.1
    · refine Nat.le_trans (Nat.add_le_add_right ?_ 1) (hB _ _)
      exact sum_le sz B l ((List.range len).map D) (by simp [hl1]) (fun i a' b' ha hb' => by
        have h1 := hl2 i a' ha
        have hi : i < len := by have := (List.getElem?_eq_some_iff.1 ha).1; omega
        simp [hi] at hb'
        subst hb'
        exact h1.2.2)
end Go.Proofs.Ytmpniapbjoailaa.Hand
