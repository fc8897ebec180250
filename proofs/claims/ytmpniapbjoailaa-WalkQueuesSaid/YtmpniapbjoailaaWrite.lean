/- Rows of strings that are written: what is kept beside. -/
import Derived.Test.YtmpniapbjoailaaPlainQ
namespace Go.Proofs.Ytmpniapbjoailaa.Hand
open Go.RowKit Go.Proofs.YtmpniapbjoailaaW.PrintWords Go.Proofs.YtmpniapbjoailaaW.PrintLast Go.Proofs.YtmpniapbjoailaaW.PrintMore
set_option linter.unusedVariables false
set_option linter.unusedSimpArgs false

/-- Some rows of strings, in blocks from b on and below N, have been written; nothing else. -/
structure Wr (b N : Nat) (w w' : World) : Prop where
  below : Below b w w'
  size : w'.heap.size = w.heap.size
  blk : ∀ k, w'.heap[k]? = w.heap[k]? ∨ (b ≤ k ∧ k < N ∧ ∃ c c', w.heap[k]? = some (.cells c 9 (0, 0)) ∧ w'.heap[k]? = some (.cells c' 9 (0, 0)) ∧ c'.size = c.size)
theorem Wr.refl (b N : Nat) (w : World) : Wr b N w w := ⟨Below.refl _ _, rfl, fun _ => .inl rfl⟩
theorem Wr.at {b N g : Nat} {w w' : World} {c : Array Value} (h : Wr b N w w') (hg : w.heap[g]? = some (.cells c 9 (0, 0))) : ∃ c', w'.heap[g]? = some (.cells c' 9 (0, 0)) ∧ c'.size = c.size := by
  rcases h.blk g with e | ⟨_, _, d, d', e1, e2, e3⟩
  · exact ⟨c, e.trans hg, rfl⟩
  · rw [hg] at e1
    injection e1 with e1
    injection e1 with e1
    subst e1
    exact ⟨d', e2, e3⟩
theorem Wr.other {b N g : Nat} {t : TypeId} {w w' : World} {c : Array Value} (h : Wr b N w w') (hg : w.heap[g]? = some (.cells c t (0, 0))) (ht : t ≠ 9) : w'.heap[g]? = some (.cells c t (0, 0)) := by
  rcases h.blk g with e | ⟨_, _, d, d', e1, e2, e3⟩
  · exact e.trans hg
  · rw [hg] at e1
    injection e1 with e1
    injection e1 with e1 e2
    exact absurd e2 ht
theorem Wr.far {b N k : Nat} {w w' : World} (h : Wr b N w w') (hk : N ≤ k) : w'.heap[k]? = w.heap[k]? := by
  rcases h.blk k with e | ⟨_, h2, _⟩
  · exact e
  · omega
theorem Wr.set {b N g : Nat} {w w' : World} {c : Array Value} (h : Wr b N w w') (hb : b ≤ g) (hN : g < N) (hg : w.heap[g]? = some (.cells c 9 (0, 0))) (k : Nat) (u : Value) : Wr b N w (w'.setCell ⟨g, k, none⟩ u) := by
  refine ⟨h.below.setCell hb u, by simpa [World.setCell] using h.size, fun q => ?_⟩
  by_cases hq : q = g
  · subst hq
    obtain ⟨c', h1, h2⟩ := h.at hg
    exact .inr ⟨hb, hN, c, _, hg, blk_set h1 k u, by simpa using h2⟩
  · rw [Below.heap_setCell w' _ u q hq]
    exact h.blk q
theorem Wr.drew {b N : Nat} {w w' : World} (h : Wr b N w w') : Wr b N w w'.drew := ⟨h.below.drew, h.size, h.blk⟩
theorem Wr.cell {b N g j : Nat} {t : TypeId} {w w' : World} {c : Array Value} (h : Wr b N w w') (hg : w.heap[g]? = some (.cells c t (0, 0))) (ht : t ≠ 9) : w'.cell? ⟨g, j, none⟩ = w.cell? ⟨g, j, none⟩ := by
  rw [blk_cell (h.other hg ht) j, blk_cell hg j]
/-- An element of a row of rows that is the call's own. -/
theorem row_elem {w : World} {gr n cap base : Nat} {ok : Nat → Prop} {cs : List (List ByteArray)} (h : Kd.R dP 22 w base ok (.slice (some ⟨gr, 0, none⟩) n cap) cs) (i : Nat) (hi : i < cs.length) :
    ∃ A c, w.cell? ⟨gr, i, none⟩ = some (.slice A (cs.getD i []).length c) ∧ (cs.getD i []).length ≤ c ∧
      (0 < (cs.getD i []).length → ∃ gi cells, A = some ⟨gi, 0, none⟩ ∧ base ≤ gi ∧ ok gi ∧ w.heap[gi]? = some (.cells cells 9 (0, 0)) ∧ (cs.getD i []).length ≤ cells.size) := by
  have hn := (Kd.R_reads' h).1
  have hs : dP.sz = 1 := rfl
  obtain ⟨c, hcl, hM, hcc, _⟩ := Kd.R_elem h ([] : List ByteArray) (i : Int) (by omega) (by omega)
  rw [hs] at hcl
  match c, hcl with
  | [y], _ =>
    have hc := hcc 0 y rfl
    rw [hs, Int.toNat_natCast, Nat.mul_one, Nat.add_zero] at hc
    rw [Int.toNat_natCast] at hM
    obtain ⟨v, hv, hR⟩ := hM
    injection hv with hv
    subst hv
    obtain ⟨A, c, rfl⟩ := Kd.R_slice hR
    refine ⟨A, c, hc, (Kd.R_reads' hR).2.1, fun hp => ?_⟩
    obtain ⟨inner, ho⟩ := Kd.R_own hR
    rcases ho.2 with ⟨hh, _⟩ | ⟨gg, cap', cur, hh, hbg, hb, hnc, _, hcs, _⟩
    · injection hh with _ hh
      omega
    · injection hh with h5 h6 h7
      subst h5
      subst h7
      refine ⟨gg, cur, rfl, hbg, (hR.1 gg rfl).1, hb, ?_⟩
      have : (Kd.string).sz = 1 := rfl
      rw [hcs, this]
      omega
theorem row_blk {w : World} {gr n cap base : Nat} {ok : Nat → Prop} {cs : List (List ByteArray)} (h : Kd.R dP 22 w base ok (.slice (some ⟨gr, 0, none⟩) n cap) cs) : ∃ cells, w.heap[gr]? = some (.cells cells 22 (0, 0)) := by
  obtain ⟨inner, ho⟩ := Kd.R_own h
  exact own_typed ho gr rfl
/-- One that is written. -/
theorem Wr.spot {b N g m k : Nat} {w w' : World} {c : Array Value} (h : Wr b N w w') (hg : w.heap[g]? = some (.cells c 9 (0, 0))) (hm : m ≤ c.size) (hk : k < m) : (∃ y, w'.cell? ⟨g, k, none⟩ = some y) ∧ w'.frozen? ⟨g, k, none⟩ = false := by
  obtain ⟨c', h1, h2⟩ := h.at hg
  refine ⟨⟨c'[k]'(by omega), ?_⟩, blk_frozen h1 k⟩
  rw [blk_cell h1 k]
  exact Array.getElem?_eq_getElem _
end Go.Proofs.Ytmpniapbjoailaa.Hand
