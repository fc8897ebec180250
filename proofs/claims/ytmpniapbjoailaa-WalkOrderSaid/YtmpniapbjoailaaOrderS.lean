/- Law WalkOrder of package walk: one path beside one path. -/
import Derived.Test.YtmpniapbjoailaaPlainW
namespace Go.Proofs.Ytmpniapbjoailaa.Hand
open Go.RowKit Go.Proofs.YtmpniapbjoailaaW.PrintWords Go.Proofs.YtmpniapbjoailaaW.PrintLast Go.Proofs.YtmpniapbjoailaaW.PrintMore
set_option linter.unusedVariables false
set_option linter.unusedSimpArgs false

theorem one_C {W : World} {g : Nat} {A : Option Addr} {c : Nat} {l : List ByteArray} (h : W.heap[g]? = some (.cells #[.slice A l.length c] 22 (0, 0))) (hC : Kd.C Kd.string W A l.length l) (hc : l.length ≤ c) : Kd.C dP W (some ⟨g, 0, none⟩) 1 [l] := by
  refine ⟨rfl, by omega, fun _ => ⟨_, rfl, fun j p hj => ⟨[.slice A l.length c], rfl, ?_, fun i u hu => ?_⟩⟩⟩
  · cases j with
    | succ j => simp at hj
    | zero => simp at hj; subst hj; exact ⟨_, _, rfl, hc, hC⟩
  · cases j with
    | succ j => simp at hj
    | zero =>
      cases i with
      | succ i => simp at hu
      | zero =>
        simp at hu
        subst hu
        rw [show 0 * dP.sz + 0 = 0 from by simp, add_at, blk_cell h 0]
        rfl
theorem same_one (A0 : Option Addr) (c0 n0 : Nat) (l0 : List ByteArray) (A1 : Option Addr) (c1 n1 : Nat) (l1 : List ByteArray) (hn0 : n0 = l0.length) (hn1 : n1 = l1.length) (w : World) (hr0 : Kd.C Kd.string w A0 l0.length l0) (hc0 : l0.length ≤ c0) (hr1 : Kd.C Kd.string w A1 l1.length l1) (hc1 : l1.length ≤ c1) (hl : l0.length ≤ 300) :
    Calls Try.prog 25 #[.slice (some ⟨w.heap.size, 0, none⟩) 1 1, .slice (some ⟨w.heap.size + 1, 0, none⟩) 1 1] ((w.alloc (.cells #[.slice A0 n0 c0] 22)).alloc (.cells #[.slice A1 n1 c1] 22)) fun e w' => e = .returned (.bool (decide (l0 = l1))) ∧ Below w.heap.size w w' := by
  subst hn0 hn1
  have hb : Below w.heap.size w ((w.alloc (.cells #[.slice A0 l0.length c0] 22)).alloc (.cells #[.slice A1 l1.length c1] 22)) := below_alloc (below_alloc (Below.refl _ _) _) _
  have b2 := blk_new (w.alloc (.cells #[.slice A0 l0.length c0] 22)) (.cells #[.slice A1 l1.length c1] 22)
  rw [alloc_size] at b2
  refine (QA.gessoref15_Same.calls 303 _ 1 [l0] _ 1 [l1] (decide (l0 = l1)) _ (one_C (blk_alloc (blk_new _ _) _) (Kd.C_below hr0 hb) hc0) (Nat.le_refl _) (one_C b2 (Kd.C_below hr1 hb) hc1) (Nat.le_refl _) ?_).mono ?_
  · rw [same15_f 303 [l0] [l1] (by simp) 300 (by simpa using hl) (by omega) (by simp)]
    simp
  · rintro e w' ⟨rfl, hd⟩
    exact ⟨rfl, hb.trans (hd.below.mono (by simp; omega))⟩

end Go.Proofs.Ytmpniapbjoailaa.Hand
