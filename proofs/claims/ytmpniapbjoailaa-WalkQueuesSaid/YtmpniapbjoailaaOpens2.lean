/- What came in, read kind by kind: bools; a slice's address is plain. -/
import Derived.Test.YtmpniapbjoailaaOpens
import Derived.WideShapes
namespace Go.Proofs.Ytmpniapbjoailaa.Hand
open Go.RowKit Go.ChangeShapes Go.WideShapes Go.Deep Go.Proofs.YtmpniapbjoailaaW.PrintWords
set_option linter.unusedVariables false
set_option linter.unusedSimpArgs false
theorem opens_bool {P : Program} {t : TypeId} {H : Type} {B : DataW H → Nat} (ht : P.underlying t = some .bool) (hB : ∀ l, 1 ≤ B (.lit l)) : Opens P Kd.bool t (fun _ => True) H B (fun _ => 1) := by
  intro enc w base fuel v x h
  obtain ⟨n, hc, rfl⟩ := DataW.trod_bool ht h
  exact ⟨n, hc, trivial, hB _⟩
theorem slice_plain {P : Program} {w : World} {r : Reach} {base : Nat} {t e : TypeId} {ad : Addr} {n c : Nat} (ht : P.underlying t = some (.slice e)) (h : Value.okWide P w r base t (.slice (some ad) n c)) : ∃ bk o, ad = ⟨bk, o, none⟩ := by
  simp only [Value.okWide, ht, Cell.okWide, Cell.ok, World.has] at h
  obtain ⟨_, _, _, hs, _⟩ := h
  obtain ⟨b, o, s⟩ := ad
  exact ⟨b, o, by rw [show s = none from hs]⟩
end Go.Proofs.Ytmpniapbjoailaa.Hand
