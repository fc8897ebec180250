/- What several texts of this seat use: the two tables of unicode/utf8 as a fact on a world, bytes, and what code.One answers. -/
import Derived.Test.YtnaaimnmphcilaaDoorShelf
import Derived.Test.YtnaaimnmphcilaaDoorWMore
import Derived.Deep.DeepFit
import Derived.Deep.DeepMust
import Derived.Outline
import Derived.Lib.Hide
import Derived.Lib.ValidLaws
import Derived.DataReads
namespace Go.Proofs.YtnaaimnmphcilaaDoor.Hand
open Go.RowKit Go.Proofs.YtnaaimnmphcilaaDoorW.PrintWords Go.Proofs.YtnaaimnmphcilaaDoorW.PrintLast Go.Proofs.YtnaaimnmphcilaaDoorW.PrintMore
set_option linter.unusedVariables false
set_option linter.unusedSimpArgs false

structure Tabs (w : World) : Prop where mk :: (out : Lib.Utf8Tabs 0 1 w)
theorem Tabs.below {w w' : World} (h : Tabs w) (hb : Below w.heap.size w w') : Tabs w' := ⟨Utf8Tabs_below h.out hb⟩

def isB (x : Int) : Bool := decide (0 ≤ x ∧ x < 256)
def allB (l : List Int) : Bool := l.all isB
/-- The bytes of a list of numbers. -/
def toB (l : List Int) : List UInt8 := l.map fun x => UInt8.ofNat x.toNat
theorem toB_length (l : List Int) : (toB l).length = l.length := by simp [toB]
theorem allB_mem {l : List Int} (h : allB l = true) : ∀ x ∈ l, 0 ≤ x ∧ x < 256 := by
  intro x hx
  have := List.all_eq_true.1 h x hx
  simpa [isB] using this

/-- What a decoder tells of the first bytes. -/
def decI (l : List Int) : Nat × Nat := Lib.decodeN (min l.length 4) (rd l 0).toNat (rd l 1).toNat (rd l 2).toNat (rd l 3).toNat
def oneI (l : List Int) : Int × Int := if (decI l).1 = 65533 ∧ (decI l).2 < 2 then (0, 0) else ((decI l).1, (decI l).2)
def code_One.f (l : List Int) : Option (Int × Int) := if l ≠ [] ∧ allB (l.take 4) = true then some (oneI l) else none

theorem view {l : List Int} {w : World} {A : Option Addr} {k : IntKind} (h : Kd.C (Kd.int k) w A l.length l) (hne : l ≠ []) :
    ∃ b off, A = some ⟨b, off, none⟩ ∧ b < w.heap.size ∧ ∀ j, j < l.length → w.cell? ⟨b, off + j, none⟩ = some (.int k (l.getD j 0)) := by
  have hl : 0 < l.length := List.length_pos_iff.2 hne
  obtain ⟨ad, rfl, h0⟩ := Kd.at_int h 0 (by omega) (by omega)
  have hsp : ad.spot = none := World.cell?_spot (a := ad) (by simpa [Addr.add] using h0)
  obtain ⟨b, off, sp⟩ := ad
  simp only at hsp
  subst hsp
  have hall : ∀ j, j < l.length → w.cell? ⟨b, off + j, none⟩ = some (.int k (l.getD j 0)) := fun j hj => by
    obtain ⟨ad', he, hc⟩ := Kd.at_int h (j : Int) (by omega) (by omega)
    injection he with he
    subst he
    rw [show rd l (j : Int) = l.getD j 0 from by simp [rd]] at hc
    rw [← hc]
    congr 1
    by_cases hj0 : j = 0
    · subst hj0; simp [Addr.add]
    · simp [Addr.add, hj0]
  refine ⟨b, off, rfl, ?_, hall⟩
  have := hall 0 hl
  rcases Nat.lt_or_ge b w.heap.size with h' | h'
  · exact h'
  · simp [World.cell?, Array.getElem?_eq_none h'] at this

theorem toB_get (l : List Int) (hB : allB l = true) (j : Nat) (hj : j < l.length) : (((⟨(toB l).toArray⟩ : ByteArray).get! j).toNat : Int) = l.getD j 0 := by
  have h := allB_mem hB (l[j]) (List.getElem_mem hj)
  have e : (⟨(toB l).toArray⟩ : ByteArray).get! j = UInt8.ofNat (l[j]).toNat := by
    rw [← Lib.getD_get!']
    simp [toB, hj]
  rw [e, List.getD_eq_getElem?_getD, List.getElem?_eq_getElem hj]
  simp
  omega

end Go.Proofs.YtnaaimnmphcilaaDoor.Hand
