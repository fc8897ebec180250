/- cmp.Compare at strings. -/
import Derived.Test.YtmpniapbjoailaaProg
import Derived.Test.YtmpniapbjoailaaWWords
import Derived.Test.YtmpniapbjoailaaWLast
import Derived.Test.YtmpniapbjoailaaWMore
import Derived.Test.YtmpniapbjoailaaWKept
import Derived.WalkKit
import Derived.WalkLawsBesides
import Derived.KernelRfl
namespace Go.Proofs.Ytmpniapbjoailaa.Hand
open Go.RowKit Go.Proofs.YtmpniapbjoailaaW.PrintWords Go.Proofs.YtmpniapbjoailaaW.PrintLast Go.Proofs.YtmpniapbjoailaaW.PrintMore
set_option linter.unusedVariables false
set_option linter.unusedSimpArgs false

def cmpI (a b : ByteArray) : Int := if Op.bytesLess a.toList b.toList = true then -1 else if a.toList = b.toList then 0 else 1
def cmp_Compare_string.f (a b : ByteArray) : Option Int := some (cmpI a b)
theorem nan_calls (a : ByteArray) (w : World) : Calls Try.prog 40 #[.string a] w fun e w' => e = .returned (.bool false) ∧ w = w' := by
  go_enter Try.func40, Try.ntmps40
  go_wp2
  go_ret
  exact ⟨by simp, rfl⟩
theorem cmp_Compare_string.calls (a0 a1 : ByteArray) (r : Int) (w : World) (h : cmp_Compare_string.f a0 a1 = some r) : Calls Try.prog 34 #[.string a0, .string a1] w fun e w' => e = .returned (.int .i64 r) ∧ Drawn0 w w' := by
  injection h with h
  subst h
  unfold cmpI
  by_cases h1 : Op.bytesLess a0.toList a1.toList = true
  · rw [if_pos h1]
    go_enter Try.func34, Try.ntmps34
    go_wp2_with (go_at_call 40; (with_reducible refine (nan_calls _ _).mono ?_); rintro e w' ⟨rfl, rfl⟩)
    go_ret
    exact ⟨rfl, Drawn0.refl _⟩
  · rw [if_neg h1]
    have h1' : Op.bytesLess a0.toList a1.toList = false := by simpa using h1
    by_cases h2 : a0.toList = a1.toList
    · rw [if_pos h2]
      have h2' : (a0.toList == a1.toList) = true := by rw [h2]; simp
      have h3 : a0 = a1 := by
        have := congrArg (fun l => (⟨l.toArray⟩ : ByteArray)) h2
        rw [ByteArray.toList_eq, ByteArray.toList_eq] at h2
        cases a0; cases a1; simp at h2; rw [h2]
      subst h3
      clear h1 h2 h2'
      go_enter Try.func34, Try.ntmps34
      go_wp2_with (go_at_call 40; (with_reducible refine (nan_calls _ _).mono ?_); rintro e w' ⟨rfl, rfl⟩)
      go_ret
      exact ⟨rfl, Drawn0.refl _⟩
    · rw [if_neg h2]
      have h2' : (a0.toList == a1.toList) = false := beq_eq_false_iff_ne.2 h2
      clear h1 h2
      go_enter Try.func34, Try.ntmps34
      go_wp2_with (go_at_call 40; (with_reducible refine (nan_calls _ _).mono ?_); rintro e w' ⟨rfl, rfl⟩)
      go_ret
      exact ⟨rfl, Drawn0.refl _⟩
end Go.Proofs.Ytmpniapbjoailaa.Hand
