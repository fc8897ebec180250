/- The statement WalkSortsSaid: for every input the law returns true and its arguments read as they did. -/
import Derived.Test.YtmpniapbjoailaaRows
import Derived.Test.YtmpniapbjoailaaSorts
import Derived.Test.YtmpniapbjoailaaOpens2
import Derived.Test.YtmpniapbjoailaaWSized
import Derived.WalkKit
import Derived.ProofKit
import Derived.OpenShut
import Derived.ShutString
import Derived.ChangeOld
import Derived.Below
import Derived.SizedLaws
namespace Go.Proofs.Ytmpniapbjoailaa.walkSorts
open Go.ChangeShapes Go.WideShapes Go.ChangeAt Go.RowKit Go.Proofs.Ytmpniapbjoailaa.Hand Go.Proofs.YtmpniapbjoailaaW.PrintWords
open Go.ChangeMaps (open_string shut_string)
set_option linter.unusedVariables false
set_option linter.unusedSimpArgs false
theorem own : ownKnob Try.prog.godebug = none := by kernel_rfl
theorem laidOut : laidOutB Try.prog = true := by kernel_rfl
theorem bulk_all {H : Type} : ∀ (l : List (DataW H)), Rows.uptoBulkAll l = (l.map Rows.uptoBulk).sum
  | [] => by simp [Rows.uptoBulkAll]
  | x :: l => by rw [Rows.uptoBulkAll, bulk_all l, List.map_cons, List.sum_cons]
theorem bulk_slice {H : Type} (a b : List (DataW H)) : (a.map Rows.uptoBulk).sum + 1 ≤ Rows.uptoBulk (.slice a b) := by
  rw [Rows.uptoBulk, bulk_all]; omega
theorem bulk_nil {H : Type} : 1 ≤ Rows.uptoBulk (DataW.nil : DataW H) := by simp [Rows.uptoBulk]
theorem bulk_string {H : Type} (b : List UInt8) : b.length + 1 ≤ Rows.uptoBulk (DataW.lit (.string b) : DataW H) := by simp [Rows.uptoBulk]
theorem op22 (H : Type) : Opens Try.prog (Kd.slice 9 Kd.string) 22 (fun l => ∀ s ∈ l, s.size ≤ maxLen) H Rows.uptoBulk (fun l => (l.map fun s => s.size + 1).sum + 1) :=
  opens_slice Try.underlying22 (by kernel_rfl) rfl (opens_string Try.underlying9 bulk_string) bulk_slice bulk_nil
theorem op26 (H : Type) : Opens Try.prog (Kd.slice 22 (Kd.slice 9 Kd.string)) 26 (fun m => ∀ l ∈ m, ∀ s ∈ l, s.size ≤ maxLen) H Rows.uptoBulk (fun m => (m.map fun l => (l.map fun s => s.size + 1).sum + 1).sum + 1) :=
  opens_slice Try.underlying26 (by kernel_rfl) rfl (op22 H) bulk_slice bulk_nil
set_option maxRecDepth 100000 in
theorem lifted (os : Os) (started : os.Started) (H : Type) (enc : TypeId × Value → H) :
    ReturnsInHanded {} Try.checked os 5 .any (Rows.walkSortsSpec.pre6 enc Try.prog Try.f5 Rows.walkSortsRow.domain false) (Rows.walkSortsSpec.post enc Try.prog Try.f5 false true false false) := by
  refine returnsInHanded_of_change_sized (C := Try.checked) own started (by kernel_rfl) Try.func5
    (ChangeSpec.witness6 (enc := enc) (C := Try.checked) false ⟨#[], #[.slice none 0 0, .bool false], []⟩ 8 (by kernel_rfl) (by kernel_rfl) (by kernel_rfl) (by kernel_rfl)) ?_
  intro W base args ds gs before hval0 hW hcnd hsz0 _
  have hval : ∀ (j : Nat) t v, Try.f5.params[j]? = some t → args[j]? = some v → Value.okWide Try.prog W .any base t v := hval0
  have hW' := hW
  obtain ⟨p, q, hA0, hV, rfl, hfz, hnd⟩ := hW
  have hA : DataW.TrodAll enc Try.prog W 0 (fun _ => true) true Try.f5.params.toList args.toList ds p := hA0
  rw [Try.params5] at hA hval
  obtain ⟨v0, vs0, d0, ds0, p0, q0, hargs, rfl, rfl, h0, r0⟩ := trodAll_cons hA
  obtain ⟨v1, vs1, d1, ds1, p1, q1, rfl, rfl, rfl, h1, r1⟩ := trodAll_cons r0
  obtain ⟨rfl, rfl, rfl⟩ := trodAll_nil r1
  obtain rfl : args = #[v0, v1] := by cases args; simp_all
  obtain ⟨rfl, rfl⟩ := trodVars_none hV
  obtain ⟨a0, len0, cap0, rfl⟩ := okWide_slice Try.underlying26 (hval 0 26 v0 rfl rfl)
  have k0 := h0
  have lt0 : ∀ x ∈ p0, x.block < W.heap.size := by obtain ⟨m, hm⟩ := k0; exact DataW.trod_lt m _ _ _ hm
  obtain ⟨fu0, hf0⟩ := h0
  obtain ⟨l0, ⟨A0, C0, hv0, hc0, hC0⟩, hQ0, hS0⟩ := op26 H enc W 0 fu0 (.slice a0 len0 cap0) _ hf0
  simp only [List.cons.injEq, Value.slice.injEq, and_true] at hv0
  obtain ⟨rfl, rfl, rfl⟩ := hv0
  obtain ⟨a1, rfl, rfl, rfl⟩ := open_bool Try.underlying4 (hval 1 4 v1 rfl rfl) h1
  clear hA0 hval0 hsz0
  refine (sorts_walk a0 cap0 _ a1 l0 rfl W hC0 hc0).mono fun e W' ⟨he, bel⟩ => ?_
  subst he
  exact ⟨_, rfl, _, _, _, [], _, [], hW', trodAll_mk1 (shut_bool Try.underlying4 _), (trodAll_cons_mk (Below.trod laidOut (by kernel_rfl) (of_decide_eq_true (by kernel_rfl)) k0 bel lt0) (trodAll_cons_mk (shut_bool Try.underlying4 _) trodAll_mk0)), rfl, bel.frame _, fun h => by cases h⟩
theorem over : Rows.walkSortsRow.holds Try.pinned (OpenSpec.ofChange Rows.walkSortsSpec) :=
  OpenClaim.holds_of_wide 5 Try.f5 rfl rfl rfl rfl rfl rfl rfl ⟨rfl, rfl, rfl, rfl, rfl⟩ rfl rfl rfl rfl rfl (by kernel_rfl) Try.func5 (by kernel_rfl)
    (of_decide_eq_true (by kernel_rfl)) (by unfold Func.isWrapper; first | (rw [if_pos (by decide +kernel)]; kernel_rfl) | (rw [if_neg (by decide +kernel)]; exact ⟨rfl, rfl⟩))
    (fun os started H enc _ => lifted os started H enc)
theorem proved : Rows.WalkSortsSaid := over
end Go.Proofs.Ytmpniapbjoailaa.walkSorts
namespace Go.Proofs.Ytmpniapbjoailaa
theorem walkSorts_holds : Rows.WalkSortsSaid := walkSorts.proved
#print axioms walkSorts_holds
end Go.Proofs.Ytmpniapbjoailaa
