/- The statement WalkQueuesSaid: for every input the law returns true and its arguments read as they did. -/
import Derived.Test.YtmpniapbjoailaaRows
import Derived.Test.YtmpniapbjoailaaQueues
import Derived.Test.YtmpniapbjoailaaOpens2
import Derived.Test.YtmpniapbjoailaaWSized
import Derived.WalkKit
import Derived.ProofKit
import Derived.OpenShut
import Derived.ShutString
import Derived.ChangeOld
import Derived.Below
import Derived.SizedLaws
namespace Go.Proofs.Ytmpniapbjoailaa.walkQueues
open Go.ChangeShapes Go.WideShapes Go.ChangeAt Go.RowKit Go.Proofs.Ytmpniapbjoailaa.Hand Go.Proofs.YtmpniapbjoailaaW.PrintWords
open Go.ChangeMaps (open_string shut_string)
set_option linter.unusedVariables false
set_option linter.unusedSimpArgs false
theorem own : ownKnob Try.prog.godebug = none := by kernel_rfl
theorem laidOut : laidOutB Try.prog = true := by kernel_rfl
theorem bulk_all {H : Type} : ∀ (l : List (DataW H)), Rows.uptoBulkAll l = (l.map Rows.uptoBulk).sum
  | [] => by simp [Rows.uptoBulkAll]
  | x :: l => by rw [Rows.uptoBulkAll, bulk_all l, List.map_cons, List.sum_cons]
theorem bulk_slice {H : Type} (a b : List (DataW H)) : (a.map Rows.uptoBulk).sum + 1 ≤ Rows.uptoBulk (.slice a b) := by
  rw [Rows.uptoBulk, bulk_all]; omega
theorem bulk_nil {H : Type} : 1 ≤ Rows.uptoBulk (DataW.nil : DataW H) := by simp [Rows.uptoBulk]
theorem bulk_string {H : Type} (b : List UInt8) : b.length + 1 ≤ Rows.uptoBulk (DataW.lit (.string b) : DataW H) := by simp [Rows.uptoBulk]
theorem op22 (H : Type) : Opens Try.prog (Kd.slice 9 Kd.string) 22 (fun l => ∀ s ∈ l, s.size ≤ maxLen) H Rows.uptoBulk (fun l => (l.map fun s => s.size + 1).sum + 1) :=
  opens_slice Try.underlying22 (by kernel_rfl) rfl (opens_string Try.underlying9 bulk_string) bulk_slice bulk_nil
theorem op26 (H : Type) : Opens Try.prog (Kd.slice 22 (Kd.slice 9 Kd.string)) 26 (fun m => ∀ l ∈ m, ∀ s ∈ l, s.size ≤ maxLen) H Rows.uptoBulk (fun m => (m.map fun l => (l.map fun s => s.size + 1).sum + 1).sum + 1) :=
  opens_slice Try.underlying26 (by kernel_rfl) rfl (op22 H) bulk_slice bulk_nil
theorem bulk_lit {H : Type} (l : Lit) : 1 ≤ Rows.uptoBulk (DataW.lit l : DataW H) := by cases l <;> simp [Rows.uptoBulk]
theorem op27 (H : Type) : Opens Try.prog (Kd.slice 4 Kd.bool) 27 (fun _ => ∀ s ∈ ([] : List Bool), True) H Rows.uptoBulk (fun l => (l.map fun _ => 1).sum + 1) := by
  have h := opens_slice (H := H) (B := Rows.uptoBulk) Try.underlying27 (by kernel_rfl) rfl (opens_bool Try.underlying4 bulk_lit) bulk_slice bulk_nil
  exact fun enc w base fuel v x hx => by obtain ⟨a, ha, _, hs⟩ := h enc w base fuel v x hx; exact ⟨a, ha, by simp, hs⟩
set_option maxRecDepth 100000 in
theorem lifted (os : Os) (started : os.Started) (H : Type) (enc : TypeId × Value → H) :
    ReturnsInHanded {} Try.checked os 4 .any (Rows.walkQueuesSpec.pre6 enc Try.prog Try.f4 Rows.walkQueuesRow.domain false) (Rows.walkQueuesSpec.post enc Try.prog Try.f4 false true false false) := by
  refine returnsInHanded_of_change_sized (C := Try.checked) own started (by kernel_rfl) Try.func4
    (ChangeSpec.witness6 (enc := enc) (C := Try.checked) false ⟨#[], #[.bool false, .slice none 0 0, .slice none 0 0], []⟩ 8 (by kernel_rfl) (by kernel_rfl) (by kernel_rfl) (by kernel_rfl)) ?_
  intro W base args ds gs before hval0 hW hcnd hsz0 _
  have hval : ∀ (j : Nat) t v, Try.f4.params[j]? = some t → args[j]? = some v → Value.okWide Try.prog W .any base t v := hval0
  have hW' := hW
  obtain ⟨p, q, hA0, hV, rfl, hfz, hnd⟩ := hW
  have hA : DataW.TrodAll enc Try.prog W 0 (fun _ => true) true Try.f4.params.toList args.toList ds p := hA0
  rw [Try.params4] at hA hval
  obtain ⟨v0, vs0, d0, ds0, p0, q0, hargs, rfl, rfl, h0, r0⟩ := trodAll_cons hA
  obtain ⟨v1, vs1, d1, ds1, p1, q1, rfl, rfl, rfl, h1, r1⟩ := trodAll_cons r0
  obtain ⟨v2, vs2, d2, ds2, p2, q2, rfl, rfl, rfl, h2, r2⟩ := trodAll_cons r1
  obtain ⟨rfl, rfl, rfl⟩ := trodAll_nil r2
  obtain rfl : args = #[v0, v1, v2] := by cases args; simp_all
  obtain ⟨rfl, rfl⟩ := trodVars_none hV
  obtain ⟨a0, rfl, rfl, rfl⟩ := open_bool Try.underlying4 (hval 0 4 v0 rfl rfl) h0
  obtain ⟨a1, len1, cap1, rfl⟩ := okWide_slice Try.underlying26 (hval 1 26 v1 rfl rfl)
  have k1 := h1
  have lt1 : ∀ x ∈ p1, x.block < W.heap.size := by obtain ⟨m, hm⟩ := k1; exact DataW.trod_lt m _ _ _ hm
  obtain ⟨fu1, hf1⟩ := h1
  obtain ⟨l1, ⟨A1, C1, hv1, hc1, hC1⟩, hQ1, hS1⟩ := op26 H enc W 0 fu1 (.slice a1 len1 cap1) _ hf1
  simp only [List.cons.injEq, Value.slice.injEq, and_true] at hv1
  obtain ⟨rfl, rfl, rfl⟩ := hv1
  obtain ⟨a2, len2, cap2, rfl⟩ := okWide_slice Try.underlying27 (hval 2 27 v2 rfl rfl)
  have k2 := h2
  have lt2 : ∀ x ∈ p2, x.block < W.heap.size := by obtain ⟨m, hm⟩ := k2; exact DataW.trod_lt m _ _ _ hm
  obtain ⟨fu2, hf2⟩ := h2
  obtain ⟨l2, ⟨A2, C2, hv2, hc2, hC2⟩, hQ2, hS2⟩ := op27 H enc W 0 fu2 (.slice a2 len2 cap2) _ hf2
  simp only [List.cons.injEq, Value.slice.injEq, and_true] at hv2
  obtain ⟨rfl, rfl, rfl⟩ := hv2
  clear hA0 hval0 hsz0
  refine (queues_walk a0 a1 cap1 _ l1 a2 cap2 _ l2 rfl rfl W hC1 hc1 hC2).mono fun e W' ⟨he, bel⟩ => ?_
  subst he
  exact ⟨_, rfl, _, _, _, [], _, [], hW', trodAll_mk1 (shut_bool Try.underlying4 _), (trodAll_cons_mk (shut_bool Try.underlying4 _) (trodAll_cons_mk (Below.trod laidOut (by kernel_rfl) (of_decide_eq_true (by kernel_rfl)) k1 bel lt1) (trodAll_cons_mk (Below.trod laidOut (by kernel_rfl) (of_decide_eq_true (by kernel_rfl)) k2 bel lt2) trodAll_mk0))), rfl, bel.frame _, fun h => by cases h⟩
theorem over : Rows.walkQueuesRow.holds Try.pinned (OpenSpec.ofChange Rows.walkQueuesSpec) :=
  OpenClaim.holds_of_wide 4 Try.f4 rfl rfl rfl rfl rfl rfl rfl ⟨rfl, rfl, rfl, rfl, rfl⟩ rfl rfl rfl rfl rfl (by kernel_rfl) Try.func4 (by kernel_rfl)
    (of_decide_eq_true (by kernel_rfl)) (by unfold Func.isWrapper; first | (rw [if_pos (by decide +kernel)]; kernel_rfl) | (rw [if_neg (by decide +kernel)]; exact ⟨rfl, rfl⟩))
    (fun os started H enc _ => lifted os started H enc)
theorem proved : Rows.WalkQueuesSaid := over
end Go.Proofs.Ytmpniapbjoailaa.walkQueues
namespace Go.Proofs.Ytmpniapbjoailaa
theorem walkQueues_holds : Rows.WalkQueuesSaid := walkQueues.proved
#print axioms walkQueues_holds
end Go.Proofs.Ytmpniapbjoailaa
