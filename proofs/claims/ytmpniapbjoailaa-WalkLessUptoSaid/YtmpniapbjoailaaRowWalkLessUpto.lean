/- The statement WalkLessUptoSaid: for every input of bulk at most 1048576 the law returns true and its arguments read as they did. -/
import Derived.Test.YtmpniapbjoailaaRows
import Derived.Test.YtmpniapbjoailaaLess
import Derived.Test.YtmpniapbjoailaaOpens2
import Derived.Test.YtmpniapbjoailaaWSized
import Derived.WalkKit
import Derived.ProofKit
import Derived.OpenShut
import Derived.ShutString
import Derived.ChangeOld
import Derived.Below
import Derived.SizedLaws
import Derived.JoinedCond
namespace Go.Proofs.Ytmpniapbjoailaa.walkLessUpto
open Go.ChangeShapes Go.WideShapes Go.ChangeAt Go.RowKit Go.Proofs.Ytmpniapbjoailaa.Hand Go.Proofs.YtmpniapbjoailaaW.PrintWords
open Go.ChangeMaps (open_string shut_string)
set_option linter.unusedVariables false
set_option linter.unusedSimpArgs false
theorem own : ownKnob Try.prog.godebug = none := by kernel_rfl
theorem laidOut : laidOutB Try.prog = true := by kernel_rfl
theorem bulk_all {H : Type} : ∀ (l : List (DataW H)), Rows.uptoBulkAll l = (l.map Rows.uptoBulk).sum
  | [] => by simp [Rows.uptoBulkAll]
  | x :: l => by rw [Rows.uptoBulkAll, bulk_all l, List.map_cons, List.sum_cons]
theorem bulk_slice {H : Type} (a b : List (DataW H)) : (a.map Rows.uptoBulk).sum + 1 ≤ Rows.uptoBulk (.slice a b) := by
  rw [Rows.uptoBulk, bulk_all]; omega
theorem bulk_nil {H : Type} : 1 ≤ Rows.uptoBulk (DataW.nil : DataW H) := by simp [Rows.uptoBulk]
theorem bulk_string {H : Type} (b : List UInt8) : b.length + 1 ≤ Rows.uptoBulk (DataW.lit (.string b) : DataW H) := by simp [Rows.uptoBulk]
theorem op22 (H : Type) : Opens Try.prog (Kd.slice 9 Kd.string) 22 (fun l => ∀ s ∈ l, s.size ≤ maxLen) H Rows.uptoBulk (fun l => (l.map fun s => s.size + 1).sum + 1) :=
  opens_slice Try.underlying22 (by kernel_rfl) rfl (opens_string Try.underlying9 bulk_string) bulk_slice bulk_nil
theorem op26 (H : Type) : Opens Try.prog (Kd.slice 22 (Kd.slice 9 Kd.string)) 26 (fun m => ∀ l ∈ m, ∀ s ∈ l, s.size ≤ maxLen) H Rows.uptoBulk (fun m => (m.map fun l => (l.map fun s => s.size + 1).sum + 1).sum + 1) :=
  opens_slice Try.underlying26 (by kernel_rfl) rfl (op22 H) bulk_slice bulk_nil
set_option maxRecDepth 100000 in
theorem lifted (os : Os) (started : os.Started) (H : Type) (enc : TypeId × Value → H) (F : Stop.Interp) :
    ReturnsInHanded {} Try.checked os 3 .any ((Rows.OpenSpec.upto Rows.walkLessSpec).pre6 enc Try.prog Try.f3 Rows.walkLessUptoRow.domain false) (((Rows.OpenSpec.upto Rows.walkLessSpec).at F).post enc Try.prog Try.f3 false true false false) := by
  refine returnsInHanded_of_cond (C := Try.checked) (s := (Rows.OpenSpec.upto Rows.walkLessSpec)) rfl own started (by kernel_rfl) Try.func3
    (OpenSpec.witness (enc := enc) (C := Try.checked) (s := (Rows.OpenSpec.upto Rows.walkLessSpec)) rfl false ⟨#[], #[.slice none 0 0, .slice none 0 0], []⟩ 8 (by kernel_rfl) (by kernel_rfl) (by kernel_rfl) (x := ([.nil, .nil], [], [])) (by kernel_rfl) (by kernel_rfl) (by kernel_rfl)) ?_
  intro W base args ds gs before hval0 hW hcnd hkk _
  have hval : ∀ (j : Nat) t v, Try.f3.params[j]? = some t → args[j]? = some v → Value.okWide Try.prog W .any base t v := hval0
  have hW' := hW
  obtain ⟨p, q, hA0, hV, rfl, hfz, hnd⟩ := hW
  have hA : DataW.TrodAll enc Try.prog W 0 (fun _ => true) true Try.f3.params.toList args.toList ds p := hA0
  rw [Try.params3] at hA hval
  obtain ⟨v0, vs0, d0, ds0, p0, q0, hargs, rfl, rfl, h0, r0⟩ := trodAll_cons hA
  obtain ⟨v1, vs1, d1, ds1, p1, q1, rfl, rfl, rfl, h1, r1⟩ := trodAll_cons r0
  obtain ⟨rfl, rfl, rfl⟩ := trodAll_nil r1
  obtain rfl : args = #[v0, v1] := by cases args; simp_all
  obtain ⟨rfl, rfl⟩ := trodVars_none hV
  have hbulk : Rows.uptoBulkAll ([d0, d1] ++ []) ≤ 1048576 := of_decide_eq_true hkk
  simp only [List.append_nil, Rows.uptoBulkAll] at hbulk
  obtain ⟨a0, len0, cap0, rfl⟩ := okWide_slice Try.underlying22 (hval 0 22 v0 rfl rfl)
  have hp0 : ∀ ad, a0 = some ad → ∃ bk o, ad = ⟨bk, o, none⟩ := fun ad e => by subst e; exact slice_plain Try.underlying22 (hval 0 22 _ rfl rfl)
  have k0 := h0
  have lt0 : ∀ x ∈ p0, x.block < W.heap.size := by obtain ⟨m, hm⟩ := k0; exact DataW.trod_lt m _ _ _ hm
  obtain ⟨fu0, hf0⟩ := h0
  obtain ⟨l0, ⟨A0, C0, hv0, hc0, hC0⟩, hQ0, hS0⟩ := op22 H enc W 0 fu0 (.slice a0 len0 cap0) _ hf0
  have hs0 : (l0.map fun s => s.size + 1).sum + 1 ≤ Rows.uptoBulk d0 := hS0
  simp only [List.cons.injEq, Value.slice.injEq, and_true] at hv0
  obtain ⟨rfl, rfl, rfl⟩ := hv0
  obtain ⟨a1, len1, cap1, rfl⟩ := okWide_slice Try.underlying22 (hval 1 22 v1 rfl rfl)
  have k1 := h1
  have lt1 : ∀ x ∈ p1, x.block < W.heap.size := by obtain ⟨m, hm⟩ := k1; exact DataW.trod_lt m _ _ _ hm
  obtain ⟨fu1, hf1⟩ := h1
  obtain ⟨l1, ⟨A1, C1, hv1, hc1, hC1⟩, hQ1, hS1⟩ := op22 H enc W 0 fu1 (.slice a1 len1 cap1) _ hf1
  have hs1 : (l1.map fun s => s.size + 1).sum + 1 ≤ Rows.uptoBulk d1 := hS1
  simp only [List.cons.injEq, Value.slice.injEq, and_true] at hv1
  obtain ⟨rfl, rfl, rfl⟩ := hv1
  clear hA0 hval0
  refine (wless_walk a0 hp0 cap0 _ l0 a1 cap1 _ l1 rfl rfl W hC0 hc0 hC1 hc1 (by omega)).mono fun e W' ⟨he, bel⟩ => ?_
  subst he
  exact ⟨_, rfl, _, _, _, [], _, [], hW', trodAll_mk1 (shut_bool Try.underlying4 _), (trodAll_cons_mk (Below.trod laidOut (by kernel_rfl) (of_decide_eq_true (by kernel_rfl)) k0 bel lt0) (trodAll_cons_mk (Below.trod laidOut (by kernel_rfl) (of_decide_eq_true (by kernel_rfl)) k1 bel lt1) trodAll_mk0)), rfl, bel.frame _, fun h => by cases h⟩
theorem over : Rows.walkLessUptoRow.holds Try.pinned (Rows.OpenSpec.upto Rows.walkLessSpec) :=
  OpenClaim.holds_of_cond 3 Try.f3 rfl rfl rfl rfl rfl rfl rfl ⟨rfl, rfl, rfl, rfl, rfl⟩ rfl rfl rfl rfl rfl (by kernel_rfl) Try.func3 (by kernel_rfl)
    (of_decide_eq_true (by kernel_rfl)) (by unfold Func.isWrapper; first | (rw [if_pos (by decide +kernel)]; kernel_rfl) | (rw [if_neg (by decide +kernel)]; exact ⟨rfl, rfl⟩))
    (fun os started H enc _ F => by rw [OpenClaim.pre_of_none' rfl]; exact lifted os started H enc F)
theorem proved : Rows.WalkLessUptoSaid := over
end Go.Proofs.Ytmpniapbjoailaa.walkLessUpto
namespace Go.Proofs.Ytmpniapbjoailaa
theorem walkLessUpto_holds : Rows.WalkLessUptoSaid := walkLessUpto.proved
#print axioms walkLessUpto_holds
end Go.Proofs.Ytmpniapbjoailaa
