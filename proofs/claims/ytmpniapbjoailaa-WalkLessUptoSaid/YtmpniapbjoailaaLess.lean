/- Law WalkLess of package walk: the walk. -/
import Derived.Test.YtmpniapbjoailaaPlainQ
namespace Go.Proofs.Ytmpniapbjoailaa.Hand
open Go.RowKit Go.Proofs.YtmpniapbjoailaaW.PrintWords Go.Proofs.YtmpniapbjoailaaW.PrintLast Go.Proofs.YtmpniapbjoailaaW.PrintMore
set_option linter.unusedVariables false
set_option linter.unusedSimpArgs false

set_option maxHeartbeats 4000000 in
theorem wless_walk (A0 : Option Addr) (hA0 : ∀ ad, A0 = some ad → ∃ bk o, ad = ⟨bk, o, none⟩) (c0 n0 : Nat) (l0 : List ByteArray) (A1 : Option Addr) (c1 n1 : Nat) (l1 : List ByteArray) (hn0 : n0 = l0.length) (hn1 : n1 = l1.length) (w : World)
    (hr0 : Kd.C Kd.string w A0 l0.length l0) (hc0 : l0.length ≤ c0) (hr1 : Kd.C Kd.string w A1 l1.length l1) (hc1 : l1.length ≤ c1) (hT : (l0.map fun s => s.size + 1).sum ≤ 1000000000) :
    Calls Try.prog 3 #[.slice A0 n0 c0, .slice A1 n1 c1] w fun e w' => e = .returned (.bool true) ∧ Below w.heap.size w w' := by
  have C8 := Aside0.mk awake_m
  have HB : Aside0 (Below w.heap.size w w) := ⟨Below.refl _ _⟩
  by_cases h0 : (1000 : Int) < (n0 : Int)
  · clear hr0 hr1 hc0 hc1 hn0 hn1 hT hA0
    go_enter Try.func3, Try.ntmps3
    go_wp2_with (first | (go_at_call 8; (with_reducible refine (C8.out _).mono ?_); rintro e wn ⟨rfl, hb⟩; have HB := Aside0.mk hb; clear hb) | fail)
    go_ret
    exact ⟨rfl, HB.out⟩
  by_cases h1 : (1000 : Int) < (n1 : Int)
  · clear hr0 hr1 hc0 hc1 hn0 hn1 hT hA0
    go_enter Try.func3, Try.ntmps3
    go_wp2_with (first | (go_at_call 8; (with_reducible refine (C8.out _).mono ?_); rintro e wn ⟨rfl, hb⟩; have HB := Aside0.mk hb; clear hb) | fail)
    go_ret
    exact ⟨rfl, HB.out⟩
  have C9 : Aside0 (∀ W, Below w.heap.size w W → Calls Try.prog 9 #[.slice A0 n0 c0, .slice A1 n1 c1] W fun e w' => e = .returned (.bool (lt false l0 l1)) ∧ Below W.heap.size W w') := ⟨fun W hW => (lt_calls false A0 c0 n0 l0 A1 c1 n1 l1 hn0 hn1 W (Kd.C_below hr0 hW) hc0 (Kd.C_below hr1 hW) hc1 (by omega)).mono (fun e w' h => ⟨h.1, h.2.below⟩)⟩
  have C11 : Aside0 (∀ W, Below w.heap.size w W → Calls Try.prog 11 #[.slice A0 n0 c0, .slice A1 n1 c1] W fun e w' => e = .returned (.bool (lt true l0 l1)) ∧ Below W.heap.size W w') := ⟨fun W hW => (lt_calls true A0 c0 n0 l0 A1 c1 n1 l1 hn0 hn1 W (Kd.C_below hr0 hW) hc0 (Kd.C_below hr1 hW) hc1 (by omega)).mono (fun e w' h => ⟨h.1, h.2.below⟩)⟩
  have C10 : Aside0 (∀ W, Below w.heap.size w W → Calls Try.prog 10 #[.slice A0 n0 c0, .slice A1 n1 c1] W fun e w' => e = .returned (.bool (lt false l0 l1)) ∧ Below W.heap.size W w') := ⟨fun W hW => by
    subst hn0 hn1
    exact (QA.gessoref15_Less.calls (2 * l0.length + 2) A0 c0 l0 A1 c1 l1 _ W (Kd.C_below hr0 hW) hc0 (Kd.C_below hr1 hW) hc1 (refless_f _ l0 l1 (by omega) (Nat.le_refl _))).mono (fun e w' h => ⟨h.1, h.2.below⟩)⟩
  have C12 : Aside0 (∀ W, Below w.heap.size w W → Calls Try.prog 12 #[.slice A0 n0 c0, .slice A1 n1 c1] W fun e w' => e = .returned (.bool (lt true l0 l1)) ∧ Below W.heap.size W w') := ⟨fun W hW => by
    subst hn0 hn1
    exact (QA.gessoref15_Deeper.calls (2 * l0.length + 2) A0 c0 l0 A1 c1 l1 _ W (Kd.C_below hr0 hW) hc0 (Kd.C_below hr1 hW) hc1 (refdeeper_f _ l0 l1 (by omega) (Nat.le_refl _))).mono (fun e w' h => ⟨h.1, h.2.below⟩)⟩
  have C13 : Aside0 (∀ W, Below w.heap.size w W → Calls Try.prog 13 #[.slice A0 n0 c0] W fun e w' => e = .returned (.string (textOf l0)) ∧ Below W.heap.size W w') := ⟨fun W hW => text_m A0 hA0 c0 n0 l0 hn0 W (Kd.C_below hr0 hW) hc0 (by omega) (joinOf_le l0 hT)⟩
  have C14 : Aside0 (∀ W, Below w.heap.size w W → Calls Try.prog 14 #[.slice A0 n0 c0] W fun e w' => e = .returned (.string (textOf l0)) ∧ Below W.heap.size W w') := ⟨fun W hW => by
    subst hn0
    exact (QA.gessoref15_Text.calls (l0.length + 1) A0 c0 l0 _ W (Kd.C_below hr0 hW) hc0 (reftext_f _ l0 (by omega) hT (Nat.le_refl _))).mono (fun e w' h => ⟨h.1, h.2.below⟩)⟩
  clear hr0 hr1 hc0 hc1 hn0 hn1 hT hA0
  generalize lt false l0 l1 = b1 at *
  generalize lt true l0 l1 = b2 at *
  generalize textOf l0 = t1 at *
  go_enter Try.func3, Try.ntmps3
  go_wp2_with (first | (go_at_call 8; (with_reducible refine (C8.out _).mono ?_); rintro e w7 ⟨rfl, hb⟩; have HB7 := Aside0.mk (below_step HB6.out hb); clear hb) | (go_at_call 14; (with_reducible refine (C14.out _ HB5.out).mono ?_); rintro e w6 ⟨rfl, hb⟩; have HB6 := Aside0.mk (below_step HB5.out hb); clear hb) | (go_at_call 13; (with_reducible refine (C13.out _ HB4.out).mono ?_); rintro e w5 ⟨rfl, hb⟩; have HB5 := Aside0.mk (below_step HB4.out hb); clear hb) | (go_at_call 12; (with_reducible refine (C12.out _ HB3.out).mono ?_); rintro e w4 ⟨rfl, hb⟩; have HB4 := Aside0.mk (below_step HB3.out hb); clear hb) | (go_at_call 11; (with_reducible refine (C11.out _ HB2.out).mono ?_); rintro e w3 ⟨rfl, hb⟩; have HB3 := Aside0.mk (below_step HB2.out hb); clear hb) | (go_at_call 10; (with_reducible refine (C10.out _ HB1.out).mono ?_); rintro e w2 ⟨rfl, hb⟩; have HB2 := Aside0.mk (below_step HB1.out hb); clear hb) | (go_at_call 9; (with_reducible refine (C9.out _ HB.out).mono ?_); rintro e w1 ⟨rfl, hb⟩; have HB1 := Aside0.mk hb; clear hb) | fail)
  go_ret
  exact ⟨rfl, HB7.out⟩
end Go.Proofs.Ytmpniapbjoailaa.Hand
