/- Law WalkOrder of package walk: the walk, where Less tells false and Deeper false of the first two. -/
import Derived.Test.YtmpniapbjoailaaOrderS
namespace Go.Proofs.Ytmpniapbjoailaa.Hand
open Go.RowKit Go.Proofs.YtmpniapbjoailaaW.PrintWords Go.Proofs.YtmpniapbjoailaaW.PrintLast Go.Proofs.YtmpniapbjoailaaW.PrintMore
set_option linter.unusedVariables false
set_option linter.unusedSimpArgs false

set_option maxHeartbeats 40000000 in
theorem order_walkD (A0 : Option Addr) (c0 n0 : Nat) (l0 : List ByteArray) (A1 : Option Addr) (c1 n1 : Nat) (l1 : List ByteArray) (A2 : Option Addr) (c2 n2 : Nat) (l2 : List ByteArray) (hn0 : n0 = l0.length) (hn1 : n1 = l1.length) (hn2 : n2 = l2.length) (w : World)
    (hr0 : Kd.C Kd.string w A0 l0.length l0) (hc0 : l0.length ≤ c0) (hr1 : Kd.C Kd.string w A1 l1.length l1) (hc1 : l1.length ≤ c1) (hr2 : Kd.C Kd.string w A2 l2.length l2) (hc2 : l2.length ≤ c2) (hbx : lt false l0 l1 = false) (hbu : lt true l0 l1 = false) :
    Calls Try.prog 6 #[.slice A0 n0 c0, .slice A1 n1 c1, .slice A2 n2 c2] w fun e w' => e = .returned (.bool true) ∧ Below w.heap.size w w' := by
  have C8 := Aside0.mk awake_m
  have HB : Aside0 (Below w.heap.size w w) := ⟨Below.refl _ _⟩
  by_cases h0 : (300 : Int) < (n0 : Int)
  · clear hr0 hr1 hr2 hc0 hc1 hc2 hn0 hn1 hn2
    go_enter Try.func6, Try.ntmps6
    go_wp2_with (first | (go_at_call 8; (with_reducible refine (C8.out _).mono ?_); rintro e wn ⟨rfl, hb⟩; have HB := Aside0.mk hb; clear hb) | fail)
    go_ret
    exact ⟨rfl, HB.out⟩
  by_cases h1 : (300 : Int) < (n1 : Int)
  · clear hr0 hr1 hr2 hc0 hc1 hc2 hn0 hn1 hn2
    go_enter Try.func6, Try.ntmps6
    go_wp2_with (first | (go_at_call 8; (with_reducible refine (C8.out _).mono ?_); rintro e wn ⟨rfl, hb⟩; have HB := Aside0.mk hb; clear hb) | fail)
    go_ret
    exact ⟨rfl, HB.out⟩
  by_cases h2 : (300 : Int) < (n2 : Int)
  · clear hr0 hr1 hr2 hc0 hc1 hc2 hn0 hn1 hn2
    go_enter Try.func6, Try.ntmps6
    go_wp2_with (first | (go_at_call 8; (with_reducible refine (C8.out _).mono ?_); rintro e wn ⟨rfl, hb⟩; have HB := Aside0.mk hb; clear hb) | fail)
    go_ret
    exact ⟨rfl, HB.out⟩
  have C25 := Aside0.mk (same_one A0 c0 n0 l0 A1 c1 n1 l1 hn0 hn1 w hr0 hc0 hr1 hc1 (by omega))
  have C9ab : Aside0 (∀ W, Below w.heap.size w W → Calls Try.prog 9 #[.slice A0 n0 c0, .slice A1 n1 c1] W fun e w' => e = .returned (.bool (lt false l0 l1)) ∧ Below W.heap.size W w') := ⟨fun W hW => (lt_calls false A0 c0 n0 l0 A1 c1 n1 l1 hn0 hn1 W (Kd.C_below hr0 hW) hc0 (Kd.C_below hr1 hW) hc1 (by omega)).mono (fun e w' h => ⟨h.1, h.2.below⟩)⟩
  have C9ba : Aside0 (∀ W, Below w.heap.size w W → Calls Try.prog 9 #[.slice A1 n1 c1, .slice A0 n0 c0] W fun e w' => e = .returned (.bool (lt false l1 l0)) ∧ Below W.heap.size W w') := ⟨fun W hW => (lt_calls false A1 c1 n1 l1 A0 c0 n0 l0 hn1 hn0 W (Kd.C_below hr1 hW) hc1 (Kd.C_below hr0 hW) hc0 (by omega)).mono (fun e w' h => ⟨h.1, h.2.below⟩)⟩
  have C9bc : Aside0 (∀ W, Below w.heap.size w W → Calls Try.prog 9 #[.slice A1 n1 c1, .slice A2 n2 c2] W fun e w' => e = .returned (.bool (lt false l1 l2)) ∧ Below W.heap.size W w') := ⟨fun W hW => (lt_calls false A1 c1 n1 l1 A2 c2 n2 l2 hn1 hn2 W (Kd.C_below hr1 hW) hc1 (Kd.C_below hr2 hW) hc2 (by omega)).mono (fun e w' h => ⟨h.1, h.2.below⟩)⟩
  have C9ac : Aside0 (∀ W, Below w.heap.size w W → Calls Try.prog 9 #[.slice A0 n0 c0, .slice A2 n2 c2] W fun e w' => e = .returned (.bool (lt false l0 l2)) ∧ Below W.heap.size W w') := ⟨fun W hW => (lt_calls false A0 c0 n0 l0 A2 c2 n2 l2 hn0 hn2 W (Kd.C_below hr0 hW) hc0 (Kd.C_below hr2 hW) hc2 (by omega)).mono (fun e w' h => ⟨h.1, h.2.below⟩)⟩
  have C11ab : Aside0 (∀ W, Below w.heap.size w W → Calls Try.prog 11 #[.slice A0 n0 c0, .slice A1 n1 c1] W fun e w' => e = .returned (.bool (lt true l0 l1)) ∧ Below W.heap.size W w') := ⟨fun W hW => (lt_calls true A0 c0 n0 l0 A1 c1 n1 l1 hn0 hn1 W (Kd.C_below hr0 hW) hc0 (Kd.C_below hr1 hW) hc1 (by omega)).mono (fun e w' h => ⟨h.1, h.2.below⟩)⟩
  have C11ba : Aside0 (∀ W, Below w.heap.size w W → Calls Try.prog 11 #[.slice A1 n1 c1, .slice A0 n0 c0] W fun e w' => e = .returned (.bool (lt true l1 l0)) ∧ Below W.heap.size W w') := ⟨fun W hW => (lt_calls true A1 c1 n1 l1 A0 c0 n0 l0 hn1 hn0 W (Kd.C_below hr1 hW) hc1 (Kd.C_below hr0 hW) hc0 (by omega)).mono (fun e w' h => ⟨h.1, h.2.below⟩)⟩
  have C11bc : Aside0 (∀ W, Below w.heap.size w W → Calls Try.prog 11 #[.slice A1 n1 c1, .slice A2 n2 c2] W fun e w' => e = .returned (.bool (lt true l1 l2)) ∧ Below W.heap.size W w') := ⟨fun W hW => (lt_calls true A1 c1 n1 l1 A2 c2 n2 l2 hn1 hn2 W (Kd.C_below hr1 hW) hc1 (Kd.C_below hr2 hW) hc2 (by omega)).mono (fun e w' h => ⟨h.1, h.2.below⟩)⟩
  have C11ac : Aside0 (∀ W, Below w.heap.size w W → Calls Try.prog 11 #[.slice A0 n0 c0, .slice A2 n2 c2] W fun e w' => e = .returned (.bool (lt true l0 l2)) ∧ Below W.heap.size W w') := ⟨fun W hW => (lt_calls true A0 c0 n0 l0 A2 c2 n2 l2 hn0 hn2 W (Kd.C_below hr0 hW) hc0 (Kd.C_below hr2 hW) hc2 (by omega)).mono (fun e w' h => ⟨h.1, h.2.below⟩)⟩
  obtain ⟨m, hm⟩ : ∃ m, (l0 ++ [(⟨#[120]⟩ : ByteArray)]).length = m := ⟨_, rfl⟩
  have CI9 : Aside0 (∀ W A c, Below w.heap.size w W → Kd.C Kd.string W A (l0 ++ [(⟨#[120]⟩ : ByteArray)]).length (l0 ++ [(⟨#[120]⟩ : ByteArray)]) → m ≤ c → Calls Try.prog 9 #[.slice A0 n0 c0, .slice A m c] W fun e w' => e = .returned (.bool true) ∧ Below W.heap.size W w') := ⟨fun W A c hW hC hc => by
    have h := lt_calls false A0 c0 n0 l0 A c m (l0 ++ [(⟨#[120]⟩ : ByteArray)]) hn0 hm.symm W (Kd.C_below hr0 hW) hc0 hC (by rw [hm]; exact hc) (by omega)
    rw [show lt false l0 (l0 ++ [(⟨#[120]⟩ : ByteArray)]) = true from pl_append l0 _] at h
    exact h.mono (fun e w' h => ⟨h.1, h.2.below⟩)⟩
  have CI11 : Aside0 (∀ W A c, Below w.heap.size w W → Kd.C Kd.string W A (l0 ++ [(⟨#[120]⟩ : ByteArray)]).length (l0 ++ [(⟨#[120]⟩ : ByteArray)]) → m ≤ c → Calls Try.prog 11 #[.slice A m c, .slice A0 n0 c0] W fun e w' => e = .returned (.bool true) ∧ Below W.heap.size W w') := ⟨fun W A c hW hC hc => by
    have h := lt_calls true A c m (l0 ++ [(⟨#[120]⟩ : ByteArray)]) A0 c0 n0 l0 hm.symm hn0 W hC (by rw [hm]; exact hc) (Kd.C_below hr0 hW) hc0 (by simp; omega)
    rw [deep_append l0 _] at h
    exact h.mono (fun e w' h => ⟨h.1, h.2.below⟩)⟩
  have HL1 : Aside0 ((([] : List ByteArray).length + l0.length) * 16 ≤ 140737488355328) := ⟨by simp; omega⟩
  have HL2 : Aside0 ((l0.length + 1) * 16 ≤ 140737488355328) := ⟨by omega⟩
  have HM : Aside0 ((l0 ++ [(⟨#[120]⟩ : ByteArray)]).length = m) := ⟨hm⟩
  have HF4 : Aside0 (lt false l0 l1 = true → lt false l1 l2 = true → lt false l0 l2 = true) := ⟨(lt_sto false).tr _ _ _⟩
  have HF5 : Aside0 (lt true l0 l1 = true → lt true l1 l2 = true → lt true l0 l2 = true) := ⟨(lt_sto true).tr _ _ _⟩
  have key : (decide (l0 = l1) = true ∧ lt false l0 l1 = false ∧ lt false l1 l0 = false ∧ lt true l0 l1 = false ∧ lt true l1 l0 = false) ∨ (decide (l0 = l1) = false ∧ (lt false l0 l1 = true ∧ lt false l1 l0 = false ∨ lt false l0 l1 = false ∧ lt false l1 l0 = true) ∧ (lt true l0 l1 = true ∧ lt true l1 l0 = false ∨ lt true l0 l1 = false ∧ lt true l1 l0 = true)) := by
    by_cases h : l0 = l1
    · subst h
      exact .inl ⟨by simp, (lt_sto false).irr _, (lt_sto false).irr _, (lt_sto true).irr _, (lt_sto true).irr _⟩
    · have side : ∀ d, lt d l0 l1 = true ∧ lt d l1 l0 = false ∨ lt d l0 l1 = false ∧ lt d l1 l0 = true := fun d => by
        cases e1 : lt d l0 l1 with
        | true => exact .inl ⟨rfl, (lt_sto d).asym e1⟩
        | false =>
          cases e2 : lt d l1 l0 with
          | true => exact .inr ⟨rfl, rfl⟩
          | false => exact absurd ((lt_sto d).tri _ _ e1 e2) h
      exact .inr ⟨by simp [h], side false, side true⟩
  have HN0 : Aside0 (n0 = l0.length) := ⟨hn0⟩
  have HR0 := Aside0.mk hr0
  clear hr0 hr1 hr2 hc0 hc1 hc2 hn0 hn1 hn2 hm
  generalize lt false l0 l1 = x at *
  generalize lt false l1 l0 = y at *
  generalize lt false l1 l2 = z at *
  generalize lt false l0 l2 = ac at *
  generalize lt true l0 l1 = u at *
  generalize lt true l1 l0 = v at *
  generalize lt true l1 l2 = q at *
  generalize lt true l0 l2 = dac at *
  generalize decide (l0 = l1) = s at *
  rcases key with ⟨k1, k2, k3, k4, k5⟩ | ⟨k1, ⟨k2, k3⟩ | ⟨k2, k3⟩, ⟨k4, k5⟩ | ⟨k4, k5⟩⟩
  all_goals first | (cases hbx.symm.trans k2; done) | (cases hbu.symm.trans k4; done) | skip
  all_goals subst k1 k2 k3 k4 k5
  all_goals clear hbx hbu
  all_goals
    as_aux_lemma =>
    (first | (obtain rfl := HF4.out rfl rfl) | skip)
    (first | (obtain rfl := HF5.out rfl rfl) | skip)
    go_enter Try.func6, Try.ntmps6
    go_wp2_with (first | (go_at_call 25; (with_reducible refine C25.out.mono ?_); rintro e wn ⟨rfl, hb⟩; have HB := Aside0.mk hb; clear hb) | (go_at_call 9; (with_reducible refine (C9ab.out _ HB.out).mono ?_); rintro e wn ⟨rfl, hb⟩; have HB := Aside0.mk (below_step HB.out hb); clear hb) | (go_at_call 9; (with_reducible refine (C9ba.out _ HB.out).mono ?_); rintro e wn ⟨rfl, hb⟩; have HB := Aside0.mk (below_step HB.out hb); clear hb) | (go_at_call 9; (with_reducible refine (C9bc.out _ HB.out).mono ?_); rintro e wn ⟨rfl, hb⟩; have HB := Aside0.mk (below_step HB.out hb); clear hb) | (go_at_call 11; (with_reducible refine (C11ab.out _ HB.out).mono ?_); rintro e wn ⟨rfl, hb⟩; have HB := Aside0.mk (below_step HB.out hb); clear hb) | (go_at_call 11; (with_reducible refine (C11ba.out _ HB.out).mono ?_); rintro e wn ⟨rfl, hb⟩; have HB := Aside0.mk (below_step HB.out hb); clear hb) | (go_at_call 11; (with_reducible refine (C11bc.out _ HB.out).mono ?_); rintro e wn ⟨rfl, hb⟩; have HB := Aside0.mk (below_step HB.out hb); clear hb) | (go_at_call 9; (with_reducible refine (C9ac.out _ HB.out).mono ?_); rintro e wn ⟨rfl, hb⟩; have HB := Aside0.mk (below_step HB.out hb); have HIN := Aside0.mk (Kd.C_below HIN.out hb); clear hb) | (go_at_call 11; (with_reducible refine (C11ac.out _ HB.out).mono ?_); rintro e wn ⟨rfl, hb⟩; have HB := Aside0.mk (below_step HB.out hb); have HIN := Aside0.mk (Kd.C_below HIN.out hb); clear hb) | (go_at_call 9; (with_reducible refine (CI9.out _ _ _ HB.out HIN.out HIC.out).mono ?_); rintro e wn ⟨rfl, hb⟩; have HB := Aside0.mk (below_step HB.out hb); have HIN := Aside0.mk (Kd.C_below HIN.out hb); clear hb) | (go_at_call 11; (with_reducible refine (CI11.out _ _ _ HB.out HIN.out HIC.out).mono ?_); rintro e wn ⟨rfl, hb⟩; have HB := Aside0.mk (below_step HB.out hb); have HIN := Aside0.mk (Kd.C_below HIN.out hb); clear hb) | (go_at_call 8; (with_reducible refine (C8.out _).mono ?_); rintro e wn ⟨rfl, hb⟩; have HB := Aside0.mk (below_step HB.out hb); clear hb) | ((with_reducible refine gate_dst (N := 52) rfl ?_); refine Kd.R_lit Kd.string _ 9 ?hg (N := 52) ?hd (xs := ([] : List ByteArray)) (inner := []) (ok := fun _ => True) (okp := fun _ => True) ?hr ?hp (fun _ hk => hk) trivial (Below.refl _ _) (Nat.le_refl _) (by simp) ?_; (case hd => rfl); (case hg => rfl); (case hr => first | (go_simp; done) | (go_simp; rfl)); (case hp => exact (Reps.none _ _)); intro v6 w6 ho hb hg_ hnew_; clear hg_ hnew_; have HO6 := Aside0.mk (Kd.R_lower (Kd.R_newM (M := fun k => w.heap.size ≤ k) ho (below_size HB.out) (fun k h => h)) (below_size HB.out)); have HB := Aside0.mk (below_step HB.out hb); clear ho hb) | ((with_reducible refine gate_builtin (b := .append) (xs := #[.tmp 52, .tmp 53]) rfl ?_); at_builtin; refine Kd.R_append_rows Kd.string (w0 := w) w.heap.size rfl (.tmp 52) (.tmp 53) 22 9 (.string ⟨#[]⟩) 16 rfl Try.underlying22 QA.info9 rfl (by decide) (by omega) v6 [] l0 _ _ _ (fun k => (w.heap.size ≤ k)) (fun _ => False) rfl rfl ?aO ?aR (fun _ _ h => h) (fun _ h => h.elim) ?aF ?aB ?aS ?aL ?_; (case aR => rw [HN0.out]; exact Kd.C_below HR0.out HB.out); (case aB => exact HB.out); (case aF => exact fun k hk => Nat.le_trans (below_size HB.out) hk); (case aO => exact Kd.R_mono HO6.out (fun _ hk => hk.1)); (case aS => exact below_size HB.out); (case aL => rw [HN0.out]; exact HL1.out); intro v7 w7 ho hb hg hat; have HO7 : Aside0 (Kd.R Kd.string 9 w7 w.heap.size (fun k => w.heap.size ≤ k) v7 l0) := ⟨ho⟩; have HB := Aside0.mk hb; clear ho hb hg hat) | ((with_reducible refine gate_builtin (b := .append) (xs := #[.tmp 54, .tmp 55]) rfl ?_); at_builtin; refine Kd.R_append Kd.string (w0 := w) (W := w7) w.heap.size rfl (.tmp 54) (.tmp 55) 22 9 (.string ⟨#[]⟩) 16 rfl Try.underlying22 QA.info9 rfl (by decide) (by decide) v7 l0 ⟨#[120]⟩ [.string ⟨#[120]⟩] (fun k => w.heap.size ≤ k) (fun _ => False) rfl rfl rfl (fun _ h => h.elim) (fun k hk => Nat.le_trans (below_size HB.out) hk) HO7.out HB.out (below_size HB.out) HL2.out ?_; intro v8 w8 ho hb hg hat; obtain ⟨A9, c9, e9⟩ := Kd.R_slice ho; rw [HM.out] at e9; subst e9; have HIN := Aside0.mk (Kd.R_reads' ho); have HIC := Aside0.mk HIN.out.2.1; have HIN := Aside0.mk HIN.out.2.2; have HB := Aside0.mk hb; clear ho hb hg hat) | fail)
    go_ret
    exact ⟨rfl, HB.out⟩
end Go.Proofs.Ytmpniapbjoailaa.Hand
