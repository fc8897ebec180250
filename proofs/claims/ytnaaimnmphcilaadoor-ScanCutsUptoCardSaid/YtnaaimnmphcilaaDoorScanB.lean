/- The small methods of a scan: New, Fault, End, State; slices.Grow and Concat at bytes. -/
import Derived.Test.YtnaaimnmphcilaaDoorScanA
import Derived.Deep.LoopGhost
import Derived.Deep.RegionWith
import Derived.Deep.RegionHeld3
import Derived.BigQuiet
import Derived.WalkSpells
namespace Go.Proofs.YtnaaimnmphcilaaDoor.Hand
open Go.RowKit Go.Proofs.YtnaaimnmphcilaaDoorW.PrintWords Go.Proofs.YtnaaimnmphcilaaDoorW.PrintLast Go.Proofs.YtnaaimnmphcilaaDoorW.PrintMore
set_option linter.unusedVariables false
set_option linter.unusedSimpArgs false

theorem add_block (a : Addr) (j : Nat) : (a.add j).block = a.block := by unfold Addr.add; split <;> rfl
theorem C_keep {w w' : World} {S : Nat → Prop} {A : Option Addr} {k : IntKind} {l : List Int} (h : Kd.C (Kd.int k) w A l.length l) (hk : Kept w w' S) (hA : ∀ x, A = some x → ¬ S x.block) : Kd.C (Kd.int k) w' A l.length l := by
  refine ⟨h.1, h.2.1, fun hn => ?_⟩
  obtain ⟨ad, e, hc⟩ := h.2.2 hn
  refine ⟨ad, e, fun j p hj => ?_⟩
  obtain ⟨c, h1, h2, h3⟩ := hc j p hj
  exact ⟨c, h1, h2, fun i u hu => cell_kept (h3 i u hu) hk (by rw [add_block]; exact hA ad e)⟩

/-- A scan, at block g. -/
structure Sc (w : World) (g : Nat) (s b : Int) (A : Option Addr) (c : Nat) (l : List Int) : Prop where
  blk : w.heap[g]? = some (.cells #[.int .i64 s, .int .i64 b, .slice A l.length c] 67 (0, 0))
  came : Kd.C (Kd.int .u8) w A l.length l
  cap : l.length ≤ c
  apart : ∀ x, A = some x → x.block ≠ g
theorem Sc.keep {w w' : World} {S : Nat → Prop} {g : Nat} {s b : Int} {A : Option Addr} {c : Nat} {l : List Int} (h : Sc w g s b A c l) (hk : Kept w w' S) (hg : ¬ S g) (hA : ∀ x, A = some x → ¬ S x.block) : Sc w' g s b A c l :=
  ⟨blk_kept h.blk hk hg, C_keep h.came hk hA, h.cap, h.apart⟩
theorem Sc.below {w w' : World} {g : Nat} {s b : Int} {A : Option Addr} {c : Nat} {l : List Int} (h : Sc w g s b A c l) (hb : Below w.heap.size w w') : Sc w' g s b A c l :=
  h.keep (Kept.of_below hb (fun _ => False)) (fun h => h) (fun _ _ h => h)
theorem Sc.lt {w : World} {g : Nat} {s b : Int} {A : Option Addr} {c : Nat} {l : List Int} (h : Sc w g s b A c l) : g < w.heap.size := blk_lt h.blk
theorem Sc.cells {w : World} {g : Nat} {s b : Int} {A : Option Addr} {c : Nat} {l : List Int} (h : Sc w g s b A c l) :
    w.cell? ⟨g, 0, none⟩ = some (.int .i64 s) ∧ w.cell? ⟨g, 1, none⟩ = some (.int .i64 b) ∧ w.cell? ⟨g, 2, none⟩ = some (.slice A l.length c) :=
  ⟨blk_cell h.blk 0, blk_cell h.blk 1, blk_cell h.blk 2⟩

theorem new_calls (w : World) : Calls Tryd.prog 21 #[] w fun e w' => e = .returned (.pointer (some ⟨w.heap.size, 0, none⟩)) ∧ Sc w' w.heap.size 0 (-1) none 0 [] ∧ Below w.heap.size w w' := by
  go_enter Tryd.func21, Tryd.ntmps21
  go_wp2
  go_ret
  exact ⟨rfl, ⟨heap_alloc_new w _, Kd.C_nil _ _, Nat.le_refl _, fun _ h => by cases h⟩, (Below.refl _ _).alloc (Nat.le_refl _) _⟩

theorem fault_nil (w : World) : Calls Tryd.prog 25 #[.pointer none] w fun e w' => e = .returned (.int .i64 (-1)) ∧ Below w.heap.size w w' := by
  go_enter Tryd.func25, Tryd.ntmps25
  go_wp2
  go_ret
  exact ⟨rfl, Below.refl _ _⟩
theorem scan_fault {w : World} {g : Nat} {s b : Int} {A : Option Addr} {c : Nat} {l : List Int} (h : Sc w g s b A c l) :
    Calls Tryd.prog 25 #[.pointer (some ⟨g, 0, none⟩)] w fun e w' => e = .returned (.int .i64 b) ∧ Below w.heap.size w w' := by
  obtain ⟨c0, c1, c2⟩ := h.cells
  clear h
  go_enter Tryd.func25, Tryd.ntmps25
  go_wp2
  go_ret
  exact ⟨rfl, Below.refl _ _⟩

/-- What End tells. -/
def endI (s b : Int) (l : List Int) : Int := if b < 0 ∧ 0 < l.length then wrap64 (s - (l.length : Int)) else b
theorem end_nil (w : World) : Calls Tryd.prog 26 #[.pointer none] w fun e w' => e = .returned (.int .i64 (-1)) ∧ Below w.heap.size w w' := by
  have cF := fault_nil w
  go_enter Tryd.func26, Tryd.ntmps26
  go_wp2_with (go_at_call 25; refine cF.mono ?_; rintro e w1 ⟨rfl, hb1⟩)
  go_ret
  exact ⟨rfl, hb1⟩
set_option maxHeartbeats 1000000 in
theorem scan_end {w : World} {g : Nat} {s b : Int} {A : Option Addr} {c : Nat} {l : List Int} (h : Sc w g s b A c l) :
    Calls Tryd.prog 26 #[.pointer (some ⟨g, 0, none⟩)] w fun e w' => e = .returned (.int .i64 (endI s b l)) ∧ Below w.heap.size w w' := by
  have cF := scan_fault h
  obtain ⟨c0, c1, c2⟩ := h.cells
  clear h
  by_cases hb : b ≥ 0
  · have he : endI s b l = b := by unfold endI; rw [if_neg (by omega)]
    rw [he]
    clear he
    go_enter Tryd.func26, Tryd.ntmps26
    go_wp2_with (go_at_call 25; refine cF.mono ?_; rintro e w1 ⟨rfl, hb1⟩)
    go_ret
    exact ⟨rfl, hb1⟩
  · by_cases hl : l.length = 0
    · have he : endI s b l = b := by unfold endI; rw [if_neg (by omega)]
      rw [he]
      rw [hl] at c2
      clear he hl
      go_enter Tryd.func26, Tryd.ntmps26
      go_wp2_with (go_at_call 25; refine cF.mono ?_; rintro e w1 ⟨rfl, hb1⟩)
      go_ret
      exact ⟨rfl, hb1⟩
    · have he : endI s b l = wrap64 (s - (l.length : Int)) := by unfold endI; rw [if_pos ⟨by omega, by omega⟩]
      rw [he]
      have hlz : ((l.length : Int) == 0) = false := beq_eq_false_iff_ne.2 (by omega)
      clear he
      generalize l.length = n at *
      go_enter Tryd.func26, Tryd.ntmps26
      go_wp2_with (first | go_quiet (fail))
      go_ret
      exact ⟨rfl, pw_below_drewN (Below.refl _ _) _⟩

theorem state_nil (w : World) : Calls Tryd.prog 27 #[.pointer none] w fun e w' => e = .returned (.agg #[.int .i64 0, .int .i64 (-1), .slice none 0 0]) ∧ Below w.heap.size w w' := by
  go_enter Tryd.func27, Tryd.ntmps27
  go_wp2
  refine bodyPost_ret (v := .agg #[.int .i64 0, .int .i64 (-1), .slice none 0 0]) (by simp [results, Tryd.results27, go_sem]) rfl ⟨rfl, ?_⟩
  exact (Below.refl _ w).alloc (Nat.le_refl _) _
set_option maxHeartbeats 2000000 in
theorem scan_state {w : World} {g : Nat} {s b : Int} {A : Option Addr} {c : Nat} {l : List Int} (h : Sc w g s b A c l) (hl : l.length ≤ 140737488355328) :
    Calls Tryd.prog 27 #[.pointer (some ⟨g, 0, none⟩)] w fun e w' => ∃ v, e = .returned (.agg #[.int .i64 s, .int .i64 b, v]) ∧ Kd.R (Kd.int .u8) 5 w' w.heap.size (fun k => k ≠ w.heap.size) v l ∧ Below w.heap.size w w' := by
  have H := Aside0.mk h
  have HL := Aside0.mk hl
  obtain ⟨c0, c1, c2⟩ := h.cells
  have hlt := h.lt
  clear h hl
  have cC : ∀ W, Below w.heap.size w W → Calls Tryd.prog 45 #[.slice A l.length c] W fun e w' => ∃ v, e = .returned v ∧ Kd.R (Kd.int .u8) 5 w' W.heap.size (fun _ => True) v l ∧ Below W.heap.size W w' :=
    fun W hb => clone_calls A c l W (Kd.C_below H.out.came hb) H.out.cap HL.out
  go_enter Tryd.func27, Tryd.ntmps27
  go_wp2
  obtain ⟨W0, hW0⟩ : ∃ W0, W0 = w.alloc (Obj.cells #[Value.int IntKind.i64 0, Value.int IntKind.i64 0, Value.slice none 0 0] 49) := ⟨_, rfl⟩
  rw [← hW0]
  have hbW : Below w.heap.size w W0 := by rw [hW0]; exact (Below.refl _ w).alloc (Nat.le_refl _) _
  have hsW : W0.heap.size = w.heap.size + 1 := by rw [hW0]; exact Array.size_push _
  have hkW : W0.heap[w.heap.size]? = some (.cells #[Value.int IntKind.i64 0, Value.int IntKind.i64 0, Value.slice none 0 0] 49 (0, 0)) := by rw [hW0]; exact heap_alloc_new w _
  have d0 := pw_cell_below hbW c0
  have d1 := pw_cell_below hbW c1
  have d2 := pw_cell_below hbW c2
  have HC := Aside0.mk cC
  have HB := Aside0.mk hbW
  have HS := Aside0.mk hsW
  have HK := Aside0.mk hkW
  have HL0 := Aside0.mk hlt
  clear cC c0 c1 c2 hW0 hbW hsW hkW hlt H
  generalize hN : w.heap.size = N at *
  have HN := Aside0.mk hN
  clear hN
  generalize l.length = n at *
  have hgN : g ≠ N := by have := HL0.out; omega
  have hNg : N ≠ g := Ne.symm hgN
  go_region_held3 (fun w' => w'.cell? ⟨g, 0, none⟩ = some (.int .i64 s) ∧ w'.cell? ⟨g, 1, none⟩ = some (.int .i64 b) ∧ w'.cell? ⟨g, 2, none⟩ = some (.slice A n c))
    (first | exact ⟨e0, e1, e2⟩ | exact ⟨d0, d1, d2⟩ | go_keep)
    (first | (go_at_call 45; refine (HC.out _ (below_drew HB.out)).mono ?_; rintro e w1 ⟨v, rfl, HO, HB1⟩; obtain ⟨A3, c3, rfl⟩ := Kd.R_slice HO; have e0 := pw_cell_below HB1 (show W0.drew.cell? _ = some _ from d0); have e1 := pw_cell_below HB1 (show W0.drew.cell? _ = some _ from d1); have e2 := pw_cell_below HB1 (show W0.drew.cell? _ = some _ from d2); have K1 : w1.heap[N]? = some (.cells #[Value.int IntKind.i64 0, Value.int IntKind.i64 0, Value.slice none 0 0] 49 (0, 0)) := blk_below (w := W0.drew) HK.out HB1; have k0 : w1.cell? ⟨N, 0, none⟩ = some (.int .i64 0) := blk_cell K1 0; have k1 : w1.cell? ⟨N, 1, none⟩ = some (.int .i64 0) := blk_cell K1 1; have k2 : w1.cell? ⟨N, 2, none⟩ = some (.slice none 0 0) := blk_cell K1 2; have f0 := blk_frozen K1 0; have f1 := blk_frozen K1 1; have f2 := blk_frozen K1 2))
  all_goals go_wp2
  have K2 := blk_set (blk_set (blk_set K1 0 (.int .i64 s)) 1 (.int .i64 b)) 2 (.slice A3 l.length c3)
  have hsz : W0.drew.heap.size = N + 1 := HS.out
  have hbel : Below N w w1 := (below_drew HB.out).trans (HB1.mono (by omega))
  have HO1 : Kd.R (Kd.int .u8) 5 w1 N (fun k => k ≠ N) (.slice A3 l.length c3) l :=
    Kd.R_lower (Kd.R_mono (Kd.R_bound HO) (fun k hk => by have := hk.2.1; omega)) (show N ≤ W0.drew.heap.size by omega)
  have HO2 := Kd.R_far (Kd.R_far (Kd.R_far HO1 (p := ⟨N, 0, none⟩) (fun _ h => h) (.int .i64 s)) (p := ⟨N, 1, none⟩) (fun _ h => h) (.int .i64 b)) (p := ⟨N, 2, none⟩) (fun _ h => h) (.slice A3 l.length c3)
  have hbel2 := ((hbel.setCell (p := ⟨N, 0, none⟩) (Nat.le_refl _) (.int .i64 s)).setCell (p := ⟨N, 1, none⟩) (Nat.le_refl _) (.int .i64 b)).setCell (p := ⟨N, 2, none⟩) (Nat.le_refl _) (.slice A3 l.length c3)
  clear k0 k1 k2 f0 f1 f2 e0 e1 e2 d0 d1 d2 HB1 HO HO1 hbel
  generalize ((w1.setCell { block := N, off := 0 } (Value.int IntKind.i64 s)).setCell { block := N, off := 1 } (Value.int IntKind.i64 b)).setCell { block := N, off := 2 } (Value.slice A3 l.length c3) = W9 at *
  have q0 : W9.cell? ⟨N, 0, none⟩ = some (.int .i64 s) := blk_cell K2 0
  have q1 : W9.cell? ⟨N, 1, none⟩ = some (.int .i64 b) := blk_cell K2 1
  have q2 : W9.cell? ⟨N, 2, none⟩ = some (.slice A3 l.length c3) := blk_cell K2 2
  refine bodyPost_ret (v := .agg #[.int .i64 s, .int .i64 b, .slice A3 l.length c3]) (by simp [results, Tryd.results27, go_sem, q0, q1, q2]) rfl ⟨_, rfl, ?_, ?_⟩
  · rw [HN.out]; exact HO2
  · rw [HN.out]; exact hbel2

/-- slices.Grow of nothing. -/
theorem grow_calls (n : Nat) (hn : n ≤ 140737488355328) (w : World) :
    Calls Tryd.prog 53 #[.slice none 0 0, .int .i64 n] w fun e w' => ∃ v, e = .returned v ∧ Kd.R (Kd.int .u8) 5 w' w.heap.size (fun _ => True) v [] ∧ Below w.heap.size w w' := by
  by_cases h0 : n = 0
  · subst h0
    go_enter Tryd.func53, Tryd.ntmps53
    go_wp2
    go_ret
    exact ⟨_, rfl, Kd.R_nil _ _ _ _ _, Below.refl _ _⟩
  · have hz : (n : Int) > 0 := by omega
    have hz2 : ¬ (n : Int) < 0 := by omega
    have hw : wrap64 (n : Int) = (n : Int) := by unfold wrap64; omega
    have hw2 : wrap64 ((n : Int) - 0) = (n : Int) := by unfold wrap64; omega
    have H0 := Aside0.mk h0
    have HN := Aside0.mk hn
    have HW := Aside0.mk hw
    clear h0 hn
    go_enter Tryd.func53, Tryd.ntmps53
    go_wp2_with (first | ((with_reducible refine gate_builtin (b := .append) (xs := #[.tmp 20, .tmp 21]) rfl ?_); at_builtin; go_must (refine Kd.R_append_zeros (Kd.int .u8) (w0 := w) w.heap.size rfl (.tmp 20) (.tmp 21) 23 3 5 (.int .u8 0) 1 rfl Tryd.underlying23 Tryd.underlying3 info5 rfl (by decide) (by decide) (.slice none 0 0) [] 0 (wrap64 (n : Int)) (fun _ => True) rfl rfl ?aZ (fun _ _ => trivial) (Kd.R_nil _ _ _ _ _) ?a0 (Below.refl _ _) (Nat.le_refl _) ?aL ?_); (case aZ => rfl); (case a0 => rw [HW.out]; omega); (case aL => have := HN.out; rw [HW.out]; simp; omega); intro v2 w2 HO2 HB2 HG2 HAT2; obtain ⟨A2, n2, rfl⟩ := Kd.R_slice HO2))
    go_ret
    exact ⟨_, rfl, Kd.R_take (m := 0) HO2 (Nat.zero_le _), HB2⟩
end Go.Proofs.YtnaaimnmphcilaaDoor.Hand
