/- utf8.FullRune at every slice of bytes, and scan.Open by it; slices.Clone of bytes. -/
import Derived.Test.YtnaaimnmphcilaaDoorFull
import Derived.Test.YtnaaimnmphcilaaDoorPlain2
import Derived.Test.YtnaaimnmphcilaaDoorWZeros
import Derived.Test.YtnaaimnmphcilaaDoorWKept
import Derived.Lib.SliceRun
namespace Go.Proofs.YtnaaimnmphcilaaDoor.Hand
open Go.RowKit Go.Proofs.YtnaaimnmphcilaaDoorW.PrintWords Go.Proofs.YtnaaimnmphcilaaDoorW.PrintLast Go.Proofs.YtnaaimnmphcilaaDoorW.PrintMore
set_option linter.unusedVariables false
set_option linter.unusedSimpArgs false

theorem rd_lt {l : List Int} (hB : allB l = true) (i : Int) : 0 ≤ rd l i ∧ rd l i < 256 := by
  unfold rd
  rw [List.getD_eq_getElem?_getD]
  cases h : l[i.toNat]? with
  | none => simp
  | some x => exact allB_mem hB x (List.mem_of_getElem? h)

theorem full_calls (A : Option Addr) (c : Nat) (l : List Int) (w : World) (hr : Kd.C (Kd.int .u8) w A l.length l) (hT : Tabs w) (hB : allB l = true) (hne : l ≠ []) :
    Calls Tryd.prog 36 #[.slice A l.length c] w fun e w' => e = .returned (.bool (fullI l)) ∧ Below w.heap.size w w' := by
  obtain ⟨b, off, rfl, hb, hcell⟩ := view hr hne
  have hl : 0 < l.length := List.length_pos_iff.2 hne
  have h0 := rd_lt hB 0
  have h1 := rd_lt hB 1
  have h2 := rd_lt hB 2
  refine full_walk b off c l.length (rd l 0).toNat (rd l 1).toNat (rd l 2).toNat w hT hl hr.2.1 (by omega) hb ?_ ?_ ?_ (by omega) (by omega)
  · have := hcell 0 hl
    rw [Int.toNat_of_nonneg h0.1]
    simpa [rd] using this
  · intro h
    rw [Int.toNat_of_nonneg h1.1]
    simpa [rd] using hcell 1 h
  · intro h
    rw [Int.toNat_of_nonneg h2.1]
    simpa [rd] using hcell 2 h

/-- Bytes that may go on to one code point. -/
def openI (l : List Int) : Bool := decide (0 < l.length ∧ l.length < 4) && !fullI l

theorem open_calls (A : Option Addr) (c : Nat) (l : List Int) (w : World) (hr : Kd.C (Kd.int .u8) w A l.length l) (hT : Tabs w) (hB : allB l = true) :
    Calls Tryd.prog 18 #[.slice A l.length c] w fun e w' => e = .returned (.bool (openI l)) ∧ Below w.heap.size w w' := by
  have hm := hr.2.1
  by_cases hl : 0 < l.length
  · have hne : l ≠ [] := List.length_pos_iff.1 hl
    by_cases h4 : l.length < 4
    · have cF := full_calls A c l w hr hT hB hne
      have ho : openI l = !fullI l := by unfold openI; rw [decide_eq_true ⟨hl, h4⟩, Bool.true_and]
      rw [ho]
      have hli : (l.length : Int) > 0 := by omega
      have h4i : (l.length : Int) < 4 := by omega
      clear hr hT hB ho
      generalize fullI l = f at *
      generalize l.length = n at *
      clear hne
      cases f
      · go_enter Tryd.func18, Tryd.ntmps18
        go_wp2_with (go_at_call 36; refine cF.mono ?_; rintro e w1 ⟨rfl, hb1⟩)
        go_ret
        exact ⟨rfl, hb1⟩
      · go_enter Tryd.func18, Tryd.ntmps18
        go_wp2_with (go_at_call 36; refine cF.mono ?_; rintro e w1 ⟨rfl, hb1⟩)
        go_ret
        exact ⟨rfl, hb1⟩
    · have ho : openI l = false := by unfold openI; rw [decide_eq_false (by omega), Bool.false_and]
      rw [ho]
      have hli : (l.length : Int) > 0 := by omega
      have h4i : ¬ (l.length : Int) < 4 := by omega
      clear hr hT hB ho
      generalize l.length = n at *
      go_enter Tryd.func18, Tryd.ntmps18
      go_wp2
      go_ret
      exact ⟨rfl, Below.refl _ _⟩
  · have ho : openI l = false := by unfold openI; rw [decide_eq_false (by omega), Bool.false_and]
    rw [ho]
    have hli : ¬ (l.length : Int) > 0 := by omega
    clear hr hT hB ho
    generalize l.length = n at *
    go_enter Tryd.func18, Tryd.ntmps18
    go_wp2
    go_ret
    exact ⟨rfl, Below.refl _ _⟩

theorem info5 : (Tryd.prog.info? 5).map (fun i => (i.zero, i.size, i.bytes)) = some (some (.int .u8 0), 1, 1) := by kernel_rfl

/-- slices.Clone at bytes. -/
theorem clone_calls (A : Option Addr) (c : Nat) (l : List Int) (w : World) (hr : Kd.C (Kd.int .u8) w A l.length l) (hc : l.length ≤ c) (hl : l.length ≤ 140737488355328) :
    Calls Tryd.prog 45 #[.slice A l.length c] w fun e w' => ∃ v, e = .returned v ∧ Kd.R (Kd.int .u8) 5 w' w.heap.size (fun _ => True) v l ∧ Below w.heap.size w w' := by
  by_cases hn : A = none
  · subst hn
    have hl0 : l = [] := by
      by_cases hne : l = []
      · exact hne
      · obtain ⟨b, off, h, _⟩ := view hr hne
        cases h
    subst hl0
    clear hr
    have q23 : ∀ w, (binOp .eql 23 (.slice none (0 : Nat) c) (.slice none 0 0)).run Tryd.prog w = .ok (.bool true) w := fun w => Lib.run_eql_slice_nil w _ _ none 0 c 0 0 Tryd.underlying23
    go_enter Tryd.func45, Tryd.ntmps45
    go_wp2
    all_goals (go_ret; exact ⟨_, rfl, Kd.R_nil _ _ _ _ _, Below.refl _ _⟩)
  · obtain ⟨a, rfl⟩ := Option.ne_none_iff_exists'.1 hn
    have HR := Aside0.mk hr
    clear hr hn
    have q23 : ∀ w, (binOp .eql 23 (.slice (some a) l.length c) (.slice none 0 0)).run Tryd.prog w = .ok (.bool false) w := fun w => Lib.run_eql_slice_nil w _ _ (some a) l.length c 0 0 Tryd.underlying23
    go_enter Tryd.func45, Tryd.ntmps45
    go_wp2_with (first | ((with_reducible refine gate_dst (N := 5) rfl ?_); refine Kd.R_lit (Kd.int .u8) w.heap.size 5 rfl (N := 5) rfl (xs := ([] : List Int)) (inner := []) (ok := fun _ => True) (okp := fun _ => True) (by go_simp) (Reps.none _ _) (fun _ hk => hk) trivial (Below.refl _ _) (Nat.le_refl _) (by simp) ?_; intro v1 w1 HO1 HB1 HG1 HAT1) | ((with_reducible refine gate_builtin (b := .append) (xs := #[.tmp 5, .tmp 6]) rfl ?_); at_builtin; refine Kd.R_append_rows (Kd.int .u8) (w0 := w) w.heap.size rfl (.tmp 5) (.tmp 6) 23 5 (.int .u8 0) 1 rfl Tryd.underlying23 info5 rfl (by decide) (by decide) v1 [] l (some a) l.length c (fun _ => True) (fun _ => False) rfl rfl HO1 (Kd.C_below HR.out HB1) (fun _ _ h => h) (fun _ h => h.elim) (fun _ _ => trivial) HB1 HB1.size ?aL ?_; (case aL => simp; omega); intro v2 w2 HO2 HB2 HG2 HAT2; clear HO1 HB1 HG1 HAT1))
    go_ret
    exact ⟨_, rfl, HO2, HB2⟩
end Go.Proofs.YtnaaimnmphcilaaDoor.Hand
