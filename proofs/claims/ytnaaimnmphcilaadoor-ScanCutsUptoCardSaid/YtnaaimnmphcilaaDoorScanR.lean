/- What scan.From does. -/
import Derived.Test.YtnaaimnmphcilaaDoorScanQ
namespace Go.Proofs.YtnaaimnmphcilaaDoor.Hand
open Go.RowKit Go.Proofs.YtnaaimnmphcilaaDoorW.PrintWords Go.Proofs.YtnaaimnmphcilaaDoorW.PrintLast Go.Proofs.YtnaaimnmphcilaaDoorW.PrintMore
set_option linter.unusedVariables false
set_option linter.unusedSimpArgs false

/-- Can a scan have this state? -/
def mayI (s b : Int) (l : List Int) : Prop := 0 ≤ s ∧ s ≤ 1099511627776 ∧ -1 ≤ b ∧ (0 ≤ b → b < s) ∧ (l ≠ [] → openI l = true ∧ (l.length : Int) ≤ s ∧ b = -1)

set_option maxHeartbeats 2000000 in
theorem from_no1 (s b : Int) (A : Option Addr) (c n : Nat) (w : World) (h : s < 0 ∨ s > 1099511627776 ∨ b < -1 ∨ (0 ≤ b ∧ b ≥ s)) :
    Calls Tryd.prog 29 #[.agg #[.int .i64 s, .int .i64 b, .slice A n c]] w fun e w' => e = .returned (.tuple #[.pointer none, .int .i64 2]) ∧ Below w.heap.size w w' := by
  by_cases h1 : s < 0
  · clear h
    go_enter Tryd.func29, Tryd.ntmps29
    go_wp2
    all_goals (go_ret2; exact ⟨rfl, (Below.refl _ w).alloc (Nat.le_refl _) _⟩)
  · by_cases h2 : s > 1099511627776
    · clear h
      go_enter Tryd.func29, Tryd.ntmps29
      go_wp2
      all_goals (go_ret2; exact ⟨rfl, (Below.refl _ w).alloc (Nat.le_refl _) _⟩)
    · by_cases h3 : b < -1
      · clear h
        go_enter Tryd.func29, Tryd.ntmps29
        go_wp2
        all_goals (go_ret2; exact ⟨rfl, (Below.refl _ w).alloc (Nat.le_refl _) _⟩)
      · have h4 : b ≥ 0 := by omega
        have h5 : b ≥ s := by omega
        clear h
        go_enter Tryd.func29, Tryd.ntmps29
        go_wp2
        all_goals (go_ret2; exact ⟨rfl, (Below.refl _ w).alloc (Nat.le_refl _) _⟩)

theorem open_new {w : World} {A : Option Addr} {c : Nat} {l : List Int} (hr : Kd.C (Kd.int .u8) w A l.length l) (hT : Tabs w) (hB : allB l = true) (o : Obj) :
    Calls Tryd.prog 18 #[.slice A l.length c] (w.alloc o) fun e w' => e = .returned (.bool (openI l)) ∧ Below w.heap.size w w' ∧ w'.heap[w.heap.size]? = some o := by
  have hb := (Below.refl w.heap.size w).alloc (Nat.le_refl _) o
  refine (open_calls A c l (w.alloc o) (Kd.C_below hr hb) (hT.below hb) hB).mono ?_
  rintro e w' ⟨rfl, h⟩
  exact ⟨rfl, below_then hb hb.size h, blk_below (heap_alloc_new w o) h⟩

set_option maxHeartbeats 4000000 in
theorem from_no2 (s b : Int) (A : Option Addr) (c : Nat) (l : List Int) (w : World) (hr : Kd.C (Kd.int .u8) w A l.length l) (hT : Tabs w) (hB : allB l = true) (h1 : ¬ s < 0) (h2 : ¬ s > 1099511627776) (h3 : ¬ b < -1) (h4 : 0 ≤ b → b < s) (hl : l ≠ [])
    (h : openI l = false ∨ (l.length : Int) > s ∨ b ≠ -1) :
    Calls Tryd.prog 29 #[.agg #[.int .i64 s, .int .i64 b, .slice A l.length c]] w fun e w' => e = .returned (.tuple #[.pointer none, .int .i64 2]) ∧ Below w.heap.size w w' := by
  have cO := fun o => open_new (c := c) hr hT hB o
  have hpos : (l.length : Int) > 0 := by have := List.length_pos_iff.2 hl; omega
  have h5 : ¬ b ≥ 0 ∨ (b ≥ 0 ∧ ¬ b ≥ s) := by omega
  have CO := Aside0.mk cO
  clear cO hr hT hB h4
  generalize openI l = f at *
  generalize l.length = n at *
  clear hl
  have hcase : f = false ∨ (f = true ∧ (n : Int) > s) ∨ (f = true ∧ ¬ (n : Int) > s ∧ b ≠ -1) := by
    cases f
    · exact .inl rfl
    · by_cases hs : (n : Int) > s
      · exact .inr (.inl ⟨rfl, hs⟩)
      · refine .inr (.inr ⟨rfl, hs, ?_⟩)
        rcases h with h | h | h
        · cases h
        · exact absurd h hs
        · exact h
  clear h
  rcases h5 with h5 | ⟨h5, h6⟩ <;> rcases hcase with rfl | ⟨rfl, h7⟩ | ⟨rfl, h7, h8⟩
  all_goals try (exfalso; omega)
  all_goals
    try (have h9 : (b != -1) = true := bne_iff_ne.2 h8)
    go_enter Tryd.func29, Tryd.ntmps29
    go_wp2_with (go_at_call 18; with_reducible refine (CO.out _).mono ?_; rintro e w2 ⟨rfl, hb, hk⟩; have HB := Aside0.mk hb; have k0 := blk_cell hk 0; have k1 := blk_cell hk 1; have k2 := blk_cell hk 2; clear hb hk)
    go_ret2
    exact ⟨rfl, HB.out⟩

theorem clone_at (A : Option Addr) (c : Nat) (l : List Int) (n : Nat) (hn : n = l.length) (w : World) (hr : Kd.C (Kd.int .u8) w A l.length l) (hc : l.length ≤ c) (hl : l.length ≤ 140737488355328) :
    Calls Tryd.prog 45 #[.slice A n c] w fun e w' => ∃ v, e = .returned v ∧ Kd.R (Kd.int .u8) 5 w' w.heap.size (fun _ => True) v l ∧ Below w.heap.size w w' := by
  subst hn; exact clone_calls A c l w hr hc hl

set_option maxHeartbeats 4000000 in
theorem from_yes (s b : Int) (A : Option Addr) (c : Nat) (l : List Int) (w : World) (hr : Kd.C (Kd.int .u8) w A l.length l) (hc : l.length ≤ c) (hT : Tabs w) (hB : allB l = true) (hm : mayI s b l) :
    Calls Tryd.prog 29 #[.agg #[.int .i64 s, .int .i64 b, .slice A l.length c]] w fun e w' => ∃ g A2 c2, e = .returned (.tuple #[.pointer (some ⟨g, 0, none⟩), .int .i64 0]) ∧ Sc w' g s b A2 c2 l ∧ w.heap.size ≤ g ∧ (∀ x, A2 = some x → w.heap.size ≤ x.block) ∧ Below w.heap.size w w' := by
  obtain ⟨m1, m2, m3, m4, m5⟩ := hm
  have cO := fun o => open_new (c := c) hr hT hB o
  have hl4 : l.length ≤ 140737488355328 := by
    by_cases h : l = []
    · subst h; simp
    · have := open_4 (m5 h).1; omega
  have HCL : Aside0 (∀ W, Below w.heap.size w W → ∀ n, n = l.length → Calls Tryd.prog 45 #[.slice A n c] W fun e w' => ∃ v, e = .returned v ∧ Kd.R (Kd.int .u8) 5 w' W.heap.size (fun _ => True) v l ∧ Below W.heap.size W w') :=
    ⟨fun W hb n hn => clone_at A c l n hn W (Kd.C_below hr hb) hc hl4⟩
  have h1 : ¬ s < 0 := by omega
  have h2 : ¬ s > 1099511627776 := by omega
  have h3 : ¬ b < -1 := by omega
  have h5 : ¬ b ≥ 0 ∨ (b ≥ 0 ∧ ¬ b ≥ s) := by omega
  have hcase : l.length = 0 ∨ ((l.length : Int) > 0 ∧ openI l = true ∧ ¬ (l.length : Int) > s ∧ b = -1) := by
    by_cases h : l = []
    · exact .inl (by rw [h]; rfl)
    · have := m5 h
      have := List.length_pos_iff.2 h
      exact .inr ⟨by omega, (m5 h).1, by omega, (m5 h).2.2⟩
  have CO := Aside0.mk cO
  clear cO hr hT hB m5 hc hl4 m1 m2 m3 m4
  generalize openI l = f at *
  obtain ⟨n, hn⟩ : ∃ n, n = l.length := ⟨_, rfl⟩
  have HN := Aside0.mk hn
  rw [← hn] at CO hcase ⊢
  clear hn
  have hkey : Calls Tryd.prog 29 #[.agg #[.int .i64 s, .int .i64 b, .slice A n c]] w fun e w' => Aside0 (∃ g A2 c2, e = .returned (.tuple #[.pointer (some ⟨g, 0, none⟩), .int .i64 0]) ∧ Sc w' g s b A2 c2 l ∧ w.heap.size ≤ g ∧ (∀ x, A2 = some x → w.heap.size ≤ x.block) ∧ Below w.heap.size w w') := by
    rcases hcase with rfl | ⟨q1, rfl, q2, rfl⟩
    · rcases h5 with h5 | ⟨h5, h6⟩
      · go_enter Tryd.func29, Tryd.ntmps29
        go_wp2
        obtain ⟨W0, hW0⟩ : ∃ W0, W0 = w.alloc (Obj.cells #[Value.int IntKind.i64 s, Value.int IntKind.i64 b, Value.slice A 0 c] 49) := ⟨_, rfl⟩
        rw [← hW0]
        have HB0 : Aside0 (Below w.heap.size w W0) := ⟨by rw [hW0]; exact (Below.refl _ w).alloc (Nat.le_refl _) _⟩
        have K0 : Aside0 (W0.heap[w.heap.size]? = some (.cells #[Value.int IntKind.i64 s, Value.int IntKind.i64 b, Value.slice A 0 c] 49 (0, 0))) := ⟨by rw [hW0]; exact heap_alloc_new w _⟩
        clear hW0
        have d0 : W0.cell? ⟨w.heap.size, 0, none⟩ = some (.int .i64 s) := blk_cell K0.out 0
        have d1 : W0.cell? ⟨w.heap.size, 1, none⟩ = some (.int .i64 b) := blk_cell K0.out 1
        have d2 : W0.cell? ⟨w.heap.size, 2, none⟩ = some (.slice A 0 c) := blk_cell K0.out 2
        go_region_held3 (fun w' => w'.cell? ⟨w.heap.size, 0, none⟩ = some (.int .i64 s) ∧ w'.cell? ⟨w.heap.size, 1, none⟩ = some (.int .i64 b) ∧ w'.cell? ⟨w.heap.size, 2, none⟩ = some (.slice A 0 c))
          (first | exact ⟨e0, e1, e2⟩ | exact ⟨d0, d1, d2⟩ | go_keep)
          (first | (go_at_call 45; refine (HCL.out _ (below_drew HB0.out) 0 HN.out).mono ?_; rintro e w1 ⟨v, rfl, HO, HB1⟩; obtain ⟨A3, c3, rfl⟩ := Kd.R_slice HO; have e0 := pw_cell_below HB1 (show W0.drew.cell? _ = some _ from d0); have e1 := pw_cell_below HB1 (show W0.drew.cell? _ = some _ from d1); have e2 := pw_cell_below HB1 (show W0.drew.cell? _ = some _ from d2)))
        all_goals go_wp2
        go_ret2
        refine ⟨⟨w1.heap.size, A3, c3, rfl, ⟨heap_alloc_new w1 _, Kd.C_below (Kd.R_reads' HO).2.2 ((Below.refl _ w1).alloc (Nat.le_refl _) _), (Kd.R_reads' HO).2.1, fun x hx => ?_⟩, ?_, fun x hx => ?_, ?_⟩⟩
        · subst hx; have := Kd.R_lt HO x.block rfl; omega
        · have := HB1.size; have := HB0.out.size; exact Nat.le_trans HB0.out.size HB1.size
        · subst hx; have := Kd.R_base HO x.block rfl; exact Nat.le_trans HB0.out.size this
        · exact ((below_drew HB0.out).trans (HB1.mono HB0.out.size)).alloc (Nat.le_trans HB0.out.size HB1.size) _
      · go_enter Tryd.func29, Tryd.ntmps29
        go_wp2
        obtain ⟨W0, hW0⟩ : ∃ W0, W0 = w.alloc (Obj.cells #[Value.int IntKind.i64 s, Value.int IntKind.i64 b, Value.slice A 0 c] 49) := ⟨_, rfl⟩
        rw [← hW0]
        have HB0 : Aside0 (Below w.heap.size w W0) := ⟨by rw [hW0]; exact (Below.refl _ w).alloc (Nat.le_refl _) _⟩
        have K0 : Aside0 (W0.heap[w.heap.size]? = some (.cells #[Value.int IntKind.i64 s, Value.int IntKind.i64 b, Value.slice A 0 c] 49 (0, 0))) := ⟨by rw [hW0]; exact heap_alloc_new w _⟩
        clear hW0
        have d0 : W0.cell? ⟨w.heap.size, 0, none⟩ = some (.int .i64 s) := blk_cell K0.out 0
        have d1 : W0.cell? ⟨w.heap.size, 1, none⟩ = some (.int .i64 b) := blk_cell K0.out 1
        have d2 : W0.cell? ⟨w.heap.size, 2, none⟩ = some (.slice A 0 c) := blk_cell K0.out 2
        go_region_held3 (fun w' => w'.cell? ⟨w.heap.size, 0, none⟩ = some (.int .i64 s) ∧ w'.cell? ⟨w.heap.size, 1, none⟩ = some (.int .i64 b) ∧ w'.cell? ⟨w.heap.size, 2, none⟩ = some (.slice A 0 c))
          (first | exact ⟨e0, e1, e2⟩ | exact ⟨d0, d1, d2⟩ | go_keep)
          (first | (go_at_call 45; refine (HCL.out _ (below_drew HB0.out) 0 HN.out).mono ?_; rintro e w1 ⟨v, rfl, HO, HB1⟩; obtain ⟨A3, c3, rfl⟩ := Kd.R_slice HO; have e0 := pw_cell_below HB1 (show W0.drew.cell? _ = some _ from d0); have e1 := pw_cell_below HB1 (show W0.drew.cell? _ = some _ from d1); have e2 := pw_cell_below HB1 (show W0.drew.cell? _ = some _ from d2)))
        all_goals go_wp2
        go_ret2
        refine ⟨⟨w1.heap.size, A3, c3, rfl, ⟨heap_alloc_new w1 _, Kd.C_below (Kd.R_reads' HO).2.2 ((Below.refl _ w1).alloc (Nat.le_refl _) _), (Kd.R_reads' HO).2.1, fun x hx => ?_⟩, ?_, fun x hx => ?_, ?_⟩⟩
        · subst hx; have := Kd.R_lt HO x.block rfl; omega
        · have := HB1.size; have := HB0.out.size; exact Nat.le_trans HB0.out.size HB1.size
        · subst hx; have := Kd.R_base HO x.block rfl; exact Nat.le_trans HB0.out.size this
        · exact ((below_drew HB0.out).trans (HB1.mono HB0.out.size)).alloc (Nat.le_trans HB0.out.size HB1.size) _
    · have h5' : ¬ (-1 : Int) ≥ 0 := by decide
      clear h5
      go_enter Tryd.func29, Tryd.ntmps29
      go_wp2_with (go_at_call 18; with_reducible refine (CO.out _).mono ?_; rintro e W0 ⟨rfl, hb, hk⟩; have HB0 := Aside0.mk hb; have K0 := Aside0.mk hk; have k0 := blk_cell hk 0; have k1 := blk_cell hk 1; have k2 := blk_cell hk 2; clear hb hk)
      clear k0 k1 k2
      have d0 : W0.cell? ⟨w.heap.size, 0, none⟩ = some (.int .i64 s) := blk_cell K0.out 0
      have d1 : W0.cell? ⟨w.heap.size, 1, none⟩ = some (.int .i64 (-1)) := blk_cell K0.out 1
      have d2 : W0.cell? ⟨w.heap.size, 2, none⟩ = some (.slice A n c) := blk_cell K0.out 2
      go_region_held3 (fun w' => w'.cell? ⟨w.heap.size, 0, none⟩ = some (.int .i64 s) ∧ w'.cell? ⟨w.heap.size, 1, none⟩ = some (.int .i64 (-1)) ∧ w'.cell? ⟨w.heap.size, 2, none⟩ = some (.slice A n c))
        (first | exact ⟨e0, e1, e2⟩ | exact ⟨d0, d1, d2⟩ | go_keep)
        (first | (go_at_call 45; refine (HCL.out _ (below_drew HB0.out) n HN.out).mono ?_; rintro e w1 ⟨v, rfl, HO, HB1⟩; obtain ⟨A3, c3, rfl⟩ := Kd.R_slice HO; have e0 := pw_cell_below HB1 (show W0.drew.cell? _ = some _ from d0); have e1 := pw_cell_below HB1 (show W0.drew.cell? _ = some _ from d1); have e2 := pw_cell_below HB1 (show W0.drew.cell? _ = some _ from d2)))
      all_goals go_wp2
      go_ret2
      refine ⟨⟨w1.heap.size, A3, c3, rfl, ⟨heap_alloc_new w1 _, Kd.C_below (Kd.R_reads' HO).2.2 ((Below.refl _ w1).alloc (Nat.le_refl _) _), (Kd.R_reads' HO).2.1, fun x hx => ?_⟩, ?_, fun x hx => ?_, ?_⟩⟩
      · subst hx; have := Kd.R_lt HO x.block rfl; omega
      · have := HB1.size; have := HB0.out.size; exact Nat.le_trans HB0.out.size HB1.size
      · subst hx; have := Kd.R_base HO x.block rfl; exact Nat.le_trans HB0.out.size this
      · exact ((below_drew HB0.out).trans (HB1.mono HB0.out.size)).alloc (Nat.le_trans HB0.out.size HB1.size) _
  exact hkey.mono fun _ _ h => h.out
end Go.Proofs.YtnaaimnmphcilaaDoor.Hand
