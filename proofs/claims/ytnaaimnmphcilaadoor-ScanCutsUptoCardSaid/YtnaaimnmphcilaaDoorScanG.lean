/- awake of the laws over scans. -/
import Derived.Test.YtnaaimnmphcilaaDoorScanE
namespace Go.Proofs.YtnaaimnmphcilaaDoor.Hand
open Go.RowKit Go.Proofs.YtnaaimnmphcilaaDoorW.PrintWords Go.Proofs.YtnaaimnmphcilaaDoorW.PrintLast Go.Proofs.YtnaaimnmphcilaaDoorW.PrintMore
set_option linter.unusedVariables false
set_option linter.unusedSimpArgs false

theorem lit_C {w : World} {h : Nat} {k : IntKind} {l : List Int} {t : TypeId} {f : Nat × Nat} (hb : w.heap[h]? = some (.cells (l.map (Value.int k)).toArray t f)) (hl : l.length ≤ 9223372036854775807) : Kd.C (Kd.int k) w (some ⟨h, 0, none⟩) l.length l := by
  refine Kd.C_of_reads (d := (0 : Int)) (h1 := fun _ => rfl) ⟨rfl, hl, fun _ => ⟨_, rfl, fun j hj => ?_⟩⟩
  rw [add_plain, cell_of_row w h j _ t f hb]
  simp [List.getD, hj]

theorem feed_two : feedB 0 (-1) [] [65, 195] = -1 ∧ feedP (-1) [] [65, 195] = [195] ∧ endI (0 + 2) (-1) [195] = 1 ∧ openI [224, 160] = true ∧ openI [224, 159] = false := by decide +kernel

theorem Sc.two {w : World} {g : Nat} {s b : Int} {A : Option Addr} {c : Nat} {l : List Int} (h : Sc w g s b A c l) (o : Obj) : Sc (w.alloc o) g s b A c l := h.below ((Below.refl _ w).alloc (Nat.le_refl _) o)

theorem feed_awake {W : World} {N : Nat} (H : Sc W N 0 (-1) none 0 []) (hT : Tabs W) (hN : 2 ≤ N) :
    Calls Tryd.prog 23 #[.pointer (some ⟨N, 0, none⟩), .slice (some ⟨W.heap.size, 0, none⟩) 2 2] (W.alloc (.cells #[.int .u8 65, .int .u8 195] 5)) fun e w' => e = .returned (.int .i64 0) ∧
      Aside0 (∃ A2 c2, Sc w' N 2 (-1) A2 c2 [195]) ∧ Aside0 (Below N W w') := by
  obtain ⟨v1, v2, v3, v4, v5⟩ := feed_two
  have hk := heap_alloc_new W (.cells #[.int .u8 65, .int .u8 195] 5)
  have hb := (Below.refl W.heap.size W).alloc (Nat.le_refl _) (.cells #[.int .u8 65, .int .u8 195] 5)
  have hlt := H.lt
  have := feed_calls (H.two (.cells #[.int .u8 65, .int .u8 195] 5)) (some ⟨W.heap.size, 0, none⟩) 2 [65, 195] (lit_C (l := [65, 195]) hk (by decide)) (by decide) (fun _ x hx => by injection hx with hx; subst hx; show W.heap.size ≠ N; omega) (hT.below hb) hN rfl (by decide) (by decide) (by decide) (by decide)
  refine this.mono ?_
  rintro e w' ⟨rfl, h⟩
  rw [v1, v2] at h
  obtain ⟨A2, c2, h2, _⟩ := h.sc
  exact ⟨rfl, ⟨A2, c2, h2⟩, ⟨(hb.mono (by omega)).trans h.turned.below⟩⟩

theorem open_lit {W : World} (hT : Tabs W) (x y : Int) (hB : allB [x, y] = true) :
    Calls Tryd.prog 18 #[.slice (some ⟨W.heap.size, 0, none⟩) 2 2] (W.alloc (.cells #[.int .u8 x, .int .u8 y] 5)) fun e w' => e = .returned (.bool (openI [x, y])) ∧ Below W.heap.size W w' := by
  have hk := heap_alloc_new W (.cells #[.int .u8 x, .int .u8 y] 5)
  have hb := (Below.refl W.heap.size W).alloc (Nat.le_refl _) (.cells #[.int .u8 x, .int .u8 y] 5)
  refine (open_calls (some ⟨W.heap.size, 0, none⟩) 2 [x, y] _ (lit_C (l := [x, y]) hk (by simp)) (hT.below hb) hB).mono ?_
  rintro e w' ⟨rfl, h⟩
  exact ⟨rfl, below_then hb hb.size h⟩

theorem field49 (x y : Int) (A : Option Addr) (n c : Nat) (W : World) : (Instr.field 49 (.agg #[.int .i64 x, .int .i64 y, .slice A n c]) 0).run Tryd.prog W = .ok (.int .i64 x) W ∧
    (Instr.field 49 (.agg #[.int .i64 x, .int .i64 y, .slice A n c]) 1).run Tryd.prog W = .ok (.int .i64 y) W ∧ (Instr.field 49 (.agg #[.int .i64 x, .int .i64 y, .slice A n c]) 2).run Tryd.prog W = .ok (.slice A n c) W := by
  unfold Instr.field asAgg
  refine ⟨?_, ?_, ?_⟩ <;> simp [go_sem]

theorem str195 : strOfNums [195] = ⟨#[195]⟩ := by decide +kernel

set_option maxHeartbeats 2000000 in
theorem awake_calls (w : World) (hT : Tabs w) : Calls Tryd.prog 20 #[] w fun e w' => e = .returned (.bool true) ∧ Below w.heap.size w w' := by
  have cN := new_calls w
  obtain ⟨v1, v2, v3, v4, v5⟩ := feed_two
  have v3' : endI 2 (-1) [195] = 1 := v3
  have HT := Aside0.mk hT
  have hg2 := hT.two
  have hconv : ∀ W A c, Kd.C (Kd.int .u8) W A ([195] : List Int).length [195] → (convert 23 9 (.slice A 1 c)).run Tryd.prog W = .ok (.string ⟨#[195]⟩) W := fun W A c h => by
    rw [← str195]; exact Kd.C_string (P := Tryd.prog) (A := A) (c := c) Tryd.underlying23 Tryd.underlying5 Tryd.underlying9 h
  have HCV := Aside0.mk hconv
  have V4 := Aside0.mk v4
  have V5 := Aside0.mk v5
  have V3 := Aside0.mk v3'
  clear hT v1 v2 v3 v4 v5 v3' hconv
  go_enter Tryd.func20, Tryd.ntmps20
  go_wp2_with (first | (go_at_call 21; go_must (refine cN.mono ?_); rintro e w1 ⟨rfl, hs1, hb1⟩; have HS1 := Aside0.mk hs1; have HB1 := Aside0.mk hb1; have HT1 := Aside0.mk (HT.out.below hb1); clear hs1 hb1) | (go_at_call 23; go_must (refine (feed_awake HS1.out HT1.out hg2).mono ?_); rintro e w2 ⟨rfl, hs2, hb2⟩; obtain ⟨A2, c2, hs3⟩ := hs2.out; have HS2 := Aside0.mk hs3; have HB2 := Aside0.mk (HB1.out.trans hb2.out); clear hs2 hs3 hb2) | (go_at_call 25; go_must (refine (scan_fault HS2.out).mono ?_); rintro e w3 ⟨rfl, hb3⟩; have HS3 := Aside0.mk (HS2.out.below hb3); have HB3 := Aside0.mk (HB2.out.trans (hb3.mono HB2.out.size)); clear hb3) | (go_at_call 26; go_must (refine (scan_end HS3.out).mono ?_); rintro e w4 ⟨rfl, hb4⟩; rw [V3.out]; have HS4 := Aside0.mk (HS3.out.below hb4); have HB4 := Aside0.mk (HB3.out.trans (hb4.mono HB3.out.size)); clear hb4) | (go_at_call 27; go_must (refine (scan_state HS4.out (by decide)).mono ?_); rintro e w5 ⟨v, rfl, hr5, hb5⟩; obtain ⟨A5, c5, rfl⟩ := Kd.R_slice hr5; have hfd := (field49 2 (-1) A5 1 c5 w5).2.2; have hcv := HCV.out w5 A5 c5 (Kd.R_reads' hr5).2.2; have HB5 := Aside0.mk (HB4.out.trans (hb5.mono HB4.out.size)); have HT5 := Aside0.mk (HT.out.below HB5.out); clear hb5 hr5) | (go_at_call 18; first | (with_reducible refine (open_lit HT5.out 224 160 rfl).mono ?_; rintro e w6 ⟨rfl, hb6⟩; rw [V4.out]; have HB6 := Aside0.mk (HB5.out.trans (hb6.mono HB5.out.size)); have HT6 := Aside0.mk (HT.out.below HB6.out); clear hb6) | (with_reducible refine (open_lit HT6.out 224 159 rfl).mono ?_; rintro e w7 ⟨rfl, hb7⟩; rw [V5.out]; have HB7 := Aside0.mk (HB6.out.trans (hb7.mono HB6.out.size)); clear hb7)))
  go_ret
  exact ⟨rfl, HB7.out⟩
end Go.Proofs.YtnaaimnmphcilaaDoor.Hand
