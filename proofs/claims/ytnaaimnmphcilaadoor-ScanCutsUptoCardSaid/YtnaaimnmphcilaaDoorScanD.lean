/- What a scan's look does. -/
import Derived.Test.YtnaaimnmphcilaaDoorScanC
import Derived.Test.YtnaaimnmphcilaaDoorScanF
namespace Go.Proofs.YtnaaimnmphcilaaDoor.Hand
open Go.RowKit Go.Proofs.YtnaaimnmphcilaaDoorW.PrintWords Go.Proofs.YtnaaimnmphcilaaDoorW.PrintLast Go.Proofs.YtnaaimnmphcilaaDoorW.PrintMore
set_option linter.unusedVariables false
set_option linter.unusedSimpArgs false

theorem cut23 (A : Option Addr) (n c m : Nat) (hm : m ≤ n) :
    ∃ A2 : Option Addr, (∀ W : World, (Instr.slice 23 (.slice A n c) (some (.int .i64 (m : Int))) none none).run Tryd.prog W = .ok (.slice A2 (n - m) (c - m)) W) ∧
      (∀ x, A2 = some x → ∃ y, A = some y ∧ x.block = y.block) ∧
      ∀ (w : World) (l : List Int), l.length = n → n ≤ c → Kd.C (Kd.int .u8) w A l.length l → Kd.C (Kd.int .u8) w A2 (l.drop m).length (l.drop m) := by
  refine ⟨if c = m then A else A.map (·.add m), fun W => ?_, fun x hx => ?_, fun w l hl hc h => ?_⟩
  · obtain ⟨i0, hi, hz0, hz1, hz2⟩ := info_parts info5
    have hel : Tryd.prog.elem 23 = 5 := by simp [Program.elem, Tryd.underlying23]
    have hu : Tryd.prog.underlying 23 = some (.slice (Tryd.prog.elem 23)) := by rw [hel]; exact Tryd.underlying23
    rw [run_slice_l W 23 A n c hu .i64 (m : Int) (Int.natCast_nonneg _) (by omega), hel]
    simp [sizeOf, typeInfo, hi, hz1, sliced, Result.andThen]
  · split at hx
    · exact ⟨x, hx, rfl⟩
    · cases A with
      | none => simp at hx
      | some y =>
        simp only [Option.map_some, Option.some.injEq] at hx
        exact ⟨y, rfl, by rw [← hx, add_block]⟩
  · have := Kd.C_drop (c := c) h (m := m) (by omega) (by omega)
    simpa [Kd.int, Kd.scalar] using this

theorem Tabs.keep {w w' : World} {B : Nat} (h : Tabs w) (hb : Below B w w') (hB : 2 ≤ B) : Tabs w' := by
  obtain ⟨h1, h2⟩ := h.out
  refine ⟨⟨fun i hi => ?_, fun i hi => ?_⟩⟩
  · exact (hb.cell (p := ⟨0, i, none⟩) (by show 0 < B; omega)).trans (h1 i hi)
  · exact ⟨(hb.cell (p := ⟨1, _, none⟩) (by show 1 < B; omega)).trans (h2 i hi).1, (hb.cell (p := ⟨1, _, none⟩) (by show 1 < B; omega)).trans (h2 i hi).2⟩
theorem Tabs.two {w : World} (h : Tabs w) : 2 ≤ w.heap.size := by
  have := (h.out.2 0 (by omega)).1
  have := World.block_lt_of_cell? w _ this
  exact this

def lookB (fr b : Int) (m : List Int) : Int := if faultI m < 0 then b else if openI (m.drop (faultI m).toNat) = true then b else wrap64 (fr + faultI m)
def lookP (m : List Int) : List Int := if faultI m < 0 then [] else if openI (m.drop (faultI m).toNat) = true then m.drop (faultI m).toNat else []

theorem Sc.pend {w : World} {g : Nat} {s b : Int} {A : Option Addr} {c : Nat} {l : List Int} (h : Sc w g s b A c l) {A' : Option Addr} {c' : Nat} {l' : List Int} (hr : Kd.C (Kd.int .u8) w A' l'.length l') (hc : l'.length ≤ c') (hap : ∀ x, A' = some x → x.block ≠ g) :
    Sc (w.setCell ⟨g, 2, none⟩ (.slice A' l'.length c')) g s b A' c' l' :=
  ⟨blk_set h.blk 2 _, C_keep hr ((Kept.refl w (· = g)).setCell (.inl rfl) _) hap, hc, hap⟩
theorem Sc.bad {w : World} {g : Nat} {s b : Int} {A : Option Addr} {c : Nat} {l : List Int} (h : Sc w g s b A c l) (b' : Int) : Sc (w.setCell ⟨g, 1, none⟩ (.int .i64 b')) g s b' A c l :=
  ⟨blk_set h.blk 1 _, C_keep h.came ((Kept.refl w (· = g)).setCell (.inl rfl) _) h.apart, h.cap, h.apart⟩
theorem Sc.seen {w : World} {g : Nat} {s b : Int} {A : Option Addr} {c : Nat} {l : List Int} (h : Sc w g s b A c l) (s' : Int) : Sc (w.setCell ⟨g, 0, none⟩ (.int .i64 s')) g s' b A c l :=
  ⟨blk_set h.blk 0 _, C_keep h.came ((Kept.refl w (· = g)).setCell (.inl rfl) _) h.apart, h.cap, h.apart⟩
theorem Sc.frozen {w : World} {g : Nat} {s b : Int} {A : Option Addr} {c : Nat} {l : List Int} (h : Sc w g s b A c l) :
    w.frozen? ⟨g, 0, none⟩ = false ∧ w.frozen? ⟨g, 1, none⟩ = false ∧ w.frozen? ⟨g, 2, none⟩ = false := ⟨blk_frozen h.blk 0, blk_frozen h.blk 1, blk_frozen h.blk 2⟩

/-- The world behind what a scan at g has been told: the scan alone has turned. -/
structure Turned (g : Nat) (w w' : World) : Prop where
  kept : Kept w w' (· = g)
  below : Below g w w'
theorem Turned.refl (g : Nat) (w : World) : Turned g w w := ⟨Kept.refl _ _, Below.refl _ _⟩
theorem Turned.then_below {g : Nat} {w w1 w2 : World} (h : Turned g w w1) (hb : Below w1.heap.size w1 w2) (hg : g ≤ w1.heap.size) : Turned g w w2 :=
  ⟨h.kept.below hb, h.below.trans (hb.mono hg)⟩
theorem Turned.set {g : Nat} {w w1 : World} (h : Turned g w w1) (j : Nat) (u : Value) : Turned g w (w1.setCell ⟨g, j, none⟩ u) :=
  ⟨h.kept.setCell (.inl rfl) _, h.below.setCell (Nat.le_refl _) _⟩
theorem Turned.then_ {g : Nat} {w w1 w2 : World} (h : Turned g w w1) (k : Turned g w1 w2) : Turned g w w2 :=
  ⟨h.kept.then_ k.kept (fun _ hk => .inl hk), h.below.trans k.below⟩

set_option maxHeartbeats 2000000 in
theorem look_calls {w : World} {g : Nat} {s b : Int} {A : Option Addr} {c : Nat} {l : List Int} (H : Sc w g s b A c l) (fr : Int) (A' : Option Addr) (c' : Nat) (m : List Int) (hr : Kd.C (Kd.int .u8) w A' m.length m) (hc : m.length ≤ c')
    (hap : ∀ x, A' = some x → x.block ≠ g) (hT : Tabs w) (hg : 2 ≤ g) (hB : allB m = true) :
    Calls Tryd.prog 42 #[.pointer (some ⟨g, 0, none⟩), .int .i64 fr, .slice A' m.length c'] w fun e w' => e = .returned (.tuple #[]) ∧
      (∃ A2 c2, Sc w' g s (lookB fr b m) A2 c2 (lookP m) ∧ ∀ x, A2 = some x → ∃ y, A' = some y ∧ x.block = y.block) ∧ Turned g w w' := by
  have HW1 := H.pend (A' := none) (c' := 0) (l' := []) (Kd.C_nil _ _) (Nat.le_refl _) (fun _ h => by cases h)
  have t1 : Turned g w (w.setCell ⟨g, 2, none⟩ (.slice none 0 0)) := (Turned.refl g w).set 2 _
  have hr1 := C_keep hr t1.kept (fun x hx he => hap x hx he)
  have hT1 : Tabs (w.setCell ⟨g, 2, none⟩ (.slice none 0 0)) := hT.keep t1.below hg
  have cF := ScanF.fault_calls A' c' m (w.setCell ⟨g, 2, none⟩ (.slice none 0 0)) hr1 hc hT1 hB
  have hft := faultI_valid hB
  obtain ⟨k0, k1, k2⟩ := H.cells
  obtain ⟨f0, f1, f2⟩ := H.frozen
  have HS1 := Aside0.mk HW1
  have T1 := Aside0.mk t1
  have HR1 := Aside0.mk hr1
  have HT1 := Aside0.mk hT1
  have HAP := Aside0.mk hap
  clear H HW1 t1 hr1 hT1 hT hr hap
  have hlt : ∀ {W : World} {s b : Int} {A : Option Addr} {c : Nat} {l : List Int}, Sc W g s b A c l → g ≤ W.heap.size := fun h => Nat.le_of_lt h.lt
  by_cases hf : faultI m < 0
  · have e1 : lookB fr b m = b := by unfold lookB; rw [if_pos hf]
    have e2 : lookP m = [] := by unfold lookP; rw [if_pos hf]
    rw [e1, e2]
    have HLT := Aside0.mk @hlt
    clear e1 e2 hft hB hlt
    generalize faultI m = at' at *
    generalize m.length = n at *
    go_enter Tryd.func42, Tryd.ntmps42
    go_wp2_with (go_at_call 15; refine cF.mono ?_; rintro e w2 ⟨rfl, hb2⟩)
    refine bodyPost_end (v := .tuple #[]) (by simp [results, Tryd.results42, go_sem]) rfl ⟨rfl, ⟨none, 0, HS1.out.below hb2, fun _ h => by cases h⟩, T1.out.then_below hb2 (HLT.out HS1.out)⟩
  · have hn0 : 0 ≤ faultI m := by omega
    have hlt2 : faultI m < m.length := by rcases hft with h | h; exact absurd h.2 (by omega); exact h.2.2
    obtain ⟨kk, hkk⟩ : ∃ kk : Nat, faultI m = (kk : Int) := ⟨(faultI m).toNat, by omega⟩
    have hkm : kk ≤ m.length := by omega
    obtain ⟨A2, hcut, hAb, hC⟩ := cut23 A' m.length c' kk hkm
    have hCo : ∀ W, Below (w.setCell ⟨g, 2, none⟩ (.slice none 0 0)).heap.size (w.setCell ⟨g, 2, none⟩ (.slice none 0 0)) W →
        Calls Tryd.prog 18 #[.slice A2 (m.length - kk) (c' - kk)] W fun e w' => e = .returned (.bool (openI (m.drop kk))) ∧ Below W.heap.size W w' := fun W hb => by
      have := open_calls A2 (c' - kk) (m.drop kk) W (Kd.C_below (hC _ m rfl hc HR1.out) hb) (HT1.out.below hb) (allB_drop hB kk)
      rwa [List.length_drop] at this
    have HCA : ∀ W, Below (w.setCell ⟨g, 2, none⟩ (.slice none 0 0)).heap.size (w.setCell ⟨g, 2, none⟩ (.slice none 0 0)) W → Kd.C (Kd.int .u8) W A2 (m.drop kk).length (m.drop kk) := fun W hb => Kd.C_below (hC _ m rfl hc HR1.out) hb
    have e1 : lookB fr b m = if openI (m.drop kk) = true then b else wrap64 (fr + (kk : Int)) := by unfold lookB; rw [if_neg hf, hkk, Int.toNat_natCast]
    have e2 : lookP m = if openI (m.drop kk) = true then m.drop kk else [] := by unfold lookP; rw [if_neg hf, hkk, Int.toNat_natCast]
    rw [e1, e2]
    rw [hkk] at cF
    have hcap : (m.drop kk).length ≤ c' - kk := by rw [List.length_drop]; omega
    have hdl : (m.drop kk).length = m.length - kk := List.length_drop
    have HAP2 : Aside0 (∀ x, A2 = some x → x.block ≠ g) := ⟨fun x hx => by obtain ⟨y, hy, e⟩ := hAb x hx; rw [e]; exact HAP.out y hy⟩
    have HLT := Aside0.mk @hlt
    have HCO := Aside0.mk hCo
    have HCAA := Aside0.mk HCA
    have HAB := Aside0.mk hAb
    have HCAP := Aside0.mk hcap
    have HDL := Aside0.mk hdl
    have hki : (0 : Int) ≤ (kk : Int) := by omega
    have hkmi : (kk : Int) ≤ (m.length : Int) := by omega
    clear e1 e2 hft hB hlt hCo HCA hAb hcap hdl hC hkk hf hn0 hlt2 hkm hc
    generalize m.length = n at *
    generalize hdd : m.drop kk = d at *
    by_cases ho : openI d = true
    · rw [if_pos ho, if_pos ho]
      rw [ho] at HCO
      clear ho
      go_enter Tryd.func42, Tryd.ntmps42
      go_wp2_with (first | (go_at_call 15; refine cF.mono ?_; rintro e w2 ⟨rfl, hb2⟩) | (go_at_call 18; refine (HCO.out _ hb2).mono ?_; rintro e w3 ⟨rfl, hb3⟩; have HB2 := Aside0.mk hb2; have HB3 := Aside0.mk hb3; have HS3 := Aside0.mk ((HS1.out.below hb2).below hb3); obtain ⟨q0, q1, q2⟩ := HS3.out.cells; obtain ⟨f30, f31, f32⟩ := HS3.out.frozen; clear hb2 hb3))
      have hr3 := Kd.C_below (HCAA.out _ HB2.out) HB3.out
      have HS4 := HS3.out.pend hr3 HCAP.out HAP2.out
      rw [HDL.out] at HS4
      have t3 := ((T1.out.then_below HB2.out (HLT.out HS1.out)).then_below HB3.out (HLT.out (HS1.out.below HB2.out)))
      refine bodyPost_end (v := .tuple #[]) (by simp [results, Tryd.results42, go_sem]) rfl ⟨rfl, ⟨A2, c' - kk, HS4, HAB.out⟩, t3.set 2 _⟩
    · rw [if_neg ho, if_neg ho]
      rw [Bool.not_eq_true] at ho
      rw [ho] at HCO
      clear ho
      go_enter Tryd.func42, Tryd.ntmps42
      go_wp2_with (first | (go_at_call 15; refine cF.mono ?_; rintro e w2 ⟨rfl, hb2⟩) | (go_at_call 18; refine (HCO.out _ hb2).mono ?_; rintro e w3 ⟨rfl, hb3⟩; have HB2 := Aside0.mk hb2; have HB3 := Aside0.mk hb3; have HS3 := Aside0.mk ((HS1.out.below hb2).below hb3); obtain ⟨q0, q1, q2⟩ := HS3.out.cells; obtain ⟨f30, f31, f32⟩ := HS3.out.frozen; clear hb2 hb3))
      have HS4 := HS3.out.bad (wrap64 (fr + (kk : Int)))
      have t3 := ((T1.out.then_below HB2.out (HLT.out HS1.out)).then_below HB3.out (HLT.out (HS1.out.below HB2.out)))
      refine bodyPost_end (v := .tuple #[]) (by simp [results, Tryd.results42, go_sem]) rfl ⟨rfl, ⟨none, 0, HS4, fun _ h => by cases h⟩, t3.set 1 _⟩
end Go.Proofs.YtnaaimnmphcilaaDoor.Hand
