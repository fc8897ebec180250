/- What a scan's Feed does. -/
import Derived.Test.YtnaaimnmphcilaaDoorScanD
namespace Go.Proofs.YtnaaimnmphcilaaDoor.Hand
open Go.RowKit Go.Proofs.YtnaaimnmphcilaaDoorW.PrintWords Go.Proofs.YtnaaimnmphcilaaDoorW.PrintLast Go.Proofs.YtnaaimnmphcilaaDoorW.PrintMore
set_option linter.unusedVariables false
set_option linter.unusedSimpArgs false

def feedB (s b : Int) (l m : List Int) : Int := if b ≥ 0 then b else lookB (s - (l.length : Int)) b (l ++ m)
def feedP (b : Int) (l m : List Int) : List Int := if b ≥ 0 then l else lookP (l ++ m)

theorem feed_nil (v : Value) (w : World) : Calls Tryd.prog 23 #[.pointer none, v] w fun e w' => e = .returned (.int .i64 1) ∧ Below w.heap.size w w' := by
  go_enter Tryd.func23, Tryd.ntmps23
  go_wp2
  go_ret
  exact ⟨rfl, Below.refl _ _⟩

theorem feed_much {w : World} {g : Nat} {s b : Int} {A : Option Addr} {c : Nat} {l : List Int} (H : Sc w g s b A c l) (A' : Option Addr) (c' n : Nat) (h0 : 0 ≤ s) (h1 : s ≤ 1099511627776) (hm : (n : Int) > 1099511627776 - s) :
    Calls Tryd.prog 23 #[.pointer (some ⟨g, 0, none⟩), .slice A' n c'] w fun e w' => e = .returned (.int .i64 13) ∧ Below w.heap.size w w' := by
  obtain ⟨k0, k1, k2⟩ := H.cells
  have hw : wrap64 (1099511627776 - s) = 1099511627776 - s := by unfold wrap64; omega
  go_enter Tryd.func23, Tryd.ntmps23
  go_wp2
  go_ret
  exact ⟨rfl, Below.refl _ _⟩

theorem concat_new {W : World} {g : Nat} {s b : Int} {A : Option Addr} {c : Nat} {l : List Int} (H : Sc W g s b A c l) {A' : Option Addr} {c' : Nat} {m : List Int} (hr : Kd.C (Kd.int .u8) W A' m.length m) (hl : l.length + m.length ≤ 140737488355328) :
    Calls Tryd.prog 43 #[.slice (some ⟨W.heap.size, 0, none⟩) 2 2] (W.alloc (.cells #[.slice A l.length c, .slice A' m.length c'] 23)) fun e w' =>
      ∃ A3 n3 c3, e = .returned (.slice A3 n3 c3) ∧ n3 = (l ++ m).length ∧ (l ++ m).length ≤ c3 ∧ Kd.C (Kd.int .u8) w' A3 (l ++ m).length (l ++ m) ∧ (∀ x, A3 = some x → W.heap.size < x.block) ∧ Below W.heap.size W w' := by
  have hb := (Below.refl W.heap.size W).alloc (Nat.le_refl _) (.cells #[.slice A l.length c, .slice A' m.length c'] 23)
  have hk := heap_alloc_new W (.cells #[.slice A l.length c, .slice A' m.length c'] 23)
  have hs : (W.alloc (.cells #[.slice A l.length c, .slice A' m.length c'] 23)).heap.size = W.heap.size + 1 := Array.size_push _
  refine (concat_calls W.heap.size A c l A' c' m _ (blk_cell hk 0) (blk_cell hk 1) (Kd.C_below H.came hb) (Kd.C_below hr hb) hl).mono ?_
  rintro e w' ⟨v, rfl, HO, HB⟩
  obtain ⟨A3, c3, rfl⟩ := Kd.R_slice HO
  refine ⟨A3, _, c3, rfl, rfl, (Kd.R_reads' HO).2.1, (Kd.R_reads' HO).2.2, fun x hx => ?_, hb.trans (HB.mono (by omega))⟩
  subst hx
  have := Kd.R_base HO x.block rfl
  omega

theorem look_at {w : World} {g : Nat} {s b : Int} {A : Option Addr} {c : Nat} {l : List Int} (H : Sc w g s b A c l) (fr : Int) (A' : Option Addr) (c' : Nat) (m : List Int) (n : Nat) (hn : n = m.length) (hr : Kd.C (Kd.int .u8) w A' m.length m) (hc : m.length ≤ c')
    (hap : ∀ x, A' = some x → x.block ≠ g) (hT : Tabs w) (hg : 2 ≤ g) (hB : allB m = true) :
    Calls Tryd.prog 42 #[.pointer (some ⟨g, 0, none⟩), .int .i64 fr, .slice A' n c'] w fun e w' => e = .returned (.tuple #[]) ∧
      Aside0 ((∃ A2 c2, Sc w' g s (lookB fr b m) A2 c2 (lookP m) ∧ ∀ x, A2 = some x → ∃ y, A' = some y ∧ x.block = y.block) ∧ Turned g w w') := by
  subst hn
  exact (look_calls H fr A' c' m hr hc hap hT hg hB).mono fun e w' h => ⟨h.1, ⟨h.2⟩⟩
/-- The scan at g has come to a new state; what is pending lies where it lay, or in new memory. -/
structure Fed (w w' : World) (g : Nat) (s b : Int) (A : Option Addr) (l : List Int) : Prop where
  sc : ∃ A2 c2, Sc w' g s b A2 c2 l ∧ ∀ x, A2 = some x → A = some x ∨ w.heap.size ≤ x.block
  turned : Turned g w w'

set_option maxHeartbeats 800000 in
theorem feed_calls {w : World} {g : Nat} {s b : Int} {A : Option Addr} {c : Nat} {l : List Int} (H : Sc w g s b A c l) (A' : Option Addr) (c' : Nat) (m : List Int) (hr : Kd.C (Kd.int .u8) w A' m.length m) (hc : m.length ≤ c')
    (hap : m ≠ [] → ∀ x, A' = some x → x.block ≠ g) (hT : Tabs w) (hg : 2 ≤ g) (hBl : allB l = true) (hB : allB m = true) (h0 : 0 ≤ s) (hl : l.length ≤ 140737488355) (h1 : s + (m.length : Int) ≤ 1099511627776) :
    Calls Tryd.prog 23 #[.pointer (some ⟨g, 0, none⟩), .slice A' m.length c'] w fun e w' => e = .returned (.int .i64 0) ∧ Fed w w' g (s + (m.length : Int)) (feedB s b l m) A (feedP b l m) := by
  obtain ⟨k0, k1, k2⟩ := H.cells
  obtain ⟨f0, f1, f2⟩ := H.frozen
  have hw : wrap64 (1099511627776 - s) = 1099511627776 - s := by unfold wrap64; omega
  have hw2 : wrap64 (s + (m.length : Int)) = s + (m.length : Int) := by unfold wrap64; omega
  have hw3 : wrap64 (s - (l.length : Int)) = s - (l.length : Int) := by unfold wrap64; omega
  have hn : ¬ (m.length : Int) > 1099511627776 - s := by omega
  have hglt : g ≤ w.heap.size := Nat.le_of_lt H.lt
  by_cases hbad : b ≥ 0
  · have e1 : feedB s b l m = b := by unfold feedB; rw [if_pos hbad]
    have e2 : feedP b l m = l := by unfold feedP; rw [if_pos hbad]
    rw [e1, e2]
    have HH := Aside0.mk H
    clear e1 e2 hr hc hap hT hBl hB H
    have HW2 := Aside0.mk hw2
    clear hw2
    generalize m.length = n at *
    have HLN : Aside0 (∃ ll, ll = l.length) := ⟨_, rfl⟩
    go_enter Tryd.func23, Tryd.ntmps23
    go_wp2_with (first | go_quiet (fail))
    go_ret
    have hS := (HH.out.below (pw_below_drewN (Below.refl _ _) nq)).seen (wrap64 (s + (n : Int)))
    have ht := ((Turned.refl g w).then_below (pw_below_drewN (Below.refl _ _) nq) hglt).set 0 (.int .i64 (wrap64 (s + (n : Int))))
    rw [HW2.out] at hS ht
    exact ⟨rfl, ⟨A, c, hS, fun x hx => .inl hx⟩, ht⟩
  · have e1 : feedB s b l m = lookB (s - (l.length : Int)) b (l ++ m) := by unfold feedB; rw [if_neg hbad]
    have e2 : feedP b l m = lookP (l ++ m) := by unfold feedP; rw [if_neg hbad]
    rw [e1, e2]
    have HT2 : ∀ nq, Aside0 (Turned g w ((w.drewN nq).setCell ⟨g, 0, none⟩ (.int .i64 (s + (m.length : Int))))) := fun nq => ⟨((Turned.refl g w).then_below (pw_below_drewN (Below.refl _ _) nq) hglt).set 0 _⟩
    have HS2 : ∀ nq, Aside0 (Sc ((w.drewN nq).setCell ⟨g, 0, none⟩ (.int .i64 (s + (m.length : Int)))) g (s + (m.length : Int)) b A c l) := fun nq => ⟨(H.below (pw_below_drewN (Below.refl _ _) nq)).seen _⟩
    have HC2 : ∀ nq, Aside0 (Kd.C (Kd.int .u8) ((w.drewN nq).setCell ⟨g, 0, none⟩ (.int .i64 (s + (m.length : Int)))) A' m.length m) := fun nq => ⟨by
        by_cases hm0 : m = []
        · rw [hm0]; exact ⟨rfl, by simp, fun h => absurd h (Nat.lt_irrefl 0)⟩
        · exact C_keep hr (HT2 nq).out.kept (fun x hx he => hap hm0 x hx he)⟩
    have HLM : Aside0 (l.length + m.length ≤ 140737488355328) := ⟨by omega⟩
    have HTB := Aside0.mk hT
    have HAB : Aside0 (allB (l ++ m) = true) := ⟨by rw [allB_append, hBl, hB]; rfl⟩
    have HG := Aside0.mk hg
    have HGL := Aside0.mk hglt
    have CC : ∀ nq, Aside0 (Calls Tryd.prog 43 #[.slice (some ⟨w.heap.size, 0, none⟩) 2 2] (((w.drewN nq).setCell ⟨g, 0, none⟩ (.int .i64 (s + (m.length : Int)))).alloc (.cells #[.slice A l.length c, .slice A' m.length c'] 23)) fun e w' =>
      ∃ A3 n3 c3, e = .returned (.slice A3 n3 c3) ∧ n3 = (l ++ m).length ∧ (l ++ m).length ≤ c3 ∧ Kd.C (Kd.int .u8) w' A3 (l ++ m).length (l ++ m) ∧ (∀ x, A3 = some x → w.heap.size < x.block) ∧ Below w.heap.size ((w.drewN nq).setCell ⟨g, 0, none⟩ (.int .i64 (s + (m.length : Int)))) w') := fun nq => ⟨by
        have hsz : ((w.drewN nq).setCell ⟨g, 0, none⟩ (.int .i64 (s + (m.length : Int)))).heap.size = w.heap.size := by simp [World.setCell]
        have := concat_new (c' := c') (HS2 nq).out (HC2 nq).out HLM.out
        rwa [hsz] at this⟩
    have HSZ : ∀ {nq}, Aside0 (((w.drewN nq).setCell ⟨g, 0, none⟩ (.int .i64 (s + (m.length : Int)))).heap.size = w.heap.size) := fun {nq} => ⟨by simp [World.setCell]⟩
    clear hr hap hT hBl hB hg hl hglt e1 e2 h0 hc H
    have HS4 : ∀ {nq w4}, Below w.heap.size ((w.drewN nq).setCell ⟨g, 0, none⟩ (.int .i64 (s + (m.length : Int)))) w4 → Aside0 (Sc w4 g (s + (m.length : Int)) b A c l) := fun {nq w4} hb => ⟨(HS2 nq).out.below (by rw [HSZ.out]; exact hb)⟩
    have HN := Aside0.mk hn
    have hbl : b < 0 := by omega
    clear hbad
    generalize l.length = p at *
    generalize m.length = n at *
    go_enter Tryd.func23, Tryd.ntmps23
    go_wp2_with (first | go_quiet (fail) | (go_at_call 43; refine (CC nq).out.mono ?_; rintro e w4 ⟨A3, n3, c3, rfl, hn3, hc3, hr3, ha3, hb4⟩; have HN3 := Aside0.mk hn3; have HC3 := Aside0.mk hc3; have HR3 := Aside0.mk hr3; have HA3 := Aside0.mk ha3; have HB4 := Aside0.mk hb4; clear hn3 hc3 hr3 ha3 hb4) | (go_at_call 42; go_must (refine (look_at (HS4 (nq := nq) HB4.out).out _ A3 c3 (l ++ m) n3 HN3.out HR3.out HC3.out ?LP ?LT HG.out HAB.out).mono ?_); (case LP => intro x hx; have := HA3.out x hx; have := HGL.out; omega); (case LT => exact HTB.out.keep ((HT2 nq).out.below.trans (HB4.out.mono HGL.out)) HG.out); rintro e w5 ⟨rfl, h5⟩))
    go_ret
    obtain ⟨⟨A2, c2, hs5, ha5⟩, ht5⟩ := h5.out
    refine ⟨rfl, ⟨A2, c2, hs5, fun x hx => ?_⟩, ?_⟩
    · obtain ⟨y, hy, e⟩ := ha5 x hx
      have := HA3.out y hy
      exact .inr (by omega)
    · exact ((HT2 nq).out.then_below (by rw [HSZ.out]; exact HB4.out) (by rw [HSZ.out]; exact HGL.out)).then_ ht5
end Go.Proofs.YtnaaimnmphcilaaDoor.Hand
