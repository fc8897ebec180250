/- Scans, by the reference, and the call of ScanFeeds. -/
import Derived.Test.YtnaaimnmphcilaaDoorProg
import Derived.Below
import Derived.Deep.Draws
import Derived.Deep.AppendLies
import Derived.Maps.AppendAt
import Derived.OwnWalk
import Derived.Laws.BytesArg
import Derived.Laws.MakeOwn
import Derived.Laws.OwnMore
import Derived.Deep.OwnRows
import Derived.Tactics
import Derived.Lib.ConvBytes
import Derived.Laws.Slices
import Derived.WalkKit
import Derived.KernelRfl
import Derived.RowKit3
import Derived.Deep.LoopGhost
import Derived.Deep.QuietTactic
import Derived.BigQuiet
import Derived.WideLaws
import Derived.Deep.DeepCutAuto
import Derived.Deep.CutBlock
import Derived.Deep.RegionHeld3
import Derived.Laws.Rows
import Derived.Lib.AppendStr
import Derived.ArgAppend
import Derived.Laws.IdiomCopy
import Derived.OrdersHeld
import Derived.Laws.BitsLemmas
import Derived.RowKit
import Derived.Test.YtnaaimnmphcilaaDoorQAx3
import Derived.Test.YtnaaimnmphcilaaDoorWWords
import Derived.Test.YtnaaimnmphcilaaDoorWLast
import Derived.Test.YtnaaimnmphcilaaDoorWTab
import Derived.Test.YtnaaimnmphcilaaDoorWFour
import Derived.Test.YtnaaimnmphcilaaDoorWQPut
import Derived.Test.YtnaaimnmphcilaaDoorWApart
import Derived.Test.YtnaaimnmphcilaaDoorWArr
import Derived.Test.YtnaaimnmphcilaaDoorWZeros
import Derived.Test.YtnaaimnmphcilaaDoorWFoot
import Derived.Test.YtnaaimnmphcilaaDoorWKept
import Derived.Test.YtnaaimnmphcilaaDoorWShare
import Derived.Test.YtnaaimnmphcilaaDoorWN
import Derived.Test.YtnaaimnmphcilaaDoorWFootNe
import Derived.Test.YtnaaimnmphcilaaDoorWAt
import Derived.Test.YtnaaimnmphcilaaDoorWEqStruct
import Derived.Test.YtnaaimnmphcilaaDoorWRepsOne
import Derived.Test.YtnaaimnmphcilaaDoorWInv
import Derived.Test.YtnaaimnmphcilaaDoorWInvWords
import Derived.Test.YtnaaimnmphcilaaDoorWGuard
import Derived.Test.YtnaaimnmphcilaaDoorWNEv
import Derived.Test.YtnaaimnmphcilaaDoorWMore
import Derived.Test.YtnaaimnmphcilaaDoorBase
import Derived.Lib.RuneBytes
import Derived.Lib.TrimUEq
import Derived.Test.YtnaaimnmphcilaaDoorCodes
import Derived.Test.YtnaaimnmphcilaaDoorFull
import Derived.Lib.SliceRun
import Derived.Deep.RegionWith
import Derived.WalkSpells
import Derived.Test.YtnaaimnmphcilaaDoorQAx1
namespace Go.Proofs.YtnaaimnmphcilaaDoor.QB
open Go.Proofs.YtnaaimnmphcilaaDoor.Hand Go.Proofs.YtnaaimnmphcilaaDoor.QA
open Go.RowKit Go.Proofs.YtnaaimnmphcilaaDoorW.PrintWords Go.Proofs.YtnaaimnmphcilaaDoorW.PrintLast Go.Proofs.YtnaaimnmphcilaaDoorW.PrintMore
attribute [local go_sem] max2_int min2_int max_two min_two max_three min_three max_four min_four   -- for this text's walks alone
set_option linter.unusedVariables false
set_option linter.unusedSimpArgs false

-- NOT PRINTED: function 36 (utf8_FullRune)

-- NOT PRINTED: function 18 (scan_Open)

/-! ### gessoref01_Fault: function 37 -/
def gessoref01_Fault.l0 : Nat → List Int → Int → Option (Int)
  | 0, _, _ => none
  | k + 1, x0, x3 => if x3 < (x0.length : Int) then (if 0 ≤ x3 then (if x3 ≤ (x0.length : Int) then ((gessoref01_One.f k (x0.drop (x3 : Int).toNat)).bind fun bt121 => (if bt121.2 = 0 then (some x3) else (gessoref01_Fault.l0 k x0 (wrap64 (x3 + bt121.2))))) else (none)) else (none)) else (some (-1))
def gessoref01_Fault.f (k : Nat) (l0 : List Int) : Option (Int) := gessoref01_Fault.l0 k l0 0
theorem gessoref01_Fault.mono_l : ∀ k, (∀ y0 y1, LeO (gessoref01_Fault.l0 k y0 y1) (gessoref01_Fault.l0 (k + 1) y0 y1))
  | 0 => fun _ _ r h => by simp [gessoref01_Fault.l0] at h
  | k + 1 => by
    have ih0 := gessoref01_Fault.mono_l k
    · intro y0 y1
      unfold gessoref01_Fault.l0
      repeat' first
      | (with_reducible exact ih0 _ _)
      | (with_reducible exact gessoref01_One.mono _ _)
      | (with_reducible exact LeO.refl _)
      | (with_reducible exact LeO.none _)
      | (with_reducible refine LeO.ite ?_ ?_)
      | (with_reducible refine LeO.bind ?_ (fun _ => ?_))
      | exact ih0 _ _
      | exact gessoref01_One.mono _ _
      | exact LeO.none _
      | refine LeO.ite ?_ ?_
      | refine LeO.bind ?_ (fun _ => ?_)
theorem gessoref01_Fault.mono : ∀ a0 k, LeO (gessoref01_Fault.f k a0) (gessoref01_Fault.f (k + 1) a0) := by
  intro a0 k
  have ih0 := gessoref01_Fault.mono_l k
  unfold gessoref01_Fault.f
  repeat' first
      | (with_reducible exact ih0 _ _)
      | (with_reducible exact gessoref01_One.mono _ _)
      | (with_reducible exact LeO.refl _)
      | (with_reducible exact LeO.none _)
      | (with_reducible refine LeO.ite ?_ ?_)
      | (with_reducible refine LeO.bind ?_ (fun _ => ?_))
      | exact ih0 _ _
      | exact gessoref01_One.mono _ _
      | exact LeO.none _
      | refine LeO.ite ?_ ?_
      | refine LeO.bind ?_ (fun _ => ?_)
set_option maxHeartbeats 8000000 in
set_option maxRecDepth 100000 in
theorem gessoref01_Fault.calls (k : Nat) (A0 : Option Addr) (c0 : Nat) (l0 : List Int) (r : Int) (w : World) (hr0 : Kd.C (Kd.int .u8) w A0 l0.length l0) (hc0 : l0.length ≤ c0) (h : gessoref01_Fault.f k l0 = some r) :
    Calls Tryd.prog 37 #[.slice A0 l0.length c0] w fun e w' => e = .returned (.int .i64 r) ∧ Below w.heap.size w w' := by
  have HR0 := Aside0.mk hr0
  have HC0 := Aside0.mk hc0
  clear hr0 hc0
  have HB := Aside0.mk (Below.refl w.heap.size w)
  have H : (gessoref01_Fault.l0 k l0 0) = some r := h
  clear h
  have H' := Aside0.mk H
  clear H
  go_enter Tryd.func37, Tryd.ntmps37
  go_wp2
  go_loopg [3] k (fun kq v3 w' => ∃ (x3_1 : Int), v3 = .int .i64 x3_1 ∧ Aside0 (gessoref01_Fault.l0 kq l0 x3_1 = some r) ∧ Aside0 (kq ≤ k) ∧ Aside0 (Below w.heap.size w w'))
  case atStart => exact ⟨(0), (by first | rfl | (simp; done) | (simp [*]; done)), H', ⟨Nat.le_refl _⟩, ⟨by repeat (first | (with_reducible first | exact HB.out | apply below_alloc | apply pw_below_drewN | apply below_drew1) | exact HB.out)⟩⟩
  case round =>
    clear H'
    obtain ⟨x3_1, rfl, HA, HK1, HB⟩ := hrel
    cases gk with
    | zero => exact absurd HA.out (by simp [gessoref01_Fault.l0])
    | succ k1 =>
      have H := HA.out
      clear HA
      simp only [gessoref01_Fault.l0] at H
      by_cases c2 : x3_1 < (l0.length : Int)
      · rw [if_pos c2] at H
        have c2b0 : decide (x3_1 < (l0.length : Int)) = true := decide_eq_true c2
        clear c2
        by_cases c3 : 0 ≤ x3_1
        · rw [if_pos c3] at H
          have c3b0 := eq_true c3
          have c3b1 : decide (0 ≤ x3_1) = true := decide_eq_true c3
          clear c3
          by_cases c4 : x3_1 ≤ (l0.length : Int)
          · rw [if_pos c4] at H
            have c4b0 := eq_true c4
            have c4b1 : decide (x3_1 ≤ (l0.length : Int)) = true := decide_eq_true c4
            clear c4
            replace H := Option.bind_eq_some_iff.mp H
            obtain ⟨⟨t121, t122⟩, A50, H⟩ := H
            replace H : (if t122 = 0 then (some x3_1) else (gessoref01_Fault.l0 k1 l0 (wrap64 (x3_1 + t122)))) = some r := H
            have A5 := Aside0.mk A50
            clear A50
            by_cases c6 : t122 = 0
            · rw [if_pos c6] at H
              have c6b0 : (t122 == 0) = true := beq_iff_eq.mpr c6
              have c6b1 : (t122 != 0) = false := bne_eq_false_iff_eq.mpr c6
              clear c6
              obtain rfl := Option.some.inj H
              obtain ⟨i07, hi07, _, hsz7, _⟩ := info_parts info5
              obtain ⟨A7, hcut7, hA7, hC7⟩ := print_drop_of (P := Tryd.prog) (Value.int .u8) 0 23 5 .i64 Tryd.underlying23 hi07 hsz7 A0 c0 l0 x3_1 (of_decide_eq_true (by first | (with_reducible assumption) | assumption)) (of_decide_eq_true (by first | (with_reducible assumption) | assumption)) HC0.out
              have HR120 := Aside0.mk (Kd.C_of_reads (h1 := fun _ => rfl) (hA7 _ (Kd.reads_of_C HR0.out)))
              have HC120 := Aside0.mk hC7
              clear hA7 hC7 hi07 hsz7
              go_wp2_with (first | ((with_reducible refine gate_callee (f := 39) rfl ?_); refine goesL_ (some 14) rfl rfl Tryd.func39 (by kernel_rfl) rfl #[.slice A7 (l0.drop (x3_1 : Int).toNat).length (c0 - x3_1.toNat)] rfl (by (try simp only [List.map_toArray, List.map_cons, List.map_nil]); first | done | (rw [show (l0.drop (x3_1 : Int).toNat).length = (l0.length - x3_1.toNat) from List.length_drop] <;> rfl) | rfl | (simp only [List.length_drop, List.length_take]; rfl)) ?_; (with_reducible refine (gessoref01_One.calls k1 _ _ (l0.drop (x3_1 : Int).toNat) t121 t122 _ ?side1 ?side2 A5.out).mono ?_); (case side1 => repeat (first | exact (Kd.C_below HR120.out HB.out) | (with_reducible refine Kd.C_alloc ?_ _) | (with_reducible refine Kd.C_drewN ?_ _) | (with_reducible refine Kd.C_drew ?_))); (case side2 => exact HC120.out); rintro e w8 ⟨rfl, hb⟩; refine ⟨_, rfl, ?_⟩; have n0_ := Aside0.mk (below_step (by repeat (first | (with_reducible first | exact HB.out | apply below_alloc | apply pw_below_drewN | apply below_drew1) | exact HB.out)) hb); clear HB; have HB := n0_; clear n0_; (try clear hb); (try clear hb2); (try clear hk); (try clear hi)))
              go_ret
              exact ⟨by first | rfl | (simp [errW_none, errW_some] <;> rfl) | (simp [*, errW_none, errW_some] <;> rfl), by repeat (first | (with_reducible first | exact HB.out | apply below_alloc | apply pw_below_drewN | apply below_drew1) | exact HB.out)⟩
            · rw [if_neg c6] at H
              have c6b0 : (t122 == 0) = false := beq_eq_false_iff_ne.mpr c6
              have c6b1 : (t122 != 0) = true := bne_iff_ne.mpr c6
              have H' := Aside0.mk H
              clear H
              obtain ⟨i09, hi09, _, hsz9, _⟩ := info_parts info5
              obtain ⟨A9, hcut9, hA9, hC9⟩ := print_drop_of (P := Tryd.prog) (Value.int .u8) 0 23 5 .i64 Tryd.underlying23 hi09 hsz9 A0 c0 l0 x3_1 (of_decide_eq_true (by first | (with_reducible assumption) | assumption)) (of_decide_eq_true (by first | (with_reducible assumption) | assumption)) HC0.out
              have HR120 := Aside0.mk (Kd.C_of_reads (h1 := fun _ => rfl) (hA9 _ (Kd.reads_of_C HR0.out)))
              have HC120 := Aside0.mk hC9
              clear hA9 hC9 hi09 hsz9
              go_wp2_with (first | ((with_reducible refine gate_callee (f := 39) rfl ?_); refine goesL_ (some 14) rfl rfl Tryd.func39 (by kernel_rfl) rfl #[.slice A9 (l0.drop (x3_1 : Int).toNat).length (c0 - x3_1.toNat)] rfl (by (try simp only [List.map_toArray, List.map_cons, List.map_nil]); first | done | (rw [show (l0.drop (x3_1 : Int).toNat).length = (l0.length - x3_1.toNat) from List.length_drop] <;> rfl) | rfl | (simp only [List.length_drop, List.length_take]; rfl)) ?_; (with_reducible refine (gessoref01_One.calls k1 _ _ (l0.drop (x3_1 : Int).toNat) t121 t122 _ ?side1 ?side2 A5.out).mono ?_); (case side1 => repeat (first | exact (Kd.C_below HR120.out HB.out) | (with_reducible refine Kd.C_alloc ?_ _) | (with_reducible refine Kd.C_drewN ?_ _) | (with_reducible refine Kd.C_drew ?_))); (case side2 => exact HC120.out); rintro e w10 ⟨rfl, hb⟩; refine ⟨_, rfl, ?_⟩; have n0_ := Aside0.mk (below_step (by repeat (first | (with_reducible first | exact HB.out | apply below_alloc | apply pw_below_drewN | apply below_drew1) | exact HB.out)) hb); clear HB; have HB := n0_; clear n0_; (try clear hb); (try clear hb2); (try clear hk); (try clear hi)))
              go_roundg k1
              case measure => have := HK1.out; omega
              case rel => exact ⟨(wrap64 (x3_1 + t122)), (by first | rfl | (simp; done) | (simp [*]; done)), H', ⟨by have := HK1.out; omega⟩, ⟨by repeat (first | (with_reducible first | exact HB.out | apply below_alloc | apply pw_below_drewN | apply below_drew1) | exact HB.out)⟩⟩
          · rw [if_neg c4] at H
            exact absurd H (by simp)
        · rw [if_neg c3] at H
          exact absurd H (by simp)
      · rw [if_neg c2] at H
        have c2b0 : decide (x3_1 < (l0.length : Int)) = false := decide_eq_false c2
        clear c2
        obtain rfl := Option.some.inj H
        go_wp2
        go_ret
        exact ⟨by first | rfl | (simp [errW_none, errW_some] <;> rfl) | (simp [*, errW_none, errW_some] <;> rfl), by repeat (first | (with_reducible first | exact HB.out | apply below_alloc | apply pw_below_drewN | apply below_drew1) | exact HB.out)⟩

-- NOT PRINTED: function 38 (gessoref02_tails)

-- NOT PRINTED: function 19 (gessoref02_Open)

/-- A state of type 67 at block g of W; what its slices lead to came in by w0. -/
def IsS67 (w0 W : World) (g : Nat) (f0 : Int) (f1 : Int) (f2 : List Int) : Prop := ∃ A2 c2, W.heap[g]? = some (.cells #[.int .i64 f0, .int .i64 f1, .slice A2 f2.length c2] 67 (0, 0)) ∧ w0.heap.size ≤ g ∧ Kd.C (Kd.int .u8) w0 A2 f2.length f2
theorem IsS67.grown {w0 W : World} {g : Nat} {f0 : Int} {f1 : Int} {f2 : List Int} {W1 : World} {row : Option Nat} (h : IsS67 w0 W g f0 f1 f2) (hw : W.grownBy W1 row) (hne : some g ≠ row) : IsS67 w0 W1 g f0 f1 f2 := by
  obtain ⟨A2, c2, hb, hg, hr2⟩ := h
  exact ⟨A2, c2, blk_grown hb hw hne, hg, hr2⟩
theorem IsS67.own_neN {w0 W : World} {g : Nat} {f0 : Int} {f1 : Int} {f2 : List Int} {α : Type} {d : Kd α} {e : Nat} {base : Nat} {ok : Nat → Prop} {v : Value} {xs : List α} (h : IsS67 w0 W g f0 f1 f2) (ho : Kd.N d e W base ok v xs) (ht : e ≠ 67) : some g ≠ v.ownBlock := by
  obtain ⟨A2, c2, hb, hg, hr2⟩ := h
  exact Kd.N_ne ho hb ht
theorem IsS67.fresh {w0 W : World} {g : Nat} {f0 : Int} {f1 : Int} {f2 : List Int} (h : IsS67 w0 W g f0 f1 f2) : ∀ k, W.heap.size ≤ k → k ≠ g := by
  obtain ⟨A2, c2, hb, hg, hr2⟩ := h
  exact Kd.freshB hb
theorem IsS67.kept {w0 W : World} {g : Nat} {f0 : Int} {f1 : Int} {f2 : List Int} {W1 : World} {S : Nat → Prop} (h : IsS67 w0 W g f0 f1 f2) (hk : Kept W W1 S) (hne : ¬ S g) : IsS67 w0 W1 g f0 f1 f2 := by
  obtain ⟨A2, c2, hb, hg, hr2⟩ := h
  exact ⟨A2, c2, blk_kept hb hk hne, hg, hr2⟩
theorem IsS67.below {w0 W : World} {g : Nat} {f0 : Int} {f1 : Int} {f2 : List Int} {W1 : World} (h : IsS67 w0 W g f0 f1 f2) (hw : Below W.heap.size W W1) : IsS67 w0 W1 g f0 f1 f2 := h.grown (grown_of_below hw none) (by simp)
theorem IsS67.alloc {w0 W : World} {g : Nat} {f0 : Int} {f1 : Int} {f2 : List Int} (h : IsS67 w0 W g f0 f1 f2) (o : Obj) : IsS67 w0 (W.alloc o) g f0 f1 f2 := h.below (below_alloc (Below.refl _ _) o)
theorem IsS67.drewN {w0 W : World} {g : Nat} {f0 : Int} {f1 : Int} {f2 : List Int} (h : IsS67 w0 W g f0 f1 f2) (m : Nat) : IsS67 w0 (W.drewN m) g f0 f1 f2 := h
theorem IsS67.drew {w0 W : World} {g : Nat} {f0 : Int} {f1 : Int} {f2 : List Int} (h : IsS67 w0 W g f0 f1 f2) : IsS67 w0 W.drew g f0 f1 f2 := h
theorem IsS67.at_ {w0 W : World} {g : Nat} {f0 : Int} {f1 : Int} {f2 : List Int} {w' : World} {m : Nat} (hq : W.drewN m = w') (h : IsS67 w0 W g f0 f1 f2) : IsS67 w0 w' g f0 f1 f2 := by subst hq; exact IsS67.drewN h m
theorem IsS67.apart {w0 W : World} {g : Nat} {f0 : Int} {f1 : Int} {f2 : List Int} {α : Type} {d : Kd α} {e : Nat} {base : Nat} {ok : Nat → Prop} {v : Value} {xs : List α} (h : IsS67 w0 W g f0 f1 f2) (ho : d.R e W base ok v xs) (ht : ∀ q, q ∈ e :: d.E → q ≠ 67) : d.R e W base (fun k => ok k ∧ k ≠ g) v xs := by
  obtain ⟨A2, c2, hb, hg, hr2⟩ := h
  exact Kd.R_types ho hb ht
theorem IsS67.own_ne {w0 W : World} {g : Nat} {f0 : Int} {f1 : Int} {f2 : List Int} {α : Type} {d : Kd α} {e : Nat} {base : Nat} {ok : Nat → Prop} {v : Value} {xs : List α} (h : IsS67 w0 W g f0 f1 f2) (ho : d.R e W base ok v xs) (ht : e ≠ 67) : some g ≠ v.ownBlock := by
  obtain ⟨A2, c2, hb, hg, hr2⟩ := h
  exact Kd.R_ne ho hb ht
theorem IsS67.apartQ {w0 W : World} {g : Nat} {f0 : Int} {f1 : Int} {f2 : List Int} {α : Type} {d : Kd α} {e : Nat} {base : Nat} {ok : Nat → Prop} {v : Value} {xs : List α} (h : IsS67 w0 W g f0 f1 f2) (ho : d.Q e W base ok v xs) (ht : ∀ q, q ∈ e :: d.E → q ≠ 67) : d.Q e W base (fun k => ok k ∧ k ≠ g) v xs := by
  obtain ⟨A2, c2, hb, hg, hr2⟩ := h
  exact Kd.Q_types ho hb ht
theorem IsS67.own_neQ {w0 W : World} {g : Nat} {f0 : Int} {f1 : Int} {f2 : List Int} {α : Type} {d : Kd α} {e : Nat} {base : Nat} {ok : Nat → Prop} {v : Value} {xs : List α} (h : IsS67 w0 W g f0 f1 f2) (ho : d.Q e W base ok v xs) (ht : e ≠ 67) : some g ≠ v.ownBlock := by
  obtain ⟨A2, c2, hb, hg, hr2⟩ := h
  exact Kd.Q_ne ho hb ht
theorem IsS67.apartS {w0 W : World} {g : Nat} {f0 : Int} {f1 : Int} {f2 : List Int} {α : Type} {d : Kd α} {e : Nat} {base : Nat} {ok : Nat → Prop} {v : Value} {xs : List α} (h : IsS67 w0 W g f0 f1 f2) (ho : d.S e W base ok v xs) (ht : ∀ q, q ∈ e :: d.E → q ≠ 67) : d.S e W base (fun k => ok k ∧ k ≠ g) v xs := by
  obtain ⟨A2, c2, hb, hg, hr2⟩ := h
  exact Kd.S_types ho hb ht
theorem IsS67.own_neS {w0 W : World} {g : Nat} {f0 : Int} {f1 : Int} {f2 : List Int} {α : Type} {d : Kd α} {e : Nat} {base : Nat} {ok : Nat → Prop} {v : Value} {xs : List α} (h : IsS67 w0 W g f0 f1 f2) (ho : d.S e W base ok v xs) (ht : e ≠ 67) : some g ≠ v.ownBlock := by
  obtain ⟨A2, c2, hb, hg, hr2⟩ := h
  exact Kd.S_ne ho hb ht
theorem IsS67.lt {w0 W : World} {g : Nat} {f0 : Int} {f1 : Int} {f2 : List Int} (h : IsS67 w0 W g f0 f1 f2) : g < W.heap.size := by
  obtain ⟨A2, c2, hb, hg, hr2⟩ := h
  exact blk_lt hb
theorem IsS67.ge {w0 W : World} {g : Nat} {f0 : Int} {f1 : Int} {f2 : List Int} (h : IsS67 w0 W g f0 f1 f2) : w0.heap.size ≤ g := by
  obtain ⟨A2, c2, hb, hg, hr2⟩ := h
  exact hg
theorem IsS67.ne_blk {w0 W : World} {g : Nat} {f0 : Int} {f1 : Int} {f2 : List Int} {a : Nat} {cs : Array Value} {t : TypeId} {fr : Nat × Nat} (h : IsS67 w0 W g f0 f1 f2) (hb2 : W.heap[a]? = some (.cells cs t fr)) (ht : t ≠ 67) : g ≠ a := by
  obtain ⟨A2, c2, hb, hg, hr2⟩ := h
  rintro rfl
  rw [hb] at hb2
  injection hb2 with hb2
  injection hb2 with _ ht2
  exact ht ht2.symm
theorem IsS67.far {w0 W : World} {g : Nat} {f0 : Int} {f1 : Int} {f2 : List Int} {p : Addr} (h : IsS67 w0 W g f0 f1 f2) (hne : g ≠ p.block) (u : Value) : IsS67 w0 (W.setCell p u) g f0 f1 f2 := by
  obtain ⟨A2, c2, hb, hg, hr2⟩ := h
  exact ⟨A2, c2, blk_far hb hne u, hg, hr2⟩
theorem cellS67_0 {W : World} {g : Nat} {A2 : Option Addr} {c2 : Nat} {f0 : Int} {f1 : Int} {f2 : List Int} (h : W.heap[g]? = some (.cells #[.int .i64 f0, .int .i64 f1, .slice A2 f2.length c2] 67 (0, 0))) : W.cell? ⟨g, 0, none⟩ = some (.int .i64 f0) := (blk_cell h 0).trans rfl
theorem IsS67.set_0 {w0 W : World} {g : Nat} {f0 : Int} {f1 : Int} {f2 : List Int} (h : IsS67 w0 W g f0 f1 f2) (x : Int) : IsS67 w0 (W.setCell ⟨g, 0, none⟩ (.int .i64 x)) g x f1 f2 := by
  obtain ⟨A2, c2, hb, hg, hr2⟩ := h
  exact ⟨A2, c2, by simpa using blk_set hb 0 (.int .i64 x), hg, hr2⟩
theorem cellS67_1 {W : World} {g : Nat} {A2 : Option Addr} {c2 : Nat} {f0 : Int} {f1 : Int} {f2 : List Int} (h : W.heap[g]? = some (.cells #[.int .i64 f0, .int .i64 f1, .slice A2 f2.length c2] 67 (0, 0))) : W.cell? ⟨g, 1, none⟩ = some (.int .i64 f1) := (blk_cell h 1).trans rfl
theorem IsS67.set_1 {w0 W : World} {g : Nat} {f0 : Int} {f1 : Int} {f2 : List Int} (h : IsS67 w0 W g f0 f1 f2) (x : Int) : IsS67 w0 (W.setCell ⟨g, 1, none⟩ (.int .i64 x)) g f0 x f2 := by
  obtain ⟨A2, c2, hb, hg, hr2⟩ := h
  exact ⟨A2, c2, by simpa using blk_set hb 1 (.int .i64 x), hg, hr2⟩
theorem cellS67_2 {W : World} {g : Nat} {A2 : Option Addr} {c2 : Nat} {f0 : Int} {f1 : Int} {f2 : List Int} (h : W.heap[g]? = some (.cells #[.int .i64 f0, .int .i64 f1, .slice A2 f2.length c2] 67 (0, 0))) : W.cell? ⟨g, 2, none⟩ = some (.slice A2 f2.length c2) := (blk_cell h 2).trans rfl
theorem IsS67.new (w0 W : World) (A2 : Option Addr) (c2 : Nat) (f0 : Int) (f1 : Int) (f2 : List Int) (hB : Below w0.heap.size w0 W) (hr2 : Kd.C (Kd.int .u8) w0 A2 f2.length f2) : IsS67 w0 (W.alloc (.cells #[.int .i64 f0, .int .i64 f1, .slice A2 f2.length c2] 67)) W.heap.size f0 f1 f2 := ⟨A2, c2, by simpa using heap_alloc_new W _, hB.size, hr2⟩
end Go.Proofs.YtnaaimnmphcilaaDoor.QB

namespace Go.Proofs.YtnaaimnmphcilaaDoor.Hand
open Go.RowKit Go.Proofs.YtnaaimnmphcilaaDoorW.PrintWords
set_option linter.unusedVariables false
set_option linter.unusedSimpArgs false

/-- Is a number a code point? -/
def Pt (c : Int) : Prop := (0 ≤ c ∧ c < 55296) ∨ (57343 < c ∧ c ≤ 1114111)
instance (c : Int) : Decidable (Pt c) := inferInstanceAs (Decidable (_ ∨ _))
/-- Its bytes; its width. -/
def putI (c : Int) : List Int := Lib.encodeRuneZ c
def widI (c : Int) : Nat := if c < 128 then 1 else if c < 2048 then 2 else if c < 65536 then 3 else 4
theorem putI_1 {c : Int} (h : Pt c) (h1 : c < 128) : putI c = [c] := Lib.encodeRuneZ_one (by unfold Pt at h; omega) (by omega)
theorem putI_2 {c : Int} (h : Pt c) (h1 : ¬ c < 128) (h2 : c < 2048) : putI c = [192 + c / 64, 128 + c % 64] := Lib.encodeRuneZ_two (by omega) (by omega)
theorem putI_3 {c : Int} (h : Pt c) (h1 : ¬ c < 2048) (h2 : c < 65536) : putI c = [224 + c / 4096, 128 + c / 64 % 64, 128 + c % 64] := Lib.encodeRuneZ_three (by unfold Pt at h; omega)
theorem putI_4 {c : Int} (h : Pt c) (h1 : ¬ c < 65536) : putI c = [240 + c / 262144, 128 + c / 4096 % 64, 128 + c / 64 % 64, 128 + c % 64] := Lib.encodeRuneZ_four (by omega) (by unfold Pt at h; omega)
theorem putI_len {c : Int} (h : Pt c) : (putI c).length = widI c := by
  unfold widI
  split
  · rw [putI_1 h ‹_›]; rfl
  · split
    · rw [putI_2 h ‹_› ‹_›]; rfl
    · split
      · rw [putI_3 h ‹_› ‹_›]; rfl
      · rw [putI_4 h ‹_›]; rfl
theorem widI_le (c : Int) : 1 ≤ widI c ∧ widI c ≤ 4 := by unfold widI; split <;> (try split) <;> (try split) <;> omega
theorem putI_byte {c : Int} (h : Pt c) : ∀ x ∈ putI c, 0 ≤ x ∧ x < 256 := Lib.encodeRuneZ_byte c

/-- Not a fault: what the decoder tells of a code point. -/
def Good (d : Nat × Nat) : Prop := ¬ (d.1 = 65533 ∧ d.2 < 2)
instance (d : Nat × Nat) : Decidable (Good d) := inferInstanceAs (Decidable (¬ _))

set_option maxRecDepth 100000 in
set_option maxHeartbeats 4000000 in
theorem decN_1 (n b0 b1 b2 b3 : Nat) (h : b0 < 128) : Lib.decodeN n b0 b1 b2 b3 = (b0, 1) := by simp [Lib.decodeN, h]
set_option maxRecDepth 100000 in
set_option maxHeartbeats 4000000 in
theorem decN_2 (n b2 b3 c : Nat) (hn : 2 ≤ n) (h1 : 128 ≤ c) (h2 : c < 2048) : Lib.decodeN n (192 + c / 64) (128 + c % 64) b2 b3 = (c, 2) := by
  unfold Lib.decodeN
  repeat' split
  all_goals first | (exfalso; omega) | (apply Prod.ext <;> simp only <;> omega)
set_option maxRecDepth 100000 in
set_option maxHeartbeats 4000000 in
theorem decN_3 (n b3 c : Nat) (hn : 3 ≤ n) (h1 : 2048 ≤ c) (h2 : c < 65536) (hp : c < 55296 ∨ 57343 < c) : Lib.decodeN n (224 + c / 4096) (128 + c / 64 % 64) (128 + c % 64) b3 = (c, 3) := by
  unfold Lib.decodeN
  repeat' split
  all_goals first | (exfalso; omega) | (apply Prod.ext <;> simp only <;> omega)
set_option maxRecDepth 100000 in
set_option maxHeartbeats 4000000 in
theorem decN_4 (n c : Nat) (hn : 4 ≤ n) (h1 : 65536 ≤ c) (h2 : c ≤ 1114111) : Lib.decodeN n (240 + c / 262144) (128 + c / 4096 % 64) (128 + c / 64 % 64) (128 + c % 64) = (c, 4) := by
  unfold Lib.decodeN
  repeat' split
  all_goals first | (exfalso; omega) | (apply Prod.ext <;> simp only <;> omega)

/-- What is laid is decoded as it was. -/
theorem dec_put {c : Int} (h : Pt c) (rest : List Int) : decI (putI c ++ rest) = (c.toNat, widI c) := by
  have hc := h
  unfold Pt at hc
  by_cases h1 : c < 128
  · rw [putI_1 h h1]
    unfold decI
    rw [decN_1 _ _ _ _ _ (by simp [rd]; try omega)]
    simp [rd, widI, h1]
  · by_cases h2 : c < 2048
    · rw [putI_2 h h1 h2]
      unfold decI
      have e0 : (rd ([192 + c / 64, 128 + c % 64] ++ rest) 0).toNat = 192 + c.toNat / 64 := by simp [rd]; omega
      have e1 : (rd ([192 + c / 64, 128 + c % 64] ++ rest) 1).toNat = 128 + c.toNat % 64 := by simp [rd]; omega
      rw [e0, e1, decN_2 _ _ _ _ (by simp; omega) (by omega) (by omega)]
      simp [widI, h1, h2]
    · by_cases h3 : c < 65536
      · rw [putI_3 h h2 h3]
        unfold decI
        have e0 : (rd ([224 + c / 4096, 128 + c / 64 % 64, 128 + c % 64] ++ rest) 0).toNat = 224 + c.toNat / 4096 := by simp [rd]; omega
        have e1 : (rd ([224 + c / 4096, 128 + c / 64 % 64, 128 + c % 64] ++ rest) 1).toNat = 128 + c.toNat / 64 % 64 := by simp [rd]; omega
        have e2 : (rd ([224 + c / 4096, 128 + c / 64 % 64, 128 + c % 64] ++ rest) 2).toNat = 128 + c.toNat % 64 := by simp [rd]; omega
        rw [e0, e1, e2, decN_3 _ _ _ (by simp; omega) (by omega) (by omega) (by omega)]
        simp [widI, h1, h2, h3]
      · rw [putI_4 h h3]
        unfold decI
        have e0 : (rd ([240 + c / 262144, 128 + c / 4096 % 64, 128 + c / 64 % 64, 128 + c % 64] ++ rest) 0).toNat = 240 + c.toNat / 262144 := by simp [rd]; omega
        have e1 : (rd ([240 + c / 262144, 128 + c / 4096 % 64, 128 + c / 64 % 64, 128 + c % 64] ++ rest) 1).toNat = 128 + c.toNat / 4096 % 64 := by simp [rd]; omega
        have e2 : (rd ([240 + c / 262144, 128 + c / 4096 % 64, 128 + c / 64 % 64, 128 + c % 64] ++ rest) 2).toNat = 128 + c.toNat / 64 % 64 := by simp [rd]; omega
        have e3 : (rd ([240 + c / 262144, 128 + c / 4096 % 64, 128 + c / 64 % 64, 128 + c % 64] ++ rest) 3).toNat = 128 + c.toNat % 64 := by simp [rd]; omega
        rw [e0, e1, e2, e3, decN_4 _ _ (by simp <;> omega) (by omega) (by omega)]
        simp [widI, h1, h2, h3]

set_option maxRecDepth 100000 in
set_option maxHeartbeats 8000000 in
/-- What is decoded is laid so: by its numbers. -/
theorem dec_good (n b0 b1 b2 b3 : Nat) (h0 : b0 < 256) (h1 : b1 < 256) (h2 : b2 < 256) (h3 : b3 < 256) (hn : 1 ≤ n) (hg : Good (Lib.decodeN n b0 b1 b2 b3)) :
    ∃ c : Nat, Pt (c : Int) ∧ ((c < 128 ∧ Lib.decodeN n b0 b1 b2 b3 = (c, 1) ∧ b0 = c) ∨
      (128 ≤ c ∧ c < 2048 ∧ 2 ≤ n ∧ Lib.decodeN n b0 b1 b2 b3 = (c, 2) ∧ b0 = 192 + c / 64 ∧ b1 = 128 + c % 64) ∨
      (2048 ≤ c ∧ c < 65536 ∧ 3 ≤ n ∧ Lib.decodeN n b0 b1 b2 b3 = (c, 3) ∧ b0 = 224 + c / 4096 ∧ b1 = 128 + c / 64 % 64 ∧ b2 = 128 + c % 64) ∨
      (65536 ≤ c ∧ c ≤ 1114111 ∧ 4 ≤ n ∧ Lib.decodeN n b0 b1 b2 b3 = (c, 4) ∧ b0 = 240 + c / 262144 ∧ b1 = 128 + c / 4096 % 64 ∧ b2 = 128 + c / 64 % 64 ∧ b3 = 128 + c % 64)) := by
  by_cases a : b0 < 128
  · exact ⟨b0, by unfold Pt; omega, .inl ⟨a, decN_1 _ _ _ _ _ a, rfl⟩⟩
  by_cases c2 : b0 / 32 = 6 ∧ (1 < n ∧ b1 / 64 = 2)
  · have e : Lib.decodeN n b0 b1 b2 b3 = if b0 % 32 * 64 + b1 % 64 ≥ 128 then (b0 % 32 * 64 + b1 % 64, 2) else (65533, 1) := by
      unfold Lib.decodeN; rw [if_neg a, if_pos c2]
    by_cases c : b0 % 32 * 64 + b1 % 64 ≥ 128
    · rw [if_pos c] at e
      exact ⟨b0 % 32 * 64 + b1 % 64, by unfold Pt; omega, .inr (.inl ⟨by omega, by omega, by omega, e, by omega, by omega⟩)⟩
    · rw [if_neg c] at e
      rw [e] at hg
      exact absurd ⟨rfl, by decide⟩ hg
  by_cases c3 : b0 / 16 = 14 ∧ (1 < n ∧ b1 / 64 = 2) ∧ (2 < n ∧ b2 / 64 = 2)
  · have e : Lib.decodeN n b0 b1 b2 b3 = if b0 % 16 * 4096 + b1 % 64 * 64 + b2 % 64 ≥ 2048 ∧ (b0 % 16 * 4096 + b1 % 64 * 64 + b2 % 64 < 55296 ∨ (57344 ≤ b0 % 16 * 4096 + b1 % 64 * 64 + b2 % 64 ∧ b0 % 16 * 4096 + b1 % 64 * 64 + b2 % 64 ≤ 1114111)) then (b0 % 16 * 4096 + b1 % 64 * 64 + b2 % 64, 3) else (65533, 1) := by
      unfold Lib.decodeN; rw [if_neg a, if_neg c2, if_pos c3]
    by_cases c : b0 % 16 * 4096 + b1 % 64 * 64 + b2 % 64 ≥ 2048 ∧ (b0 % 16 * 4096 + b1 % 64 * 64 + b2 % 64 < 55296 ∨ (57344 ≤ b0 % 16 * 4096 + b1 % 64 * 64 + b2 % 64 ∧ b0 % 16 * 4096 + b1 % 64 * 64 + b2 % 64 ≤ 1114111))
    · rw [if_pos c] at e
      exact ⟨b0 % 16 * 4096 + b1 % 64 * 64 + b2 % 64, by unfold Pt; omega, .inr (.inr (.inl ⟨by omega, by omega, by omega, e, by omega, by omega, by omega⟩))⟩
    · rw [if_neg c] at e
      rw [e] at hg
      exact absurd ⟨rfl, by decide⟩ hg
  by_cases c4 : b0 / 8 = 30 ∧ (1 < n ∧ b1 / 64 = 2) ∧ (2 < n ∧ b2 / 64 = 2) ∧ (3 < n ∧ b3 / 64 = 2)
  · have e : Lib.decodeN n b0 b1 b2 b3 = if b0 % 8 * 262144 + b1 % 64 * 4096 + b2 % 64 * 64 + b3 % 64 ≥ 65536 ∧ (b0 % 8 * 262144 + b1 % 64 * 4096 + b2 % 64 * 64 + b3 % 64 < 55296 ∨ (57344 ≤ b0 % 8 * 262144 + b1 % 64 * 4096 + b2 % 64 * 64 + b3 % 64 ∧ b0 % 8 * 262144 + b1 % 64 * 4096 + b2 % 64 * 64 + b3 % 64 ≤ 1114111)) then (b0 % 8 * 262144 + b1 % 64 * 4096 + b2 % 64 * 64 + b3 % 64, 4) else (65533, 1) := by
      unfold Lib.decodeN; rw [if_neg a, if_neg c2, if_neg c3, if_pos c4]
    by_cases c : b0 % 8 * 262144 + b1 % 64 * 4096 + b2 % 64 * 64 + b3 % 64 ≥ 65536 ∧ (b0 % 8 * 262144 + b1 % 64 * 4096 + b2 % 64 * 64 + b3 % 64 < 55296 ∨ (57344 ≤ b0 % 8 * 262144 + b1 % 64 * 4096 + b2 % 64 * 64 + b3 % 64 ∧ b0 % 8 * 262144 + b1 % 64 * 4096 + b2 % 64 * 64 + b3 % 64 ≤ 1114111))
    · rw [if_pos c] at e
      exact ⟨b0 % 8 * 262144 + b1 % 64 * 4096 + b2 % 64 * 64 + b3 % 64, by unfold Pt; omega, .inr (.inr (.inr ⟨by omega, by omega, by omega, e, by omega, by omega, by omega, by omega⟩))⟩
    · rw [if_neg c] at e
      rw [e] at hg
      exact absurd ⟨rfl, by decide⟩ hg
  · have e : Lib.decodeN n b0 b1 b2 b3 = (65533, 1) := by
      unfold Lib.decodeN; rw [if_neg a, if_neg c2, if_neg c3, if_neg c4]
    rw [e] at hg
    exact absurd ⟨rfl, by decide⟩ hg

theorem rd_byte {l : List Int} {m j : Nat} (hB : allB (l.take m) = true) (hj : j < m) : 0 ≤ rd l (j : Int) ∧ rd l (j : Int) < 256 := by
  simp only [rd, Int.toNat_natCast]
  by_cases h : j < l.length
  · have := allB_mem hB (l[j]) (by rw [List.mem_take_iff_getElem]; exact ⟨j, by omega, rfl⟩)
    rw [List.getD_eq_getElem?_getD, List.getElem?_eq_getElem h]
    exact this
  · rw [List.getD_eq_getElem?_getD, List.getElem?_eq_none (by omega)]
    simp

/-- What is decoded is laid so: of a list of bytes. -/
theorem dec_good_I {l : List Int} (hne : l ≠ []) (hB : allB (l.take 4) = true) (hg : Good (decI l)) :
    ∃ c : Int, Pt c ∧ decI l = (c.toNat, widI c) ∧ l.take (widI c) = putI c ∧ widI c ≤ l.length := by
  have hl : 0 < l.length := List.length_pos_iff.2 hne
  have r0 := rd_byte hB (j := 0) (by omega)
  have r1 := rd_byte hB (j := 1) (by omega)
  have r2 := rd_byte hB (j := 2) (by omega)
  have r3 := rd_byte hB (j := 3) (by omega)
  simp only [Int.natCast_zero, Int.cast_ofNat_Int, Int.natCast_one] at r0 r1 r2 r3
  obtain ⟨c, hP, h⟩ := dec_good (min l.length 4) (rd l 0).toNat (rd l 1).toNat (rd l 2).toNat (rd l 3).toNat (by omega) (by omega) (by omega) (by omega) (by omega) hg
  refine ⟨(c : Int), hP, ?_⟩
  rcases h with ⟨h1, he, e0⟩ | ⟨h1, h2, hn, he, e0, e1⟩ | ⟨h1, h2, hn, he, e0, e1, e2⟩ | ⟨h1, h2, hn, he, e0, e1, e2, e3⟩
  · have w : widI (c : Int) = 1 := by unfold widI; rw [if_pos (by omega)]
    rw [w, putI_1 hP (by omega)]
    refine ⟨he, ?_, hl⟩
    match l, hne with
    | x :: t, _ => simp [rd] at e0 r0 ⊢; omega
  · have w : widI (c : Int) = 2 := by unfold widI; rw [if_neg (by omega), if_pos (by omega)]
    rw [w, putI_2 hP (by omega) (by omega)]
    refine ⟨he, ?_, by omega⟩
    match l, (show 2 ≤ l.length by omega) with
    | x :: y :: t, _ => simp [rd] at e0 r0 e1 r1 ⊢; omega
  · have w : widI (c : Int) = 3 := by unfold widI; rw [if_neg (by omega), if_neg (by omega), if_pos (by omega)]
    rw [w, putI_3 hP (by omega) (by omega)]
    refine ⟨he, ?_, by omega⟩
    match l, (show 3 ≤ l.length by omega) with
    | x :: y :: z :: t, _ => simp [rd] at e0 r0 e1 r1 e2 r2 ⊢; omega
  · have w : widI (c : Int) = 4 := by unfold widI; rw [if_neg (by omega), if_neg (by omega), if_neg (by omega)]
    rw [w, putI_4 hP (by omega)]
    refine ⟨he, ?_, by omega⟩
    match l, (show 4 ≤ l.length by omega) with
    | x :: y :: z :: u :: t, _ => simp [rd] at e0 r0 e1 r1 e2 r2 e3 r3 ⊢; omega
end Go.Proofs.YtnaaimnmphcilaaDoor.Hand

namespace Go.Proofs.YtnaaimnmphcilaaDoor.Hand
open Go.RowKit Go.Proofs.YtnaaimnmphcilaaDoorW.PrintWords
set_option linter.unusedVariables false
set_option linter.unusedSimpArgs false

def layI (cs : List Int) : List Int := cs.flatMap putI
def AllPt (cs : List Int) : Prop := ∀ c ∈ cs, Pt c
instance (cs : List Int) : Decidable (AllPt cs) := inferInstanceAs (Decidable (∀ c ∈ cs, Pt c))
def validI (l : List Int) : Bool := Lib.validD (toB l)

theorem layI_nil : layI [] = [] := rfl
theorem layI_cons (c : Int) (cs : List Int) : layI (c :: cs) = putI c ++ layI cs := by simp [layI]
theorem layI_append (a b : List Int) : layI (a ++ b) = layI a ++ layI b := by simp [layI]
theorem putI_len4 (c : Int) : 1 ≤ (putI c).length ∧ (putI c).length ≤ 4 := Lib.encodeRuneZ_length c
theorem layI_len (cs : List Int) : cs.length ≤ (layI cs).length ∧ (layI cs).length ≤ 4 * cs.length := by
  induction cs with
  | nil => simp [layI]
  | cons c cs ih => have := putI_len4 c; rw [layI_cons]; simp only [List.length_append, List.length_cons]; omega
theorem allB_append {a b : List Int} : allB (a ++ b) = (allB a && allB b) := by simp [allB]
theorem allB_putI (c : Int) : allB (putI c) = true := by
  unfold allB
  rw [List.all_eq_true]
  intro x hx
  have := Lib.encodeRuneZ_byte c x hx
  simpa [isB] using this
theorem allB_layI (cs : List Int) : allB (layI cs) = true := by
  induction cs with
  | nil => rfl
  | cons c cs ih => rw [layI_cons, allB_append, allB_putI, ih]; rfl
theorem allB_take {l : List Int} (h : allB l = true) (n : Nat) : allB (l.take n) = true := by
  unfold allB at *
  rw [List.all_eq_true] at *
  exact fun x hx => h x (List.mem_of_mem_take hx)
theorem allB_drop {l : List Int} (h : allB l = true) (n : Nat) : allB (l.drop n) = true := by
  unfold allB at *
  rw [List.all_eq_true] at *
  exact fun x hx => h x (List.mem_of_mem_drop hx)
theorem toB_drop (l : List Int) (n : Nat) : toB (l.drop n) = (toB l).drop n := by simp [toB, List.map_drop]
theorem toB_getD {l : List Int} (h : allB l = true) (j : Nat) : ((toB l).getD j 0).toNat = (rd l (j : Int)).toNat := by
  by_cases hj : j < l.length
  · have hx := allB_mem h (l[j]) (List.getElem_mem hj)
    simp [toB, rd, hj]
    omega
  · simp [toB, rd, hj]

theorem decodeN_min (n b0 b1 b2 b3 : Nat) : Lib.decodeN (min n 4) b0 b1 b2 b3 = Lib.decodeN n b0 b1 b2 b3 := by
  have h1 : (1 < min n 4) = (1 < n) := propext (by omega)
  have h2 : (2 < min n 4) = (2 < n) := propext (by omega)
  have h3 : (3 < min n 4) = (3 < n) := propext (by omega)
  unfold Lib.decodeN
  simp only [h1, h2, h3]
theorem decI_L {l : List Int} (h : allB l = true) : decI l = Lib.decodeL (toB l) := by
  rw [Lib.decodeL_N, toB_length, toB_getD h 0, toB_getD h 1, toB_getD h 2, toB_getD h 3]
  unfold decI
  rw [decodeN_min]
  rfl
theorem decI_width {l : List Int} (h : allB l = true) : 1 ≤ (decI l).2 := by rw [decI_L h]; exact Lib.decodeL_width _
theorem good_iff {l : List Int} (h : allB l = true) : Good (decI l) ↔ ¬ ((Lib.decodeL (toB l)).1 = 65533 ∧ (Lib.decodeL (toB l)).2 = 1) := by
  have := decI_width h
  rw [decI_L h] at this ⊢
  unfold Good
  omega
theorem toB_ne {l : List Int} (hne : l ≠ []) : toB l ≠ [] := by simpa [toB] using hne
theorem validI_nil : validI [] = true := rfl
theorem validI_step {l : List Int} (h : allB l = true) (hne : l ≠ []) : validI l = if Good (decI l) then validI (l.drop (decI l).2) else false := by
  unfold validI
  rw [Lib.validD_step _ (toB_ne hne), toB_drop, decI_L h]
  by_cases hg : Good (Lib.decodeL (toB l))
  · rw [if_pos hg, if_neg ((good_iff h).1 (by rw [decI_L h]; exact hg))]
  · rw [if_neg hg, if_pos]
    have := mt (good_iff h).2 (by rw [decI_L h]; exact hg)
    exact Classical.not_not.1 this
theorem runesI_step {l : List Int} (h : allB l = true) (hne : l ≠ []) : runesI l = ((decI l).1 : Int) :: runesI (l.drop (decI l).2) := by
  have hl : 0 < l.length := List.length_pos_iff.2 hne
  have hw := decI_width h
  obtain ⟨n, hn⟩ : ∃ n, l.length = n + 1 := ⟨l.length - 1, by omega⟩
  unfold runesI
  rw [hn]
  show (if toB l = [] then [] else _) = _
  rw [if_neg (toB_ne hne), decI_L h, toB_drop]
  rw [decI_L h] at hw
  rw [runesL_fuel n (l.drop (Lib.decodeL (toB l)).2).length _ (by rw [List.length_drop, toB_length]; omega) (by rw [List.length_drop, List.length_drop, toB_length]; omega)]

/-- What is laid is right, and its code points are those that were laid. -/
theorem lay_valid : ∀ (cs : List Int), AllPt cs → validI (layI cs) = true ∧ runesI (layI cs) = cs
  | [], _ => ⟨rfl, rfl⟩
  | c :: cs, h => by
    have hc : Pt c := h c (by simp)
    have hcs : AllPt cs := fun x hx => h x (by simp [hx])
    obtain ⟨ih1, ih2⟩ := lay_valid cs hcs
    have hB := allB_layI (c :: cs)
    rw [layI_cons] at hB ⊢
    have hne : putI c ++ layI cs ≠ [] := by
      intro h0
      have h4 := putI_len4 c
      rw [(List.append_eq_nil_iff.1 h0).1] at h4
      simp at h4
    have hd := dec_put hc (layI cs)
    have hdrop : (putI c ++ layI cs).drop (widI c) = layI cs := by rw [← putI_len hc]; simp
    have hcc : ((c.toNat : Nat) : Int) = c := by unfold Pt at hc; omega
    have hg : Good (decI (putI c ++ layI cs)) := by
      rw [hd]
      unfold Good widI
      rintro ⟨h1, h2⟩
      simp only at h1 h2
      split at h2
      · unfold Pt at hc; omega
      · split at h2
        · omega
        · split at h2 <;> omega
    refine ⟨?_, ?_⟩
    · rw [validI_step hB hne, if_pos hg, hd, hdrop]; exact ih1
    · rw [runesI_step hB hne, hd, hdrop, ih2, hcc]
/-- Right bytes are code points that were laid. -/
theorem valid_lay : ∀ (n : Nat) (l : List Int), l.length ≤ n → allB l = true → validI l = true → ∃ cs, AllPt cs ∧ l = layI cs
  | 0, l, hn, _, _ => ⟨[], (fun _ h => by cases h), List.eq_nil_of_length_eq_zero (by omega)⟩
  | n + 1, l, hn, hB, hv => by
    by_cases hne : l = []
    · exact ⟨[], (fun _ h => by cases h), hne⟩
    · rw [validI_step hB hne] at hv
      by_cases hg : Good (decI l)
      · rw [if_pos hg] at hv
        obtain ⟨c, hc, hd, ht, hle⟩ := dec_good_I hne (allB_take hB 4) hg
        have hw := widI_le c
        rw [hd] at hv
        obtain ⟨cs, h1, h2⟩ := valid_lay n (l.drop (widI c)) (by rw [List.length_drop]; omega) (allB_drop hB _) hv
        refine ⟨c :: cs, ?_, ?_⟩
        · intro x hx
          rcases List.mem_cons.1 hx with rfl | hx
          · exact hc
          · exact h1 x hx
        · rw [layI_cons, ← ht, ← h2, List.take_append_drop]
      · rw [if_neg hg] at hv
        cases hv
theorem runes_lay {l : List Int} (hB : allB l = true) (hv : validI l = true) : AllPt (runesI l) ∧ layI (runesI l) = l := by
  obtain ⟨cs, h1, rfl⟩ := valid_lay l.length l (Nat.le_refl _) hB hv
  rw [(lay_valid cs h1).2]
  exact ⟨h1, rfl⟩
theorem runes_len {l : List Int} (hB : allB l = true) (hv : validI l = true) : (runesI l).length ≤ l.length := by
  have h := runes_lay hB hv
  have := (layI_len (runesI l)).1
  rw [h.2] at this
  exact this
theorem codes_f {l : List Int} (hB : allB l = true) (hlen : validI l = true → (runesI l).length < 35184372088832) : code_Codes.f l = some (if validI l = true then (runesI l, 0) else ([], 6)) := by
  unfold code_Codes.f
  rw [if_pos hB]
  by_cases hv : validI l = true
  · rw [if_pos hv, if_pos (by exact hv), if_pos (hlen hv)]
  · rw [if_neg hv, if_neg (by exact hv)]

/-- Where the first fault is. -/
def faultL : Nat → List Int → Int → Int
  | 0, _, _ => -1
  | n + 1, l, at' => if l = [] then -1 else if Good (decI l) then faultL n (l.drop (decI l).2) (at' + (decI l).2) else at'
def faultI (l : List Int) : Int := faultL l.length l 0
theorem faultL_valid : ∀ (n : Nat) (l : List Int) (at' : Int), l.length ≤ n → allB l = true → 0 ≤ at' → (validI l = true ∧ faultL n l at' = -1) ∨ (validI l = false ∧ at' ≤ faultL n l at' ∧ faultL n l at' < at' + l.length)
  | 0, l, at', hn, _, _ => by
    have : l = [] := List.eq_nil_of_length_eq_zero (by omega)
    subst this
    exact .inl ⟨rfl, rfl⟩
  | n + 1, l, at', hn, hB, h0 => by
    unfold faultL
    by_cases hne : l = []
    · subst hne; exact .inl ⟨rfl, rfl⟩
    · have hw := decI_width hB
      have hl : 0 < l.length := List.length_pos_iff.2 hne
      rw [if_neg hne, validI_step hB hne]
      by_cases hg : Good (decI l)
      · rw [if_pos hg, if_pos hg]
        obtain ⟨c, hc, hd, ht, hle⟩ := dec_good_I hne (allB_take hB 4) hg
        rw [hd] at hw ⊢
        simp only at hw ⊢
        rcases faultL_valid n (l.drop (widI c)) (at' + (widI c : Nat)) (by rw [List.length_drop]; omega) (allB_drop hB _) (by omega) with h | ⟨h1, h2, h3⟩
        · exact .inl h
        · rw [List.length_drop] at h3
          exact .inr ⟨h1, by omega, by omega⟩
      · rw [if_neg hg, if_neg hg]
        exact .inr ⟨rfl, by omega, by omega⟩
theorem faultI_valid {l : List Int} (hB : allB l = true) : (validI l = true ∧ faultI l = -1) ∨ (validI l = false ∧ 0 ≤ faultI l ∧ faultI l < l.length) := by
  have := faultL_valid l.length l 0 (Nat.le_refl _) hB (by omega)
  simpa [faultI] using this
end Go.Proofs.YtnaaimnmphcilaaDoor.Hand

namespace Go.Proofs.YtnaaimnmphcilaaDoor.RefB
open Go.RowKit Go.Proofs.YtnaaimnmphcilaaDoor.Hand Go.Proofs.YtnaaimnmphcilaaDoor.QA Go.Proofs.YtnaaimnmphcilaaDoorW.PrintWords Go.Proofs.YtnaaimnmphcilaaDoorW.PrintLast
set_option linter.unusedVariables false
set_option linter.unusedSimpArgs false

theorem wrap_small {i : Int} (h0 : 0 ≤ i) (h1 : i < 9223372036854775807) : wrap64 (i + 1) = i + 1 := by unfold wrap64; omega
theorem wrap_id {i : Int} (h0 : 0 ≤ i) (h1 : i ≤ 9223372036854775807) : wrap64 i = i := by unfold wrap64; omega
theorem bytes_eq {a b : List Int} (ha : allB a = true) (hb : allB b = true) : ((strOfNums a).toList = (strOfNums b).toList) ↔ a = b := by
  rw [ByteArray.toList_eq, ByteArray.toList_eq]
  constructor
  · intro h
    rw [strOfNums_data, strOfNums_data] at h
    have hl := congrArg List.length h
    simp at hl
    apply List.ext_getElem hl
    intro i h1 h2
    have hi := congrArg (fun l => l[i]?) h
    simp [h1, h2] at hi
    have hx := allB_mem ha (a[i]) (List.getElem_mem h1)
    have hy := allB_mem hb (b[i]) (List.getElem_mem h2)
    have := congrArg UInt8.toNat hi
    simp at this
    omega
  · rintro rfl; rfl
theorem ref_is (c : Int) (h0 : 0 ≤ c) : gessoref01_Is.f c = some (decide (Pt c)) := by
  unfold gessoref01_Is.f Pt
  by_cases h1 : c ≤ 1114111
  · by_cases h2 : c < 55296
    · simp [h0, h1, h2]
    · simp [h1, h2]
  · have h2 : ¬ c < 55296 := by omega
    simp [h1, h2]
theorem ref_width (c : Int) (h0 : 0 ≤ c) : gessoref01_Width.f c = some (if Pt c then ((widI c : Nat) : Int) else 0) := by
  unfold gessoref01_Width.f
  rw [ref_is c h0, Option.bind_some]
  by_cases hp : Pt c
  · simp only [hp, decide_true, if_true]
    unfold widI
    by_cases h1 : c < 128
    · simp [h1]
    · by_cases h2 : c < 2048
      · simp [h1, h2]
      · by_cases h3 : c < 65536
        · simp [h1, h2, h3]
        · simp [h1, h2, h3]
  · simp [hp]
theorem ref_put (c : Int) (hp : Pt c) : gessoref01_Put.f c = some (putI c) := by
  have h0 : 0 ≤ c := by unfold Pt at hp; omega
  have hm : c ≤ 1114111 := by unfold Pt at hp; omega
  unfold gessoref01_Put.f
  rw [ref_width c h0, Option.bind_some, if_pos hp]
  have ht : ∀ d : Int, Int.tmod c d = c % d := fun d => Int.tmod_eq_emod_of_nonneg h0
  have hd : ∀ d : Int, Int.tdiv c d = c / d := fun d => Int.tdiv_eq_ediv_of_nonneg h0
  by_cases h1 : c < 128
  · rw [putI_1 hp h1]
    have hw : widI c = 1 := by unfold widI; rw [if_pos h1]
    rw [hw, if_pos (by decide), Int.emod_eq_of_lt h0 (by omega)]
  · by_cases h2 : c < 2048
    · rw [putI_2 hp h1 h2]
      have hw : widI c = 2 := by unfold widI; rw [if_neg h1, if_pos h2]
      rw [hw, if_neg (by decide), if_pos (by decide), ht, hd]
      congr 2
      · omega
      · congr 1; omega
    · by_cases h3 : c < 65536
      · rw [putI_3 hp h2 h3]
        have hw : widI c = 3 := by unfold widI; rw [if_neg h1, if_neg h2, if_pos h3]
        rw [hw, if_neg (by decide), if_neg (by decide), if_pos (by decide), ht, hd, hd]
        congr 2
        · omega
        · congr 1
          · omega
          · congr 1; omega
      · rw [putI_4 hp h3]
        have hw : widI c = 4 := by unfold widI; rw [if_neg h1, if_neg h2, if_neg h3]
        rw [hw, if_neg (by decide), if_neg (by decide), if_neg (by decide), if_pos (by decide), ht, hd, hd, hd]
        congr 2
        · omega
        · congr 1
          · omega
          · congr 1
            · omega
            · congr 1; omega

/-- One pass of the number's loop. -/
theorem num_step (k : Nat) (b : List Int) (n s i : Int) (h1 : i < n) (h2 : 0 ≤ i) (h3 : i < b.length) :
    gessoref01_number.l0 (k + 1) b n s i = if 128 ≤ rd b i ∧ rd b i ≤ 191 then gessoref01_number.l0 k b n ((((64 * s) % 4294967296) + (((rd b i) - 128) % 256)) % 4294967296) (wrap64 (i + 1)) else some (0, false) := by
  rw [gessoref01_number.l0, if_pos h1, if_pos h2, if_pos h3]
  by_cases ha : rd b i < 128
  · rw [if_pos ha, if_neg (by omega)]
  · by_cases hb : rd b i > 191
    · rw [if_neg ha, if_pos hb, if_neg (by omega)]
    · rw [if_neg ha, if_neg hb, if_pos (by omega)]
theorem num_end (k : Nat) (b : List Int) (n s i : Int) (h1 : ¬ i < n) : gessoref01_number.l0 (k + 1) b n s i = some (s, true) := by
  rw [gessoref01_number.l0, if_neg h1]
theorem num_total (b : List Int) (n : Int) (hn : n ≤ b.length) : ∀ (d k : Nat) (s i : Int), n - i ≤ d → d + 1 ≤ k → 0 ≤ i → i ≤ n → n ≤ 4 → 0 ≤ s → s < 4294967296 → ∃ s' ok, gessoref01_number.l0 k b n s i = some (s', ok) ∧ 0 ≤ s' ∧ s' < 4294967296
  | d, k, s, i, hd, hk, h0, hi, h4, hs, hs' => by
    obtain ⟨k, rfl⟩ : ∃ m, k = m + 1 := ⟨k - 1, by omega⟩
    by_cases h : i < n
    · rw [num_step k b n s i h h0 (by omega)]
      by_cases hc : 128 ≤ rd b i ∧ rd b i ≤ 191
      · rw [if_pos hc, wrap_small (by omega) (by omega)]
        match d, hd, hk with
        | 0, hd, hk => omega
        | d + 1, hd, hk => exact num_total b n hn d k _ _ (by omega) (by omega) (by omega) (by omega) h4 (by omega) (by omega)
      · rw [if_neg hc]
        exact ⟨0, false, rfl, by omega, by omega⟩
    · rw [num_end k b n s i h]
      exact ⟨s, true, rfl, hs, hs'⟩
theorem num_some (b : List Int) (n : Nat) (k : Nat) (h1 : 1 ≤ n) (h4 : n ≤ 4) (hn : n ≤ b.length) (hk : 8 ≤ k) : ∃ s' ok, gessoref01_number.f k b (n : Int) = some (s', ok) ∧ 0 ≤ s' ∧ s' < 4294967296 := by
  obtain ⟨k, rfl⟩ : ∃ m, k = m + 1 := ⟨k - 1, by omega⟩
  unfold gessoref01_number.f
  rw [if_pos (by omega)]
  have hall : ∀ s : Int, 0 ≤ s → s < 4294967296 → ∃ s' ok, gessoref01_number.j0 (k + 1) b (n : Int) s = some (s', ok) ∧ 0 ≤ s' ∧ s' < 4294967296 := fun s ha hb => by
    rw [gessoref01_number.j0]
    exact num_total b n (by omega) 4 k s 1 (by omega) (by omega) (by omega) (by omega) (by omega) ha hb
  split
  · exact hall _ (by omega) (by omega)
  · split
    · exact hall _ (by omega) (by omega)
    · split
      · exact hall _ (by omega) (by omega)
      · exact hall _ (by omega) (by omega)

theorem rd_cons0 (a : Int) (l : List Int) : rd (a :: l) 0 = a := by simp [rd]
theorem rd_cons1 (a b : Int) (l : List Int) : rd (a :: b :: l) 1 = b := by simp [rd]
theorem rd_cons2 (a b c : Int) (l : List Int) : rd (a :: b :: c :: l) 2 = c := by simp [rd]
theorem rd_cons3 (a b c d : Int) (l : List Int) : rd (a :: b :: c :: d :: l) 3 = d := by simp [rd]

theorem num_put (c : Int) (hp : Pt c) (rest : List Int) (k : Nat) (hk : 8 ≤ k) : gessoref01_number.f k (putI c ++ rest) (widI c : Nat) = some (c, true) := by
  have h0 : 0 ≤ c := by unfold Pt at hp; omega
  have hm : c ≤ 1114111 := by unfold Pt at hp; omega
  obtain ⟨k, rfl⟩ : ∃ m, k = m + 5 := ⟨k - 5, by omega⟩
  unfold gessoref01_number.f
  by_cases h1 : c < 128
  · have hw : widI c = 1 := by unfold widI; rw [if_pos h1]
    rw [putI_1 hp h1, hw]
    simp only [List.cons_append, List.nil_append, rd_cons0]
    rw [if_pos (by simp <;> omega), if_neg (by decide), if_neg (by decide), if_neg (by decide), gessoref01_number.j0, num_end _ _ _ _ _ (by decide), Int.emod_eq_of_lt h0 (by omega)]
  · by_cases h2 : c < 2048
    · have hw : widI c = 2 := by unfold widI; rw [if_neg h1, if_pos h2]
      rw [putI_2 hp h1 h2, hw]
      simp only [List.cons_append, List.nil_append, rd_cons0]
      rw [if_pos (by simp <;> omega), if_pos (by decide), gessoref01_number.j0, num_step _ _ _ _ _ (by decide) (by decide) (by simp <;> omega), rd_cons1, if_pos (by omega), wrap_small (by decide) (by decide), num_end _ _ _ _ _ (by decide)]
      congr 2; omega
    · by_cases h3 : c < 65536
      · have hw : widI c = 3 := by unfold widI; rw [if_neg h1, if_neg h2, if_pos h3]
        rw [putI_3 hp h2 h3, hw]
        simp only [List.cons_append, List.nil_append, rd_cons0]
        rw [if_pos (by simp <;> omega), if_neg (by decide), if_pos (by decide), gessoref01_number.j0, num_step _ _ _ _ _ (by decide) (by decide) (by simp <;> omega), rd_cons1, if_pos (by omega), wrap_small (by decide) (by decide),
          num_step _ _ _ _ _ (by decide) (by decide) (by simp <;> omega)]
        rw [show (1 : Int) + 1 = 2 from rfl, rd_cons2, if_pos (by omega), wrap_small (by decide) (by decide), num_end _ _ _ _ _ (by decide)]
        congr 2; omega
      · have hw : widI c = 4 := by unfold widI; rw [if_neg h1, if_neg h2, if_neg h3]
        rw [putI_4 hp h3, hw]
        simp only [List.cons_append, List.nil_append, rd_cons0]
        rw [if_pos (by simp <;> omega), if_neg (by decide), if_neg (by decide), if_pos (by decide), gessoref01_number.j0, num_step _ _ _ _ _ (by decide) (by decide) (by simp <;> omega), rd_cons1, if_pos (by omega), wrap_small (by decide) (by decide),
          num_step _ _ _ _ _ (by decide) (by decide) (by simp <;> omega)]
        rw [show (1 : Int) + 1 = 2 from rfl, rd_cons2, if_pos (by omega), wrap_small (by decide) (by decide), num_step _ _ _ _ _ (by decide) (by decide) (by simp <;> omega)]
        rw [show (2 : Int) + 1 = 3 from rfl, rd_cons3, if_pos (by omega), wrap_small (by decide) (by decide), num_end _ _ _ _ _ (by decide)]
        congr 2; omega

/-- What n bytes stand for: the head of l, decoded. -/
theorem ex_dec {l : List Int} {n : Nat} {c : Int} (hc : Pt c) (h : putI c = l.take n) (hn : n ≤ l.length) : decI l = (c.toNat, n) ∧ widI c = n := by
  have hw : widI c = n := by rw [← putI_len hc, h, List.length_take]; omega
  have := dec_put hc (l.drop n)
  rw [h, List.take_append_drop, hw] at this
  exact ⟨this, hw⟩

def oneI (l : List Int) : Int × Int := if Hand.Good (decI l) then ((((decI l).1 : Nat) : Int), (((decI l).2 : Nat) : Int)) else (0, 0)

theorem one_j1 (l : List Int) (hB : allB l = true) (n k : Nat) (h1 : 1 ≤ n) (h4 : n ≤ 4) (hn : n ≤ l.length) (hk : 8 ≤ k) :
    (∃ c : Int, Pt c ∧ putI c = l.take n ∧ gessoref01_One.j1 (k + 1) l n true = some (c, (n : Int))) ∨
    ((¬ ∃ c : Int, Pt c ∧ putI c = l.take n) ∧ gessoref01_One.j1 (k + 1) l n true = gessoref01_One.l0 k l ((n : Int) + 1)) := by
  rw [gessoref01_One.j1, if_pos rfl]
  obtain ⟨s, ok, hs, hs0, hs1⟩ := num_some l n k h1 h4 hn hk
  by_cases he : ∃ c : Int, Pt c ∧ putI c = l.take n
  · obtain ⟨c, hc, hp⟩ := he
    obtain ⟨hd, hw⟩ := ex_dec hc hp hn
    have hnum := num_put c hc (l.drop n) k hk
    rw [hp, List.take_append_drop, hw] at hnum
    refine .inl ⟨c, hc, hp, ?_⟩
    have hc0 : 0 ≤ c := by unfold Pt at hc; omega
    rw [hnum, Option.bind_some]
    simp only [if_true]
    rw [ref_width c hc0, Option.bind_some, if_pos hc, hw, if_pos rfl, ref_put c hc, Option.bind_some, if_pos (by omega), if_pos (by omega), Int.toNat_natCast, hp, if_pos rfl]
  · refine .inr ⟨he, ?_⟩
    rw [hs, Option.bind_some]
    simp only
    have hwr : wrap64 ((n : Int) + 1) = (n : Int) + 1 := wrap_small (by omega) (by omega)
    by_cases ho : ok = true
    · rw [if_pos ho, ref_width s hs0, Option.bind_some]
      by_cases hp : Pt s
      · rw [if_pos hp]
        by_cases hw : ((widI s : Nat) : Int) = (n : Int)
        · rw [if_pos hw, ref_put s hp, Option.bind_some, if_pos (by omega), if_pos (by omega), Int.toNat_natCast]
          rw [if_neg, hwr]
          intro heq
          exact he ⟨s, hp, (bytes_eq (allB_putI s) (allB_take hB n)).1 heq⟩
        · rw [if_neg hw, hwr]
      · rw [if_neg hp, if_neg (by omega), hwr]
    · rw [if_neg ho, hwr]

theorem one_l0 (l : List Int) (hB : allB l = true) (hne : l ≠ []) : ∀ (d n k : Nat), n + d = 5 → 1 ≤ n → 2 * d + 12 ≤ k → (∀ m, 1 ≤ m → m < n → m ≤ l.length → ¬ ∃ c : Int, Pt c ∧ putI c = l.take m) → gessoref01_One.l0 k l (n : Int) = some (oneI l)
  | d, n, k, hd, h1, hk, hno => by
    obtain ⟨k, rfl⟩ : ∃ m, k = m + 2 := ⟨k - 2, by omega⟩
    have hlen : 0 < l.length := List.length_pos_iff.2 hne
    have stop : 5 ≤ n ∨ l.length < n → oneI l = (0, 0) := by
      intro h
      unfold oneI
      rw [if_neg]
      intro hg
      obtain ⟨c, hc, hdd, ht, hle⟩ := dec_good_I hne (allB_take hB 4) hg
      have := widI_le c
      exact hno (widI c) (by omega) (by omega) hle ⟨c, hc, ht.symm⟩
    rw [gessoref01_One.l0]
    by_cases h4 : (n : Int) ≤ 4
    · rw [if_pos h4]
      by_cases hn : (n : Int) ≤ (l.length : Int)
      · rw [decide_eq_true hn]
        rcases one_j1 l hB n k h1 (by omega) (by omega) (by omega) with ⟨c, hc, hp, hr⟩ | ⟨hne', hr⟩
        · rw [hr]
          obtain ⟨hdd, hw⟩ := ex_dec hc hp (by omega)
          have hc0 : 0 ≤ c := by unfold Pt at hc; omega
          unfold oneI
          rw [hdd, if_pos]
          · simp only [Int.toNat_of_nonneg hc0]
          · intro ⟨ha, hb⟩
            simp only at ha hb
            have : c = 65533 := by omega
            subst this
            have : widI 65533 = 3 := by decide
            omega
        · rw [hr]
          match d, hd, hk with
          | 0, hd, hk => omega
          | d + 1, hd, hk =>
            have := one_l0 l hB hne d (n + 1) k (by omega) (by omega) (by omega) (fun m hm1 hm2 hm3 => by
              by_cases hmn : m = n
              · rw [hmn]; exact hne'
              · exact hno m hm1 (by omega) hm3)
            rw [show ((n : Int) + 1) = ((n + 1 : Nat) : Int) by omega]
            exact this
      · rw [decide_eq_false hn, gessoref01_One.j1, if_neg (by decide), stop (by omega)]
    · rw [if_neg h4, gessoref01_One.j1, if_neg (by decide), stop (by omega)]
theorem one_f (l : List Int) (hB : allB l = true) (hne : l ≠ []) (k : Nat) (hk : 20 ≤ k) : gessoref01_One.f k l = some (oneI l) :=
  one_l0 l hB hne 4 1 k (by omega) (by omega) (by omega) (fun m h1 h2 => by omega)

theorem oneI_good {l : List Int} (hB : allB l = true) (hne : l ≠ []) (hg : Hand.Good (decI l)) : ∃ c : Int, Pt c ∧ oneI l = (c, ((widI c : Nat) : Int)) ∧ decI l = (c.toNat, widI c) ∧ widI c ≤ l.length := by
  obtain ⟨c, hc, hdd, ht, hle⟩ := dec_good_I hne (allB_take hB 4) hg
  have hc0 : 0 ≤ c := by unfold Pt at hc; omega
  refine ⟨c, hc, ?_, hdd, hle⟩
  unfold oneI
  rw [if_pos hg, hdd]
  simp only [Int.toNat_of_nonneg hc0]
theorem oneI_bad {l : List Int} (hg : ¬ Hand.Good (decI l)) : oneI l = (0, 0) := by unfold oneI; rw [if_neg hg]
end Go.Proofs.YtnaaimnmphcilaaDoor.RefB

namespace Go.Proofs.YtnaaimnmphcilaaDoor.Hand
open Go.RowKit Go.Proofs.YtnaaimnmphcilaaDoorW.PrintWords Go.Proofs.YtnaaimnmphcilaaDoorW.PrintLast Go.Proofs.YtnaaimnmphcilaaDoorW.PrintMore
set_option linter.unusedVariables false
set_option linter.unusedSimpArgs false

theorem rd_lt {l : List Int} (hB : allB l = true) (i : Int) : 0 ≤ rd l i ∧ rd l i < 256 := by
  unfold rd
  rw [List.getD_eq_getElem?_getD]
  cases h : l[i.toNat]? with
  | none => simp
  | some x => exact allB_mem hB x (List.mem_of_getElem? h)

theorem full_calls (A : Option Addr) (c : Nat) (l : List Int) (w : World) (hr : Kd.C (Kd.int .u8) w A l.length l) (hT : Tabs w) (hB : allB l = true) (hne : l ≠ []) :
    Calls Tryd.prog 36 #[.slice A l.length c] w fun e w' => e = .returned (.bool (fullI l)) ∧ Below w.heap.size w w' := by
  obtain ⟨b, off, rfl, hb, hcell⟩ := view hr hne
  have hl : 0 < l.length := List.length_pos_iff.2 hne
  have h0 := rd_lt hB 0
  have h1 := rd_lt hB 1
  have h2 := rd_lt hB 2
  refine full_walk b off c l.length (rd l 0).toNat (rd l 1).toNat (rd l 2).toNat w hT hl hr.2.1 (by omega) hb ?_ ?_ ?_ (by omega) (by omega)
  · have := hcell 0 hl
    rw [Int.toNat_of_nonneg h0.1]
    simpa [rd] using this
  · intro h
    rw [Int.toNat_of_nonneg h1.1]
    simpa [rd] using hcell 1 h
  · intro h
    rw [Int.toNat_of_nonneg h2.1]
    simpa [rd] using hcell 2 h

/-- Bytes that may go on to one code point. -/
def openI (l : List Int) : Bool := decide (0 < l.length ∧ l.length < 4) && !fullI l

theorem open_calls (A : Option Addr) (c : Nat) (l : List Int) (w : World) (hr : Kd.C (Kd.int .u8) w A l.length l) (hT : Tabs w) (hB : allB l = true) :
    Calls Tryd.prog 18 #[.slice A l.length c] w fun e w' => e = .returned (.bool (openI l)) ∧ Below w.heap.size w w' := by
  have hm := hr.2.1
  by_cases hl : 0 < l.length
  · have hne : l ≠ [] := List.length_pos_iff.1 hl
    by_cases h4 : l.length < 4
    · have cF := full_calls A c l w hr hT hB hne
      have ho : openI l = !fullI l := by unfold openI; rw [decide_eq_true ⟨hl, h4⟩, Bool.true_and]
      rw [ho]
      have hli : (l.length : Int) > 0 := by omega
      have h4i : (l.length : Int) < 4 := by omega
      clear hr hT hB ho
      generalize fullI l = f at *
      generalize l.length = n at *
      clear hne
      cases f
      · go_enter Tryd.func18, Tryd.ntmps18
        go_wp2_with (go_at_call 36; refine cF.mono ?_; rintro e w1 ⟨rfl, hb1⟩)
        go_ret
        exact ⟨rfl, hb1⟩
      · go_enter Tryd.func18, Tryd.ntmps18
        go_wp2_with (go_at_call 36; refine cF.mono ?_; rintro e w1 ⟨rfl, hb1⟩)
        go_ret
        exact ⟨rfl, hb1⟩
    · have ho : openI l = false := by unfold openI; rw [decide_eq_false (by omega), Bool.false_and]
      rw [ho]
      have hli : (l.length : Int) > 0 := by omega
      have h4i : ¬ (l.length : Int) < 4 := by omega
      clear hr hT hB ho
      generalize l.length = n at *
      go_enter Tryd.func18, Tryd.ntmps18
      go_wp2
      go_ret
      exact ⟨rfl, Below.refl _ _⟩
  · have ho : openI l = false := by unfold openI; rw [decide_eq_false (by omega), Bool.false_and]
    rw [ho]
    have hli : ¬ (l.length : Int) > 0 := by omega
    clear hr hT hB ho
    generalize l.length = n at *
    go_enter Tryd.func18, Tryd.ntmps18
    go_wp2
    go_ret
    exact ⟨rfl, Below.refl _ _⟩

theorem info5 : (Tryd.prog.info? 5).map (fun i => (i.zero, i.size, i.bytes)) = some (some (.int .u8 0), 1, 1) := by kernel_rfl

/-- slices.Clone at bytes. -/
theorem clone_calls (A : Option Addr) (c : Nat) (l : List Int) (w : World) (hr : Kd.C (Kd.int .u8) w A l.length l) (hc : l.length ≤ c) (hl : l.length ≤ 140737488355328) :
    Calls Tryd.prog 45 #[.slice A l.length c] w fun e w' => ∃ v, e = .returned v ∧ Kd.R (Kd.int .u8) 5 w' w.heap.size (fun _ => True) v l ∧ Below w.heap.size w w' := by
  by_cases hn : A = none
  · subst hn
    have hl0 : l = [] := by
      by_cases hne : l = []
      · exact hne
      · obtain ⟨b, off, h, _⟩ := view hr hne
        cases h
    subst hl0
    clear hr
    have q23 : ∀ w, (binOp .eql 23 (.slice none (0 : Nat) c) (.slice none 0 0)).run Tryd.prog w = .ok (.bool true) w := fun w => Lib.run_eql_slice_nil w _ _ none 0 c 0 0 Tryd.underlying23
    go_enter Tryd.func45, Tryd.ntmps45
    go_wp2
    all_goals (go_ret; exact ⟨_, rfl, Kd.R_nil _ _ _ _ _, Below.refl _ _⟩)
  · obtain ⟨a, rfl⟩ := Option.ne_none_iff_exists'.1 hn
    have HR := Aside0.mk hr
    clear hr hn
    have q23 : ∀ w, (binOp .eql 23 (.slice (some a) l.length c) (.slice none 0 0)).run Tryd.prog w = .ok (.bool false) w := fun w => Lib.run_eql_slice_nil w _ _ (some a) l.length c 0 0 Tryd.underlying23
    go_enter Tryd.func45, Tryd.ntmps45
    go_wp2_with (first | ((with_reducible refine gate_dst (N := 5) rfl ?_); refine Kd.R_lit (Kd.int .u8) w.heap.size 5 rfl (N := 5) rfl (xs := ([] : List Int)) (inner := []) (ok := fun _ => True) (okp := fun _ => True) (by go_simp) (Reps.none _ _) (fun _ hk => hk) trivial (Below.refl _ _) (Nat.le_refl _) (by simp) ?_; intro v1 w1 HO1 HB1 HG1 HAT1) | ((with_reducible refine gate_builtin (b := .append) (xs := #[.tmp 5, .tmp 6]) rfl ?_); at_builtin; refine Kd.R_append_rows (Kd.int .u8) (w0 := w) w.heap.size rfl (.tmp 5) (.tmp 6) 23 5 (.int .u8 0) 1 rfl Tryd.underlying23 info5 rfl (by decide) (by decide) v1 [] l (some a) l.length c (fun _ => True) (fun _ => False) rfl rfl HO1 (Kd.C_below HR.out HB1) (fun _ _ h => h) (fun _ h => h.elim) (fun _ _ => trivial) HB1 HB1.size ?aL ?_; (case aL => simp; omega); intro v2 w2 HO2 HB2 HG2 HAT2; clear HO1 HB1 HG1 HAT1))
    go_ret
    exact ⟨_, rfl, HO2, HB2⟩
end Go.Proofs.YtnaaimnmphcilaaDoor.Hand

namespace Go.Proofs.YtnaaimnmphcilaaDoor.Hand
open Go.RowKit Go.Proofs.YtnaaimnmphcilaaDoorW.PrintWords Go.Proofs.YtnaaimnmphcilaaDoorW.PrintLast Go.Proofs.YtnaaimnmphcilaaDoorW.PrintMore
set_option linter.unusedVariables false
set_option linter.unusedSimpArgs false

theorem add_block (a : Addr) (j : Nat) : (a.add j).block = a.block := by unfold Addr.add; split <;> rfl
theorem C_keep {w w' : World} {S : Nat → Prop} {A : Option Addr} {k : IntKind} {l : List Int} (h : Kd.C (Kd.int k) w A l.length l) (hk : Kept w w' S) (hA : ∀ x, A = some x → ¬ S x.block) : Kd.C (Kd.int k) w' A l.length l := by
  refine ⟨h.1, h.2.1, fun hn => ?_⟩
  obtain ⟨ad, e, hc⟩ := h.2.2 hn
  refine ⟨ad, e, fun j p hj => ?_⟩
  obtain ⟨c, h1, h2, h3⟩ := hc j p hj
  exact ⟨c, h1, h2, fun i u hu => cell_kept (h3 i u hu) hk (by rw [add_block]; exact hA ad e)⟩

/-- A scan, at block g. -/
structure Sc (w : World) (g : Nat) (s b : Int) (A : Option Addr) (c : Nat) (l : List Int) : Prop where
  blk : w.heap[g]? = some (.cells #[.int .i64 s, .int .i64 b, .slice A l.length c] 67 (0, 0))
  came : Kd.C (Kd.int .u8) w A l.length l
  cap : l.length ≤ c
  apart : ∀ x, A = some x → x.block ≠ g
theorem Sc.keep {w w' : World} {S : Nat → Prop} {g : Nat} {s b : Int} {A : Option Addr} {c : Nat} {l : List Int} (h : Sc w g s b A c l) (hk : Kept w w' S) (hg : ¬ S g) (hA : ∀ x, A = some x → ¬ S x.block) : Sc w' g s b A c l :=
  ⟨blk_kept h.blk hk hg, C_keep h.came hk hA, h.cap, h.apart⟩
theorem Sc.below {w w' : World} {g : Nat} {s b : Int} {A : Option Addr} {c : Nat} {l : List Int} (h : Sc w g s b A c l) (hb : Below w.heap.size w w') : Sc w' g s b A c l :=
  h.keep (Kept.of_below hb (fun _ => False)) (fun h => h) (fun _ _ h => h)
theorem Sc.lt {w : World} {g : Nat} {s b : Int} {A : Option Addr} {c : Nat} {l : List Int} (h : Sc w g s b A c l) : g < w.heap.size := blk_lt h.blk
theorem Sc.cells {w : World} {g : Nat} {s b : Int} {A : Option Addr} {c : Nat} {l : List Int} (h : Sc w g s b A c l) :
    w.cell? ⟨g, 0, none⟩ = some (.int .i64 s) ∧ w.cell? ⟨g, 1, none⟩ = some (.int .i64 b) ∧ w.cell? ⟨g, 2, none⟩ = some (.slice A l.length c) :=
  ⟨blk_cell h.blk 0, blk_cell h.blk 1, blk_cell h.blk 2⟩

theorem new_calls (w : World) : Calls Tryd.prog 21 #[] w fun e w' => e = .returned (.pointer (some ⟨w.heap.size, 0, none⟩)) ∧ Sc w' w.heap.size 0 (-1) none 0 [] ∧ Below w.heap.size w w' := by
  go_enter Tryd.func21, Tryd.ntmps21
  go_wp2
  go_ret
  exact ⟨rfl, ⟨heap_alloc_new w _, Kd.C_nil _ _, Nat.le_refl _, fun _ h => by cases h⟩, (Below.refl _ _).alloc (Nat.le_refl _) _⟩

theorem fault_nil (w : World) : Calls Tryd.prog 25 #[.pointer none] w fun e w' => e = .returned (.int .i64 (-1)) ∧ Below w.heap.size w w' := by
  go_enter Tryd.func25, Tryd.ntmps25
  go_wp2
  go_ret
  exact ⟨rfl, Below.refl _ _⟩
theorem scan_fault {w : World} {g : Nat} {s b : Int} {A : Option Addr} {c : Nat} {l : List Int} (h : Sc w g s b A c l) :
    Calls Tryd.prog 25 #[.pointer (some ⟨g, 0, none⟩)] w fun e w' => e = .returned (.int .i64 b) ∧ Below w.heap.size w w' := by
  obtain ⟨c0, c1, c2⟩ := h.cells
  clear h
  go_enter Tryd.func25, Tryd.ntmps25
  go_wp2
  go_ret
  exact ⟨rfl, Below.refl _ _⟩

/-- What End tells. -/
def endI (s b : Int) (l : List Int) : Int := if b < 0 ∧ 0 < l.length then wrap64 (s - (l.length : Int)) else b
theorem end_nil (w : World) : Calls Tryd.prog 26 #[.pointer none] w fun e w' => e = .returned (.int .i64 (-1)) ∧ Below w.heap.size w w' := by
  have cF := fault_nil w
  go_enter Tryd.func26, Tryd.ntmps26
  go_wp2_with (go_at_call 25; refine cF.mono ?_; rintro e w1 ⟨rfl, hb1⟩)
  go_ret
  exact ⟨rfl, hb1⟩
set_option maxHeartbeats 1000000 in
theorem scan_end {w : World} {g : Nat} {s b : Int} {A : Option Addr} {c : Nat} {l : List Int} (h : Sc w g s b A c l) :
    Calls Tryd.prog 26 #[.pointer (some ⟨g, 0, none⟩)] w fun e w' => e = .returned (.int .i64 (endI s b l)) ∧ Below w.heap.size w w' := by
  have cF := scan_fault h
  obtain ⟨c0, c1, c2⟩ := h.cells
  clear h
  by_cases hb : b ≥ 0
  · have he : endI s b l = b := by unfold endI; rw [if_neg (by omega)]
    rw [he]
    clear he
    go_enter Tryd.func26, Tryd.ntmps26
    go_wp2_with (go_at_call 25; refine cF.mono ?_; rintro e w1 ⟨rfl, hb1⟩)
    go_ret
    exact ⟨rfl, hb1⟩
  · by_cases hl : l.length = 0
    · have he : endI s b l = b := by unfold endI; rw [if_neg (by omega)]
      rw [he]
      rw [hl] at c2
      clear he hl
      go_enter Tryd.func26, Tryd.ntmps26
      go_wp2_with (go_at_call 25; refine cF.mono ?_; rintro e w1 ⟨rfl, hb1⟩)
      go_ret
      exact ⟨rfl, hb1⟩
    · have he : endI s b l = wrap64 (s - (l.length : Int)) := by unfold endI; rw [if_pos ⟨by omega, by omega⟩]
      rw [he]
      have hlz : ((l.length : Int) == 0) = false := beq_eq_false_iff_ne.2 (by omega)
      clear he
      generalize l.length = n at *
      go_enter Tryd.func26, Tryd.ntmps26
      go_wp2_with (first | go_quiet (fail))
      go_ret
      exact ⟨rfl, pw_below_drewN (Below.refl _ _) _⟩

theorem state_nil (w : World) : Calls Tryd.prog 27 #[.pointer none] w fun e w' => e = .returned (.agg #[.int .i64 0, .int .i64 (-1), .slice none 0 0]) ∧ Below w.heap.size w w' := by
  go_enter Tryd.func27, Tryd.ntmps27
  go_wp2
  refine bodyPost_ret (v := .agg #[.int .i64 0, .int .i64 (-1), .slice none 0 0]) (by simp [results, Tryd.results27, go_sem]) rfl ⟨rfl, ?_⟩
  exact (Below.refl _ w).alloc (Nat.le_refl _) _
set_option maxHeartbeats 2000000 in
theorem scan_state {w : World} {g : Nat} {s b : Int} {A : Option Addr} {c : Nat} {l : List Int} (h : Sc w g s b A c l) (hl : l.length ≤ 140737488355328) :
    Calls Tryd.prog 27 #[.pointer (some ⟨g, 0, none⟩)] w fun e w' => ∃ v, e = .returned (.agg #[.int .i64 s, .int .i64 b, v]) ∧ Kd.R (Kd.int .u8) 5 w' w.heap.size (fun k => k ≠ w.heap.size) v l ∧ Below w.heap.size w w' := by
  have H := Aside0.mk h
  have HL := Aside0.mk hl
  obtain ⟨c0, c1, c2⟩ := h.cells
  have hlt := h.lt
  clear h hl
  have cC : ∀ W, Below w.heap.size w W → Calls Tryd.prog 45 #[.slice A l.length c] W fun e w' => ∃ v, e = .returned v ∧ Kd.R (Kd.int .u8) 5 w' W.heap.size (fun _ => True) v l ∧ Below W.heap.size W w' :=
    fun W hb => clone_calls A c l W (Kd.C_below H.out.came hb) H.out.cap HL.out
  go_enter Tryd.func27, Tryd.ntmps27
  go_wp2
  obtain ⟨W0, hW0⟩ : ∃ W0, W0 = w.alloc (Obj.cells #[Value.int IntKind.i64 0, Value.int IntKind.i64 0, Value.slice none 0 0] 49) := ⟨_, rfl⟩
  rw [← hW0]
  have hbW : Below w.heap.size w W0 := by rw [hW0]; exact (Below.refl _ w).alloc (Nat.le_refl _) _
  have hsW : W0.heap.size = w.heap.size + 1 := by rw [hW0]; exact Array.size_push _
  have hkW : W0.heap[w.heap.size]? = some (.cells #[Value.int IntKind.i64 0, Value.int IntKind.i64 0, Value.slice none 0 0] 49 (0, 0)) := by rw [hW0]; exact heap_alloc_new w _
  have d0 := pw_cell_below hbW c0
  have d1 := pw_cell_below hbW c1
  have d2 := pw_cell_below hbW c2
  have HC := Aside0.mk cC
  have HB := Aside0.mk hbW
  have HS := Aside0.mk hsW
  have HK := Aside0.mk hkW
  have HL0 := Aside0.mk hlt
  clear cC c0 c1 c2 hW0 hbW hsW hkW hlt H
  generalize hN : w.heap.size = N at *
  have HN := Aside0.mk hN
  clear hN
  generalize l.length = n at *
  have hgN : g ≠ N := by have := HL0.out; omega
  have hNg : N ≠ g := Ne.symm hgN
  go_region_held3 (fun w' => w'.cell? ⟨g, 0, none⟩ = some (.int .i64 s) ∧ w'.cell? ⟨g, 1, none⟩ = some (.int .i64 b) ∧ w'.cell? ⟨g, 2, none⟩ = some (.slice A n c))
    (first | exact ⟨e0, e1, e2⟩ | exact ⟨d0, d1, d2⟩ | go_keep)
    (first | (go_at_call 45; refine (HC.out _ (below_drew HB.out)).mono ?_; rintro e w1 ⟨v, rfl, HO, HB1⟩; obtain ⟨A3, c3, rfl⟩ := Kd.R_slice HO; have e0 := pw_cell_below HB1 (show W0.drew.cell? _ = some _ from d0); have e1 := pw_cell_below HB1 (show W0.drew.cell? _ = some _ from d1); have e2 := pw_cell_below HB1 (show W0.drew.cell? _ = some _ from d2); have K1 : w1.heap[N]? = some (.cells #[Value.int IntKind.i64 0, Value.int IntKind.i64 0, Value.slice none 0 0] 49 (0, 0)) := blk_below (w := W0.drew) HK.out HB1; have k0 : w1.cell? ⟨N, 0, none⟩ = some (.int .i64 0) := blk_cell K1 0; have k1 : w1.cell? ⟨N, 1, none⟩ = some (.int .i64 0) := blk_cell K1 1; have k2 : w1.cell? ⟨N, 2, none⟩ = some (.slice none 0 0) := blk_cell K1 2; have f0 := blk_frozen K1 0; have f1 := blk_frozen K1 1; have f2 := blk_frozen K1 2))
  all_goals go_wp2
  have K2 := blk_set (blk_set (blk_set K1 0 (.int .i64 s)) 1 (.int .i64 b)) 2 (.slice A3 l.length c3)
  have hsz : W0.drew.heap.size = N + 1 := HS.out
  have hbel : Below N w w1 := (below_drew HB.out).trans (HB1.mono (by omega))
  have HO1 : Kd.R (Kd.int .u8) 5 w1 N (fun k => k ≠ N) (.slice A3 l.length c3) l :=
    Kd.R_lower (Kd.R_mono (Kd.R_bound HO) (fun k hk => by have := hk.2.1; omega)) (show N ≤ W0.drew.heap.size by omega)
  have HO2 := Kd.R_far (Kd.R_far (Kd.R_far HO1 (p := ⟨N, 0, none⟩) (fun _ h => h) (.int .i64 s)) (p := ⟨N, 1, none⟩) (fun _ h => h) (.int .i64 b)) (p := ⟨N, 2, none⟩) (fun _ h => h) (.slice A3 l.length c3)
  have hbel2 := ((hbel.setCell (p := ⟨N, 0, none⟩) (Nat.le_refl _) (.int .i64 s)).setCell (p := ⟨N, 1, none⟩) (Nat.le_refl _) (.int .i64 b)).setCell (p := ⟨N, 2, none⟩) (Nat.le_refl _) (.slice A3 l.length c3)
  clear k0 k1 k2 f0 f1 f2 e0 e1 e2 d0 d1 d2 HB1 HO HO1 hbel
  generalize ((w1.setCell { block := N, off := 0 } (Value.int IntKind.i64 s)).setCell { block := N, off := 1 } (Value.int IntKind.i64 b)).setCell { block := N, off := 2 } (Value.slice A3 l.length c3) = W9 at *
  have q0 : W9.cell? ⟨N, 0, none⟩ = some (.int .i64 s) := blk_cell K2 0
  have q1 : W9.cell? ⟨N, 1, none⟩ = some (.int .i64 b) := blk_cell K2 1
  have q2 : W9.cell? ⟨N, 2, none⟩ = some (.slice A3 l.length c3) := blk_cell K2 2
  refine bodyPost_ret (v := .agg #[.int .i64 s, .int .i64 b, .slice A3 l.length c3]) (by simp [results, Tryd.results27, go_sem, q0, q1, q2]) rfl ⟨_, rfl, ?_, ?_⟩
  · rw [HN.out]; exact HO2
  · rw [HN.out]; exact hbel2

/-- slices.Grow of nothing. -/
theorem grow_calls (n : Nat) (hn : n ≤ 140737488355328) (w : World) :
    Calls Tryd.prog 53 #[.slice none 0 0, .int .i64 n] w fun e w' => ∃ v, e = .returned v ∧ Kd.R (Kd.int .u8) 5 w' w.heap.size (fun _ => True) v [] ∧ Below w.heap.size w w' := by
  by_cases h0 : n = 0
  · subst h0
    go_enter Tryd.func53, Tryd.ntmps53
    go_wp2
    go_ret
    exact ⟨_, rfl, Kd.R_nil _ _ _ _ _, Below.refl _ _⟩
  · have hz : (n : Int) > 0 := by omega
    have hz2 : ¬ (n : Int) < 0 := by omega
    have hw : wrap64 (n : Int) = (n : Int) := by unfold wrap64; omega
    have hw2 : wrap64 ((n : Int) - 0) = (n : Int) := by unfold wrap64; omega
    have H0 := Aside0.mk h0
    have HN := Aside0.mk hn
    have HW := Aside0.mk hw
    clear h0 hn
    go_enter Tryd.func53, Tryd.ntmps53
    go_wp2_with (first | ((with_reducible refine gate_builtin (b := .append) (xs := #[.tmp 20, .tmp 21]) rfl ?_); at_builtin; go_must (refine Kd.R_append_zeros (Kd.int .u8) (w0 := w) w.heap.size rfl (.tmp 20) (.tmp 21) 23 3 5 (.int .u8 0) 1 rfl Tryd.underlying23 Tryd.underlying3 info5 rfl (by decide) (by decide) (.slice none 0 0) [] 0 (wrap64 (n : Int)) (fun _ => True) rfl rfl ?aZ (fun _ _ => trivial) (Kd.R_nil _ _ _ _ _) ?a0 (Below.refl _ _) (Nat.le_refl _) ?aL ?_); (case aZ => rfl); (case a0 => rw [HW.out]; omega); (case aL => have := HN.out; rw [HW.out]; simp; omega); intro v2 w2 HO2 HB2 HG2 HAT2; obtain ⟨A2, n2, rfl⟩ := Kd.R_slice HO2))
    go_ret
    exact ⟨_, rfl, Kd.R_take (m := 0) HO2 (Nat.zero_le _), HB2⟩
end Go.Proofs.YtnaaimnmphcilaaDoor.Hand

namespace Go.Proofs.YtnaaimnmphcilaaDoor.Hand
open Go.RowKit Go.Proofs.YtnaaimnmphcilaaDoorW.PrintWords Go.Proofs.YtnaaimnmphcilaaDoorW.PrintLast Go.Proofs.YtnaaimnmphcilaaDoorW.PrintMore
set_option linter.unusedVariables false
set_option linter.unusedSimpArgs false

def encS (t : Option Addr × Nat × Nat) : Value := .slice t.1 t.2.1 t.2.2
def dS : Kd (Option Addr × Nat × Nat) := Kd.scalar encS (fun _ => rfl)
theorem info23 : (Tryd.prog.info? 23).map (fun i => (i.zero, i.size, i.bytes)) = some (some (.slice none 0 0), 1, 24) := by kernel_rfl

/-- The elements of a row of rows: each is a row of bytes of the call's own. -/
def Inner (w : World) (base : Nat) (ts : List (Option Addr × Nat × Nat)) (xss : List (List Int)) : Prop :=
  ts.length = xss.length ∧ ∀ (j : Nat) t xs, ts[j]? = some t → xss[j]? = some xs → Kd.R (Kd.int .u8) 5 w base (fun _ => True) (encS t) xs
theorem Inner.nil (w : World) (base : Nat) : Inner w base [] [] := ⟨rfl, fun _ _ _ h => by simp at h⟩
theorem Inner.imp {w w' : World} {base base' : Nat} {ts : List (Option Addr × Nat × Nat)} {xss : List (List Int)} (h : Inner w base ts xss)
    (hi : ∀ t xs, Kd.R (Kd.int .u8) 5 w base (fun _ => True) (encS t) xs → Kd.R (Kd.int .u8) 5 w' base' (fun _ => True) (encS t) xs) : Inner w' base' ts xss :=
  ⟨h.1, fun j t xs ht hx => hi t xs (h.2 j t xs ht hx)⟩
theorem Inner.below {w w' : World} {base : Nat} {ts : List (Option Addr × Nat × Nat)} {xss : List (List Int)} (h : Inner w base ts xss) (hb : Below w.heap.size w w') : Inner w' base ts xss := h.imp fun _ _ hr => Kd.R_below hr hb
theorem Inner.lower {w : World} {base base' : Nat} {ts : List (Option Addr × Nat × Nat)} {xss : List (List Int)} (h : Inner w base ts xss) (hb : base' ≤ base) : Inner w base' ts xss := h.imp fun _ _ hr => Kd.R_lower hr hb
theorem Inner.over {w w' : World} {base : Nat} {ts : List (Option Addr × Nat × Nat)} {xss : List (List Int)} (h : Inner w base ts xss) {v : Value} {base2 : Nat} {ok : Nat → Prop} {us : List (Option Addr × Nat × Nat)} (hv : Kd.R dS 23 w base2 ok v us) (hg : w.grownBy w' v.ownBlock) : Inner w' base ts xss :=
  h.imp fun _ _ hr => Kd.R_over' hr (Kd.R_typed hv) (fun q hq => by have hq' : q ∈ [5] := hq; simp at hq'; subst hq'; decide) hg
theorem Inner.snoc {w : World} {base : Nat} {ts us : List (Option Addr × Nat × Nat)} {xss yss : List (List Int)} (h : Inner w base ts xss) (h' : Inner w base us yss) : Inner w base (ts ++ us) (xss ++ yss) := by
  refine ⟨by rw [List.length_append, List.length_append, h.1, h'.1], fun j t xs ht hx => ?_⟩
  by_cases hj : j < ts.length
  · rw [List.getElem?_append_left hj] at ht
    rw [List.getElem?_append_left (by rw [← h.1]; exact hj)] at hx
    exact h.2 j t xs ht hx
  · rw [List.getElem?_append_right (by omega)] at ht
    rw [List.getElem?_append_right (by rw [← h.1]; omega), ← h.1] at hx
    exact h'.2 (j - ts.length) t xs ht hx
theorem Inner.one {w : World} {base : Nat} {t : Option Addr × Nat × Nat} {xs : List Int} (h : Kd.R (Kd.int .u8) 5 w base (fun _ => True) (encS t) xs) : Inner w base [t] [xs] :=
  ⟨rfl, fun j t' xs' ht hx => by
    cases j with
    | zero => simp at ht hx; subst ht; subst hx; exact h
    | succ j => simp at ht⟩

/-- A row of rows of bytes, of the call's own. -/
def Rows2 (w : World) (base : Nat) (v : Value) (xss : List (List Int)) : Prop := ∃ ts, Kd.R dS 23 w base (fun _ => True) v ts ∧ Inner w base ts xss

def extI (o : List (List Int)) : List (List Int) := o.flatMap fun t => [t ++ [128], t ++ [143], t ++ [158], t ++ [173], t ++ [188], t ++ [144], t ++ [160], t ++ [191]]
def tailsI : Nat → List (List Int)
  | 0 => [[]]
  | n + 1 => extI (tailsI n)
theorem extI_len (o : List (List Int)) : (extI o).length = 8 * o.length := by
  induction o with
  | nil => rfl
  | cons t o ih => simp [extI] at ih ⊢; omega
theorem tailsI_len : ∀ n, (tailsI n).length = 8 ^ n
  | 0 => rfl
  | n + 1 => by rw [tailsI, extI_len, tailsI_len n, Nat.pow_succ]; omega
theorem tailsI_each : ∀ (n : Nat), ∀ t ∈ tailsI n, t.length = n
  | 0, t, h => by simp [tailsI] at h; rw [h]; rfl
  | n + 1, t, h => by
    simp only [tailsI, extI, List.mem_flatMap] at h
    obtain ⟨u, hu, ht⟩ := h
    have := tailsI_each n u hu
    simp at ht
    rcases ht with rfl | rfl | rfl | rfl | rfl | rfl | rfl | rfl <;> simp [this]
end Go.Proofs.YtnaaimnmphcilaaDoor.Hand

namespace Go.Proofs.YtnaaimnmphcilaaDoor.Hand
open Go.RowKit Go.Proofs.YtnaaimnmphcilaaDoorW.PrintWords Go.Proofs.YtnaaimnmphcilaaDoorW.PrintLast Go.Proofs.YtnaaimnmphcilaaDoorW.PrintMore

/-- New blocks get colour c. -/
def paint (n : Nat) (c : Nat) (col : Nat → Nat) : Nat → Nat := fun k => if k < n then col k else c
theorem col_keep {w w1 : World} {row : Option Nat} {base c c' : Nat} {col : Nat → Nat} {v : Value} {xs : List Int} (h : Kd.R (Kd.int .u8) 5 w base (fun k => col k = c') v xs) (hg : w.grownBy w1 row) (hrow : ∀ k, row = some k → col k = c) (hne : c' ≠ c) :
    Kd.R (Kd.int .u8) 5 w1 base (fun k => paint w.heap.size c col k = c') v xs := by
  have h1 := Kd.R_grown (Kd.R_bound h) hg (fun k hk e => hne (by rw [← hk.1, hrow k e.symm]))
  refine Kd.R_mono h1 (fun k hk => ?_)
  unfold paint
  rw [if_pos hk.2.2.1]
  exact hk.1
theorem col_own {w1 : World} {n base c : Nat} {col : Nat → Nat} {v : Value} {xs : List Int} (h : Kd.R (Kd.int .u8) 5 w1 base (fun k => col k = c ∨ n ≤ k) v xs) : Kd.R (Kd.int .u8) 5 w1 base (fun k => paint n c col k = c) v xs := by
  refine Kd.R_mono h (fun k hk => ?_)
  unfold paint
  split
  · rcases hk with hk | hk
    · exact hk
    · omega
  · rfl
end Go.Proofs.YtnaaimnmphcilaaDoor.Hand

namespace Go.Proofs.YtnaaimnmphcilaaDoor.Hand
open Go.RowKit Go.Proofs.YtnaaimnmphcilaaDoorW.PrintWords Go.Proofs.YtnaaimnmphcilaaDoorW.PrintLast Go.Proofs.YtnaaimnmphcilaaDoorW.PrintMore
set_option linter.unusedVariables false
set_option linter.unusedSimpArgs false

def fiveI (xs : List Int) : List (List Int) := [xs ++ [128], xs ++ [143], xs ++ [158], xs ++ [173], xs ++ [188]]
def threeI (xs : List Int) : List (List Int) := [xs ++ [144], xs ++ [160], xs ++ [191]]
theorem extI_snoc (o : List (List Int)) (xs : List Int) : extI (o ++ [xs]) = extI o ++ fiveI xs ++ threeI xs := by
  unfold extI fiveI threeI
  rw [List.flatMap_append]
  simp
theorem three_inner {wy w' w1 : World} {base base1 : Nat} {ts : List (Option Addr × Nat × Nat)} {xss : List (List Int)} {u : Value} (hI : Inner wy base ts xss) {ok8 ok16 ok24 : Nat → Prop} (hR : Kd.R dS 23 wy base (fun _ => True) u ts) (hb : Below wy.heap.size wy w') (hs : base ≤ base1)
    {t8 t16 t24 : Option Addr × Nat × Nat} {x8 x16 x24 : List Int} (h8 : Kd.R (Kd.int .u8) 5 w' base1 ok8 (encS t8) x8) (h16 : Kd.R (Kd.int .u8) 5 w' base1 ok16 (encS t16) x16) (h24 : Kd.R (Kd.int .u8) 5 w' base1 ok24 (encS t24) x24) (hg : w'.grownBy w1 u.ownBlock) :
    Inner w1 base (ts ++ [t8, t16, t24]) (xss ++ [x8, x16, x24]) := by
  have hR' := Kd.R_below hR hb
  have one : ∀ {ok : Nat → Prop} {t : Option Addr × Nat × Nat} {x : List Int}, Kd.R (Kd.int .u8) 5 w' base1 ok (encS t) x → Inner w1 base [t] [x] := fun h =>
    (Inner.one (Kd.R_mono (Kd.R_lower h hs) (fun _ _ => trivial))).over hR' hg
  exact ((hI.below hb).over hR' hg).snoc ((one h8).snoc ((one h16).snoc (one h24)))

def tails13.T : Bool × List (List Nat × List Nat) := (true, [([], []), ([], []), ([], []), ([], []), ([2, 3], [2, 3]), ([4], [4]), ([1, 5], [1, 5]), ([], []), ([6, 7, 6], [6, 7]), ([], []), ([], []), ([], []), ([10, 11], [10, 11]), ([12], [12]), ([9, 13, 8], [9, 13]), ([], []), ([14, 15, 14], [14, 15]), ([], []), ([], []), ([], []), ([18, 19], [18, 19]), ([20], [20]), ([17, 21, 16], [17, 21]), ([], []), ([22, 23, 22], [22, 23]), ([8, 16, 24], [8, 16, 24]), ([0, 25, 24], [0, 25]), ([26, 26, 0, 1, 2, 3, 4, 5, 6, 7, 8, 9, 10, 11, 12, 13, 14, 15, 16, 17, 18, 19, 20, 21, 22, 23, 24, 25, 26], [0, 26])])
def tails13.B : List Nat := [0, 0, 0, 0, 12, 28, 62, 0, 254, 0, 0, 0, 3072, 7168, 16382, 0, 65534, 0, 0, 0, 786432, 1835008, 4194302, 0, 16777214, 33554430, 67108863, 134217727]
theorem tails13.tab : rtab .any (opsOf Tryd.f38 13) = tails13.T := by kernel_rfl
theorem tails13.bits : waitsOk tails13.T.2 tails13.B = true := by kernel_rfl
end Go.Proofs.YtnaaimnmphcilaaDoor.Hand

namespace Go.Proofs.YtnaaimnmphcilaaDoor.Hand
open Go.RowKit Go.Proofs.YtnaaimnmphcilaaDoorW.PrintWords Go.Proofs.YtnaaimnmphcilaaDoorW.PrintLast Go.Proofs.YtnaaimnmphcilaaDoorW.PrintMore
set_option linter.unusedVariables false
set_option linter.unusedSimpArgs false

theorem Rows2.first (w : World) : Rows2 ((w.alloc (.cells #[] 5)).alloc (.cells #[.slice (some ⟨w.heap.size, 0, none⟩) 0 0] 23)) w.heap.size (.slice (some ⟨w.heap.size + 1, 0, none⟩) 1 1) [[]] := by
  have hs : (w.alloc (.cells #[] 5)).heap.size = w.heap.size + 1 := Array.size_push _
  have h1 : Kd.R (Kd.int .u8) 5 (w.alloc (.cells #[] 5)) w.heap.size (fun _ => True) (.slice (some ⟨w.heap.size, 0, none⟩) 0 0) [] :=
    ⟨fun _ _ => trivial, [], World.ownsRow_made w #[] 0 (Nat.le_refl _) (Nat.zero_le _) rfl, Reps.none _ _⟩
  have h2 : Kd.R dS 23 ((w.alloc (.cells #[] 5)).alloc (.cells #[.slice (some ⟨w.heap.size, 0, none⟩) 0 0] 23)) w.heap.size (fun _ => True) (.slice (some ⟨w.heap.size + 1, 0, none⟩) 1 1) [(some ⟨w.heap.size, 0, none⟩, 0, 0)] := by
    have := own_lit_of (enc := encS) (w.alloc (.cells #[] 5)) w.heap.size 23 [(some ⟨w.heap.size, 0, none⟩, 0, 0)] (by omega) (by simp)
    rw [hs] at this
    exact Kd.R_of_own this (fun _ _ => trivial)
  exact ⟨_, h2, Inner.one (Kd.R_alloc h1 _)⟩

theorem pw_cell_below2 {w w' : World} {a : Addr} {v : Value} (hb : Below w.heap.size w w') (h : w.cell? a = some v) : w'.cell? a = some v := pw_cell_below hb h
theorem len_push (xs : List Int) (z : Int) (p : Nat) (h : xs.length = p) : (([] : List Int) ++ xs ++ [z]).length = p + 1 := by simp [h]
theorem Rows2.lower {w : World} {base base' : Nat} {v : Value} {xss : List (List Int)} (h : Rows2 w base v xss) (hb : base' ≤ base) : Rows2 w base' v xss := by
  obtain ⟨ts, h1, h2⟩ := h
  exact ⟨ts, Kd.R_lower h1 hb, h2.lower hb⟩

set_option maxHeartbeats 4000000 in
theorem tails_calls (n : Nat) (hn : n ≤ 3) (w : World) :
    Calls Tryd.prog 38 #[.int .i64 n] w fun e w' => ∃ v, e = .returned v ∧ Rows2 w' w.heap.size v (tailsI n) ∧ Below w.heap.size w w' := by
  have HN := Aside0.mk hn
  clear hn
  go_enter Tryd.func38, Tryd.ntmps38
  go_wp2
  go_loopg [3, 4] n (fun gk v i wr => ∃ k : Nat, Aside0 (gk + k = n) ∧ i = .int .i64 k ∧ Aside0 (Rows2 wr w.heap.size v (tailsI k)) ∧ Aside0 (Below w.heap.size w wr))
  case atStart => exact ⟨0, ⟨rfl⟩, rfl, ⟨Rows2.first w⟩, ⟨((Below.refl _ w).alloc (Nat.le_refl _) _).alloc (by show w.heap.size ≤ (w.alloc _).heap.size; rw [show (w.alloc (Obj.cells #[] 5)).heap.size = w.heap.size + 1 from Array.size_push _]; omega) _⟩⟩
  case round =>
    obtain ⟨k, HK, rfl, HR, HB⟩ := hrel
    by_cases hk : k < n
    · have hki : (k : Int) < (n : Int) := by omega
      have hwk : wrap64 ((k : Int) + 1) = (k : Int) + 1 := by have := HN.out; unfold wrap64; omega
      obtain ⟨wo, hwo⟩ : ∃ wo, wo = wr := ⟨_, rfl⟩
      subst hwo
      obtain ⟨gko, hgko⟩ : ∃ gko, gko = gk := ⟨_, rfl⟩
      subst hgko
      obtain ⟨ts, hR, hI⟩ := HR.out
      obtain ⟨A3, c3, rfl⟩ := Kd.R_slice hR
      have hlen : ts.length = (tailsI k).length := hI.1
      obtain ⟨L, hL⟩ : ∃ L, ts.length = L := ⟨_, rfl⟩
      have HRR := Aside0.mk hR
      have HII := Aside0.mk hI
      have HL := Aside0.mk hL
      have HLT : Aside0 ((tailsI k).length = L) := ⟨by rw [← hlen, hL]⟩
      clear HR hR hI hlen
      rw [hL] at *
      clear hL
      go_wp2
      go_loopg [5, 6] L (fun gk2 v i wx => ∃ m : Nat, Aside0 (gk2 + m = L) ∧ i = .int .i64 m ∧ Aside0 (Rows2 wx wo.heap.size v (extI ((tailsI k).take m))) ∧ Aside0 (Below wo.heap.size wo wx))
      case atStart => exact ⟨0, ⟨rfl⟩, rfl, ⟨[], Kd.R_nil _ _ _ _ _, Inner.nil _ _⟩, ⟨Below.refl _ _⟩⟩
      case round =>
        obtain ⟨m, HM, rfl, HN2, HB2⟩ := hrel
        by_cases hm : m < L
        · have hmi : (m : Int) < (L : Int) := by omega
          have hwm : wrap64 ((m : Int) + 1) = (m : Int) + 1 := by unfold wrap64; have := HRR.out.2; have hl := (Kd.R_reads' HRR.out).2.2.2.1; rw [HII.out.1, HLT.out] at hl; omega
          have hmt : m < ts.length := by rw [HII.out.1, HLT.out]; exact hm
          have hmx : m < (tailsI k).length := by rw [HLT.out]; exact hm
          obtain ⟨ad, c', hv⟩ := Kd.R_slice1 HRR.out (by omega)
          injection hv with e1 e2 e3
          subst e1
          subst e3
          clear e2
          obtain ⟨g, rfl⟩ := Kd.R_head HRR.out
          obtain ⟨t, ht⟩ : ∃ t, ts[m]? = some t := ⟨ts[m], by simp [hmt]⟩
          obtain ⟨xs, hxs⟩ : ∃ xs, (tailsI k)[m]? = some xs := ⟨(tailsI k)[m], by simp [hmx]⟩
          have HT0 := HII.out.2 m t xs ht hxs
          obtain ⟨ta, tn, tc⟩ := t
          obtain ⟨htn, htc, hCt⟩ := Kd.R_reads' HT0
          subst htn
          have hcell : wo.cell? ⟨g, m, none⟩ = some (.slice ta xs.length tc) := by
            have hls : L = ts.length := by rw [HII.out.1, HLT.out]
            have h1 := HRR.out
            rw [hls] at h1
            have h2 := (Kd.R_cell (enc := encS) (h1 := fun _ => rfl) (none, 0, 0) h1 (m : Int) (by omega) (by omega)).1
            rw [Int.toNat_natCast] at h2
            rw [h2]
            simp [rdOf, List.getD, ht, encS]
          have HCT := Aside0.mk hCt
          have HCELL := Aside0.mk hcell
          clear hcell hCt HT0
          have HXS := Aside0.mk hxs
          have HTI : Aside0 ((tailsI k).take (m + 1) = (tailsI k).take m ++ [xs]) := ⟨by rw [List.take_add_one, hxs]; rfl⟩
          have HMX := Aside0.mk hm
          have HWM := Aside0.mk hwm
          obtain ⟨p, hp⟩ : ∃ p, xs.length = p := ⟨_, rfl⟩
          have HP := Aside0.mk hp
          rw [hp] at HCELL
          have hmi0 : (0 : Int) ≤ (m : Int) := by omega
          clear hxs ht htc hmt hmx hp
          go_wp2
          go_loopg [5, 7] 5 (fun gk3 v c wy => ∃ q : Nat, Aside0 (gk3 + q = 5) ∧ c = .int .i64 (128 + 15 * (q : Int)) ∧ Aside0 (Rows2 wy wo.heap.size v (extI ((tailsI k).take m) ++ ([xs ++ [128], xs ++ [143], xs ++ [158], xs ++ [173], xs ++ [188]]).take q)) ∧ Aside0 (Below wo.heap.size wo wy))
          case atStart => exact ⟨0, ⟨rfl⟩, rfl, ⟨by simpa using HN2.out⟩, HB2⟩
          case round =>
            obtain ⟨q, HQ, rfl, HN3, HB3⟩ := hrel
            by_cases hq : q < 5
            · have hci : (128 : Int) + 15 * (q : Int) ≤ 191 := by omega
              have hwc : wrap64 (128 + 15 * (q : Int) + 15) = 128 + 15 * (q : Int) + 15 := by unfold wrap64; omega
              have k0 := pw_cell_below2 HB3.out HCELL.out
              obtain ⟨wy, hwy⟩ : ∃ wy, wy = wr := ⟨_, rfl⟩
              subst hwy
              obtain ⟨ts3, hR3, hI3⟩ := HN3.out
              have HR3 := Aside0.mk hR3
              have HI3 := Aside0.mk hI3
              have HCY : Aside0 (ReadsRow ((Kd.int .u8).K wy) (Kd.int .u8).sz wy ta p xs) := ⟨by have := Kd.C_below HCT.out HB3.out; rw [HP.out] at this; exact this⟩
              have HPL : Aside0 (p ≤ 3) := ⟨by
                have h1 := tailsI_each k xs (List.mem_of_getElem? HXS.out)
                have := HP.out; have := HN.out; omega⟩
              have HTL : Aside0 ((ts3.length + 1) * 24 ≤ 140737488355328) := ⟨by
                have h1 := hI3.1
                rw [List.length_append, extI_len, List.length_take, tailsI_len] at h1
                have h2 : (8 : Nat) ^ k ≤ 8 ^ 3 := Nat.pow_le_pow_right (by decide) (by have := HN.out; omega)
                simp only [List.length_take, List.length_cons, List.length_nil] at h1
                omega⟩
              clear HN3 hR3 hI3
              have hq' : q = 0 ∨ q = 1 ∨ q = 2 ∨ q = 3 ∨ q = 4 := by omega
              rcases hq' with rfl | rfl | rfl | rfl | rfl
              · go_wp2_with (first | ((with_reducible refine gate_dst (N := 26) rfl ?_); refine Kd.R_lit (Kd.int .u8) wy.heap.size 5 rfl (N := 26) rfl (xs := ([] : List Int)) (inner := []) (ok := fun _ => True) (okp := fun _ => True) (by go_simp) (Reps.none _ _) (fun _ hk => hk) trivial (Below.refl _ _) (Nat.le_refl _) (by simp) ?_; intro v1 w1 HO1 HB1 HG1 HAT1; have k1 := pw_cell_below2 HB1 k0) | ((with_reducible refine gate_builtin (b := .append) (xs := #[.tmp 26, .tmp 30]) rfl ?_); at_builtin; refine Kd.R_append_rows (Kd.int .u8) (w0 := wy) wy.heap.size rfl (.tmp 26) (.tmp 30) 23 5 (.int .u8 0) 1 rfl Tryd.underlying23 info5 rfl (by decide) (by decide) v1 [] xs ta p tc (fun _ => True) (fun _ => False) rfl rfl HO1 (HCY.out.imp_ HB1 (fun _ _ h => h)) (fun _ _ h => h) (fun _ h => h.elim) (fun _ _ => trivial) HB1 HB1.size ?aL ?_; (case aL => have := HPL.out; simp; omega); intro v2 w2 HO2 HB2' HG2 HAT2; clear HO1 HB1 HG1 HAT1 k1) | ((with_reducible refine gate_builtin (b := .append) (xs := #[.tmp 31, .tmp 34]) rfl ?_); at_builtin; go_must (refine Kd.R_append (Kd.int .u8) (w0 := wy) wy.heap.size rfl (.tmp 31) (.tmp 34) 23 5 (.int .u8 0) 1 rfl Tryd.underlying23 info5 rfl (by decide) (by decide) v2 ([] ++ xs) 128 [.int .u8 128] (fun _ => True) (fun _ => False) rfl rfl ?aP (fun _ h => h.elim) (fun _ _ => trivial) HO2 HB2' HB2'.size ?aL ?_); (case aP => rfl); (case aL => have := HPL.out; have := HP.out; simp; omega); intro v3 w3 HO3 HB3' HG3 HAT3; clear HO2 HB2' HG3 HAT3; obtain ⟨A5, c5, e5⟩ := Kd.R_slice HO3; rw [len_push xs 128 p HP.out] at e5; subst e5) | ((with_reducible refine gate_builtin (b := .append) (xs := #[.tmp 25, .tmp 36]) rfl ?_); at_builtin; go_must (refine Kd.R_append dS (w0 := wo) wo.heap.size rfl (.tmp 25) (.tmp 36) 38 23 (.slice none 0 0) 24 rfl Tryd.underlying38 info23 rfl (by decide) (by decide) u5 ts3 (A5, p + 1, c5) [.slice A5 (p + 1) c5] (fun _ => True) (fun _ => False) rfl rfl ?aP (fun _ h => h.elim) (fun _ _ => trivial) (Kd.R_below HR3.out HB3') (HB3.out.trans (HB3'.mono HB3.out.size)) (Nat.le_trans HB3.out.size HB3'.size) ?aL ?_); (case aP => rfl); (case aL => have := HTL.out; omega); intro v4 w4 HO4 HB4 HG4 HAT4))
                go_roundg 4
                case measure => have := HQ.out; omega
                case rel =>
                  have hI4 := ((HI3.out.below HB3').over (Kd.R_below HR3.out HB3') HG4).snoc ((Inner.one (t := (A5, p + 1, c5)) (Kd.R_lower HO3 HB3.out.size)).over (Kd.R_below HR3.out HB3') HG4)
                  exact ⟨1, ⟨rfl⟩, rfl, ⟨_, HO4, by simpa using hI4⟩, ⟨HB4⟩⟩
              · go_wp2_with (first | ((with_reducible refine gate_dst (N := 26) rfl ?_); refine Kd.R_lit (Kd.int .u8) wy.heap.size 5 rfl (N := 26) rfl (xs := ([] : List Int)) (inner := []) (ok := fun _ => True) (okp := fun _ => True) (by go_simp) (Reps.none _ _) (fun _ hk => hk) trivial (Below.refl _ _) (Nat.le_refl _) (by simp) ?_; intro v1 w1 HO1 HB1 HG1 HAT1; have k1 := pw_cell_below2 HB1 k0) | ((with_reducible refine gate_builtin (b := .append) (xs := #[.tmp 26, .tmp 30]) rfl ?_); at_builtin; refine Kd.R_append_rows (Kd.int .u8) (w0 := wy) wy.heap.size rfl (.tmp 26) (.tmp 30) 23 5 (.int .u8 0) 1 rfl Tryd.underlying23 info5 rfl (by decide) (by decide) v1 [] xs ta p tc (fun _ => True) (fun _ => False) rfl rfl HO1 (HCY.out.imp_ HB1 (fun _ _ h => h)) (fun _ _ h => h) (fun _ h => h.elim) (fun _ _ => trivial) HB1 HB1.size ?aL ?_; (case aL => have := HPL.out; simp; omega); intro v2 w2 HO2 HB2' HG2 HAT2; clear HO1 HB1 HG1 HAT1 k1) | ((with_reducible refine gate_builtin (b := .append) (xs := #[.tmp 31, .tmp 34]) rfl ?_); at_builtin; go_must (refine Kd.R_append (Kd.int .u8) (w0 := wy) wy.heap.size rfl (.tmp 31) (.tmp 34) 23 5 (.int .u8 0) 1 rfl Tryd.underlying23 info5 rfl (by decide) (by decide) v2 ([] ++ xs) 143 [.int .u8 143] (fun _ => True) (fun _ => False) rfl rfl ?aP (fun _ h => h.elim) (fun _ _ => trivial) HO2 HB2' HB2'.size ?aL ?_); (case aP => rfl); (case aL => have := HPL.out; have := HP.out; simp; omega); intro v3 w3 HO3 HB3' HG3 HAT3; clear HO2 HB2' HG3 HAT3; obtain ⟨A5, c5, e5⟩ := Kd.R_slice HO3; rw [len_push xs 143 p HP.out] at e5; subst e5) | ((with_reducible refine gate_builtin (b := .append) (xs := #[.tmp 25, .tmp 36]) rfl ?_); at_builtin; go_must (refine Kd.R_append dS (w0 := wo) wo.heap.size rfl (.tmp 25) (.tmp 36) 38 23 (.slice none 0 0) 24 rfl Tryd.underlying38 info23 rfl (by decide) (by decide) u5 ts3 (A5, p + 1, c5) [.slice A5 (p + 1) c5] (fun _ => True) (fun _ => False) rfl rfl ?aP (fun _ h => h.elim) (fun _ _ => trivial) (Kd.R_below HR3.out HB3') (HB3.out.trans (HB3'.mono HB3.out.size)) (Nat.le_trans HB3.out.size HB3'.size) ?aL ?_); (case aP => rfl); (case aL => have := HTL.out; omega); intro v4 w4 HO4 HB4 HG4 HAT4))
                go_roundg 3
                case measure => have := HQ.out; omega
                case rel =>
                  have hI4 := ((HI3.out.below HB3').over (Kd.R_below HR3.out HB3') HG4).snoc ((Inner.one (t := (A5, p + 1, c5)) (Kd.R_lower HO3 HB3.out.size)).over (Kd.R_below HR3.out HB3') HG4)
                  exact ⟨2, ⟨rfl⟩, rfl, ⟨_, HO4, by simpa using hI4⟩, ⟨HB4⟩⟩
              · go_wp2_with (first | ((with_reducible refine gate_dst (N := 26) rfl ?_); refine Kd.R_lit (Kd.int .u8) wy.heap.size 5 rfl (N := 26) rfl (xs := ([] : List Int)) (inner := []) (ok := fun _ => True) (okp := fun _ => True) (by go_simp) (Reps.none _ _) (fun _ hk => hk) trivial (Below.refl _ _) (Nat.le_refl _) (by simp) ?_; intro v1 w1 HO1 HB1 HG1 HAT1; have k1 := pw_cell_below2 HB1 k0) | ((with_reducible refine gate_builtin (b := .append) (xs := #[.tmp 26, .tmp 30]) rfl ?_); at_builtin; refine Kd.R_append_rows (Kd.int .u8) (w0 := wy) wy.heap.size rfl (.tmp 26) (.tmp 30) 23 5 (.int .u8 0) 1 rfl Tryd.underlying23 info5 rfl (by decide) (by decide) v1 [] xs ta p tc (fun _ => True) (fun _ => False) rfl rfl HO1 (HCY.out.imp_ HB1 (fun _ _ h => h)) (fun _ _ h => h) (fun _ h => h.elim) (fun _ _ => trivial) HB1 HB1.size ?aL ?_; (case aL => have := HPL.out; simp; omega); intro v2 w2 HO2 HB2' HG2 HAT2; clear HO1 HB1 HG1 HAT1 k1) | ((with_reducible refine gate_builtin (b := .append) (xs := #[.tmp 31, .tmp 34]) rfl ?_); at_builtin; go_must (refine Kd.R_append (Kd.int .u8) (w0 := wy) wy.heap.size rfl (.tmp 31) (.tmp 34) 23 5 (.int .u8 0) 1 rfl Tryd.underlying23 info5 rfl (by decide) (by decide) v2 ([] ++ xs) 158 [.int .u8 158] (fun _ => True) (fun _ => False) rfl rfl ?aP (fun _ h => h.elim) (fun _ _ => trivial) HO2 HB2' HB2'.size ?aL ?_); (case aP => rfl); (case aL => have := HPL.out; have := HP.out; simp; omega); intro v3 w3 HO3 HB3' HG3 HAT3; clear HO2 HB2' HG3 HAT3; obtain ⟨A5, c5, e5⟩ := Kd.R_slice HO3; rw [len_push xs 158 p HP.out] at e5; subst e5) | ((with_reducible refine gate_builtin (b := .append) (xs := #[.tmp 25, .tmp 36]) rfl ?_); at_builtin; go_must (refine Kd.R_append dS (w0 := wo) wo.heap.size rfl (.tmp 25) (.tmp 36) 38 23 (.slice none 0 0) 24 rfl Tryd.underlying38 info23 rfl (by decide) (by decide) u5 ts3 (A5, p + 1, c5) [.slice A5 (p + 1) c5] (fun _ => True) (fun _ => False) rfl rfl ?aP (fun _ h => h.elim) (fun _ _ => trivial) (Kd.R_below HR3.out HB3') (HB3.out.trans (HB3'.mono HB3.out.size)) (Nat.le_trans HB3.out.size HB3'.size) ?aL ?_); (case aP => rfl); (case aL => have := HTL.out; omega); intro v4 w4 HO4 HB4 HG4 HAT4))
                go_roundg 2
                case measure => have := HQ.out; omega
                case rel =>
                  have hI4 := ((HI3.out.below HB3').over (Kd.R_below HR3.out HB3') HG4).snoc ((Inner.one (t := (A5, p + 1, c5)) (Kd.R_lower HO3 HB3.out.size)).over (Kd.R_below HR3.out HB3') HG4)
                  exact ⟨3, ⟨rfl⟩, rfl, ⟨_, HO4, by simpa using hI4⟩, ⟨HB4⟩⟩
              · go_wp2_with (first | ((with_reducible refine gate_dst (N := 26) rfl ?_); refine Kd.R_lit (Kd.int .u8) wy.heap.size 5 rfl (N := 26) rfl (xs := ([] : List Int)) (inner := []) (ok := fun _ => True) (okp := fun _ => True) (by go_simp) (Reps.none _ _) (fun _ hk => hk) trivial (Below.refl _ _) (Nat.le_refl _) (by simp) ?_; intro v1 w1 HO1 HB1 HG1 HAT1; have k1 := pw_cell_below2 HB1 k0) | ((with_reducible refine gate_builtin (b := .append) (xs := #[.tmp 26, .tmp 30]) rfl ?_); at_builtin; refine Kd.R_append_rows (Kd.int .u8) (w0 := wy) wy.heap.size rfl (.tmp 26) (.tmp 30) 23 5 (.int .u8 0) 1 rfl Tryd.underlying23 info5 rfl (by decide) (by decide) v1 [] xs ta p tc (fun _ => True) (fun _ => False) rfl rfl HO1 (HCY.out.imp_ HB1 (fun _ _ h => h)) (fun _ _ h => h) (fun _ h => h.elim) (fun _ _ => trivial) HB1 HB1.size ?aL ?_; (case aL => have := HPL.out; simp; omega); intro v2 w2 HO2 HB2' HG2 HAT2; clear HO1 HB1 HG1 HAT1 k1) | ((with_reducible refine gate_builtin (b := .append) (xs := #[.tmp 31, .tmp 34]) rfl ?_); at_builtin; go_must (refine Kd.R_append (Kd.int .u8) (w0 := wy) wy.heap.size rfl (.tmp 31) (.tmp 34) 23 5 (.int .u8 0) 1 rfl Tryd.underlying23 info5 rfl (by decide) (by decide) v2 ([] ++ xs) 173 [.int .u8 173] (fun _ => True) (fun _ => False) rfl rfl ?aP (fun _ h => h.elim) (fun _ _ => trivial) HO2 HB2' HB2'.size ?aL ?_); (case aP => rfl); (case aL => have := HPL.out; have := HP.out; simp; omega); intro v3 w3 HO3 HB3' HG3 HAT3; clear HO2 HB2' HG3 HAT3; obtain ⟨A5, c5, e5⟩ := Kd.R_slice HO3; rw [len_push xs 173 p HP.out] at e5; subst e5) | ((with_reducible refine gate_builtin (b := .append) (xs := #[.tmp 25, .tmp 36]) rfl ?_); at_builtin; go_must (refine Kd.R_append dS (w0 := wo) wo.heap.size rfl (.tmp 25) (.tmp 36) 38 23 (.slice none 0 0) 24 rfl Tryd.underlying38 info23 rfl (by decide) (by decide) u5 ts3 (A5, p + 1, c5) [.slice A5 (p + 1) c5] (fun _ => True) (fun _ => False) rfl rfl ?aP (fun _ h => h.elim) (fun _ _ => trivial) (Kd.R_below HR3.out HB3') (HB3.out.trans (HB3'.mono HB3.out.size)) (Nat.le_trans HB3.out.size HB3'.size) ?aL ?_); (case aP => rfl); (case aL => have := HTL.out; omega); intro v4 w4 HO4 HB4 HG4 HAT4))
                go_roundg 1
                case measure => have := HQ.out; omega
                case rel =>
                  have hI4 := ((HI3.out.below HB3').over (Kd.R_below HR3.out HB3') HG4).snoc ((Inner.one (t := (A5, p + 1, c5)) (Kd.R_lower HO3 HB3.out.size)).over (Kd.R_below HR3.out HB3') HG4)
                  exact ⟨4, ⟨rfl⟩, rfl, ⟨_, HO4, by simpa using hI4⟩, ⟨HB4⟩⟩
              · go_wp2_with (first | ((with_reducible refine gate_dst (N := 26) rfl ?_); refine Kd.R_lit (Kd.int .u8) wy.heap.size 5 rfl (N := 26) rfl (xs := ([] : List Int)) (inner := []) (ok := fun _ => True) (okp := fun _ => True) (by go_simp) (Reps.none _ _) (fun _ hk => hk) trivial (Below.refl _ _) (Nat.le_refl _) (by simp) ?_; intro v1 w1 HO1 HB1 HG1 HAT1; have k1 := pw_cell_below2 HB1 k0) | ((with_reducible refine gate_builtin (b := .append) (xs := #[.tmp 26, .tmp 30]) rfl ?_); at_builtin; refine Kd.R_append_rows (Kd.int .u8) (w0 := wy) wy.heap.size rfl (.tmp 26) (.tmp 30) 23 5 (.int .u8 0) 1 rfl Tryd.underlying23 info5 rfl (by decide) (by decide) v1 [] xs ta p tc (fun _ => True) (fun _ => False) rfl rfl HO1 (HCY.out.imp_ HB1 (fun _ _ h => h)) (fun _ _ h => h) (fun _ h => h.elim) (fun _ _ => trivial) HB1 HB1.size ?aL ?_; (case aL => have := HPL.out; simp; omega); intro v2 w2 HO2 HB2' HG2 HAT2; clear HO1 HB1 HG1 HAT1 k1) | ((with_reducible refine gate_builtin (b := .append) (xs := #[.tmp 31, .tmp 34]) rfl ?_); at_builtin; go_must (refine Kd.R_append (Kd.int .u8) (w0 := wy) wy.heap.size rfl (.tmp 31) (.tmp 34) 23 5 (.int .u8 0) 1 rfl Tryd.underlying23 info5 rfl (by decide) (by decide) v2 ([] ++ xs) 188 [.int .u8 188] (fun _ => True) (fun _ => False) rfl rfl ?aP (fun _ h => h.elim) (fun _ _ => trivial) HO2 HB2' HB2'.size ?aL ?_); (case aP => rfl); (case aL => have := HPL.out; have := HP.out; simp; omega); intro v3 w3 HO3 HB3' HG3 HAT3; clear HO2 HB2' HG3 HAT3; obtain ⟨A5, c5, e5⟩ := Kd.R_slice HO3; rw [len_push xs 188 p HP.out] at e5; subst e5) | ((with_reducible refine gate_builtin (b := .append) (xs := #[.tmp 25, .tmp 36]) rfl ?_); at_builtin; go_must (refine Kd.R_append dS (w0 := wo) wo.heap.size rfl (.tmp 25) (.tmp 36) 38 23 (.slice none 0 0) 24 rfl Tryd.underlying38 info23 rfl (by decide) (by decide) u5 ts3 (A5, p + 1, c5) [.slice A5 (p + 1) c5] (fun _ => True) (fun _ => False) rfl rfl ?aP (fun _ h => h.elim) (fun _ _ => trivial) (Kd.R_below HR3.out HB3') (HB3.out.trans (HB3'.mono HB3.out.size)) (Nat.le_trans HB3.out.size HB3'.size) ?aL ?_); (case aP => rfl); (case aL => have := HTL.out; omega); intro v4 w4 HO4 HB4 HG4 HAT4))
                go_roundg 0
                case measure => have := HQ.out; omega
                case rel =>
                  have hI4 := ((HI3.out.below HB3').over (Kd.R_below HR3.out HB3') HG4).snoc ((Inner.one (t := (A5, p + 1, c5)) (Kd.R_lower HO3 HB3.out.size)).over (Kd.R_below HR3.out HB3') HG4)
                  exact ⟨5, ⟨rfl⟩, rfl, ⟨_, HO4, by simpa using hI4⟩, ⟨HB4⟩⟩
            · have hq5 : q = 5 := by have := HQ.out; omega
              subst hq5
              have k0 := pw_cell_below2 HB3.out HCELL.out
              obtain ⟨wy, hwy⟩ : ∃ wy, wy = wr := ⟨_, rfl⟩
              subst hwy
              obtain ⟨ts5, hR5, hI5⟩ := HN3.out
              have HR5 := Aside0.mk hR5
              have HI5 : Aside0 (Inner wy wo.heap.size ts5 (extI ((tailsI k).take m) ++ fiveI xs)) := ⟨by simpa [fiveI] using hI5⟩
              have HCY : Aside0 (ReadsRow ((Kd.int .u8).K wy) (Kd.int .u8).sz wy ta p xs) := ⟨by have := Kd.C_below HCT.out HB3.out; rw [HP.out] at this; exact this⟩
              have HPL : Aside0 (p ≤ 3) := ⟨by
                have h1 := tailsI_each k xs (List.mem_of_getElem? HXS.out)
                have := HP.out; have := HN.out; omega⟩
              have HTL : Aside0 ((ts5.length + 3) * 24 ≤ 140737488355328) := ⟨by
                have h1 := HI5.out.1
                rw [List.length_append, extI_len, List.length_take, tailsI_len] at h1
                have h2 : (8 : Nat) ^ k ≤ 8 ^ 3 := Nat.pow_le_pow_right (by decide) (by have := HN.out; omega)
                simp only [fiveI, List.length_cons, List.length_nil] at h1
                omega⟩
              have HB13 : Aside0 (Below wy.heap.size wy wy) := ⟨Below.refl _ _⟩
              clear HN3 hR5 hI5
              go_wp2
              refine start_ (n := 28) (S := fun w' => True) (ds := []) #[false, false, false, false, false, false, false, false, false, false, false, false, false, false, false, false, false, false, false, false, false, false, false, false, false, false, false, false] (by kernel_rfl) rfl rfl trivial (fun hHeld => ?_)
              refine with_tabW tails13.tab tails13.bits (fun HT_ HW_ => ?_)
              refine pure_ (i := 0) (N := some 38) (v := ?_) (a' := ?_) #[true, false, false, false, false, false, false, false, false, false, false, false, false, false, false, false, false, false, false, false, false, false, false, false, false, false, false, false] rfl rfl (by kernel_rfl) (fun _ _ _ h => h) (Or.inl ⟨by rfl, ?_⟩) ?_ ?_
              rotate_left
              · intro w'
                go_simp
                with_reducible rfl
              rotate_left
              · simp only [Act.put, List.setIfInBounds_toArray, List.set_cons_zero, List.set_cons_succ, i64_w, i32_w]
                rfl
              refine pure_ (i := 2) (N := some 40) (v := ?_) (a' := ?_) #[true, false, true, false, false, false, false, false, false, false, false, false, false, false, false, false, false, false, false, false, false, false, false, false, false, false, false, false] rfl rfl (by kernel_rfl) (fun _ _ _ h => h) (Or.inl ⟨by rfl, ?_⟩) ?_ ?_
              rotate_left
              · intro w'
                go_simp
                with_reducible rfl
              rotate_left
              · simp only [Act.put, List.setIfInBounds_toArray, List.set_cons_zero, List.set_cons_succ, i64_w, i32_w]
                rfl
              refine pure_ (i := 3) (N := some 41) (v := ?_) (a' := ?_) #[true, false, true, true, false, false, false, false, false, false, false, false, false, false, false, false, false, false, false, false, false, false, false, false, false, false, false, false] rfl rfl (by kernel_rfl) (fun _ _ _ h => h) (Or.inl ⟨by rfl, ?_⟩) ?_ ?_
              rotate_left
              · intro w'
                go_simp
                with_reducible rfl
              rotate_left
              · simp only [Act.put, List.setIfInBounds_toArray, List.set_cons_zero, List.set_cons_succ, i64_w, i32_w]
                rfl
              refine pure_ (i := 4) (N := some 42) (v := ?_) (a' := ?_) #[true, false, true, true, true, false, false, false, false, false, false, false, false, false, false, false, false, false, false, false, false, false, false, false, false, false, false, false] rfl rfl (by kernel_rfl) (fun _ _ _ h => h) (Or.inl ⟨by rfl, ?_⟩) ?_ ?_
              rotate_left
              · intro w'
                go_simp
                with_reducible rfl
              rotate_left
              · simp only [Act.put, List.setIfInBounds_toArray, List.set_cons_zero, List.set_cons_succ, i64_w, i32_w]
                rfl
              refine pure_ (i := 10) (N := some 48) (v := ?_) (a' := ?_) #[true, false, true, true, true, false, false, false, false, false, true, false, false, false, false, false, false, false, false, false, false, false, false, false, false, false, false, false] rfl rfl (by kernel_rfl) (fun _ _ _ h => h) (Or.inl ⟨by rfl, ?_⟩) ?_ ?_
              rotate_left
              · intro w'
                go_simp
                with_reducible rfl
              rotate_left
              · simp only [Act.put, List.setIfInBounds_toArray, List.set_cons_zero, List.set_cons_succ, i64_w, i32_w]
                rfl
              refine pure_ (i := 11) (N := some 49) (v := ?_) (a' := ?_) #[true, false, true, true, true, false, false, false, false, false, true, true, false, false, false, false, false, false, false, false, false, false, false, false, false, false, false, false] rfl rfl (by kernel_rfl) (fun _ _ _ h => h) (Or.inl ⟨by rfl, ?_⟩) ?_ ?_
              rotate_left
              · intro w'
                go_simp
                with_reducible rfl
              rotate_left
              · simp only [Act.put, List.setIfInBounds_toArray, List.set_cons_zero, List.set_cons_succ, i64_w, i32_w]
                rfl
              refine pure_ (i := 12) (N := some 50) (v := ?_) (a' := ?_) #[true, false, true, true, true, false, false, false, false, false, true, true, true, false, false, false, false, false, false, false, false, false, false, false, false, false, false, false] rfl rfl (by kernel_rfl) (fun _ _ _ h => h) (Or.inl ⟨by rfl, ?_⟩) ?_ ?_
              rotate_left
              · intro w'
                go_simp
                with_reducible rfl
              rotate_left
              · simp only [Act.put, List.setIfInBounds_toArray, List.set_cons_zero, List.set_cons_succ, i64_w, i32_w]
                rfl
              refine pure_ (i := 18) (N := some 56) (v := ?_) (a' := ?_) #[true, false, true, true, true, false, false, false, false, false, true, true, true, false, false, false, false, false, true, false, false, false, false, false, false, false, false, false] rfl rfl (by kernel_rfl) (fun _ _ _ h => h) (Or.inl ⟨by rfl, ?_⟩) ?_ ?_
              rotate_left
              · intro w'
                go_simp
                with_reducible rfl
              rotate_left
              · simp only [Act.put, List.setIfInBounds_toArray, List.set_cons_zero, List.set_cons_succ, i64_w, i32_w]
                rfl
              refine pure_ (i := 19) (N := some 57) (v := ?_) (a' := ?_) #[true, false, true, true, true, false, false, false, false, false, true, true, true, false, false, false, false, false, true, true, false, false, false, false, false, false, false, false] rfl rfl (by kernel_rfl) (fun _ _ _ h => h) (Or.inl ⟨by rfl, ?_⟩) ?_ ?_
              rotate_left
              · intro w'
                go_simp
                with_reducible rfl
              rotate_left
              · simp only [Act.put, List.setIfInBounds_toArray, List.set_cons_zero, List.set_cons_succ, i64_w, i32_w]
                rfl
              refine pure_ (i := 20) (N := some 58) (v := ?_) (a' := ?_) #[true, false, true, true, true, false, false, false, false, false, true, true, true, false, false, false, false, false, true, true, true, false, false, false, false, false, false, false] rfl rfl (by kernel_rfl) (fun _ _ _ h => h) (Or.inl ⟨by rfl, ?_⟩) ?_ ?_
              rotate_left
              · intro w'
                go_simp
                with_reducible rfl
              rotate_left
              · simp only [Act.put, List.setIfInBounds_toArray, List.set_cons_zero, List.set_cons_succ, i64_w, i32_w]
                rfl
              refine inv_at [1, 5, 6, 7, 8, 9, 13, 14, 15, 16, 17, 21, 22, 23, 24, 25, 26, 27] (fun a0_ b a w' => ∃ (col : Nat → Nat) (L1 : Value) (L7 : Value) (L9 : Value) (L15 : Value) (L17 : Value) (L23 : Value) (P6 : Value) (P8 : Value) (P14 : Value) (P16 : Value) (P22 : Value) (P24 : Value) (Z25 : Value) (Z26 : Value) (m27_ : Value), a = putSel a0_ b [(1, 39, L1), (5, 43, .slice ta p tc), (6, 44, P6), (7, 45, L7), (8, 46, P8), (9, 47, L9), (13, 51, .slice ta p tc), (14, 52, P14), (15, 53, L15), (16, 54, P16), (17, 55, L17), (21, 59, .slice ta p tc), (22, 60, P22), (23, 61, L23), (24, 62, P24), (25, 63, Z25), (26, 64, Z26), (27, 5, m27_)] ∧ (b 26 = false → Below wy.heap.size wy w') ∧ (b 1 = true → b 6 = false → Kd.R (Kd.int .u8) 5 w' wy.heap.size (fun k_ => col k_ = 1) L1 ([] : List Int)) ∧ (b 7 = true → b 8 = false → Kd.R (Kd.int .u8) 5 w' wy.heap.size (fun k_ => col k_ = 2) L7 ([144])) ∧ (b 9 = true → b 14 = false → Kd.R (Kd.int .u8) 5 w' wy.heap.size (fun k_ => col k_ = 3) L9 ([] : List Int)) ∧ (b 15 = true → b 16 = false → Kd.R (Kd.int .u8) 5 w' wy.heap.size (fun k_ => col k_ = 4) L15 ([160])) ∧ (b 17 = true → b 22 = false → Kd.R (Kd.int .u8) 5 w' wy.heap.size (fun k_ => col k_ = 5) L17 ([] : List Int)) ∧ (b 23 = true → b 24 = false → Kd.R (Kd.int .u8) 5 w' wy.heap.size (fun k_ => col k_ = 6) L23 ([191])) ∧ (b 6 = true → b 8 = false → Kd.R (Kd.int .u8) 5 w' wy.heap.size (fun k_ => col k_ = 1) P6 xs) ∧ (b 8 = true → b 26 = false → Kd.R (Kd.int .u8) 5 w' wy.heap.size (fun k_ => col k_ = 1) P8 (xs ++ [144])) ∧ (b 14 = true → b 16 = false → Kd.R (Kd.int .u8) 5 w' wy.heap.size (fun k_ => col k_ = 3) P14 xs) ∧ (b 16 = true → b 26 = false → Kd.R (Kd.int .u8) 5 w' wy.heap.size (fun k_ => col k_ = 3) P16 (xs ++ [160])) ∧ (b 22 = true → b 24 = false → Kd.R (Kd.int .u8) 5 w' wy.heap.size (fun k_ => col k_ = 5) P22 xs) ∧ (b 24 = true → b 26 = false → Kd.R (Kd.int .u8) 5 w' wy.heap.size (fun k_ => col k_ = 5) P24 (xs ++ [191])) ∧ (b 25 = true → b 26 = false → ∃ (t8 t16 t24 : Option Addr × Nat × Nat), P8 = encS t8 ∧ P16 = encS t16 ∧ P24 = encS t24 ∧ Kd.R dS 23 w' wy.heap.size (fun _ => True) Z25 [t8, t16, t24]) ∧ (b 26 = true → Rows2 w' wo.heap.size Z26 (extI ((tailsI k).take m) ++ fiveI xs ++ threeI xs) ∧ Below wo.heap.size wo w') ∧ (b 27 = true → (m27_ : Value) = Z26)) HT_.out HW_.out (by kernel_rfl) (by kernel_rfl) ?_ ?_ ?_
              · exact ⟨fun _ => 0, .bool false, .bool false, .bool false, .bool false, .bool false, .bool false, .bool false, .bool false, .bool false, .bool false, .bool false, .bool false, .bool false, .bool false, .bool false, by simp only [putSel, Bool.false_eq_true, if_false], fun _ => below_drew HB13.out, fun h_ => absurd h_ (by decide), fun h_ => absurd h_ (by decide), fun h_ => absurd h_ (by decide), fun h_ => absurd h_ (by decide), fun h_ => absurd h_ (by decide), fun h_ => absurd h_ (by decide), fun h_ => absurd h_ (by decide), fun h_ => absurd h_ (by decide), fun h_ => absurd h_ (by decide), fun h_ => absurd h_ (by decide), fun h_ => absurd h_ (by decide), fun h_ => absurd h_ (by decide), fun h_ => absurd h_ (by decide), fun h_ => absurd h_ (by decide), fun h_ => absurd h_ (by decide)⟩
              · skip
                clear HB13
                refine steps_cons ?_ ?_
                · rintro b a w' ⟨col, L1, L7, L9, L15, L17, L23, P6, P8, P14, P16, P22, P24, Z25, Z26, m27_, ha, Q_HB13, Q_RL1, Q_RL7, Q_RL9, Q_RL15, Q_RL17, Q_RL23, Q_RP6, Q_RP8, Q_RP14, Q_RP16, Q_RP22, Q_RP24, Q_RT25, Q_F26, Q_X27_⟩ hb_ hon hoff
                  refine ⟨_, rfl, fun K hK => ?_⟩
                  replace ha := Aside0.mk ha
                  have HB13 := Aside0.mk (Q_HB13 (hoff 26 (by kernel_rfl)))
                  refine Kd.R_lit_step (Kd.int .u8) (w0 := wy) wy.heap.size 5 (by rfl) (N := 39) rfl (xs := ([] : List Int)) (inner := []) (ok := fun k_ => col k_ = 1 ∨ w'.heap.size ≤ k_) (okp := fun _ => False) ?_ ?_ (fun _ h_ => h_.elim) (.inr (Nat.le_refl _)) HB13.out HB13.out.size (by simp) ?_
                  · go_simp
                  · exact Reps.none _ _
                  intro v1_ w1_ ho_ hb1_ hg_ _
                  refine hK.out _ _ ⟨paint w'.heap.size 1 col, v1_, L7, L9, L15, L17, L23, P6, P8, P14, P16, P22, P24, Z25, Z26, m27_, (by rw [ha.out]; exact putSel_upk 0 hb_ rfl rfl rfl), fun _ => hb1_, fun _ _ => col_own ho_, fun h0_ h1_ => col_keep (Q_RL7 h0_ h1_) hg_ (fun k_ h_ => by cases h_) (by decide), fun h0_ h1_ => col_keep (Q_RL9 h0_ h1_) hg_ (fun k_ h_ => by cases h_) (by decide), fun h0_ h1_ => col_keep (Q_RL15 h0_ h1_) hg_ (fun k_ h_ => by cases h_) (by decide), fun h0_ h1_ => col_keep (Q_RL17 h0_ h1_) hg_ (fun k_ h_ => by cases h_) (by decide), fun h0_ h1_ => col_keep (Q_RL23 h0_ h1_) hg_ (fun k_ h_ => by cases h_) (by decide), fun h0_ _ => absurd ((hoff 6 (by kernel_rfl)).symm.trans h0_) (by decide), fun h0_ _ => absurd ((hoff 8 (by kernel_rfl)).symm.trans h0_) (by decide), fun h0_ _ => absurd ((hoff 14 (by kernel_rfl)).symm.trans h0_) (by decide), fun h0_ _ => absurd ((hoff 16 (by kernel_rfl)).symm.trans h0_) (by decide), fun h0_ _ => absurd ((hoff 22 (by kernel_rfl)).symm.trans h0_) (by decide), fun h0_ _ => absurd ((hoff 24 (by kernel_rfl)).symm.trans h0_) (by decide), fun h0_ _ => absurd ((hoff 25 (by kernel_rfl)).symm.trans h0_) (by decide), fun h0_ => absurd ((hoff 26 (by kernel_rfl)).symm.trans h0_) (by decide), fun h0_ => absurd ((hoff 27 (by kernel_rfl)).symm.trans h0_) (by decide)⟩
                refine steps_cons ?_ ?_
                · rintro b a w' ⟨col, L1, L7, L9, L15, L17, L23, P6, P8, P14, P16, P22, P24, Z25, Z26, m27_, ha, Q_HB13, Q_RL1, Q_RL7, Q_RL9, Q_RL15, Q_RL17, Q_RL23, Q_RP6, Q_RP8, Q_RP14, Q_RP16, Q_RP22, Q_RP24, Q_RT25, Q_F26, Q_X27_⟩ hb_ hon hoff
                  refine ⟨_, rfl, fun K hK => ?_⟩
                  have e42 : a.tmps[42]? = some (.pointer (some ⟨g, m, none⟩)) := by rw [ha]; exact (putSel_off rfl).trans rfl
                  replace ha := Aside0.mk ha
                  have HB13 := Aside0.mk (Q_HB13 (hoff 26 (by kernel_rfl)))
                  have k0_ := pw_cell_below2 HB13.out k0
                  refine value_ (w1 := w') (v := .slice ta p tc) (by rfl) rfl ?_ ?_
                  · go_simp
                    (try simp only [i64_w])
                    try rfl
                  refine hK.out _ _ ⟨col, L1, L7, L9, L15, L17, L23, P6, P8, P14, P16, P22, P24, Z25, Z26, m27_, (by rw [ha.out]; exact putSel_upk 1 hb_ rfl rfl rfl), Q_HB13, Q_RL1, Q_RL7, Q_RL9, Q_RL15, Q_RL17, Q_RL23, fun h0_ _ => absurd ((hoff 6 (by kernel_rfl)).symm.trans h0_) (by decide), fun h0_ _ => absurd ((hoff 8 (by kernel_rfl)).symm.trans h0_) (by decide), fun h0_ _ => absurd ((hoff 14 (by kernel_rfl)).symm.trans h0_) (by decide), fun h0_ _ => absurd ((hoff 16 (by kernel_rfl)).symm.trans h0_) (by decide), fun h0_ _ => absurd ((hoff 22 (by kernel_rfl)).symm.trans h0_) (by decide), fun h0_ _ => absurd ((hoff 24 (by kernel_rfl)).symm.trans h0_) (by decide), fun h0_ _ => absurd ((hoff 25 (by kernel_rfl)).symm.trans h0_) (by decide), fun h0_ => absurd ((hoff 26 (by kernel_rfl)).symm.trans h0_) (by decide), fun h0_ => absurd ((hoff 27 (by kernel_rfl)).symm.trans h0_) (by decide)⟩
                refine steps_cons ?_ ?_
                · rintro b a w' ⟨col, L1, L7, L9, L15, L17, L23, P6, P8, P14, P16, P22, P24, Z25, Z26, m27_, ha, Q_HB13, Q_RL1, Q_RL7, Q_RL9, Q_RL15, Q_RL17, Q_RL23, Q_RP6, Q_RP8, Q_RP14, Q_RP16, Q_RP22, Q_RP24, Q_RT25, Q_F26, Q_X27_⟩ hb_ hon hoff
                  refine ⟨_, rfl, fun K hK => ?_⟩
                  have e39 : a.tmps[39]? = some (L1) := by rw [ha]; exact putSel_on (e := (1, 39, L1)) 0 rfl rfl (hon 1 (by kernel_rfl)) rfl
                  have e43 : a.tmps[43]? = some (.slice ta p tc) := by rw [ha]; exact putSel_on (e := (5, 43, .slice ta p tc)) 1 rfl rfl (hon 5 (by kernel_rfl)) rfl
                  replace ha := Aside0.mk ha
                  have HB13 := Aside0.mk (Q_HB13 (hoff 26 (by kernel_rfl)))
                  have RL1 := Aside0.mk (Q_RL1 (hon 1 (by kernel_rfl)) hb_)
                  have hcy_ := HCY.out.imp_ HB13.out (fun _ _ h_ => h_)
                  refine Kd.R_append_rows_step (Kd.int .u8) (w0 := wy) wy.heap.size (by rfl) (.tmp 39) (.tmp 43) 23 5 (.int .u8 0) 1 rfl Tryd.underlying23 info5 rfl (by decide) (by decide) L1 ([] : List Int) xs ta p tc (fun k_ => col k_ = 1 ∨ w'.heap.size ≤ k_) (fun _ => False) (by simp only [Act.eval, Array.getD_eq_getD_getElem?, Option.getD_some, e39]) (by simp only [Act.eval, Array.getD_eq_getD_getElem?, Option.getD_some, e43]; try rfl) (Kd.R_mono RL1.out (fun _ h_ => .inl h_)) hcy_ (fun _ _ h_ => h_) (fun _ h_ => h_.elim) (fun _ h_ => .inr h_) HB13.out HB13.out.size ?_ ?_
                  · have := HPL.out; have := HP.out; simp; omega
                  intro v1_ w1_ ho_ hb1_ hg_ _
                  (try rw [List.nil_append] at ho_)
                  refine hK.out _ _ ⟨paint w'.heap.size 1 col, L1, L7, L9, L15, L17, L23, v1_, P8, P14, P16, P22, P24, Z25, Z26, m27_, (by rw [ha.out]; exact putSel_upk 2 hb_ rfl rfl rfl), fun _ => hb1_, fun _ h1_ => absurd ((up_self b 6).symm.trans h1_) (by decide), fun h0_ h1_ => col_keep (Q_RL7 h0_ h1_) hg_ (fun k_ h_ => RL1.out.1 k_ h_) (by decide), fun h0_ h1_ => col_keep (Q_RL9 h0_ h1_) hg_ (fun k_ h_ => RL1.out.1 k_ h_) (by decide), fun h0_ h1_ => col_keep (Q_RL15 h0_ h1_) hg_ (fun k_ h_ => RL1.out.1 k_ h_) (by decide), fun h0_ h1_ => col_keep (Q_RL17 h0_ h1_) hg_ (fun k_ h_ => RL1.out.1 k_ h_) (by decide), fun h0_ h1_ => col_keep (Q_RL23 h0_ h1_) hg_ (fun k_ h_ => RL1.out.1 k_ h_) (by decide), fun _ _ => col_own ho_, fun h0_ _ => absurd ((hoff 8 (by kernel_rfl)).symm.trans h0_) (by decide), fun h0_ _ => absurd ((hoff 14 (by kernel_rfl)).symm.trans h0_) (by decide), fun h0_ _ => absurd ((hoff 16 (by kernel_rfl)).symm.trans h0_) (by decide), fun h0_ _ => absurd ((hoff 22 (by kernel_rfl)).symm.trans h0_) (by decide), fun h0_ _ => absurd ((hoff 24 (by kernel_rfl)).symm.trans h0_) (by decide), fun h0_ _ => absurd ((hoff 25 (by kernel_rfl)).symm.trans h0_) (by decide), fun h0_ => absurd ((hoff 26 (by kernel_rfl)).symm.trans h0_) (by decide), fun h0_ => absurd ((hoff 27 (by kernel_rfl)).symm.trans h0_) (by decide)⟩
                refine steps_cons ?_ ?_
                · rintro b a w' ⟨col, L1, L7, L9, L15, L17, L23, P6, P8, P14, P16, P22, P24, Z25, Z26, m27_, ha, Q_HB13, Q_RL1, Q_RL7, Q_RL9, Q_RL15, Q_RL17, Q_RL23, Q_RP6, Q_RP8, Q_RP14, Q_RP16, Q_RP22, Q_RP24, Q_RT25, Q_F26, Q_X27_⟩ hb_ hon hoff
                  refine ⟨_, rfl, fun K hK => ?_⟩
                  replace ha := Aside0.mk ha
                  have HB13 := Aside0.mk (Q_HB13 (hoff 26 (by kernel_rfl)))
                  refine Kd.R_lit_step (Kd.int .u8) (w0 := wy) wy.heap.size 5 (by rfl) (N := 45) rfl (xs := ([144] : List Int)) (inner := [.int .u8 144]) (ok := fun k_ => col k_ = 2 ∨ w'.heap.size ≤ k_) (okp := fun _ => False) ?_ ?_ (fun _ h_ => h_.elim) (.inr (Nat.le_refl _)) HB13.out HB13.out.size (by simp) ?_
                  · go_simp
                  · exact Kd.reps_scalar (enc := Value.int .u8) ([144] : List Int)
                  intro v1_ w1_ ho_ hb1_ hg_ _
                  refine hK.out _ _ ⟨paint w'.heap.size 2 col, L1, v1_, L9, L15, L17, L23, P6, P8, P14, P16, P22, P24, Z25, Z26, m27_, (by rw [ha.out]; exact putSel_upk 3 hb_ rfl rfl rfl), fun _ => hb1_, fun h0_ h1_ => col_keep (Q_RL1 h0_ h1_) hg_ (fun k_ h_ => by cases h_) (by decide), fun _ _ => col_own ho_, fun h0_ h1_ => col_keep (Q_RL9 h0_ h1_) hg_ (fun k_ h_ => by cases h_) (by decide), fun h0_ h1_ => col_keep (Q_RL15 h0_ h1_) hg_ (fun k_ h_ => by cases h_) (by decide), fun h0_ h1_ => col_keep (Q_RL17 h0_ h1_) hg_ (fun k_ h_ => by cases h_) (by decide), fun h0_ h1_ => col_keep (Q_RL23 h0_ h1_) hg_ (fun k_ h_ => by cases h_) (by decide), fun h0_ h1_ => col_keep (Q_RP6 h0_ h1_) hg_ (fun k_ h_ => by cases h_) (by decide), fun h0_ _ => absurd ((hoff 8 (by kernel_rfl)).symm.trans h0_) (by decide), fun h0_ _ => absurd ((hoff 14 (by kernel_rfl)).symm.trans h0_) (by decide), fun h0_ _ => absurd ((hoff 16 (by kernel_rfl)).symm.trans h0_) (by decide), fun h0_ _ => absurd ((hoff 22 (by kernel_rfl)).symm.trans h0_) (by decide), fun h0_ _ => absurd ((hoff 24 (by kernel_rfl)).symm.trans h0_) (by decide), fun h0_ _ => absurd ((hoff 25 (by kernel_rfl)).symm.trans h0_) (by decide), fun h0_ => absurd ((hoff 26 (by kernel_rfl)).symm.trans h0_) (by decide), fun h0_ => absurd ((hoff 27 (by kernel_rfl)).symm.trans h0_) (by decide)⟩
                refine steps_cons ?_ ?_
                · rintro b a w' ⟨col, L1, L7, L9, L15, L17, L23, P6, P8, P14, P16, P22, P24, Z25, Z26, m27_, ha, Q_HB13, Q_RL1, Q_RL7, Q_RL9, Q_RL15, Q_RL17, Q_RL23, Q_RP6, Q_RP8, Q_RP14, Q_RP16, Q_RP22, Q_RP24, Q_RT25, Q_F26, Q_X27_⟩ hb_ hon hoff
                  refine ⟨_, rfl, fun K hK => ?_⟩
                  have e44 : a.tmps[44]? = some (P6) := by rw [ha]; exact putSel_on (e := (6, 44, P6)) 2 rfl rfl (hon 6 (by kernel_rfl)) rfl
                  have e45 : a.tmps[45]? = some (L7) := by rw [ha]; exact putSel_on (e := (7, 45, L7)) 3 rfl rfl (hon 7 (by kernel_rfl)) rfl
                  replace ha := Aside0.mk ha
                  have HB13 := Aside0.mk (Q_HB13 (hoff 26 (by kernel_rfl)))
                  have RL7 := Aside0.mk (Q_RL7 (hon 7 (by kernel_rfl)) hb_)
                  have RP6 := Aside0.mk (Q_RP6 (hon 6 (by kernel_rfl)) hb_)
                  obtain ⟨Al_, cl_, el_⟩ := Kd.R_slice RL7.out
                  have HL_ := RL7.out
                  rw [el_] at HL_
                  refine Kd.R_append_rows_step (Kd.int .u8) (w0 := wy) wy.heap.size (by rfl) (.tmp 44) (.tmp 45) 23 5 (.int .u8 0) 1 rfl Tryd.underlying23 info5 rfl (by decide) (by decide) P6 xs [144] Al_ 1 cl_ (fun k_ => col k_ = 1 ∨ w'.heap.size ≤ k_) (fun _ => False) (by simp only [Act.eval, Array.getD_eq_getD_getElem?, Option.getD_some, e44]) (by simp only [Act.eval, Array.getD_eq_getD_getElem?, Option.getD_some, e45, el_]; try rfl) (Kd.R_mono RP6.out (fun _ h_ => .inl h_)) (Kd.R_reads' HL_).2.2 (fun _ _ h_ => h_) (fun _ h_ => h_.elim) (fun _ h_ => .inr h_) HB13.out HB13.out.size ?_ ?_
                  · have := HPL.out; have := HP.out; simp; omega
                  intro v1_ w1_ ho_ hb1_ hg_ _
                  (try rw [List.nil_append] at ho_)
                  refine hK.out _ _ ⟨paint w'.heap.size 1 col, L1, L7, L9, L15, L17, L23, P6, v1_, P14, P16, P22, P24, Z25, Z26, m27_, (by rw [ha.out]; exact putSel_upk 4 hb_ rfl rfl rfl), fun _ => hb1_, fun _ h1_ => absurd ((hon 6 (by kernel_rfl)).symm.trans h1_) (by decide), fun _ h1_ => absurd ((up_self b 8).symm.trans h1_) (by decide), fun h0_ h1_ => col_keep (Q_RL9 h0_ h1_) hg_ (fun k_ h_ => RP6.out.1 k_ h_) (by decide), fun h0_ h1_ => col_keep (Q_RL15 h0_ h1_) hg_ (fun k_ h_ => RP6.out.1 k_ h_) (by decide), fun h0_ h1_ => col_keep (Q_RL17 h0_ h1_) hg_ (fun k_ h_ => RP6.out.1 k_ h_) (by decide), fun h0_ h1_ => col_keep (Q_RL23 h0_ h1_) hg_ (fun k_ h_ => RP6.out.1 k_ h_) (by decide), fun _ h1_ => absurd ((up_self b 8).symm.trans h1_) (by decide), fun _ _ => col_own ho_, fun h0_ _ => absurd ((hoff 14 (by kernel_rfl)).symm.trans h0_) (by decide), fun h0_ _ => absurd ((hoff 16 (by kernel_rfl)).symm.trans h0_) (by decide), fun h0_ _ => absurd ((hoff 22 (by kernel_rfl)).symm.trans h0_) (by decide), fun h0_ _ => absurd ((hoff 24 (by kernel_rfl)).symm.trans h0_) (by decide), fun h0_ _ => absurd ((hoff 25 (by kernel_rfl)).symm.trans h0_) (by decide), fun h0_ => absurd ((hoff 26 (by kernel_rfl)).symm.trans h0_) (by decide), fun h0_ => absurd ((hoff 27 (by kernel_rfl)).symm.trans h0_) (by decide)⟩
                refine steps_cons ?_ ?_
                · rintro b a w' ⟨col, L1, L7, L9, L15, L17, L23, P6, P8, P14, P16, P22, P24, Z25, Z26, m27_, ha, Q_HB13, Q_RL1, Q_RL7, Q_RL9, Q_RL15, Q_RL17, Q_RL23, Q_RP6, Q_RP8, Q_RP14, Q_RP16, Q_RP22, Q_RP24, Q_RT25, Q_F26, Q_X27_⟩ hb_ hon hoff
                  refine ⟨_, rfl, fun K hK => ?_⟩
                  replace ha := Aside0.mk ha
                  have HB13 := Aside0.mk (Q_HB13 (hoff 26 (by kernel_rfl)))
                  refine Kd.R_lit_step (Kd.int .u8) (w0 := wy) wy.heap.size 5 (by rfl) (N := 47) rfl (xs := ([] : List Int)) (inner := []) (ok := fun k_ => col k_ = 3 ∨ w'.heap.size ≤ k_) (okp := fun _ => False) ?_ ?_ (fun _ h_ => h_.elim) (.inr (Nat.le_refl _)) HB13.out HB13.out.size (by simp) ?_
                  · go_simp
                  · exact Reps.none _ _
                  intro v1_ w1_ ho_ hb1_ hg_ _
                  refine hK.out _ _ ⟨paint w'.heap.size 3 col, L1, L7, v1_, L15, L17, L23, P6, P8, P14, P16, P22, P24, Z25, Z26, m27_, (by rw [ha.out]; exact putSel_upk 5 hb_ rfl rfl rfl), fun _ => hb1_, fun h0_ h1_ => col_keep (Q_RL1 h0_ h1_) hg_ (fun k_ h_ => by cases h_) (by decide), fun h0_ h1_ => col_keep (Q_RL7 h0_ h1_) hg_ (fun k_ h_ => by cases h_) (by decide), fun _ _ => col_own ho_, fun h0_ h1_ => col_keep (Q_RL15 h0_ h1_) hg_ (fun k_ h_ => by cases h_) (by decide), fun h0_ h1_ => col_keep (Q_RL17 h0_ h1_) hg_ (fun k_ h_ => by cases h_) (by decide), fun h0_ h1_ => col_keep (Q_RL23 h0_ h1_) hg_ (fun k_ h_ => by cases h_) (by decide), fun h0_ h1_ => col_keep (Q_RP6 h0_ h1_) hg_ (fun k_ h_ => by cases h_) (by decide), fun h0_ h1_ => col_keep (Q_RP8 h0_ h1_) hg_ (fun k_ h_ => by cases h_) (by decide), fun h0_ _ => absurd ((hoff 14 (by kernel_rfl)).symm.trans h0_) (by decide), fun h0_ _ => absurd ((hoff 16 (by kernel_rfl)).symm.trans h0_) (by decide), fun h0_ _ => absurd ((hoff 22 (by kernel_rfl)).symm.trans h0_) (by decide), fun h0_ _ => absurd ((hoff 24 (by kernel_rfl)).symm.trans h0_) (by decide), fun h0_ _ => absurd ((hoff 25 (by kernel_rfl)).symm.trans h0_) (by decide), fun h0_ => absurd ((hoff 26 (by kernel_rfl)).symm.trans h0_) (by decide), fun h0_ => absurd ((hoff 27 (by kernel_rfl)).symm.trans h0_) (by decide)⟩
                refine steps_cons ?_ ?_
                · rintro b a w' ⟨col, L1, L7, L9, L15, L17, L23, P6, P8, P14, P16, P22, P24, Z25, Z26, m27_, ha, Q_HB13, Q_RL1, Q_RL7, Q_RL9, Q_RL15, Q_RL17, Q_RL23, Q_RP6, Q_RP8, Q_RP14, Q_RP16, Q_RP22, Q_RP24, Q_RT25, Q_F26, Q_X27_⟩ hb_ hon hoff
                  refine ⟨_, rfl, fun K hK => ?_⟩
                  have e50 : a.tmps[50]? = some (.pointer (some ⟨g, m, none⟩)) := by rw [ha]; exact (putSel_off rfl).trans rfl
                  replace ha := Aside0.mk ha
                  have HB13 := Aside0.mk (Q_HB13 (hoff 26 (by kernel_rfl)))
                  have k0_ := pw_cell_below2 HB13.out k0
                  refine value_ (w1 := w') (v := .slice ta p tc) (by rfl) rfl ?_ ?_
                  · go_simp
                    (try simp only [i64_w])
                    try rfl
                  refine hK.out _ _ ⟨col, L1, L7, L9, L15, L17, L23, P6, P8, P14, P16, P22, P24, Z25, Z26, m27_, (by rw [ha.out]; exact putSel_upk 6 hb_ rfl rfl rfl), Q_HB13, Q_RL1, Q_RL7, Q_RL9, Q_RL15, Q_RL17, Q_RL23, Q_RP6, Q_RP8, fun h0_ _ => absurd ((hoff 14 (by kernel_rfl)).symm.trans h0_) (by decide), fun h0_ _ => absurd ((hoff 16 (by kernel_rfl)).symm.trans h0_) (by decide), fun h0_ _ => absurd ((hoff 22 (by kernel_rfl)).symm.trans h0_) (by decide), fun h0_ _ => absurd ((hoff 24 (by kernel_rfl)).symm.trans h0_) (by decide), fun h0_ _ => absurd ((hoff 25 (by kernel_rfl)).symm.trans h0_) (by decide), fun h0_ => absurd ((hoff 26 (by kernel_rfl)).symm.trans h0_) (by decide), fun h0_ => absurd ((hoff 27 (by kernel_rfl)).symm.trans h0_) (by decide)⟩
                refine steps_cons ?_ ?_
                · rintro b a w' ⟨col, L1, L7, L9, L15, L17, L23, P6, P8, P14, P16, P22, P24, Z25, Z26, m27_, ha, Q_HB13, Q_RL1, Q_RL7, Q_RL9, Q_RL15, Q_RL17, Q_RL23, Q_RP6, Q_RP8, Q_RP14, Q_RP16, Q_RP22, Q_RP24, Q_RT25, Q_F26, Q_X27_⟩ hb_ hon hoff
                  refine ⟨_, rfl, fun K hK => ?_⟩
                  have e47 : a.tmps[47]? = some (L9) := by rw [ha]; exact putSel_on (e := (9, 47, L9)) 5 rfl rfl (hon 9 (by kernel_rfl)) rfl
                  have e51 : a.tmps[51]? = some (.slice ta p tc) := by rw [ha]; exact putSel_on (e := (13, 51, .slice ta p tc)) 6 rfl rfl (hon 13 (by kernel_rfl)) rfl
                  replace ha := Aside0.mk ha
                  have HB13 := Aside0.mk (Q_HB13 (hoff 26 (by kernel_rfl)))
                  have RL9 := Aside0.mk (Q_RL9 (hon 9 (by kernel_rfl)) hb_)
                  have RP8 := Aside0.mk (Q_RP8 (hon 8 (by kernel_rfl)) (hoff 26 (by kernel_rfl)))
                  have hcy_ := HCY.out.imp_ HB13.out (fun _ _ h_ => h_)
                  refine Kd.R_append_rows_step (Kd.int .u8) (w0 := wy) wy.heap.size (by rfl) (.tmp 47) (.tmp 51) 23 5 (.int .u8 0) 1 rfl Tryd.underlying23 info5 rfl (by decide) (by decide) L9 ([] : List Int) xs ta p tc (fun k_ => col k_ = 3 ∨ w'.heap.size ≤ k_) (fun _ => False) (by simp only [Act.eval, Array.getD_eq_getD_getElem?, Option.getD_some, e47]) (by simp only [Act.eval, Array.getD_eq_getD_getElem?, Option.getD_some, e51]; try rfl) (Kd.R_mono RL9.out (fun _ h_ => .inl h_)) hcy_ (fun _ _ h_ => h_) (fun _ h_ => h_.elim) (fun _ h_ => .inr h_) HB13.out HB13.out.size ?_ ?_
                  · have := HPL.out; have := HP.out; simp; omega
                  intro v1_ w1_ ho_ hb1_ hg_ _
                  (try rw [List.nil_append] at ho_)
                  refine hK.out _ _ ⟨paint w'.heap.size 3 col, L1, L7, L9, L15, L17, L23, P6, P8, v1_, P16, P22, P24, Z25, Z26, m27_, (by rw [ha.out]; exact putSel_upk 7 hb_ rfl rfl rfl), fun _ => hb1_, fun _ h1_ => absurd ((hon 6 (by kernel_rfl)).symm.trans h1_) (by decide), fun _ h1_ => absurd ((hon 8 (by kernel_rfl)).symm.trans h1_) (by decide), fun _ h1_ => absurd ((up_self b 14).symm.trans h1_) (by decide), fun h0_ h1_ => col_keep (Q_RL15 h0_ h1_) hg_ (fun k_ h_ => RL9.out.1 k_ h_) (by decide), fun h0_ h1_ => col_keep (Q_RL17 h0_ h1_) hg_ (fun k_ h_ => RL9.out.1 k_ h_) (by decide), fun h0_ h1_ => col_keep (Q_RL23 h0_ h1_) hg_ (fun k_ h_ => RL9.out.1 k_ h_) (by decide), fun _ h1_ => absurd ((hon 8 (by kernel_rfl)).symm.trans h1_) (by decide), fun _ _ => col_keep RP8.out hg_ (fun k_ h_ => RL9.out.1 k_ h_) (by decide), fun _ _ => col_own ho_, fun h0_ _ => absurd ((hoff 16 (by kernel_rfl)).symm.trans h0_) (by decide), fun h0_ _ => absurd ((hoff 22 (by kernel_rfl)).symm.trans h0_) (by decide), fun h0_ _ => absurd ((hoff 24 (by kernel_rfl)).symm.trans h0_) (by decide), fun h0_ _ => absurd ((hoff 25 (by kernel_rfl)).symm.trans h0_) (by decide), fun h0_ => absurd ((hoff 26 (by kernel_rfl)).symm.trans h0_) (by decide), fun h0_ => absurd ((hoff 27 (by kernel_rfl)).symm.trans h0_) (by decide)⟩
                refine steps_cons ?_ ?_
                · rintro b a w' ⟨col, L1, L7, L9, L15, L17, L23, P6, P8, P14, P16, P22, P24, Z25, Z26, m27_, ha, Q_HB13, Q_RL1, Q_RL7, Q_RL9, Q_RL15, Q_RL17, Q_RL23, Q_RP6, Q_RP8, Q_RP14, Q_RP16, Q_RP22, Q_RP24, Q_RT25, Q_F26, Q_X27_⟩ hb_ hon hoff
                  refine ⟨_, rfl, fun K hK => ?_⟩
                  replace ha := Aside0.mk ha
                  have HB13 := Aside0.mk (Q_HB13 (hoff 26 (by kernel_rfl)))
                  refine Kd.R_lit_step (Kd.int .u8) (w0 := wy) wy.heap.size 5 (by rfl) (N := 53) rfl (xs := ([160] : List Int)) (inner := [.int .u8 160]) (ok := fun k_ => col k_ = 4 ∨ w'.heap.size ≤ k_) (okp := fun _ => False) ?_ ?_ (fun _ h_ => h_.elim) (.inr (Nat.le_refl _)) HB13.out HB13.out.size (by simp) ?_
                  · go_simp
                  · exact Kd.reps_scalar (enc := Value.int .u8) ([160] : List Int)
                  intro v1_ w1_ ho_ hb1_ hg_ _
                  refine hK.out _ _ ⟨paint w'.heap.size 4 col, L1, L7, L9, v1_, L17, L23, P6, P8, P14, P16, P22, P24, Z25, Z26, m27_, (by rw [ha.out]; exact putSel_upk 8 hb_ rfl rfl rfl), fun _ => hb1_, fun h0_ h1_ => col_keep (Q_RL1 h0_ h1_) hg_ (fun k_ h_ => by cases h_) (by decide), fun h0_ h1_ => col_keep (Q_RL7 h0_ h1_) hg_ (fun k_ h_ => by cases h_) (by decide), fun h0_ h1_ => col_keep (Q_RL9 h0_ h1_) hg_ (fun k_ h_ => by cases h_) (by decide), fun _ _ => col_own ho_, fun h0_ h1_ => col_keep (Q_RL17 h0_ h1_) hg_ (fun k_ h_ => by cases h_) (by decide), fun h0_ h1_ => col_keep (Q_RL23 h0_ h1_) hg_ (fun k_ h_ => by cases h_) (by decide), fun h0_ h1_ => col_keep (Q_RP6 h0_ h1_) hg_ (fun k_ h_ => by cases h_) (by decide), fun h0_ h1_ => col_keep (Q_RP8 h0_ h1_) hg_ (fun k_ h_ => by cases h_) (by decide), fun h0_ h1_ => col_keep (Q_RP14 h0_ h1_) hg_ (fun k_ h_ => by cases h_) (by decide), fun h0_ _ => absurd ((hoff 16 (by kernel_rfl)).symm.trans h0_) (by decide), fun h0_ _ => absurd ((hoff 22 (by kernel_rfl)).symm.trans h0_) (by decide), fun h0_ _ => absurd ((hoff 24 (by kernel_rfl)).symm.trans h0_) (by decide), fun h0_ _ => absurd ((hoff 25 (by kernel_rfl)).symm.trans h0_) (by decide), fun h0_ => absurd ((hoff 26 (by kernel_rfl)).symm.trans h0_) (by decide), fun h0_ => absurd ((hoff 27 (by kernel_rfl)).symm.trans h0_) (by decide)⟩
                refine steps_cons ?_ ?_
                · rintro b a w' ⟨col, L1, L7, L9, L15, L17, L23, P6, P8, P14, P16, P22, P24, Z25, Z26, m27_, ha, Q_HB13, Q_RL1, Q_RL7, Q_RL9, Q_RL15, Q_RL17, Q_RL23, Q_RP6, Q_RP8, Q_RP14, Q_RP16, Q_RP22, Q_RP24, Q_RT25, Q_F26, Q_X27_⟩ hb_ hon hoff
                  refine ⟨_, rfl, fun K hK => ?_⟩
                  have e52 : a.tmps[52]? = some (P14) := by rw [ha]; exact putSel_on (e := (14, 52, P14)) 7 rfl rfl (hon 14 (by kernel_rfl)) rfl
                  have e53 : a.tmps[53]? = some (L15) := by rw [ha]; exact putSel_on (e := (15, 53, L15)) 8 rfl rfl (hon 15 (by kernel_rfl)) rfl
                  replace ha := Aside0.mk ha
                  have HB13 := Aside0.mk (Q_HB13 (hoff 26 (by kernel_rfl)))
                  have RL15 := Aside0.mk (Q_RL15 (hon 15 (by kernel_rfl)) hb_)
                  have RP8 := Aside0.mk (Q_RP8 (hon 8 (by kernel_rfl)) (hoff 26 (by kernel_rfl)))
                  have RP14 := Aside0.mk (Q_RP14 (hon 14 (by kernel_rfl)) hb_)
                  obtain ⟨Al_, cl_, el_⟩ := Kd.R_slice RL15.out
                  have HL_ := RL15.out
                  rw [el_] at HL_
                  refine Kd.R_append_rows_step (Kd.int .u8) (w0 := wy) wy.heap.size (by rfl) (.tmp 52) (.tmp 53) 23 5 (.int .u8 0) 1 rfl Tryd.underlying23 info5 rfl (by decide) (by decide) P14 xs [160] Al_ 1 cl_ (fun k_ => col k_ = 3 ∨ w'.heap.size ≤ k_) (fun _ => False) (by simp only [Act.eval, Array.getD_eq_getD_getElem?, Option.getD_some, e52]) (by simp only [Act.eval, Array.getD_eq_getD_getElem?, Option.getD_some, e53, el_]; try rfl) (Kd.R_mono RP14.out (fun _ h_ => .inl h_)) (Kd.R_reads' HL_).2.2 (fun _ _ h_ => h_) (fun _ h_ => h_.elim) (fun _ h_ => .inr h_) HB13.out HB13.out.size ?_ ?_
                  · have := HPL.out; have := HP.out; simp; omega
                  intro v1_ w1_ ho_ hb1_ hg_ _
                  (try rw [List.nil_append] at ho_)
                  refine hK.out _ _ ⟨paint w'.heap.size 3 col, L1, L7, L9, L15, L17, L23, P6, P8, P14, v1_, P22, P24, Z25, Z26, m27_, (by rw [ha.out]; exact putSel_upk 9 hb_ rfl rfl rfl), fun _ => hb1_, fun _ h1_ => absurd ((hon 6 (by kernel_rfl)).symm.trans h1_) (by decide), fun _ h1_ => absurd ((hon 8 (by kernel_rfl)).symm.trans h1_) (by decide), fun _ h1_ => absurd ((hon 14 (by kernel_rfl)).symm.trans h1_) (by decide), fun _ h1_ => absurd ((up_self b 16).symm.trans h1_) (by decide), fun h0_ h1_ => col_keep (Q_RL17 h0_ h1_) hg_ (fun k_ h_ => RP14.out.1 k_ h_) (by decide), fun h0_ h1_ => col_keep (Q_RL23 h0_ h1_) hg_ (fun k_ h_ => RP14.out.1 k_ h_) (by decide), fun _ h1_ => absurd ((hon 8 (by kernel_rfl)).symm.trans h1_) (by decide), fun _ _ => col_keep RP8.out hg_ (fun k_ h_ => RP14.out.1 k_ h_) (by decide), fun _ h1_ => absurd ((up_self b 16).symm.trans h1_) (by decide), fun _ _ => col_own ho_, fun h0_ _ => absurd ((hoff 22 (by kernel_rfl)).symm.trans h0_) (by decide), fun h0_ _ => absurd ((hoff 24 (by kernel_rfl)).symm.trans h0_) (by decide), fun h0_ _ => absurd ((hoff 25 (by kernel_rfl)).symm.trans h0_) (by decide), fun h0_ => absurd ((hoff 26 (by kernel_rfl)).symm.trans h0_) (by decide), fun h0_ => absurd ((hoff 27 (by kernel_rfl)).symm.trans h0_) (by decide)⟩
                refine steps_cons ?_ ?_
                · rintro b a w' ⟨col, L1, L7, L9, L15, L17, L23, P6, P8, P14, P16, P22, P24, Z25, Z26, m27_, ha, Q_HB13, Q_RL1, Q_RL7, Q_RL9, Q_RL15, Q_RL17, Q_RL23, Q_RP6, Q_RP8, Q_RP14, Q_RP16, Q_RP22, Q_RP24, Q_RT25, Q_F26, Q_X27_⟩ hb_ hon hoff
                  refine ⟨_, rfl, fun K hK => ?_⟩
                  replace ha := Aside0.mk ha
                  have HB13 := Aside0.mk (Q_HB13 (hoff 26 (by kernel_rfl)))
                  refine Kd.R_lit_step (Kd.int .u8) (w0 := wy) wy.heap.size 5 (by rfl) (N := 55) rfl (xs := ([] : List Int)) (inner := []) (ok := fun k_ => col k_ = 5 ∨ w'.heap.size ≤ k_) (okp := fun _ => False) ?_ ?_ (fun _ h_ => h_.elim) (.inr (Nat.le_refl _)) HB13.out HB13.out.size (by simp) ?_
                  · go_simp
                  · exact Reps.none _ _
                  intro v1_ w1_ ho_ hb1_ hg_ _
                  refine hK.out _ _ ⟨paint w'.heap.size 5 col, L1, L7, L9, L15, v1_, L23, P6, P8, P14, P16, P22, P24, Z25, Z26, m27_, (by rw [ha.out]; exact putSel_upk 10 hb_ rfl rfl rfl), fun _ => hb1_, fun h0_ h1_ => col_keep (Q_RL1 h0_ h1_) hg_ (fun k_ h_ => by cases h_) (by decide), fun h0_ h1_ => col_keep (Q_RL7 h0_ h1_) hg_ (fun k_ h_ => by cases h_) (by decide), fun h0_ h1_ => col_keep (Q_RL9 h0_ h1_) hg_ (fun k_ h_ => by cases h_) (by decide), fun h0_ h1_ => col_keep (Q_RL15 h0_ h1_) hg_ (fun k_ h_ => by cases h_) (by decide), fun _ _ => col_own ho_, fun h0_ h1_ => col_keep (Q_RL23 h0_ h1_) hg_ (fun k_ h_ => by cases h_) (by decide), fun h0_ h1_ => col_keep (Q_RP6 h0_ h1_) hg_ (fun k_ h_ => by cases h_) (by decide), fun h0_ h1_ => col_keep (Q_RP8 h0_ h1_) hg_ (fun k_ h_ => by cases h_) (by decide), fun h0_ h1_ => col_keep (Q_RP14 h0_ h1_) hg_ (fun k_ h_ => by cases h_) (by decide), fun h0_ h1_ => col_keep (Q_RP16 h0_ h1_) hg_ (fun k_ h_ => by cases h_) (by decide), fun h0_ _ => absurd ((hoff 22 (by kernel_rfl)).symm.trans h0_) (by decide), fun h0_ _ => absurd ((hoff 24 (by kernel_rfl)).symm.trans h0_) (by decide), fun h0_ _ => absurd ((hoff 25 (by kernel_rfl)).symm.trans h0_) (by decide), fun h0_ => absurd ((hoff 26 (by kernel_rfl)).symm.trans h0_) (by decide), fun h0_ => absurd ((hoff 27 (by kernel_rfl)).symm.trans h0_) (by decide)⟩
                refine steps_cons ?_ ?_
                · rintro b a w' ⟨col, L1, L7, L9, L15, L17, L23, P6, P8, P14, P16, P22, P24, Z25, Z26, m27_, ha, Q_HB13, Q_RL1, Q_RL7, Q_RL9, Q_RL15, Q_RL17, Q_RL23, Q_RP6, Q_RP8, Q_RP14, Q_RP16, Q_RP22, Q_RP24, Q_RT25, Q_F26, Q_X27_⟩ hb_ hon hoff
                  refine ⟨_, rfl, fun K hK => ?_⟩
                  have e58 : a.tmps[58]? = some (.pointer (some ⟨g, m, none⟩)) := by rw [ha]; exact (putSel_off rfl).trans rfl
                  replace ha := Aside0.mk ha
                  have HB13 := Aside0.mk (Q_HB13 (hoff 26 (by kernel_rfl)))
                  have k0_ := pw_cell_below2 HB13.out k0
                  refine value_ (w1 := w') (v := .slice ta p tc) (by rfl) rfl ?_ ?_
                  · go_simp
                    (try simp only [i64_w])
                    try rfl
                  refine hK.out _ _ ⟨col, L1, L7, L9, L15, L17, L23, P6, P8, P14, P16, P22, P24, Z25, Z26, m27_, (by rw [ha.out]; exact putSel_upk 11 hb_ rfl rfl rfl), Q_HB13, Q_RL1, Q_RL7, Q_RL9, Q_RL15, Q_RL17, Q_RL23, Q_RP6, Q_RP8, Q_RP14, Q_RP16, fun h0_ _ => absurd ((hoff 22 (by kernel_rfl)).symm.trans h0_) (by decide), fun h0_ _ => absurd ((hoff 24 (by kernel_rfl)).symm.trans h0_) (by decide), fun h0_ _ => absurd ((hoff 25 (by kernel_rfl)).symm.trans h0_) (by decide), fun h0_ => absurd ((hoff 26 (by kernel_rfl)).symm.trans h0_) (by decide), fun h0_ => absurd ((hoff 27 (by kernel_rfl)).symm.trans h0_) (by decide)⟩
                refine steps_cons ?_ ?_
                · rintro b a w' ⟨col, L1, L7, L9, L15, L17, L23, P6, P8, P14, P16, P22, P24, Z25, Z26, m27_, ha, Q_HB13, Q_RL1, Q_RL7, Q_RL9, Q_RL15, Q_RL17, Q_RL23, Q_RP6, Q_RP8, Q_RP14, Q_RP16, Q_RP22, Q_RP24, Q_RT25, Q_F26, Q_X27_⟩ hb_ hon hoff
                  refine ⟨_, rfl, fun K hK => ?_⟩
                  have e55 : a.tmps[55]? = some (L17) := by rw [ha]; exact putSel_on (e := (17, 55, L17)) 10 rfl rfl (hon 17 (by kernel_rfl)) rfl
                  have e59 : a.tmps[59]? = some (.slice ta p tc) := by rw [ha]; exact putSel_on (e := (21, 59, .slice ta p tc)) 11 rfl rfl (hon 21 (by kernel_rfl)) rfl
                  replace ha := Aside0.mk ha
                  have HB13 := Aside0.mk (Q_HB13 (hoff 26 (by kernel_rfl)))
                  have RL17 := Aside0.mk (Q_RL17 (hon 17 (by kernel_rfl)) hb_)
                  have RP8 := Aside0.mk (Q_RP8 (hon 8 (by kernel_rfl)) (hoff 26 (by kernel_rfl)))
                  have RP16 := Aside0.mk (Q_RP16 (hon 16 (by kernel_rfl)) (hoff 26 (by kernel_rfl)))
                  have hcy_ := HCY.out.imp_ HB13.out (fun _ _ h_ => h_)
                  refine Kd.R_append_rows_step (Kd.int .u8) (w0 := wy) wy.heap.size (by rfl) (.tmp 55) (.tmp 59) 23 5 (.int .u8 0) 1 rfl Tryd.underlying23 info5 rfl (by decide) (by decide) L17 ([] : List Int) xs ta p tc (fun k_ => col k_ = 5 ∨ w'.heap.size ≤ k_) (fun _ => False) (by simp only [Act.eval, Array.getD_eq_getD_getElem?, Option.getD_some, e55]) (by simp only [Act.eval, Array.getD_eq_getD_getElem?, Option.getD_some, e59]; try rfl) (Kd.R_mono RL17.out (fun _ h_ => .inl h_)) hcy_ (fun _ _ h_ => h_) (fun _ h_ => h_.elim) (fun _ h_ => .inr h_) HB13.out HB13.out.size ?_ ?_
                  · have := HPL.out; have := HP.out; simp; omega
                  intro v1_ w1_ ho_ hb1_ hg_ _
                  (try rw [List.nil_append] at ho_)
                  refine hK.out _ _ ⟨paint w'.heap.size 5 col, L1, L7, L9, L15, L17, L23, P6, P8, P14, P16, v1_, P24, Z25, Z26, m27_, (by rw [ha.out]; exact putSel_upk 12 hb_ rfl rfl rfl), fun _ => hb1_, fun _ h1_ => absurd ((hon 6 (by kernel_rfl)).symm.trans h1_) (by decide), fun _ h1_ => absurd ((hon 8 (by kernel_rfl)).symm.trans h1_) (by decide), fun _ h1_ => absurd ((hon 14 (by kernel_rfl)).symm.trans h1_) (by decide), fun _ h1_ => absurd ((hon 16 (by kernel_rfl)).symm.trans h1_) (by decide), fun _ h1_ => absurd ((up_self b 22).symm.trans h1_) (by decide), fun h0_ h1_ => col_keep (Q_RL23 h0_ h1_) hg_ (fun k_ h_ => RL17.out.1 k_ h_) (by decide), fun _ h1_ => absurd ((hon 8 (by kernel_rfl)).symm.trans h1_) (by decide), fun _ _ => col_keep RP8.out hg_ (fun k_ h_ => RL17.out.1 k_ h_) (by decide), fun _ h1_ => absurd ((hon 16 (by kernel_rfl)).symm.trans h1_) (by decide), fun _ _ => col_keep RP16.out hg_ (fun k_ h_ => RL17.out.1 k_ h_) (by decide), fun _ _ => col_own ho_, fun h0_ _ => absurd ((hoff 24 (by kernel_rfl)).symm.trans h0_) (by decide), fun h0_ _ => absurd ((hoff 25 (by kernel_rfl)).symm.trans h0_) (by decide), fun h0_ => absurd ((hoff 26 (by kernel_rfl)).symm.trans h0_) (by decide), fun h0_ => absurd ((hoff 27 (by kernel_rfl)).symm.trans h0_) (by decide)⟩
                refine steps_cons ?_ ?_
                · rintro b a w' ⟨col, L1, L7, L9, L15, L17, L23, P6, P8, P14, P16, P22, P24, Z25, Z26, m27_, ha, Q_HB13, Q_RL1, Q_RL7, Q_RL9, Q_RL15, Q_RL17, Q_RL23, Q_RP6, Q_RP8, Q_RP14, Q_RP16, Q_RP22, Q_RP24, Q_RT25, Q_F26, Q_X27_⟩ hb_ hon hoff
                  refine ⟨_, rfl, fun K hK => ?_⟩
                  replace ha := Aside0.mk ha
                  have HB13 := Aside0.mk (Q_HB13 (hoff 26 (by kernel_rfl)))
                  refine Kd.R_lit_step (Kd.int .u8) (w0 := wy) wy.heap.size 5 (by rfl) (N := 61) rfl (xs := ([191] : List Int)) (inner := [.int .u8 191]) (ok := fun k_ => col k_ = 6 ∨ w'.heap.size ≤ k_) (okp := fun _ => False) ?_ ?_ (fun _ h_ => h_.elim) (.inr (Nat.le_refl _)) HB13.out HB13.out.size (by simp) ?_
                  · go_simp
                  · exact Kd.reps_scalar (enc := Value.int .u8) ([191] : List Int)
                  intro v1_ w1_ ho_ hb1_ hg_ _
                  refine hK.out _ _ ⟨paint w'.heap.size 6 col, L1, L7, L9, L15, L17, v1_, P6, P8, P14, P16, P22, P24, Z25, Z26, m27_, (by rw [ha.out]; exact putSel_upk 13 hb_ rfl rfl rfl), fun _ => hb1_, fun h0_ h1_ => col_keep (Q_RL1 h0_ h1_) hg_ (fun k_ h_ => by cases h_) (by decide), fun h0_ h1_ => col_keep (Q_RL7 h0_ h1_) hg_ (fun k_ h_ => by cases h_) (by decide), fun h0_ h1_ => col_keep (Q_RL9 h0_ h1_) hg_ (fun k_ h_ => by cases h_) (by decide), fun h0_ h1_ => col_keep (Q_RL15 h0_ h1_) hg_ (fun k_ h_ => by cases h_) (by decide), fun h0_ h1_ => col_keep (Q_RL17 h0_ h1_) hg_ (fun k_ h_ => by cases h_) (by decide), fun _ _ => col_own ho_, fun h0_ h1_ => col_keep (Q_RP6 h0_ h1_) hg_ (fun k_ h_ => by cases h_) (by decide), fun h0_ h1_ => col_keep (Q_RP8 h0_ h1_) hg_ (fun k_ h_ => by cases h_) (by decide), fun h0_ h1_ => col_keep (Q_RP14 h0_ h1_) hg_ (fun k_ h_ => by cases h_) (by decide), fun h0_ h1_ => col_keep (Q_RP16 h0_ h1_) hg_ (fun k_ h_ => by cases h_) (by decide), fun h0_ h1_ => col_keep (Q_RP22 h0_ h1_) hg_ (fun k_ h_ => by cases h_) (by decide), fun h0_ _ => absurd ((hoff 24 (by kernel_rfl)).symm.trans h0_) (by decide), fun h0_ _ => absurd ((hoff 25 (by kernel_rfl)).symm.trans h0_) (by decide), fun h0_ => absurd ((hoff 26 (by kernel_rfl)).symm.trans h0_) (by decide), fun h0_ => absurd ((hoff 27 (by kernel_rfl)).symm.trans h0_) (by decide)⟩
                refine steps_cons ?_ ?_
                · rintro b a w' ⟨col, L1, L7, L9, L15, L17, L23, P6, P8, P14, P16, P22, P24, Z25, Z26, m27_, ha, Q_HB13, Q_RL1, Q_RL7, Q_RL9, Q_RL15, Q_RL17, Q_RL23, Q_RP6, Q_RP8, Q_RP14, Q_RP16, Q_RP22, Q_RP24, Q_RT25, Q_F26, Q_X27_⟩ hb_ hon hoff
                  refine ⟨_, rfl, fun K hK => ?_⟩
                  have e60 : a.tmps[60]? = some (P22) := by rw [ha]; exact putSel_on (e := (22, 60, P22)) 12 rfl rfl (hon 22 (by kernel_rfl)) rfl
                  have e61 : a.tmps[61]? = some (L23) := by rw [ha]; exact putSel_on (e := (23, 61, L23)) 13 rfl rfl (hon 23 (by kernel_rfl)) rfl
                  replace ha := Aside0.mk ha
                  have HB13 := Aside0.mk (Q_HB13 (hoff 26 (by kernel_rfl)))
                  have RL23 := Aside0.mk (Q_RL23 (hon 23 (by kernel_rfl)) hb_)
                  have RP8 := Aside0.mk (Q_RP8 (hon 8 (by kernel_rfl)) (hoff 26 (by kernel_rfl)))
                  have RP16 := Aside0.mk (Q_RP16 (hon 16 (by kernel_rfl)) (hoff 26 (by kernel_rfl)))
                  have RP22 := Aside0.mk (Q_RP22 (hon 22 (by kernel_rfl)) hb_)
                  obtain ⟨Al_, cl_, el_⟩ := Kd.R_slice RL23.out
                  have HL_ := RL23.out
                  rw [el_] at HL_
                  refine Kd.R_append_rows_step (Kd.int .u8) (w0 := wy) wy.heap.size (by rfl) (.tmp 60) (.tmp 61) 23 5 (.int .u8 0) 1 rfl Tryd.underlying23 info5 rfl (by decide) (by decide) P22 xs [191] Al_ 1 cl_ (fun k_ => col k_ = 5 ∨ w'.heap.size ≤ k_) (fun _ => False) (by simp only [Act.eval, Array.getD_eq_getD_getElem?, Option.getD_some, e60]) (by simp only [Act.eval, Array.getD_eq_getD_getElem?, Option.getD_some, e61, el_]; try rfl) (Kd.R_mono RP22.out (fun _ h_ => .inl h_)) (Kd.R_reads' HL_).2.2 (fun _ _ h_ => h_) (fun _ h_ => h_.elim) (fun _ h_ => .inr h_) HB13.out HB13.out.size ?_ ?_
                  · have := HPL.out; have := HP.out; simp; omega
                  intro v1_ w1_ ho_ hb1_ hg_ _
                  (try rw [List.nil_append] at ho_)
                  refine hK.out _ _ ⟨paint w'.heap.size 5 col, L1, L7, L9, L15, L17, L23, P6, P8, P14, P16, P22, v1_, Z25, Z26, m27_, (by rw [ha.out]; exact putSel_upk 14 hb_ rfl rfl rfl), fun _ => hb1_, fun _ h1_ => absurd ((hon 6 (by kernel_rfl)).symm.trans h1_) (by decide), fun _ h1_ => absurd ((hon 8 (by kernel_rfl)).symm.trans h1_) (by decide), fun _ h1_ => absurd ((hon 14 (by kernel_rfl)).symm.trans h1_) (by decide), fun _ h1_ => absurd ((hon 16 (by kernel_rfl)).symm.trans h1_) (by decide), fun _ h1_ => absurd ((hon 22 (by kernel_rfl)).symm.trans h1_) (by decide), fun _ h1_ => absurd ((up_self b 24).symm.trans h1_) (by decide), fun _ h1_ => absurd ((hon 8 (by kernel_rfl)).symm.trans h1_) (by decide), fun _ _ => col_keep RP8.out hg_ (fun k_ h_ => RP22.out.1 k_ h_) (by decide), fun _ h1_ => absurd ((hon 16 (by kernel_rfl)).symm.trans h1_) (by decide), fun _ _ => col_keep RP16.out hg_ (fun k_ h_ => RP22.out.1 k_ h_) (by decide), fun _ h1_ => absurd ((up_self b 24).symm.trans h1_) (by decide), fun _ _ => col_own ho_, fun h0_ _ => absurd ((hoff 25 (by kernel_rfl)).symm.trans h0_) (by decide), fun h0_ => absurd ((hoff 26 (by kernel_rfl)).symm.trans h0_) (by decide), fun h0_ => absurd ((hoff 27 (by kernel_rfl)).symm.trans h0_) (by decide)⟩
                refine steps_cons ?_ ?_
                · rintro b a w' ⟨col, L1, L7, L9, L15, L17, L23, P6, P8, P14, P16, P22, P24, Z25, Z26, m27_, ha, Q_HB13, Q_RL1, Q_RL7, Q_RL9, Q_RL15, Q_RL17, Q_RL23, Q_RP6, Q_RP8, Q_RP14, Q_RP16, Q_RP22, Q_RP24, Q_RT25, Q_F26, Q_X27_⟩ hb_ hon hoff
                  refine ⟨_, rfl, fun K hK => ?_⟩
                  have e46 : a.tmps[46]? = some (P8) := by rw [ha]; exact putSel_on (e := (8, 46, P8)) 4 rfl rfl (hon 8 (by kernel_rfl)) rfl
                  have e54 : a.tmps[54]? = some (P16) := by rw [ha]; exact putSel_on (e := (16, 54, P16)) 9 rfl rfl (hon 16 (by kernel_rfl)) rfl
                  have e62 : a.tmps[62]? = some (P24) := by rw [ha]; exact putSel_on (e := (24, 62, P24)) 14 rfl rfl (hon 24 (by kernel_rfl)) rfl
                  replace ha := Aside0.mk ha
                  have HB13 := Aside0.mk (Q_HB13 (hoff 26 (by kernel_rfl)))
                  have RP8 := Aside0.mk (Q_RP8 (hon 8 (by kernel_rfl)) (hoff 26 (by kernel_rfl)))
                  have RP16 := Aside0.mk (Q_RP16 (hon 16 (by kernel_rfl)) (hoff 26 (by kernel_rfl)))
                  have RP24 := Aside0.mk (Q_RP24 (hon 24 (by kernel_rfl)) (hoff 26 (by kernel_rfl)))
                  obtain ⟨A8_, c8_, rfl⟩ := Kd.R_slice RP8.out
                  obtain ⟨A16_, c16_, rfl⟩ := Kd.R_slice RP16.out
                  obtain ⟨A24_, c24_, rfl⟩ := Kd.R_slice RP24.out
                  refine Kd.R_lit_step dS (w0 := wy) wy.heap.size 23 (by rfl) (N := 63) rfl (xs := [(A8_, (xs ++ [144]).length, c8_), (A16_, (xs ++ [160]).length, c16_), (A24_, (xs ++ [191]).length, c24_)]) (inner := [.slice A8_ (xs ++ [144]).length c8_, .slice A16_ (xs ++ [160]).length c16_, .slice A24_ (xs ++ [191]).length c24_]) (ok := fun _ => True) (okp := fun _ => False) ?_ ?_ (fun _ h_ => h_.elim) trivial HB13.out HB13.out.size (by simp) ?_
                  · go_simp
                  · exact Kd.reps_scalar (enc := encS) [(A8_, (xs ++ [144]).length, c8_), (A16_, (xs ++ [160]).length, c16_), (A24_, (xs ++ [191]).length, c24_)]
                  intro v1_ w1_ ho_ hb1_ hg_ _
                  refine hK.out _ _ ⟨paint w'.heap.size 7 col, L1, L7, L9, L15, L17, L23, P6, (.slice A8_ (xs ++ [144]).length c8_), P14, (.slice A16_ (xs ++ [160]).length c16_), P22, (.slice A24_ (xs ++ [191]).length c24_), v1_, Z26, m27_, (by rw [ha.out]; exact putSel_upk 15 hb_ rfl rfl rfl), fun _ => hb1_, fun _ h1_ => absurd ((hon 6 (by kernel_rfl)).symm.trans h1_) (by decide), fun _ h1_ => absurd ((hon 8 (by kernel_rfl)).symm.trans h1_) (by decide), fun _ h1_ => absurd ((hon 14 (by kernel_rfl)).symm.trans h1_) (by decide), fun _ h1_ => absurd ((hon 16 (by kernel_rfl)).symm.trans h1_) (by decide), fun _ h1_ => absurd ((hon 22 (by kernel_rfl)).symm.trans h1_) (by decide), fun _ h1_ => absurd ((hon 24 (by kernel_rfl)).symm.trans h1_) (by decide), fun _ h1_ => absurd ((hon 8 (by kernel_rfl)).symm.trans h1_) (by decide), fun _ _ => col_keep RP8.out hg_ (fun k_ h_ => by cases h_) (by decide), fun _ h1_ => absurd ((hon 16 (by kernel_rfl)).symm.trans h1_) (by decide), fun _ _ => col_keep RP16.out hg_ (fun k_ h_ => by cases h_) (by decide), fun _ h1_ => absurd ((hon 24 (by kernel_rfl)).symm.trans h1_) (by decide), fun _ _ => col_keep RP24.out hg_ (fun k_ h_ => by cases h_) (by decide), fun _ _ => ⟨(A8_, (xs ++ [144]).length, c8_), (A16_, (xs ++ [160]).length, c16_), (A24_, (xs ++ [191]).length, c24_), rfl, rfl, rfl, ho_⟩, fun h0_ => absurd ((hoff 26 (by kernel_rfl)).symm.trans h0_) (by decide), fun h0_ => absurd ((hoff 27 (by kernel_rfl)).symm.trans h0_) (by decide)⟩
                refine steps_cons ?_ ?_
                · rintro b a w' ⟨col, L1, L7, L9, L15, L17, L23, P6, P8, P14, P16, P22, P24, Z25, Z26, m27_, ha, Q_HB13, Q_RL1, Q_RL7, Q_RL9, Q_RL15, Q_RL17, Q_RL23, Q_RP6, Q_RP8, Q_RP14, Q_RP16, Q_RP22, Q_RP24, Q_RT25, Q_F26, Q_X27_⟩ hb_ hon hoff
                  refine ⟨_, rfl, fun K hK => ?_⟩
                  have e38 : a.tmps[38]? = some (u5) := by rw [ha]; exact (putSel_off rfl).trans rfl
                  have e63 : a.tmps[63]? = some (Z25) := by rw [ha]; exact putSel_on (e := (25, 63, Z25)) 15 rfl rfl (hon 25 (by kernel_rfl)) rfl
                  replace ha := Aside0.mk ha
                  have HB13 := Aside0.mk (Q_HB13 hb_)
                  have RP8 := Aside0.mk (Q_RP8 (hon 8 (by kernel_rfl)) hb_)
                  have RP16 := Aside0.mk (Q_RP16 (hon 16 (by kernel_rfl)) hb_)
                  have RP24 := Aside0.mk (Q_RP24 (hon 24 (by kernel_rfl)) hb_)
                  have RT25 := Aside0.mk (Q_RT25 (hon 25 (by kernel_rfl)) hb_)
                  obtain ⟨t8_, t16_, t24_, e8_, e16_, e24_, HR25_⟩ := RT25.out
                  obtain ⟨A25_, c25_, e25_⟩ := Kd.R_slice HR25_
                  rw [e25_] at HR25_
                  refine Kd.R_append_rows_step dS (w0 := wo) wo.heap.size (by rfl) (.tmp 38) (.tmp 63) 38 23 (.slice none 0 0) 24 rfl Tryd.underlying38 info23 rfl (by decide) (by decide) u5 ts5 [t8_, t16_, t24_] A25_ [t8_, t16_, t24_].length c25_ (fun _ => True) (fun _ => False) (by simp only [Act.eval, Array.getD_eq_getD_getElem?, Option.getD_some, e38]) (by simp only [Act.eval, Array.getD_eq_getD_getElem?, Option.getD_some, e63, e25_]) (Kd.R_below HR5.out HB13.out) (Kd.R_reads' HR25_).2.2 (fun _ _ h_ => h_) (fun _ h_ => h_.elim) (fun _ _ => trivial) (HB3.out.trans (HB13.out.mono HB3.out.size)) (Nat.le_trans HB3.out.size HB13.out.size) ?_ ?_
                  · have := HTL.out; simp; omega
                  intro v1_ w1_ ho_ hb1_ hg_ _
                  refine hK.out _ _ ⟨paint w'.heap.size 7 col, L1, L7, L9, L15, L17, L23, P6, P8, P14, P16, P22, P24, Z25, v1_, m27_, (by rw [ha.out]; exact putSel_upk 16 hb_ rfl rfl rfl), fun h0_ => absurd ((up_self b 26).symm.trans h0_) (by decide), fun _ h1_ => absurd ((hon 6 (by kernel_rfl)).symm.trans h1_) (by decide), fun _ h1_ => absurd ((hon 8 (by kernel_rfl)).symm.trans h1_) (by decide), fun _ h1_ => absurd ((hon 14 (by kernel_rfl)).symm.trans h1_) (by decide), fun _ h1_ => absurd ((hon 16 (by kernel_rfl)).symm.trans h1_) (by decide), fun _ h1_ => absurd ((hon 22 (by kernel_rfl)).symm.trans h1_) (by decide), fun _ h1_ => absurd ((hon 24 (by kernel_rfl)).symm.trans h1_) (by decide), fun _ h1_ => absurd ((hon 8 (by kernel_rfl)).symm.trans h1_) (by decide), fun _ h1_ => absurd ((up_self b 26).symm.trans h1_) (by decide), fun _ h1_ => absurd ((hon 16 (by kernel_rfl)).symm.trans h1_) (by decide), fun _ h1_ => absurd ((up_self b 26).symm.trans h1_) (by decide), fun _ h1_ => absurd ((hon 24 (by kernel_rfl)).symm.trans h1_) (by decide), fun _ h1_ => absurd ((up_self b 26).symm.trans h1_) (by decide), fun _ h1_ => absurd ((up_self b 26).symm.trans h1_) (by decide), fun _ => ⟨⟨_, ho_, three_inner HI5.out HR5.out HB13.out HB3.out.size (e8_ ▸ RP8.out) (e16_ ▸ RP16.out) (e24_ ▸ RP24.out) hg_⟩, hb1_⟩, fun h0_ => absurd ((hoff 27 (by kernel_rfl)).symm.trans h0_) (by decide)⟩
                refine steps_cons ?_ ?_
                · rintro b a w' ⟨col, L1, L7, L9, L15, L17, L23, P6, P8, P14, P16, P22, P24, Z25, Z26, m27_, ha, Q_HB13, Q_RL1, Q_RL7, Q_RL9, Q_RL15, Q_RL17, Q_RL23, Q_RP6, Q_RP8, Q_RP14, Q_RP16, Q_RP22, Q_RP24, Q_RT25, Q_F26, Q_X27_⟩ hb_ hon hoff
                  refine ⟨_, rfl, fun K hK => ?_⟩
                  have e64 : a.tmps[64]? = some (Z26) := by rw [ha]; exact putSel_on (e := (26, 64, Z26)) 16 rfl rfl (hon 26 (by kernel_rfl)) rfl
                  replace ha := Aside0.mk ha
                  have F26 := Aside0.mk (Q_F26 (hon 26 (by kernel_rfl)))
                  refine value_ (w1 := w') (v := Z26) (by rfl) rfl ?_ ?_
                  · go_simp
                    (try simp only [i64_w])
                    try rfl
                  refine hK.out _ _ ⟨col, L1, L7, L9, L15, L17, L23, P6, P8, P14, P16, P22, P24, Z25, Z26, (Z26), (by rw [ha.out]; exact putSel_upk 17 hb_ rfl rfl rfl), fun h0_ => absurd ((hon 26 (by kernel_rfl)).symm.trans h0_) (by decide), fun _ h1_ => absurd ((hon 6 (by kernel_rfl)).symm.trans h1_) (by decide), fun _ h1_ => absurd ((hon 8 (by kernel_rfl)).symm.trans h1_) (by decide), fun _ h1_ => absurd ((hon 14 (by kernel_rfl)).symm.trans h1_) (by decide), fun _ h1_ => absurd ((hon 16 (by kernel_rfl)).symm.trans h1_) (by decide), fun _ h1_ => absurd ((hon 22 (by kernel_rfl)).symm.trans h1_) (by decide), fun _ h1_ => absurd ((hon 24 (by kernel_rfl)).symm.trans h1_) (by decide), fun _ h1_ => absurd ((hon 8 (by kernel_rfl)).symm.trans h1_) (by decide), fun _ h1_ => absurd ((hon 26 (by kernel_rfl)).symm.trans h1_) (by decide), fun _ h1_ => absurd ((hon 16 (by kernel_rfl)).symm.trans h1_) (by decide), fun _ h1_ => absurd ((hon 26 (by kernel_rfl)).symm.trans h1_) (by decide), fun _ h1_ => absurd ((hon 24 (by kernel_rfl)).symm.trans h1_) (by decide), fun _ h1_ => absurd ((hon 26 (by kernel_rfl)).symm.trans h1_) (by decide), fun _ h1_ => absurd ((hon 26 (by kernel_rfl)).symm.trans h1_) (by decide), Q_F26, fun _ => rfl⟩
                exact steps_nil
              · rintro b a w' hall ⟨col, L1, L7, L9, L15, L17, L23, P6, P8, P14, P16, P22, P24, Z25, Z26, m27_, ha, Q_HB13, Q_RL1, Q_RL7, Q_RL9, Q_RL15, Q_RL17, Q_RL23, Q_RP6, Q_RP8, Q_RP14, Q_RP16, Q_RP22, Q_RP24, Q_RT25, Q_F26, Q_X27_⟩
                clear HB13
                have hb1_ := hall 1 (by kernel_rfl)
                have hb5_ := hall 5 (by kernel_rfl)
                have hb6_ := hall 6 (by kernel_rfl)
                have hb7_ := hall 7 (by kernel_rfl)
                have hb8_ := hall 8 (by kernel_rfl)
                have hb9_ := hall 9 (by kernel_rfl)
                have hb13_ := hall 13 (by kernel_rfl)
                have hb14_ := hall 14 (by kernel_rfl)
                have hb15_ := hall 15 (by kernel_rfl)
                have hb16_ := hall 16 (by kernel_rfl)
                have hb17_ := hall 17 (by kernel_rfl)
                have hb21_ := hall 21 (by kernel_rfl)
                have hb22_ := hall 22 (by kernel_rfl)
                have hb23_ := hall 23 (by kernel_rfl)
                have hb24_ := hall 24 (by kernel_rfl)
                have hb25_ := hall 25 (by kernel_rfl)
                have hb26_ := hall 26 (by kernel_rfl)
                have hb27_ := hall 27 (by kernel_rfl)
                subst ha
                obtain rfl := Q_X27_ hb27_
                simp only [putSel, hb1_, hb5_, hb6_, hb7_, hb8_, hb9_, hb13_, hb14_, hb15_, hb16_, hb17_, hb21_, hb22_, hb23_, hb24_, hb25_, hb26_, hb27_, if_true, Act.put, List.setIfInBounds_toArray, List.set_cons_zero, List.set_cons_succ]
                clear Q_HB13
                clear Q_RL1
                clear Q_RL7
                clear Q_RL9
                clear Q_RL15
                clear Q_RL17
                clear Q_RL23
                clear Q_RP6
                clear Q_RP8
                clear Q_RP14
                clear Q_RP16
                clear Q_RP22
                clear Q_RP24
                clear Q_RT25
                have F26 := Aside0.mk (Q_F26 hb26_)
                clear Q_F26
                clear hall hb1_ hb5_ hb6_ hb7_ hb8_ hb9_ hb13_ hb14_ hb15_ hb16_ hb17_ hb21_ hb22_ hb23_ hb24_ hb25_ hb26_ hb27_
                go_wp2
                go_roundg (L - m - 1)
                case measure => have := HM.out; have := HMX.out; omega
                case rel => exact ⟨m + 1, ⟨by have := HM.out; have := HMX.out; omega⟩, by simp, ⟨by rw [HTI.out, extI_snoc]; exact F26.out.1⟩, ⟨F26.out.2⟩⟩
        · have hmL : m = L := by have := HM.out; omega
          subst hmL
          have htk : (tailsI k).take m = tailsI k := by rw [← HLT.out]; exact List.take_length
          rw [htk] at HN2
          have HNK := Aside0.mk hk
          go_wp2
          go_roundg (gko - 1)
          case measure => have := HK.out; have := HNK.out; omega
          case rel => exact ⟨k + 1, ⟨by have := HK.out; have := HNK.out; omega⟩, by simp; unfold wrap64; have := HNK.out; have := HN.out; omega, ⟨HN2.out.lower HB.out.size⟩, ⟨HB.out.trans (HB2.out.mono HB.out.size)⟩⟩
    · have hkn : k = n := by have := HK.out; omega
      subst hkn
      go_wp2
      go_ret
      exact ⟨_, rfl, HR.out, HB.out⟩
end Go.Proofs.YtnaaimnmphcilaaDoor.Hand

namespace Go.Proofs.YtnaaimnmphcilaaDoor.Hand
open Go.RowKit Go.Proofs.YtnaaimnmphcilaaDoorW.PrintWords Go.Proofs.YtnaaimnmphcilaaDoorW.PrintLast Go.Proofs.YtnaaimnmphcilaaDoorW.PrintMore
set_option linter.unusedVariables false
set_option linter.unusedSimpArgs false

set_option maxHeartbeats 2000000 in
theorem concat_calls (hh : Nat) (A : Option Addr) (c : Nat) (l : List Int) (A' : Option Addr) (c' : Nat) (m : List Int) (w : World) (h0 : w.cell? ⟨hh, 0, none⟩ = some (.slice A l.length c)) (h1 : w.cell? ⟨hh, 1, none⟩ = some (.slice A' m.length c'))
    (hr : Kd.C (Kd.int .u8) w A l.length l) (hr' : Kd.C (Kd.int .u8) w A' m.length m) (hl : l.length + m.length ≤ 140737488355328) :
    Calls Tryd.prog 43 #[.slice (some ⟨hh, 0, none⟩) 2 2] w fun e w' => ∃ v, e = .returned v ∧ Kd.R (Kd.int .u8) 5 w' w.heap.size (fun _ => True) v (l ++ m) ∧ Below w.heap.size w w' := by
  have cG := fun W => grow_calls (l.length + m.length) hl W
  have HR := Aside0.mk hr
  have HR' := Aside0.mk hr'
  have HL := Aside0.mk hl
  have H0 := Aside0.mk h0
  have H1 := Aside0.mk h1
  clear hr hr' h0 h1
  have e1 : wrap64 (0 + (l.length : Int)) = (l.length : Int) := by unfold wrap64; omega
  have e2 : wrap64 ((l.length : Int) + (m.length : Int)) = ((l.length + m.length : Nat) : Int) := by unfold wrap64; omega
  have e3 : ¬ (l.length : Int) < 0 := by omega
  have e4 : ¬ ((l.length + m.length : Nat) : Int) < 0 := by omega
  have E1 := Aside0.mk e1
  have E2 := Aside0.mk e2
  clear e1 e2 hl
  obtain ⟨p, hp⟩ : ∃ p, l.length = p := ⟨_, rfl⟩
  obtain ⟨q, hq⟩ : ∃ q, m.length = q := ⟨_, rfl⟩
  rw [hp, hq] at e4
  rw [hp] at e3
  have HP := Aside0.mk hp
  have HQ := Aside0.mk hq
  have H0' : w.cell? ⟨hh, 0, none⟩ = some (.slice A p c) := by rw [← hp]; exact H0.out
  have H1' : w.cell? ⟨hh, 1, none⟩ = some (.slice A' q c') := by rw [← hq]; exact H1.out
  have G1 : wrap64 (p : Int) = (p : Int) := by have := E1.out; rw [hp] at this; simpa using this
  have G2 : wrap64 ((p : Int) + (q : Int)) = ((p : Int) + (q : Int)) := by have := E2.out; rw [hp, hq] at this; rw [this]; omega
  have hpos : ¬ ((p : Int) + (q : Int)) < 0 := by omega
  have cG' : ∀ W, Calls Tryd.prog 53 #[.slice none 0 0, .int .i64 ((p : Int) + (q : Int))] W fun e w' => ∃ v, e = .returned v ∧ Kd.R (Kd.int .u8) 5 w' W.heap.size (fun _ => True) v [] ∧ Below W.heap.size W w' := fun W => by
    have := cG W
    rw [hp, hq, show ((p + q : Nat) : Int) = (p : Int) + (q : Int) by omega] at this
    exact this
  have CG := Aside0.mk cG'
  clear hp hq cG cG'
  go_enter Tryd.func43, Tryd.ntmps43
  go_wp2
  go_loopg [3, 11] 2 (fun k z i wx => w = wx ∧ ((k = 2 ∧ i = .int .i64 0 ∧ z = .int .i64 0) ∨ (k = 1 ∧ i = .int .i64 1 ∧ z = .int .i64 p) ∨ (k = 0 ∧ i = .int .i64 2 ∧ z = .int .i64 ((p : Int) + (q : Int)))))
  case atStart => exact ⟨rfl, .inl ⟨rfl, rfl, rfl⟩⟩
  case round =>
    obtain ⟨rfl, ⟨rfl, rfl, rfl⟩ | ⟨rfl, rfl, rfl⟩ | ⟨rfl, rfl, rfl⟩⟩ := hrel
    · go_wp2
      go_roundg 1
      case measure => omega
      case rel => exact ⟨rfl, .inr (.inl ⟨rfl, rfl, by simp [G1]⟩)⟩
    · go_wp2
      go_roundg 0
      case measure => omega
      case rel => exact ⟨rfl, .inr (.inr ⟨rfl, rfl, by simp [G2]⟩)⟩
    · go_wp2_with (go_at_call 53; refine (CG.out _).mono ?_; rintro e w1 ⟨v, rfl, HO, HB1⟩; have HO' := Aside0.mk HO; have HB1' := Aside0.mk HB1)
      clear HO HB1
      go_loopg [6, 27] 2 (fun k v i wx => Aside0 (Below w.heap.size w wx) ∧ ((k = 2 ∧ i = .int .i64 0 ∧ Aside0 (Kd.R (Kd.int .u8) 5 wx w.heap.size (fun _ => True) v [])) ∨ (k = 1 ∧ i = .int .i64 1 ∧ Aside0 (Kd.R (Kd.int .u8) 5 wx w.heap.size (fun _ => True) v l)) ∨ (k = 0 ∧ i = .int .i64 2 ∧ Aside0 (Kd.R (Kd.int .u8) 5 wx w.heap.size (fun _ => True) v (l ++ m)))))
      case atStart => exact ⟨HB1', .inl ⟨rfl, rfl, HO'⟩⟩
      case round =>
        obtain ⟨HB, ⟨rfl, rfl, HO⟩ | ⟨rfl, rfl, HO⟩ | ⟨rfl, rfl, HO⟩⟩ := hrel
        · have k0 := pw_cell_below HB.out H0'
          have k1 := pw_cell_below HB.out H1'
          have HRA : ReadsRow ((Kd.int .u8).K wr) (Kd.int .u8).sz wr A p l := by have := Kd.C_below HR.out HB.out; rw [HP.out] at this; exact this
          go_wp2_with (first | ((with_reducible refine gate_builtin (b := .append) (xs := #[.tmp 31, .tmp 32]) rfl ?_); at_builtin; go_must (refine Kd.R_append_rows (Kd.int .u8) (w0 := w) w.heap.size rfl (.tmp 31) (.tmp 32) 23 5 (.int .u8 0) 1 rfl Tryd.underlying23 info5 rfl (by decide) (by decide) u6 [] l A p c (fun _ => True) (fun _ => False) rfl rfl HO.out HRA (fun _ _ h => h) (fun _ h => h.elim) (fun _ _ => trivial) HB.out HB.out.size ?aL ?_); (case aL => have := HL.out; have := HP.out; have := HQ.out; simp; omega); intro v2 w2 HO2 HB2 HG2 HAT2; (try rw [List.nil_append] at HO2); replace HO2 := Aside0.mk HO2; replace HB2 := Aside0.mk HB2; clear HO HB HG2 HAT2))
          go_roundg 1
          case measure => omega
          case rel => exact ⟨HB2, .inr (.inl ⟨rfl, rfl, HO2⟩)⟩
        · have k0 := pw_cell_below HB.out H0'
          have k1 := pw_cell_below HB.out H1'
          have HRA : ReadsRow ((Kd.int .u8).K wr) (Kd.int .u8).sz wr A' q m := by have := Kd.C_below HR'.out HB.out; rw [HQ.out] at this; exact this
          go_wp2_with (first | ((with_reducible refine gate_builtin (b := .append) (xs := #[.tmp 31, .tmp 32]) rfl ?_); at_builtin; go_must (refine Kd.R_append_rows (Kd.int .u8) (w0 := w) w.heap.size rfl (.tmp 31) (.tmp 32) 23 5 (.int .u8 0) 1 rfl Tryd.underlying23 info5 rfl (by decide) (by decide) u6 l m A' q c' (fun _ => True) (fun _ => False) rfl rfl HO.out HRA (fun _ _ h => h) (fun _ h => h.elim) (fun _ _ => trivial) HB.out HB.out.size ?aL ?_); (case aL => have := HL.out; have := HP.out; have := HQ.out; simp; omega); intro v2 w2 HO2 HB2 HG2 HAT2; (try rw [List.nil_append] at HO2); replace HO2 := Aside0.mk HO2; replace HB2 := Aside0.mk HB2; clear HO HB HG2 HAT2))
          go_roundg 0
          case measure => omega
          case rel => exact ⟨HB2, .inr (.inr ⟨rfl, rfl, HO2⟩)⟩
        · go_wp2
          go_ret
          exact ⟨_, rfl, HO.out, HB.out⟩
end Go.Proofs.YtnaaimnmphcilaaDoor.Hand

namespace Go.Proofs.YtnaaimnmphcilaaDoor.ScanF
open Go.RowKit Go.Proofs.YtnaaimnmphcilaaDoor.Hand Go.Proofs.YtnaaimnmphcilaaDoor.QA Go.Proofs.YtnaaimnmphcilaaDoorW.PrintWords Go.Proofs.YtnaaimnmphcilaaDoorW.PrintLast
set_option linter.unusedVariables false
set_option linter.unusedSimpArgs false

theorem wrap_small {i : Int} (h0 : 0 ≤ i) (h1 : i < 9223372036854775807) : wrap64 (i + 1) = i + 1 := by unfold wrap64; omega
theorem wrap_id {i : Int} (h0 : 0 ≤ i) (h1 : i ≤ 9223372036854775807) : wrap64 i = i := by unfold wrap64; omega
/-! ### code.Fault -/
theorem fault_loop : ∀ (n : Nat) (rest pre : List Int) (k : Nat), rest.length ≤ n → rest.length + 1 ≤ k → allB rest = true → (pre ++ rest).length ≤ 9223372036854775807 →
    code_Fault.l0 k (pre ++ rest) (pre.length : Int) = some (faultL n rest pre.length)
  | n, [], pre, k, hn, hk, hB, hl => by
    obtain ⟨k, rfl⟩ : ∃ m, k = m + 1 := ⟨k - 1, by omega⟩
    simp only [code_Fault.l0, List.append_nil]
    rw [if_neg (by omega)]
    cases n <;> simp [faultL]
  | 0, c :: rest, pre, k, hn, hk, hB, hl => by simp at hn
  | n + 1, c :: rest, pre, k, hn, hk, hB, hl => by
    obtain ⟨k, rfl⟩ : ∃ m, k = m + 1 := ⟨k - 1, by omega⟩
    have hlen : (pre ++ c :: rest).length = pre.length + (c :: rest).length := by simp
    have hpos : 0 < (c :: rest).length := by simp
    rw [code_Fault.l0, if_pos (by omega), if_pos (by omega), if_pos (by omega), Int.toNat_natCast, List.drop_left]
    generalize hr : c :: rest = r at *
    have hne : r ≠ [] := by rw [← hr]; simp
    have h1 : code_One.f r = some (oneI r) := by unfold code_One.f; rw [if_pos ⟨hne, allB_take hB 4⟩]
    rw [h1]
    simp only [Option.bind_some]
    unfold faultL
    rw [if_neg hne]
    have hw := decI_width hB
    unfold oneI
    by_cases hg : Hand.Good (decI r)
    · rw [if_pos hg, if_neg hg]
      simp only
      obtain ⟨x, hx, hd, ht, hle⟩ := dec_good_I hne (allB_take hB 4) hg
      have hdw : (decI r).2 = widI x := by rw [hd]
      rw [if_neg (by omega), wrap_id (by omega) (by omega)]
      have := fault_loop n (r.drop (decI r).2) (pre ++ r.take (decI r).2) k (by rw [List.length_drop]; omega) (by rw [List.length_drop]; omega) (allB_drop hB _) (by rw [List.append_assoc, List.take_append_drop]; exact hl)
      rw [List.append_assoc, List.take_append_drop, List.length_append, List.length_take, show min (decI r).2 r.length = (decI r).2 by omega, Int.natCast_add] at this
      exact this
    · rw [if_neg hg, if_pos (Classical.not_not.1 hg)]
      simp
theorem fault_f (l : List Int) (k : Nat) (hk : l.length + 1 ≤ k) (hB : allB l = true) (hl : l.length ≤ 9223372036854775807) : code_Fault.f k l = some (faultI l) := by
  have := fault_loop l.length l [] k (Nat.le_refl _) hk hB (by simpa using hl)
  unfold code_Fault.f faultI
  simpa using this


theorem fault_calls (A : Option Addr) (c : Nat) (l : List Int) (w : World) (hr : Kd.C (Kd.int .u8) w A l.length l) (hc : l.length ≤ c) (hT : Tabs w) (hB : allB l = true) :
    Calls Tryd.prog 15 #[.slice A l.length c] w fun e w' => e = .returned (.int .i64 (faultI l)) ∧ Below w.heap.size w w' :=
  code_Fault.calls (l.length + 1) A c l (faultI l) w hr hc hT (fault_f l _ (Nat.le_refl _) hB hr.2.1)
end Go.Proofs.YtnaaimnmphcilaaDoor.ScanF

namespace Go.Proofs.YtnaaimnmphcilaaDoor.Hand
open Go.RowKit Go.Proofs.YtnaaimnmphcilaaDoorW.PrintWords Go.Proofs.YtnaaimnmphcilaaDoorW.PrintLast Go.Proofs.YtnaaimnmphcilaaDoorW.PrintMore
set_option linter.unusedVariables false
set_option linter.unusedSimpArgs false

theorem cut23 (A : Option Addr) (n c m : Nat) (hm : m ≤ n) :
    ∃ A2 : Option Addr, (∀ W : World, (Instr.slice 23 (.slice A n c) (some (.int .i64 (m : Int))) none none).run Tryd.prog W = .ok (.slice A2 (n - m) (c - m)) W) ∧
      (∀ x, A2 = some x → ∃ y, A = some y ∧ x.block = y.block) ∧
      ∀ (w : World) (l : List Int), l.length = n → n ≤ c → Kd.C (Kd.int .u8) w A l.length l → Kd.C (Kd.int .u8) w A2 (l.drop m).length (l.drop m) := by
  refine ⟨if c = m then A else A.map (·.add m), fun W => ?_, fun x hx => ?_, fun w l hl hc h => ?_⟩
  · obtain ⟨i0, hi, hz0, hz1, hz2⟩ := info_parts info5
    have hel : Tryd.prog.elem 23 = 5 := by simp [Program.elem, Tryd.underlying23]
    have hu : Tryd.prog.underlying 23 = some (.slice (Tryd.prog.elem 23)) := by rw [hel]; exact Tryd.underlying23
    rw [run_slice_l W 23 A n c hu .i64 (m : Int) (Int.natCast_nonneg _) (by omega), hel]
    simp [sizeOf, typeInfo, hi, hz1, sliced, Result.andThen]
  · split at hx
    · exact ⟨x, hx, rfl⟩
    · cases A with
      | none => simp at hx
      | some y =>
        simp only [Option.map_some, Option.some.injEq] at hx
        exact ⟨y, rfl, by rw [← hx, add_block]⟩
  · have := Kd.C_drop (c := c) h (m := m) (by omega) (by omega)
    simpa [Kd.int, Kd.scalar] using this

theorem Tabs.keep {w w' : World} {B : Nat} (h : Tabs w) (hb : Below B w w') (hB : 2 ≤ B) : Tabs w' := by
  obtain ⟨h1, h2⟩ := h.out
  refine ⟨⟨fun i hi => ?_, fun i hi => ?_⟩⟩
  · exact (hb.cell (p := ⟨0, i, none⟩) (by show 0 < B; omega)).trans (h1 i hi)
  · exact ⟨(hb.cell (p := ⟨1, _, none⟩) (by show 1 < B; omega)).trans (h2 i hi).1, (hb.cell (p := ⟨1, _, none⟩) (by show 1 < B; omega)).trans (h2 i hi).2⟩
theorem Tabs.two {w : World} (h : Tabs w) : 2 ≤ w.heap.size := by
  have := (h.out.2 0 (by omega)).1
  have := World.block_lt_of_cell? w _ this
  exact this

def lookB (fr b : Int) (m : List Int) : Int := if faultI m < 0 then b else if openI (m.drop (faultI m).toNat) = true then b else wrap64 (fr + faultI m)
def lookP (m : List Int) : List Int := if faultI m < 0 then [] else if openI (m.drop (faultI m).toNat) = true then m.drop (faultI m).toNat else []

theorem Sc.pend {w : World} {g : Nat} {s b : Int} {A : Option Addr} {c : Nat} {l : List Int} (h : Sc w g s b A c l) {A' : Option Addr} {c' : Nat} {l' : List Int} (hr : Kd.C (Kd.int .u8) w A' l'.length l') (hc : l'.length ≤ c') (hap : ∀ x, A' = some x → x.block ≠ g) :
    Sc (w.setCell ⟨g, 2, none⟩ (.slice A' l'.length c')) g s b A' c' l' :=
  ⟨blk_set h.blk 2 _, C_keep hr ((Kept.refl w (· = g)).setCell (.inl rfl) _) hap, hc, hap⟩
theorem Sc.bad {w : World} {g : Nat} {s b : Int} {A : Option Addr} {c : Nat} {l : List Int} (h : Sc w g s b A c l) (b' : Int) : Sc (w.setCell ⟨g, 1, none⟩ (.int .i64 b')) g s b' A c l :=
  ⟨blk_set h.blk 1 _, C_keep h.came ((Kept.refl w (· = g)).setCell (.inl rfl) _) h.apart, h.cap, h.apart⟩
theorem Sc.seen {w : World} {g : Nat} {s b : Int} {A : Option Addr} {c : Nat} {l : List Int} (h : Sc w g s b A c l) (s' : Int) : Sc (w.setCell ⟨g, 0, none⟩ (.int .i64 s')) g s' b A c l :=
  ⟨blk_set h.blk 0 _, C_keep h.came ((Kept.refl w (· = g)).setCell (.inl rfl) _) h.apart, h.cap, h.apart⟩
theorem Sc.frozen {w : World} {g : Nat} {s b : Int} {A : Option Addr} {c : Nat} {l : List Int} (h : Sc w g s b A c l) :
    w.frozen? ⟨g, 0, none⟩ = false ∧ w.frozen? ⟨g, 1, none⟩ = false ∧ w.frozen? ⟨g, 2, none⟩ = false := ⟨blk_frozen h.blk 0, blk_frozen h.blk 1, blk_frozen h.blk 2⟩

/-- The world behind what a scan at g has been told: the scan alone has turned. -/
structure Turned (g : Nat) (w w' : World) : Prop where
  kept : Kept w w' (· = g)
  below : Below g w w'
theorem Turned.refl (g : Nat) (w : World) : Turned g w w := ⟨Kept.refl _ _, Below.refl _ _⟩
theorem Turned.then_below {g : Nat} {w w1 w2 : World} (h : Turned g w w1) (hb : Below w1.heap.size w1 w2) (hg : g ≤ w1.heap.size) : Turned g w w2 :=
  ⟨h.kept.below hb, h.below.trans (hb.mono hg)⟩
theorem Turned.set {g : Nat} {w w1 : World} (h : Turned g w w1) (j : Nat) (u : Value) : Turned g w (w1.setCell ⟨g, j, none⟩ u) :=
  ⟨h.kept.setCell (.inl rfl) _, h.below.setCell (Nat.le_refl _) _⟩
theorem Turned.then_ {g : Nat} {w w1 w2 : World} (h : Turned g w w1) (k : Turned g w1 w2) : Turned g w w2 :=
  ⟨h.kept.then_ k.kept (fun _ hk => .inl hk), h.below.trans k.below⟩

set_option maxHeartbeats 2000000 in
theorem look_calls {w : World} {g : Nat} {s b : Int} {A : Option Addr} {c : Nat} {l : List Int} (H : Sc w g s b A c l) (fr : Int) (A' : Option Addr) (c' : Nat) (m : List Int) (hr : Kd.C (Kd.int .u8) w A' m.length m) (hc : m.length ≤ c')
    (hap : ∀ x, A' = some x → x.block ≠ g) (hT : Tabs w) (hg : 2 ≤ g) (hB : allB m = true) :
    Calls Tryd.prog 42 #[.pointer (some ⟨g, 0, none⟩), .int .i64 fr, .slice A' m.length c'] w fun e w' => e = .returned (.tuple #[]) ∧
      (∃ A2 c2, Sc w' g s (lookB fr b m) A2 c2 (lookP m) ∧ ∀ x, A2 = some x → ∃ y, A' = some y ∧ x.block = y.block) ∧ Turned g w w' := by
  have HW1 := H.pend (A' := none) (c' := 0) (l' := []) (Kd.C_nil _ _) (Nat.le_refl _) (fun _ h => by cases h)
  have t1 : Turned g w (w.setCell ⟨g, 2, none⟩ (.slice none 0 0)) := (Turned.refl g w).set 2 _
  have hr1 := C_keep hr t1.kept (fun x hx he => hap x hx he)
  have hT1 : Tabs (w.setCell ⟨g, 2, none⟩ (.slice none 0 0)) := hT.keep t1.below hg
  have cF := ScanF.fault_calls A' c' m (w.setCell ⟨g, 2, none⟩ (.slice none 0 0)) hr1 hc hT1 hB
  have hft := faultI_valid hB
  obtain ⟨k0, k1, k2⟩ := H.cells
  obtain ⟨f0, f1, f2⟩ := H.frozen
  have HS1 := Aside0.mk HW1
  have T1 := Aside0.mk t1
  have HR1 := Aside0.mk hr1
  have HT1 := Aside0.mk hT1
  have HAP := Aside0.mk hap
  clear H HW1 t1 hr1 hT1 hT hr hap
  have hlt : ∀ {W : World} {s b : Int} {A : Option Addr} {c : Nat} {l : List Int}, Sc W g s b A c l → g ≤ W.heap.size := fun h => Nat.le_of_lt h.lt
  by_cases hf : faultI m < 0
  · have e1 : lookB fr b m = b := by unfold lookB; rw [if_pos hf]
    have e2 : lookP m = [] := by unfold lookP; rw [if_pos hf]
    rw [e1, e2]
    have HLT := Aside0.mk @hlt
    clear e1 e2 hft hB hlt
    generalize faultI m = at' at *
    generalize m.length = n at *
    go_enter Tryd.func42, Tryd.ntmps42
    go_wp2_with (go_at_call 15; refine cF.mono ?_; rintro e w2 ⟨rfl, hb2⟩)
    refine bodyPost_end (v := .tuple #[]) (by simp [results, Tryd.results42, go_sem]) rfl ⟨rfl, ⟨none, 0, HS1.out.below hb2, fun _ h => by cases h⟩, T1.out.then_below hb2 (HLT.out HS1.out)⟩
  · have hn0 : 0 ≤ faultI m := by omega
    have hlt2 : faultI m < m.length := by rcases hft with h | h; exact absurd h.2 (by omega); exact h.2.2
    obtain ⟨kk, hkk⟩ : ∃ kk : Nat, faultI m = (kk : Int) := ⟨(faultI m).toNat, by omega⟩
    have hkm : kk ≤ m.length := by omega
    obtain ⟨A2, hcut, hAb, hC⟩ := cut23 A' m.length c' kk hkm
    have hCo : ∀ W, Below (w.setCell ⟨g, 2, none⟩ (.slice none 0 0)).heap.size (w.setCell ⟨g, 2, none⟩ (.slice none 0 0)) W →
        Calls Tryd.prog 18 #[.slice A2 (m.length - kk) (c' - kk)] W fun e w' => e = .returned (.bool (openI (m.drop kk))) ∧ Below W.heap.size W w' := fun W hb => by
      have := open_calls A2 (c' - kk) (m.drop kk) W (Kd.C_below (hC _ m rfl hc HR1.out) hb) (HT1.out.below hb) (allB_drop hB kk)
      rwa [List.length_drop] at this
    have HCA : ∀ W, Below (w.setCell ⟨g, 2, none⟩ (.slice none 0 0)).heap.size (w.setCell ⟨g, 2, none⟩ (.slice none 0 0)) W → Kd.C (Kd.int .u8) W A2 (m.drop kk).length (m.drop kk) := fun W hb => Kd.C_below (hC _ m rfl hc HR1.out) hb
    have e1 : lookB fr b m = if openI (m.drop kk) = true then b else wrap64 (fr + (kk : Int)) := by unfold lookB; rw [if_neg hf, hkk, Int.toNat_natCast]
    have e2 : lookP m = if openI (m.drop kk) = true then m.drop kk else [] := by unfold lookP; rw [if_neg hf, hkk, Int.toNat_natCast]
    rw [e1, e2]
    rw [hkk] at cF
    have hcap : (m.drop kk).length ≤ c' - kk := by rw [List.length_drop]; omega
    have hdl : (m.drop kk).length = m.length - kk := List.length_drop
    have HAP2 : Aside0 (∀ x, A2 = some x → x.block ≠ g) := ⟨fun x hx => by obtain ⟨y, hy, e⟩ := hAb x hx; rw [e]; exact HAP.out y hy⟩
    have HLT := Aside0.mk @hlt
    have HCO := Aside0.mk hCo
    have HCAA := Aside0.mk HCA
    have HAB := Aside0.mk hAb
    have HCAP := Aside0.mk hcap
    have HDL := Aside0.mk hdl
    have hki : (0 : Int) ≤ (kk : Int) := by omega
    have hkmi : (kk : Int) ≤ (m.length : Int) := by omega
    clear e1 e2 hft hB hlt hCo HCA hAb hcap hdl hC hkk hf hn0 hlt2 hkm hc
    generalize m.length = n at *
    generalize hdd : m.drop kk = d at *
    by_cases ho : openI d = true
    · rw [if_pos ho, if_pos ho]
      rw [ho] at HCO
      clear ho
      go_enter Tryd.func42, Tryd.ntmps42
      go_wp2_with (first | (go_at_call 15; refine cF.mono ?_; rintro e w2 ⟨rfl, hb2⟩) | (go_at_call 18; refine (HCO.out _ hb2).mono ?_; rintro e w3 ⟨rfl, hb3⟩; have HB2 := Aside0.mk hb2; have HB3 := Aside0.mk hb3; have HS3 := Aside0.mk ((HS1.out.below hb2).below hb3); obtain ⟨q0, q1, q2⟩ := HS3.out.cells; obtain ⟨f30, f31, f32⟩ := HS3.out.frozen; clear hb2 hb3))
      have hr3 := Kd.C_below (HCAA.out _ HB2.out) HB3.out
      have HS4 := HS3.out.pend hr3 HCAP.out HAP2.out
      rw [HDL.out] at HS4
      have t3 := ((T1.out.then_below HB2.out (HLT.out HS1.out)).then_below HB3.out (HLT.out (HS1.out.below HB2.out)))
      refine bodyPost_end (v := .tuple #[]) (by simp [results, Tryd.results42, go_sem]) rfl ⟨rfl, ⟨A2, c' - kk, HS4, HAB.out⟩, t3.set 2 _⟩
    · rw [if_neg ho, if_neg ho]
      rw [Bool.not_eq_true] at ho
      rw [ho] at HCO
      clear ho
      go_enter Tryd.func42, Tryd.ntmps42
      go_wp2_with (first | (go_at_call 15; refine cF.mono ?_; rintro e w2 ⟨rfl, hb2⟩) | (go_at_call 18; refine (HCO.out _ hb2).mono ?_; rintro e w3 ⟨rfl, hb3⟩; have HB2 := Aside0.mk hb2; have HB3 := Aside0.mk hb3; have HS3 := Aside0.mk ((HS1.out.below hb2).below hb3); obtain ⟨q0, q1, q2⟩ := HS3.out.cells; obtain ⟨f30, f31, f32⟩ := HS3.out.frozen; clear hb2 hb3))
      have HS4 := HS3.out.bad (wrap64 (fr + (kk : Int)))
      have t3 := ((T1.out.then_below HB2.out (HLT.out HS1.out)).then_below HB3.out (HLT.out (HS1.out.below HB2.out)))
      refine bodyPost_end (v := .tuple #[]) (by simp [results, Tryd.results42, go_sem]) rfl ⟨rfl, ⟨none, 0, HS4, fun _ h => by cases h⟩, t3.set 1 _⟩
end Go.Proofs.YtnaaimnmphcilaaDoor.Hand

namespace Go.Proofs.YtnaaimnmphcilaaDoor.Hand
open Go.RowKit Go.Proofs.YtnaaimnmphcilaaDoorW.PrintWords Go.Proofs.YtnaaimnmphcilaaDoorW.PrintLast Go.Proofs.YtnaaimnmphcilaaDoorW.PrintMore
set_option linter.unusedVariables false
set_option linter.unusedSimpArgs false

def feedB (s b : Int) (l m : List Int) : Int := if b ≥ 0 then b else lookB (s - (l.length : Int)) b (l ++ m)
def feedP (b : Int) (l m : List Int) : List Int := if b ≥ 0 then l else lookP (l ++ m)

theorem feed_nil (v : Value) (w : World) : Calls Tryd.prog 23 #[.pointer none, v] w fun e w' => e = .returned (.int .i64 1) ∧ Below w.heap.size w w' := by
  go_enter Tryd.func23, Tryd.ntmps23
  go_wp2
  go_ret
  exact ⟨rfl, Below.refl _ _⟩

theorem feed_much {w : World} {g : Nat} {s b : Int} {A : Option Addr} {c : Nat} {l : List Int} (H : Sc w g s b A c l) (A' : Option Addr) (c' n : Nat) (h0 : 0 ≤ s) (h1 : s ≤ 1099511627776) (hm : (n : Int) > 1099511627776 - s) :
    Calls Tryd.prog 23 #[.pointer (some ⟨g, 0, none⟩), .slice A' n c'] w fun e w' => e = .returned (.int .i64 13) ∧ Below w.heap.size w w' := by
  obtain ⟨k0, k1, k2⟩ := H.cells
  have hw : wrap64 (1099511627776 - s) = 1099511627776 - s := by unfold wrap64; omega
  go_enter Tryd.func23, Tryd.ntmps23
  go_wp2
  go_ret
  exact ⟨rfl, Below.refl _ _⟩

theorem concat_new {W : World} {g : Nat} {s b : Int} {A : Option Addr} {c : Nat} {l : List Int} (H : Sc W g s b A c l) {A' : Option Addr} {c' : Nat} {m : List Int} (hr : Kd.C (Kd.int .u8) W A' m.length m) (hl : l.length + m.length ≤ 140737488355328) :
    Calls Tryd.prog 43 #[.slice (some ⟨W.heap.size, 0, none⟩) 2 2] (W.alloc (.cells #[.slice A l.length c, .slice A' m.length c'] 23)) fun e w' =>
      ∃ A3 n3 c3, e = .returned (.slice A3 n3 c3) ∧ n3 = (l ++ m).length ∧ (l ++ m).length ≤ c3 ∧ Kd.C (Kd.int .u8) w' A3 (l ++ m).length (l ++ m) ∧ (∀ x, A3 = some x → W.heap.size < x.block) ∧ Below W.heap.size W w' := by
  have hb := (Below.refl W.heap.size W).alloc (Nat.le_refl _) (.cells #[.slice A l.length c, .slice A' m.length c'] 23)
  have hk := heap_alloc_new W (.cells #[.slice A l.length c, .slice A' m.length c'] 23)
  have hs : (W.alloc (.cells #[.slice A l.length c, .slice A' m.length c'] 23)).heap.size = W.heap.size + 1 := Array.size_push _
  refine (concat_calls W.heap.size A c l A' c' m _ (blk_cell hk 0) (blk_cell hk 1) (Kd.C_below H.came hb) (Kd.C_below hr hb) hl).mono ?_
  rintro e w' ⟨v, rfl, HO, HB⟩
  obtain ⟨A3, c3, rfl⟩ := Kd.R_slice HO
  refine ⟨A3, _, c3, rfl, rfl, (Kd.R_reads' HO).2.1, (Kd.R_reads' HO).2.2, fun x hx => ?_, hb.trans (HB.mono (by omega))⟩
  subst hx
  have := Kd.R_base HO x.block rfl
  omega

theorem look_at {w : World} {g : Nat} {s b : Int} {A : Option Addr} {c : Nat} {l : List Int} (H : Sc w g s b A c l) (fr : Int) (A' : Option Addr) (c' : Nat) (m : List Int) (n : Nat) (hn : n = m.length) (hr : Kd.C (Kd.int .u8) w A' m.length m) (hc : m.length ≤ c')
    (hap : ∀ x, A' = some x → x.block ≠ g) (hT : Tabs w) (hg : 2 ≤ g) (hB : allB m = true) :
    Calls Tryd.prog 42 #[.pointer (some ⟨g, 0, none⟩), .int .i64 fr, .slice A' n c'] w fun e w' => e = .returned (.tuple #[]) ∧
      Aside0 ((∃ A2 c2, Sc w' g s (lookB fr b m) A2 c2 (lookP m) ∧ ∀ x, A2 = some x → ∃ y, A' = some y ∧ x.block = y.block) ∧ Turned g w w') := by
  subst hn
  exact (look_calls H fr A' c' m hr hc hap hT hg hB).mono fun e w' h => ⟨h.1, ⟨h.2⟩⟩
/-- The scan at g has come to a new state; what is pending lies where it lay, or in new memory. -/
structure Fed (w w' : World) (g : Nat) (s b : Int) (A : Option Addr) (l : List Int) : Prop where
  sc : ∃ A2 c2, Sc w' g s b A2 c2 l ∧ ∀ x, A2 = some x → A = some x ∨ w.heap.size ≤ x.block
  turned : Turned g w w'

set_option maxHeartbeats 800000 in
theorem feed_calls {w : World} {g : Nat} {s b : Int} {A : Option Addr} {c : Nat} {l : List Int} (H : Sc w g s b A c l) (A' : Option Addr) (c' : Nat) (m : List Int) (hr : Kd.C (Kd.int .u8) w A' m.length m) (hc : m.length ≤ c')
    (hap : m ≠ [] → ∀ x, A' = some x → x.block ≠ g) (hT : Tabs w) (hg : 2 ≤ g) (hBl : allB l = true) (hB : allB m = true) (h0 : 0 ≤ s) (hl : l.length ≤ 140737488355) (h1 : s + (m.length : Int) ≤ 1099511627776) :
    Calls Tryd.prog 23 #[.pointer (some ⟨g, 0, none⟩), .slice A' m.length c'] w fun e w' => e = .returned (.int .i64 0) ∧ Fed w w' g (s + (m.length : Int)) (feedB s b l m) A (feedP b l m) := by
  obtain ⟨k0, k1, k2⟩ := H.cells
  obtain ⟨f0, f1, f2⟩ := H.frozen
  have hw : wrap64 (1099511627776 - s) = 1099511627776 - s := by unfold wrap64; omega
  have hw2 : wrap64 (s + (m.length : Int)) = s + (m.length : Int) := by unfold wrap64; omega
  have hw3 : wrap64 (s - (l.length : Int)) = s - (l.length : Int) := by unfold wrap64; omega
  have hn : ¬ (m.length : Int) > 1099511627776 - s := by omega
  have hglt : g ≤ w.heap.size := Nat.le_of_lt H.lt
  by_cases hbad : b ≥ 0
  · have e1 : feedB s b l m = b := by unfold feedB; rw [if_pos hbad]
    have e2 : feedP b l m = l := by unfold feedP; rw [if_pos hbad]
    rw [e1, e2]
    have HH := Aside0.mk H
    clear e1 e2 hr hc hap hT hBl hB H
    have HW2 := Aside0.mk hw2
    clear hw2
    generalize m.length = n at *
    have HLN : Aside0 (∃ ll, ll = l.length) := ⟨_, rfl⟩
    go_enter Tryd.func23, Tryd.ntmps23
    go_wp2_with (first | go_quiet (fail))
    go_ret
    have hS := (HH.out.below (pw_below_drewN (Below.refl _ _) nq)).seen (wrap64 (s + (n : Int)))
    have ht := ((Turned.refl g w).then_below (pw_below_drewN (Below.refl _ _) nq) hglt).set 0 (.int .i64 (wrap64 (s + (n : Int))))
    rw [HW2.out] at hS ht
    exact ⟨rfl, ⟨A, c, hS, fun x hx => .inl hx⟩, ht⟩
  · have e1 : feedB s b l m = lookB (s - (l.length : Int)) b (l ++ m) := by unfold feedB; rw [if_neg hbad]
    have e2 : feedP b l m = lookP (l ++ m) := by unfold feedP; rw [if_neg hbad]
    rw [e1, e2]
    have HT2 : ∀ nq, Aside0 (Turned g w ((w.drewN nq).setCell ⟨g, 0, none⟩ (.int .i64 (s + (m.length : Int))))) := fun nq => ⟨((Turned.refl g w).then_below (pw_below_drewN (Below.refl _ _) nq) hglt).set 0 _⟩
    have HS2 : ∀ nq, Aside0 (Sc ((w.drewN nq).setCell ⟨g, 0, none⟩ (.int .i64 (s + (m.length : Int)))) g (s + (m.length : Int)) b A c l) := fun nq => ⟨(H.below (pw_below_drewN (Below.refl _ _) nq)).seen _⟩
    have HC2 : ∀ nq, Aside0 (Kd.C (Kd.int .u8) ((w.drewN nq).setCell ⟨g, 0, none⟩ (.int .i64 (s + (m.length : Int)))) A' m.length m) := fun nq => ⟨by
        by_cases hm0 : m = []
        · rw [hm0]; exact ⟨rfl, by simp, fun h => absurd h (Nat.lt_irrefl 0)⟩
        · exact C_keep hr (HT2 nq).out.kept (fun x hx he => hap hm0 x hx he)⟩
    have HLM : Aside0 (l.length + m.length ≤ 140737488355328) := ⟨by omega⟩
    have HTB := Aside0.mk hT
    have HAB : Aside0 (allB (l ++ m) = true) := ⟨by rw [allB_append, hBl, hB]; rfl⟩
    have HG := Aside0.mk hg
    have HGL := Aside0.mk hglt
    have CC : ∀ nq, Aside0 (Calls Tryd.prog 43 #[.slice (some ⟨w.heap.size, 0, none⟩) 2 2] (((w.drewN nq).setCell ⟨g, 0, none⟩ (.int .i64 (s + (m.length : Int)))).alloc (.cells #[.slice A l.length c, .slice A' m.length c'] 23)) fun e w' =>
      ∃ A3 n3 c3, e = .returned (.slice A3 n3 c3) ∧ n3 = (l ++ m).length ∧ (l ++ m).length ≤ c3 ∧ Kd.C (Kd.int .u8) w' A3 (l ++ m).length (l ++ m) ∧ (∀ x, A3 = some x → w.heap.size < x.block) ∧ Below w.heap.size ((w.drewN nq).setCell ⟨g, 0, none⟩ (.int .i64 (s + (m.length : Int)))) w') := fun nq => ⟨by
        have hsz : ((w.drewN nq).setCell ⟨g, 0, none⟩ (.int .i64 (s + (m.length : Int)))).heap.size = w.heap.size := by simp [World.setCell]
        have := concat_new (c' := c') (HS2 nq).out (HC2 nq).out HLM.out
        rwa [hsz] at this⟩
    have HSZ : ∀ {nq}, Aside0 (((w.drewN nq).setCell ⟨g, 0, none⟩ (.int .i64 (s + (m.length : Int)))).heap.size = w.heap.size) := fun {nq} => ⟨by simp [World.setCell]⟩
    clear hr hap hT hBl hB hg hl hglt e1 e2 h0 hc H
    have HS4 : ∀ {nq w4}, Below w.heap.size ((w.drewN nq).setCell ⟨g, 0, none⟩ (.int .i64 (s + (m.length : Int)))) w4 → Aside0 (Sc w4 g (s + (m.length : Int)) b A c l) := fun {nq w4} hb => ⟨(HS2 nq).out.below (by rw [HSZ.out]; exact hb)⟩
    have HN := Aside0.mk hn
    have hbl : b < 0 := by omega
    clear hbad
    generalize l.length = p at *
    generalize m.length = n at *
    go_enter Tryd.func23, Tryd.ntmps23
    go_wp2_with (first | go_quiet (fail) | (go_at_call 43; refine (CC nq).out.mono ?_; rintro e w4 ⟨A3, n3, c3, rfl, hn3, hc3, hr3, ha3, hb4⟩; have HN3 := Aside0.mk hn3; have HC3 := Aside0.mk hc3; have HR3 := Aside0.mk hr3; have HA3 := Aside0.mk ha3; have HB4 := Aside0.mk hb4; clear hn3 hc3 hr3 ha3 hb4) | (go_at_call 42; go_must (refine (look_at (HS4 (nq := nq) HB4.out).out _ A3 c3 (l ++ m) n3 HN3.out HR3.out HC3.out ?LP ?LT HG.out HAB.out).mono ?_); (case LP => intro x hx; have := HA3.out x hx; have := HGL.out; omega); (case LT => exact HTB.out.keep ((HT2 nq).out.below.trans (HB4.out.mono HGL.out)) HG.out); rintro e w5 ⟨rfl, h5⟩))
    go_ret
    obtain ⟨⟨A2, c2, hs5, ha5⟩, ht5⟩ := h5.out
    refine ⟨rfl, ⟨A2, c2, hs5, fun x hx => ?_⟩, ?_⟩
    · obtain ⟨y, hy, e⟩ := ha5 x hx
      have := HA3.out y hy
      exact .inr (by omega)
    · exact ((HT2 nq).out.then_below (by rw [HSZ.out]; exact HB4.out) (by rw [HSZ.out]; exact HGL.out)).then_ ht5
end Go.Proofs.YtnaaimnmphcilaaDoor.Hand

namespace Go.Proofs.YtnaaimnmphcilaaDoor.Hand
open Go.RowKit Go.Proofs.YtnaaimnmphcilaaDoorW.PrintWords Go.Proofs.YtnaaimnmphcilaaDoorW.PrintLast Go.Proofs.YtnaaimnmphcilaaDoorW.PrintMore
set_option linter.unusedVariables false
set_option linter.unusedSimpArgs false

theorem lit_C {w : World} {h : Nat} {k : IntKind} {l : List Int} {t : TypeId} {f : Nat × Nat} (hb : w.heap[h]? = some (.cells (l.map (Value.int k)).toArray t f)) (hl : l.length ≤ 9223372036854775807) : Kd.C (Kd.int k) w (some ⟨h, 0, none⟩) l.length l := by
  refine Kd.C_of_reads (d := (0 : Int)) (h1 := fun _ => rfl) ⟨rfl, hl, fun _ => ⟨_, rfl, fun j hj => ?_⟩⟩
  rw [add_plain, cell_of_row w h j _ t f hb]
  simp [List.getD, hj]

theorem feed_two : feedB 0 (-1) [] [65, 195] = -1 ∧ feedP (-1) [] [65, 195] = [195] ∧ endI (0 + 2) (-1) [195] = 1 ∧ openI [224, 160] = true ∧ openI [224, 159] = false := by decide +kernel

theorem Sc.two {w : World} {g : Nat} {s b : Int} {A : Option Addr} {c : Nat} {l : List Int} (h : Sc w g s b A c l) (o : Obj) : Sc (w.alloc o) g s b A c l := h.below ((Below.refl _ w).alloc (Nat.le_refl _) o)

theorem feed_awake {W : World} {N : Nat} (H : Sc W N 0 (-1) none 0 []) (hT : Tabs W) (hN : 2 ≤ N) :
    Calls Tryd.prog 23 #[.pointer (some ⟨N, 0, none⟩), .slice (some ⟨W.heap.size, 0, none⟩) 2 2] (W.alloc (.cells #[.int .u8 65, .int .u8 195] 5)) fun e w' => e = .returned (.int .i64 0) ∧
      Aside0 (∃ A2 c2, Sc w' N 2 (-1) A2 c2 [195]) ∧ Aside0 (Below N W w') := by
  obtain ⟨v1, v2, v3, v4, v5⟩ := feed_two
  have hk := heap_alloc_new W (.cells #[.int .u8 65, .int .u8 195] 5)
  have hb := (Below.refl W.heap.size W).alloc (Nat.le_refl _) (.cells #[.int .u8 65, .int .u8 195] 5)
  have hlt := H.lt
  have := feed_calls (H.two (.cells #[.int .u8 65, .int .u8 195] 5)) (some ⟨W.heap.size, 0, none⟩) 2 [65, 195] (lit_C (l := [65, 195]) hk (by decide)) (by decide) (fun _ x hx => by injection hx with hx; subst hx; show W.heap.size ≠ N; omega) (hT.below hb) hN rfl (by decide) (by decide) (by decide) (by decide)
  refine this.mono ?_
  rintro e w' ⟨rfl, h⟩
  rw [v1, v2] at h
  obtain ⟨A2, c2, h2, _⟩ := h.sc
  exact ⟨rfl, ⟨A2, c2, h2⟩, ⟨(hb.mono (by omega)).trans h.turned.below⟩⟩

theorem open_lit {W : World} (hT : Tabs W) (x y : Int) (hB : allB [x, y] = true) :
    Calls Tryd.prog 18 #[.slice (some ⟨W.heap.size, 0, none⟩) 2 2] (W.alloc (.cells #[.int .u8 x, .int .u8 y] 5)) fun e w' => e = .returned (.bool (openI [x, y])) ∧ Below W.heap.size W w' := by
  have hk := heap_alloc_new W (.cells #[.int .u8 x, .int .u8 y] 5)
  have hb := (Below.refl W.heap.size W).alloc (Nat.le_refl _) (.cells #[.int .u8 x, .int .u8 y] 5)
  refine (open_calls (some ⟨W.heap.size, 0, none⟩) 2 [x, y] _ (lit_C (l := [x, y]) hk (by simp)) (hT.below hb) hB).mono ?_
  rintro e w' ⟨rfl, h⟩
  exact ⟨rfl, below_then hb hb.size h⟩

theorem field49 (x y : Int) (A : Option Addr) (n c : Nat) (W : World) : (Instr.field 49 (.agg #[.int .i64 x, .int .i64 y, .slice A n c]) 0).run Tryd.prog W = .ok (.int .i64 x) W ∧
    (Instr.field 49 (.agg #[.int .i64 x, .int .i64 y, .slice A n c]) 1).run Tryd.prog W = .ok (.int .i64 y) W ∧ (Instr.field 49 (.agg #[.int .i64 x, .int .i64 y, .slice A n c]) 2).run Tryd.prog W = .ok (.slice A n c) W := by
  unfold Instr.field asAgg
  refine ⟨?_, ?_, ?_⟩ <;> simp [go_sem]

theorem str195 : strOfNums [195] = ⟨#[195]⟩ := by decide +kernel

set_option maxHeartbeats 2000000 in
theorem awake_calls (w : World) (hT : Tabs w) : Calls Tryd.prog 20 #[] w fun e w' => e = .returned (.bool true) ∧ Below w.heap.size w w' := by
  have cN := new_calls w
  obtain ⟨v1, v2, v3, v4, v5⟩ := feed_two
  have v3' : endI 2 (-1) [195] = 1 := v3
  have HT := Aside0.mk hT
  have hg2 := hT.two
  have hconv : ∀ W A c, Kd.C (Kd.int .u8) W A ([195] : List Int).length [195] → (convert 23 9 (.slice A 1 c)).run Tryd.prog W = .ok (.string ⟨#[195]⟩) W := fun W A c h => by
    rw [← str195]; exact Kd.C_string (P := Tryd.prog) (A := A) (c := c) Tryd.underlying23 Tryd.underlying5 Tryd.underlying9 h
  have HCV := Aside0.mk hconv
  have V4 := Aside0.mk v4
  have V5 := Aside0.mk v5
  have V3 := Aside0.mk v3'
  clear hT v1 v2 v3 v4 v5 v3' hconv
  go_enter Tryd.func20, Tryd.ntmps20
  go_wp2_with (first | (go_at_call 21; go_must (refine cN.mono ?_); rintro e w1 ⟨rfl, hs1, hb1⟩; have HS1 := Aside0.mk hs1; have HB1 := Aside0.mk hb1; have HT1 := Aside0.mk (HT.out.below hb1); clear hs1 hb1) | (go_at_call 23; go_must (refine (feed_awake HS1.out HT1.out hg2).mono ?_); rintro e w2 ⟨rfl, hs2, hb2⟩; obtain ⟨A2, c2, hs3⟩ := hs2.out; have HS2 := Aside0.mk hs3; have HB2 := Aside0.mk (HB1.out.trans hb2.out); clear hs2 hs3 hb2) | (go_at_call 25; go_must (refine (scan_fault HS2.out).mono ?_); rintro e w3 ⟨rfl, hb3⟩; have HS3 := Aside0.mk (HS2.out.below hb3); have HB3 := Aside0.mk (HB2.out.trans (hb3.mono HB2.out.size)); clear hb3) | (go_at_call 26; go_must (refine (scan_end HS3.out).mono ?_); rintro e w4 ⟨rfl, hb4⟩; rw [V3.out]; have HS4 := Aside0.mk (HS3.out.below hb4); have HB4 := Aside0.mk (HB3.out.trans (hb4.mono HB3.out.size)); clear hb4) | (go_at_call 27; go_must (refine (scan_state HS4.out (by decide)).mono ?_); rintro e w5 ⟨v, rfl, hr5, hb5⟩; obtain ⟨A5, c5, rfl⟩ := Kd.R_slice hr5; have hfd := (field49 2 (-1) A5 1 c5 w5).2.2; have hcv := HCV.out w5 A5 c5 (Kd.R_reads' hr5).2.2; have HB5 := Aside0.mk (HB4.out.trans (hb5.mono HB4.out.size)); have HT5 := Aside0.mk (HT.out.below HB5.out); clear hb5 hr5) | (go_at_call 18; first | (with_reducible refine (open_lit HT5.out 224 160 rfl).mono ?_; rintro e w6 ⟨rfl, hb6⟩; rw [V4.out]; have HB6 := Aside0.mk (HB5.out.trans (hb6.mono HB5.out.size)); have HT6 := Aside0.mk (HT.out.below HB6.out); clear hb6) | (with_reducible refine (open_lit HT6.out 224 159 rfl).mono ?_; rintro e w7 ⟨rfl, hb7⟩; rw [V5.out]; have HB7 := Aside0.mk (HB6.out.trans (hb7.mono HB6.out.size)); clear hb7)))
  go_ret
  exact ⟨rfl, HB7.out⟩
end Go.Proofs.YtnaaimnmphcilaaDoor.Hand

namespace Go.Proofs.YtnaaimnmphcilaaDoor.Hand
open Go.RowKit Go.Proofs.YtnaaimnmphcilaaDoorW.PrintWords Go.Proofs.YtnaaimnmphcilaaDoorW.PrintLast Go.Proofs.YtnaaimnmphcilaaDoorW.PrintMore
set_option linter.unusedVariables false
set_option linter.unusedSimpArgs false

theorem C_any_nil {w : World} {A : Option Addr} {k : IntKind} : Kd.C (Kd.int k) w A ([] : List Int).length [] := ⟨rfl, by simp, fun h => absurd h (Nat.lt_irrefl 0)⟩

/-- A slice of bytes whose cells lie below block N. -/
structure Inp (N : Nat) (w : World) (A : Option Addr) (l : List Int) : Prop where
  c : Kd.C (Kd.int .u8) w A l.length l
  lt : l ≠ [] → ∀ x, A = some x → x.block < N
theorem Inp.below {N : Nat} {w w' : World} {A : Option Addr} {l : List Int} (h : Inp N w A l) (hb : Below N w w') : Inp N w' A l := by
  refine ⟨?_, h.lt⟩
  by_cases hl : l = []
  · subst hl; exact C_any_nil
  · refine ⟨h.c.1, h.c.2.1, fun hn => ?_⟩
    obtain ⟨ad, e, hc⟩ := h.c.2.2 hn
    refine ⟨ad, e, fun j p hj => ?_⟩
    obtain ⟨c, h1, h2, h3⟩ := hc j p hj
    exact ⟨c, h1, h2, fun i u hu => (hb.cell (p := ad.add _) (by rw [add_block]; exact h.lt hl ad e)).trans (h3 i u hu)⟩
theorem Inp.of {w : World} {A : Option Addr} {l : List Int} (h : Kd.C (Kd.int .u8) w A l.length l) : Inp w.heap.size w A l :=
  ⟨h, fun hl x hx => by obtain ⟨b, off, e, hb, _⟩ := view h hl; rw [e] at hx; injection hx with hx; subst hx; exact hb⟩

theorem feed_inp {w : World} {g : Nat} {s b : Int} {A : Option Addr} {c : Nat} {l : List Int} (H : Sc w g s b A c l) {N : Nat} (hN : N ≤ g) (A' : Option Addr) (c' : Nat) (m : List Int) (n : Nat) (hn : n = m.length) (hi : Inp N w A' m) (hc : m.length ≤ c')
    (hT : Tabs w) (hg : 2 ≤ g) (hBl : allB l = true) (hB : allB m = true) (h0 : 0 ≤ s) (hl : l.length ≤ 140737488355) (h1 : s + (m.length : Int) ≤ 1099511627776) :
    Calls Tryd.prog 23 #[.pointer (some ⟨g, 0, none⟩), .slice A' n c'] w fun e w' => e = .returned (.int .i64 0) ∧ Aside0 (Fed w w' g (s + (m.length : Int)) (feedB s b l m) A (feedP b l m)) := by
  subst hn
  exact (feed_calls H A' c' m hi.c hc (fun hm x hx => by have := hi.lt hm x hx; omega) hT hg hBl hB h0 hl h1).mono fun e w' h => ⟨h.1, ⟨h.2⟩⟩
end Go.Proofs.YtnaaimnmphcilaaDoor.Hand

namespace Go.Proofs.YtnaaimnmphcilaaDoor.Hand
open Go.RowKit Go.Proofs.YtnaaimnmphcilaaDoorW.PrintWords Go.Proofs.YtnaaimnmphcilaaDoorW.PrintLast Go.Proofs.YtnaaimnmphcilaaDoorW.PrintMore
set_option linter.unusedVariables false
set_option linter.unusedSimpArgs false

def stB (l : List Int) : Int := if faultI l < 0 then -1 else if openI (l.drop (faultI l).toNat) = true then -1 else faultI l
def stP (l : List Int) : List Int := lookP l
theorem feed0B {l : List Int} (hB : allB l = true) (hl : l.length ≤ 9223372036854775807) : feedB 0 (-1) [] l = stB l := by
  unfold feedB stB lookB
  rw [if_neg (by decide), List.nil_append]
  split
  · rfl
  · split
    · rfl
    · rcases faultI_valid hB with h | h
      · omega
      · unfold wrap64; simp; omega
theorem feed0P (l : List Int) : feedP (-1) [] l = stP l := by
  unfold feedP stP
  rw [if_neg (by decide), List.nil_append]
theorem st_bad {l : List Int} (h : stB l ≥ 0) : stB l = faultI l ∧ stP l = [] := by
  unfold stP lookP
  unfold stB at *
  split at h
  · omega
  · rename_i h1
    split at h
    · omega
    · rename_i h2
      rw [if_neg h1, if_neg h2, if_neg h1, if_neg h2]
      exact ⟨rfl, rfl⟩
theorem allB_lookP {l : List Int} (h : allB l = true) : allB (lookP l) = true := by
  unfold lookP
  split
  · rfl
  · split
    · exact allB_drop h _
    · rfl
theorem lookP_len (l : List Int) : (lookP l).length ≤ 3 := by
  unfold lookP
  split
  · simp
  · split
    · rename_i h
      unfold openI at h
      simp only [Bool.and_eq_true, decide_eq_true_eq] at h
      omega
    · simp
theorem endI_bad {s b : Int} {l : List Int} (h : b ≥ 0) : endI s b l = b := by unfold endI; rw [if_neg (by omega)]

theorem feed_nil_new (v : Value) (W : World) (o : Obj) : Calls Tryd.prog 23 #[.pointer none, v] (W.alloc o) fun e w' => e = .returned (.int .i64 1) ∧ Below W.heap.size W w' ∧ w'.heap[W.heap.size]? = some o := by
  have hb := (Below.refl W.heap.size W).alloc (Nat.le_refl _) o
  refine (feed_nil v (W.alloc o)).mono ?_
  rintro e w' ⟨rfl, h⟩
  exact ⟨rfl, below_then hb hb.size h, blk_below (heap_alloc_new W o) h⟩
theorem fault_at (A : Option Addr) (c : Nat) (l : List Int) (n : Nat) (hn : n = l.length) (w : World) (hr : Kd.C (Kd.int .u8) w A l.length l) (hc : l.length ≤ c) (hT : Tabs w) (hB : allB l = true) :
    Calls Tryd.prog 15 #[.slice A n c] w fun e w' => e = .returned (.int .i64 (faultI l)) ∧ Below w.heap.size w w' := by
  subst hn
  exact ScanF.fault_calls A c l w hr hc hT hB

set_option maxHeartbeats 4000000 in
set_option maxRecDepth 100000 in
theorem stays_calls (A0 : Option Addr) (c0 : Nat) (l0 : List Int) (A1 : Option Addr) (c1 : Nat) (l1 : List Int) (w : World) (hr0 : Kd.C (Kd.int .u8) w A0 l0.length l0) (hc0 : l0.length ≤ c0) (hr1 : Kd.C (Kd.int .u8) w A1 l1.length l1) (hc1 : l1.length ≤ c1)
    (hB0 : allB l0 = true) (hB1 : allB l1 = true) (hn0 : l0.length ≤ 1048576) (hn1 : l1.length ≤ 1048576) (hT : Tabs w) :
    Calls Tryd.prog 7 #[.slice A0 l0.length c0, .slice A1 l1.length c1] w fun e w' => e = .returned (.bool true) ∧ Below w.heap.size w w' := by
  have cN := new_calls w
  have hg2 := hT.two
  have HI0 := Aside0.mk (Inp.of hr0)
  have HI1 := Aside0.mk (Inp.of hr1)
  have HT := Aside0.mk hT
  have HC0 := Aside0.mk hc0
  have HC1 := Aside0.mk hc1
  have HB0 := Aside0.mk hB0
  have HB1 := Aside0.mk hB1
  obtain ⟨f, hf⟩ : ∃ f, stB l0 = f := ⟨_, rfl⟩
  obtain ⟨p, hp⟩ : ∃ p, stP l0 = p := ⟨_, rfl⟩
  have E1 : Aside0 (feedB 0 (-1) [] l0 = f) := ⟨by rw [feed0B hB0 (by omega), hf]⟩
  have E2 : Aside0 (feedP (-1) [] l0 = p) := ⟨by rw [feed0P, hp]⟩
  have E3 : Aside0 ((0 : Int) + (l0.length : Int) = (l0.length : Int)) := ⟨by omega⟩
  have HPB : Aside0 (allB p = true) := ⟨by rw [← hp]; exact allB_lookP hB0⟩
  have HPL : Aside0 (p.length ≤ 140737488355) := ⟨by rw [← hp]; have := lookP_len l0; unfold stP; omega⟩
  have G0 : Aside0 ((0 : Int) + (l0.length : Int) ≤ 1099511627776) := ⟨by omega⟩
  have G1 : Aside0 ((l0.length : Int) + (l1.length : Int) ≤ 1099511627776) := ⟨by omega⟩
  have G2 : Aside0 ((0 : Int) ≤ (l0.length : Int)) := ⟨by omega⟩
  have NP : Aside0 (([] : List Int).length ≤ 140737488355) := ⟨by decide⟩
  by_cases hf0 : f ≥ 0
  · obtain ⟨hff, hpp⟩ := st_bad (l := l0) (by rw [hf]; exact hf0)
    rw [hp] at hpp
    subst hpp
    have E4 : Aside0 (feedB (l0.length : Int) f [] l1 = f) := ⟨by unfold feedB; rw [if_pos hf0]⟩
    have E5 : Aside0 (feedP f [] l1 = []) := ⟨by unfold feedP; rw [if_pos hf0]⟩
    have E6 : ∀ s : Int, Aside0 (endI s f [] = f) := fun s => ⟨endI_bad hf0⟩
    have E7 : Aside0 (faultI l0 = f) := ⟨by rw [← hff, hf]⟩
    obtain ⟨n0, hn0'⟩ : ∃ n, n = l0.length := ⟨_, rfl⟩
    obtain ⟨n1, hn1'⟩ : ∃ n, n = l1.length := ⟨_, rfl⟩
    have N0 := Aside0.mk hn0'
    have N1 := Aside0.mk hn1'
    rw [← hn0', ← hn1']
    have hfn : ¬ f < 0 := by omega
    clear hff hp hf hr0 hc0 hr1 hc1 hB0 hB1 hn0 hn1 hT hn0' hn1'
    go_enter Tryd.func7, Tryd.ntmps7
    go_wp2_with (first | (go_at_call 21; with_reducible refine cN.mono ?_; rintro e w1 ⟨rfl, hs, hb⟩; have HS := Aside0.mk hs; have HB := Aside0.mk hb; clear hs hb) | (go_at_call 23; first | (with_reducible refine (feed_inp HS.out (Nat.le_refl _) A0 c0 l0 n0 N0.out (HI0.out.below HB.out) HC0.out (HT.out.below HB.out) hg2 rfl HB0.out (Int.le_refl 0) NP.out G0.out).mono ?_; rintro e w2 ⟨rfl, h⟩; have hf := h.out; rw [E1.out, E2.out, E3.out] at hf; obtain ⟨A2, c2, hs2, _⟩ := hf.sc; replace HB := Aside0.mk (HB.out.trans hf.turned.below); replace HS := Aside0.mk hs2; clear h hf hs2) | (with_reducible refine (feed_inp HS.out (Nat.le_refl _) A1 c1 l1 n1 N1.out (HI1.out.below HB.out) HC1.out (HT.out.below HB.out) hg2 HPB.out HB1.out G2.out HPL.out G1.out).mono ?_; rintro e w4 ⟨rfl, h⟩; have hf := h.out; rw [E4.out, E5.out] at hf; obtain ⟨A4, c4, hs4, _⟩ := hf.sc; replace HB := Aside0.mk (HB.out.trans hf.turned.below); replace HS := Aside0.mk hs4; clear h hf hs4) | (with_reducible refine (feed_nil_new _ _ _).mono ?_; rintro e wn ⟨rfl, hb, hk⟩; replace HB := Aside0.mk (HB.out.trans (hb.mono HB.out.size)); have HK := Aside0.mk hk; clear hb hk)) | (go_at_call 25; first | (with_reducible refine (scan_fault HS.out).mono ?_; rintro e wn ⟨rfl, hb⟩; replace HS := Aside0.mk (HS.out.below hb); replace HB := Aside0.mk (HB.out.trans (hb.mono HB.out.size)); clear hb) | (with_reducible refine (fault_nil _).mono ?_; rintro e wn ⟨rfl, hb⟩; replace HK := Aside0.mk (blk_below HK.out hb); replace HB := Aside0.mk (HB.out.trans (hb.mono HB.out.size)); clear hb)) | (go_at_call 26; first | (with_reducible refine (scan_end HS.out).mono ?_; rintro e wn ⟨rfl, hb⟩; rw [(E6 _).out]; replace HS := Aside0.mk (HS.out.below hb); replace HB := Aside0.mk (HB.out.trans (hb.mono HB.out.size)); clear hb) | (with_reducible refine (end_nil _).mono ?_; rintro e wn ⟨rfl, hb⟩; replace HK := Aside0.mk (blk_below HK.out hb); replace HB := Aside0.mk (HB.out.trans (hb.mono HB.out.size)); clear hb; have kk0 := blk_cell HK.out 0; have kk1 := blk_cell HK.out 1; have kk2 := blk_cell HK.out 2)) | (go_at_call 27; first | (with_reducible refine (scan_state HS.out (by decide)).mono ?_; rintro e wn ⟨v, rfl, hr5, hb⟩; obtain ⟨A5, c5, rfl⟩ := Kd.R_slice hr5; have hfd := fun x => (field49 x f A5 0 c5 wn).2.2; replace HB := Aside0.mk (HB.out.trans (hb.mono HB.out.size)); clear hb hr5) | (with_reducible refine (state_nil _).mono ?_; rintro e wn ⟨rfl, hb⟩; replace HB := Aside0.mk (HB.out.trans (hb.mono HB.out.size)); clear hb)) | (go_at_call 15; with_reducible refine (fault_at A0 c0 l0 n0 N0.out _ (HI0.out.below HB.out).c HC0.out (HT.out.below HB.out) HB0.out).mono ?_; rintro e wn ⟨rfl, hb⟩; rw [E7.out]; replace HB := Aside0.mk (HB.out.trans (hb.mono HB.out.size)); clear hb) | (go_at_call 20; with_reducible refine (awake_calls _ (HT.out.below HB.out)).mono ?_; rintro e wn ⟨rfl, hb⟩; replace HB := Aside0.mk (HB.out.trans (hb.mono HB.out.size)); clear hb))
    go_ret
    exact ⟨rfl, HB.out⟩
  · obtain ⟨f2, hf2⟩ : ∃ f2, feedB (l0.length : Int) f p l1 = f2 := ⟨_, rfl⟩
    obtain ⟨p2, hp2⟩ : ∃ p2, feedP f p l1 = p2 := ⟨_, rfl⟩
    have E4 := Aside0.mk hf2
    have E5 := Aside0.mk hp2
    obtain ⟨n0, hn0'⟩ : ∃ n, n = l0.length := ⟨_, rfl⟩
    obtain ⟨n1, hn1'⟩ : ∃ n, n = l1.length := ⟨_, rfl⟩
    have N0 := Aside0.mk hn0'
    have N1 := Aside0.mk hn1'
    rw [← hn0', ← hn1']
    have hfn : f < 0 := by omega
    clear hp hf hr0 hc0 hr1 hc1 hB0 hB1 hn0 hn1 hT hn0' hn1' hf2 hp2
    go_enter Tryd.func7, Tryd.ntmps7
    go_wp2_with (first | (go_at_call 21; with_reducible refine cN.mono ?_; rintro e w1 ⟨rfl, hs, hb⟩; have HS := Aside0.mk hs; have HB := Aside0.mk hb; clear hs hb) | (go_at_call 23; first | (with_reducible refine (feed_inp HS.out (Nat.le_refl _) A0 c0 l0 n0 N0.out (HI0.out.below HB.out) HC0.out (HT.out.below HB.out) hg2 rfl HB0.out (Int.le_refl 0) NP.out G0.out).mono ?_; rintro e w2 ⟨rfl, h⟩; have hf := h.out; rw [E1.out, E2.out, E3.out] at hf; obtain ⟨A2, c2, hs2, _⟩ := hf.sc; replace HB := Aside0.mk (HB.out.trans hf.turned.below); replace HS := Aside0.mk hs2; clear h hf hs2) | (with_reducible refine (feed_inp HS.out (Nat.le_refl _) A1 c1 l1 n1 N1.out (HI1.out.below HB.out) HC1.out (HT.out.below HB.out) hg2 HPB.out HB1.out G2.out HPL.out G1.out).mono ?_; rintro e w4 ⟨rfl, h⟩; have hf := h.out; rw [E4.out, E5.out] at hf; obtain ⟨A4, c4, hs4, _⟩ := hf.sc; replace HB := Aside0.mk (HB.out.trans hf.turned.below); replace HS := Aside0.mk hs4; clear h hf hs4) | (with_reducible refine (feed_nil_new _ _ _).mono ?_; rintro e wn ⟨rfl, hb, hk⟩; replace HB := Aside0.mk (HB.out.trans (hb.mono HB.out.size)); have HK := Aside0.mk hk; clear hb hk)) | (go_at_call 25; first | (with_reducible refine (scan_fault HS.out).mono ?_; rintro e wn ⟨rfl, hb⟩; replace HS := Aside0.mk (HS.out.below hb); replace HB := Aside0.mk (HB.out.trans (hb.mono HB.out.size)); clear hb) | (with_reducible refine (fault_nil _).mono ?_; rintro e wn ⟨rfl, hb⟩; replace HK := Aside0.mk (blk_below HK.out hb); replace HB := Aside0.mk (HB.out.trans (hb.mono HB.out.size)); clear hb)) | (go_at_call 26; first | (with_reducible refine (scan_end HS.out).mono ?_; rintro e wn ⟨rfl, hb⟩; replace HS := Aside0.mk (HS.out.below hb); replace HB := Aside0.mk (HB.out.trans (hb.mono HB.out.size)); clear hb) | (with_reducible refine (end_nil _).mono ?_; rintro e wn ⟨rfl, hb⟩; replace HK := Aside0.mk (blk_below HK.out hb); replace HB := Aside0.mk (HB.out.trans (hb.mono HB.out.size)); clear hb; have kk0 := blk_cell HK.out 0; have kk1 := blk_cell HK.out 1; have kk2 := blk_cell HK.out 2)) | (go_at_call 27; first | (with_reducible refine (scan_state HS.out (by decide)).mono ?_; rintro e wn ⟨v, rfl, hr5, hb⟩; obtain ⟨A5, c5, rfl⟩ := Kd.R_slice hr5; have hfd := fun x => (field49 x f A5 0 c5 wn).2.2; replace HB := Aside0.mk (HB.out.trans (hb.mono HB.out.size)); clear hb hr5) | (with_reducible refine (state_nil _).mono ?_; rintro e wn ⟨rfl, hb⟩; replace HB := Aside0.mk (HB.out.trans (hb.mono HB.out.size)); clear hb)) | (go_at_call 15; with_reducible refine (fault_at A0 c0 l0 n0 N0.out _ (HI0.out.below HB.out).c HC0.out (HT.out.below HB.out) HB0.out).mono ?_; rintro e wn ⟨rfl, hb⟩; replace HB := Aside0.mk (HB.out.trans (hb.mono HB.out.size)); clear hb) | (go_at_call 20; with_reducible refine (awake_calls _ (HT.out.below HB.out)).mono ?_; rintro e wn ⟨rfl, hb⟩; replace HB := Aside0.mk (HB.out.trans (hb.mono HB.out.size)); clear hb))
    go_ret
    exact ⟨rfl, HB.out⟩

theorem allB_wf {l : List Int} (h : ∀ x ∈ l, (Lit.int .u8 x).wf = true) : allB l = true := by
  unfold allB
  rw [List.all_eq_true]
  intro x hx
  have := h x hx
  simp [Lit.wf, IntKind.min, IntKind.max, IntKind.signed, IntKind.bits] at this
  simp [isB]
  omega
theorem C_of_ints {w : World} {A : Option Addr} {n : Nat} {l : List Int} (h : ReadsInt w .u8 A n l) : Kd.C (Kd.int .u8) w A n l := Kd.C_of_reads (d := (0 : Int)) (h1 := fun _ => rfl) h
theorem stays_walk (A0 : Option Addr) (c0 : Nat) (l0 : List Int) (A1 : Option Addr) (c1 : Nat) (l1 : List Int) (w : World) (hr0 : ReadsInt w .u8 A0 l0.length l0) (hc0 : l0.length ≤ c0) (h0 : ∀ x ∈ l0, (Lit.int .u8 x).wf = true) (n0 : l0.length ≤ 1048576)
    (hr1 : ReadsInt w .u8 A1 l1.length l1) (hc1 : l1.length ≤ c1) (h1 : ∀ x ∈ l1, (Lit.int .u8 x).wf = true) (n1 : l1.length ≤ 1048576) (hT : Tabs w) :
    Calls Tryd.prog 7 #[.slice A0 l0.length c0, .slice A1 l1.length c1] w fun e w' => e = .returned (.bool true) ∧ Below w.heap.size w w' :=
  stays_calls A0 c0 l0 A1 c1 l1 w (C_of_ints hr0) hc0 (C_of_ints hr1) hc1 (allB_wf h0) (allB_wf h1) n0 n1 hT
end Go.Proofs.YtnaaimnmphcilaaDoor.Hand

namespace Go.Proofs.YtnaaimnmphcilaaDoor.Hand
open Go.RowKit Go.Proofs.YtnaaimnmphcilaaDoorW.PrintWords Go.Proofs.YtnaaimnmphcilaaDoorW.PrintLast Go.Proofs.YtnaaimnmphcilaaDoorW.PrintMore
set_option linter.unusedVariables false
set_option linter.unusedSimpArgs false

def okB (b0 b1 : Nat) : Prop := (b0 = 224 → 160 ≤ b1) ∧ (b0 = 237 → b1 ≤ 159) ∧ (b0 = 240 → 144 ≤ b1) ∧ (b0 = 244 → b1 ≤ 143) ∧ 128 ≤ b1 ∧ b1 ≤ 191
theorem full_eq (n b0 b1 b2 k lo hi : Nat) (hk : Lib.firstT b0 = k) (hlo : Lib.accLo (k / 16) = lo) (hhi : Lib.accHi (k / 16) = hi) :
    fullN n b0 b1 b2 = false ↔ ¬ k % 8 ≤ n ∧ ¬ (1 < n ∧ (b1 < lo ∨ hi < b1)) ∧ ¬ (2 < n ∧ (b2 < 128 ∨ 191 < b2)) := by
  unfold fullN
  rw [hk, hlo, hhi]
  by_cases h1 : k % 8 ≤ n
  · rw [if_pos h1]; exact ⟨fun h => (by cases h), fun h => absurd h1 h.1⟩
  · rw [if_neg h1]
    by_cases h2 : 1 < n ∧ (b1 < lo ∨ hi < b1)
    · rw [if_pos h2]; exact ⟨fun h => (by cases h), fun h => absurd h2 h.2.1⟩
    · rw [if_neg h2]
      by_cases h3 : 2 < n ∧ (b2 < 128 ∨ 191 < b2)
      · rw [if_pos h3]; exact ⟨fun h => (by cases h), fun h => absurd h3 h.2.2⟩
      · rw [if_neg h3]; exact ⟨fun _ => ⟨h1, h2, h3⟩, fun _ => rfl⟩
theorem first_class (b0 : Nat) : (b0 < 128 ∧ Lib.firstT b0 = 240) ∨ (128 ≤ b0 ∧ b0 < 194 ∧ Lib.firstT b0 = 241) ∨ (194 ≤ b0 ∧ b0 < 224 ∧ Lib.firstT b0 = 2) ∨ (b0 = 224 ∧ Lib.firstT b0 = 19) ∨ (225 ≤ b0 ∧ b0 < 237 ∧ Lib.firstT b0 = 3) ∨
    (b0 = 237 ∧ Lib.firstT b0 = 35) ∨ (238 ≤ b0 ∧ b0 < 240 ∧ Lib.firstT b0 = 3) ∨ (b0 = 240 ∧ Lib.firstT b0 = 52) ∨ (241 ≤ b0 ∧ b0 < 244 ∧ Lib.firstT b0 = 4) ∨ (b0 = 244 ∧ Lib.firstT b0 = 68) ∨ (245 ≤ b0 ∧ Lib.firstT b0 = 241) := by
  unfold Lib.firstT
  repeat' split
  all_goals omega
theorem fullN1 (b0 b1 b2 : Nat) : fullN 1 b0 b1 b2 = false ↔ 194 ≤ b0 ∧ b0 ≤ 244 := by
  rcases first_class b0 with ⟨h, e⟩ | ⟨h, h', e⟩ | ⟨h, h', e⟩ | ⟨h, e⟩ | ⟨h, h', e⟩ | ⟨h, e⟩ | ⟨h, h', e⟩ | ⟨h, e⟩ | ⟨h, h', e⟩ | ⟨h, e⟩ | ⟨h, e⟩
  all_goals
    rw [full_eq 1 b0 b1 b2 _ _ _ e rfl rfl]
    omega
theorem fullN2 (b0 b1 b2 : Nat) : fullN 2 b0 b1 b2 = false ↔ 224 ≤ b0 ∧ b0 ≤ 244 ∧ okB b0 b1 := by
  unfold okB
  rcases first_class b0 with ⟨h, e⟩ | ⟨h, h', e⟩ | ⟨h, h', e⟩ | ⟨h, e⟩ | ⟨h, h', e⟩ | ⟨h, e⟩ | ⟨h, h', e⟩ | ⟨h, e⟩ | ⟨h, h', e⟩ | ⟨h, e⟩ | ⟨h, e⟩
  all_goals
    first
    | (rw [full_eq 2 b0 b1 b2 _ 0 0 e (by decide) (by decide)]; omega)
    | (rw [full_eq 2 b0 b1 b2 _ 128 191 e (by decide) (by decide)]; omega)
    | (rw [full_eq 2 b0 b1 b2 _ 160 191 e (by decide) (by decide)]; omega)
    | (rw [full_eq 2 b0 b1 b2 _ 128 159 e (by decide) (by decide)]; omega)
    | (rw [full_eq 2 b0 b1 b2 _ 144 191 e (by decide) (by decide)]; omega)
    | (rw [full_eq 2 b0 b1 b2 _ 128 143 e (by decide) (by decide)]; omega)
theorem fullN3 (b0 b1 b2 : Nat) : fullN 3 b0 b1 b2 = false ↔ 240 ≤ b0 ∧ b0 ≤ 244 ∧ okB b0 b1 ∧ 128 ≤ b2 ∧ b2 ≤ 191 := by
  unfold okB
  rcases first_class b0 with ⟨h, e⟩ | ⟨h, h', e⟩ | ⟨h, h', e⟩ | ⟨h, e⟩ | ⟨h, h', e⟩ | ⟨h, e⟩ | ⟨h, h', e⟩ | ⟨h, e⟩ | ⟨h, h', e⟩ | ⟨h, e⟩ | ⟨h, e⟩
  all_goals
    first
    | (rw [full_eq 3 b0 b1 b2 _ 0 0 e (by decide) (by decide)]; omega)
    | (rw [full_eq 3 b0 b1 b2 _ 128 191 e (by decide) (by decide)]; omega)
    | (rw [full_eq 3 b0 b1 b2 _ 160 191 e (by decide) (by decide)]; omega)
    | (rw [full_eq 3 b0 b1 b2 _ 128 159 e (by decide) (by decide)]; omega)
    | (rw [full_eq 3 b0 b1 b2 _ 144 191 e (by decide) (by decide)]; omega)
    | (rw [full_eq 3 b0 b1 b2 _ 128 143 e (by decide) (by decide)]; omega)
theorem fullN4 (n b0 b1 b2 : Nat) (h : 4 ≤ n) : fullN n b0 b1 b2 = true := by
  have : Lib.firstT b0 % 8 ≤ n := by rcases Lib.firstT_cases b0 with hX | hX | hX | hX | hX | hX | hX | hX | hX <;> rw [hX] <;> omega
  unfold fullN
  rw [if_pos this]

/-- Bytes that go on to one code point. -/
def OpenS (r : List Int) : Prop := ∃ c q, Pt c ∧ q ≠ [] ∧ putI c = r ++ q

theorem open_1 (x : Int) (h0 : 0 ≤ x) (h1 : x < 256) : openI [x] = true ↔ 194 ≤ x ∧ x ≤ 244 := by
  have := fullN1 x.toNat 0 0
  have e : fullI [x] = fullN 1 x.toNat 0 0 := by simp [fullI, rd]
  unfold openI
  rw [e]
  cases hh : fullN 1 x.toNat 0 0
  · rw [hh] at this; simp at this ⊢; omega
  · rw [hh] at this; simp at this ⊢; omega
def okI (x y : Int) : Prop := (x = 224 → 160 ≤ y) ∧ (x = 237 → y ≤ 159) ∧ (x = 240 → 144 ≤ y) ∧ (x = 244 → y ≤ 143) ∧ 128 ≤ y ∧ y ≤ 191
theorem open_2 (x y : Int) (h0 : 0 ≤ x) (h1 : x < 256) (h2 : 0 ≤ y) (h3 : y < 256) : openI [x, y] = true ↔ 224 ≤ x ∧ x ≤ 244 ∧ okI x y := by
  have := fullN2 x.toNat y.toNat 0
  have e : fullI [x, y] = fullN 2 x.toNat y.toNat 0 := by simp [fullI, rd]
  unfold openI
  rw [e]
  unfold okB at this
  unfold okI
  cases hh : fullN 2 x.toNat y.toNat 0
  · rw [hh] at this; simp only [true_iff] at this; simp; omega
  · rw [hh] at this; simp only [Bool.true_eq_false, false_iff] at this; simp; omega
theorem open_3 (x y z : Int) (h0 : 0 ≤ x) (h1 : x < 256) (h2 : 0 ≤ y) (h3 : y < 256) (h4 : 0 ≤ z) (h5 : z < 256) : openI [x, y, z] = true ↔ 240 ≤ x ∧ x ≤ 244 ∧ okI x y ∧ 128 ≤ z ∧ z ≤ 191 := by
  have := fullN3 x.toNat y.toNat z.toNat
  have e : fullI [x, y, z] = fullN 3 x.toNat y.toNat z.toNat := by simp [fullI, rd]
  unfold openI
  rw [e]
  unfold okB at this
  unfold okI
  cases hh : fullN 3 x.toNat y.toNat z.toNat
  · rw [hh] at this; simp only [true_iff] at this; simp; omega
  · rw [hh] at this; simp only [Bool.true_eq_false, false_iff] at this; simp; omega
theorem open_4 {r : List Int} (h : openI r = true) : r.length = 1 ∨ r.length = 2 ∨ r.length = 3 := by
  unfold openI at h
  simp only [Bool.and_eq_true, decide_eq_true_eq] at h
  omega

theorem open_to {r : List Int} (hB : allB r = true) (h : openI r = true) : OpenS r := by
  have hl := open_4 h
  match r, hl with
  | [x], _ =>
    have hx := allB_mem hB x (by simp)
    have h := (open_1 x hx.1 hx.2).1 h
    by_cases a : x < 224
    · exact ⟨(x - 192) * 64, [128], by unfold Pt; omega, by simp, by rw [putI_2 (by unfold Pt; omega) (by omega) (by omega)]; simp; omega⟩
    · by_cases b : x = 224
      · exact ⟨2048, [160, 128], by unfold Pt; omega, by simp, by rw [putI_3 (by unfold Pt; omega) (by omega) (by omega)]; simp; omega⟩
      · by_cases c : x < 240
        · exact ⟨(x - 224) * 4096, [128, 128], by unfold Pt; omega, by simp, by rw [putI_3 (by unfold Pt; omega) (by omega) (by omega)]; simp; omega⟩
        · by_cases d : x = 240
          · exact ⟨65536, [144, 128, 128], by unfold Pt; omega, by simp, by rw [putI_4 (by unfold Pt; omega) (by omega)]; simp; omega⟩
          · exact ⟨(x - 240) * 262144, [128, 128, 128], by unfold Pt; omega, by simp, by rw [putI_4 (by unfold Pt; omega) (by omega)]; simp; omega⟩
  | [x, y], _ =>
    have hx := allB_mem hB x (by simp)
    have hy := allB_mem hB y (by simp)
    have h := (open_2 x y hx.1 hx.2 hy.1 hy.2).1 h
    unfold okI at h
    by_cases c : x < 240
    · exact ⟨(x - 224) * 4096 + (y - 128) * 64, [128], by unfold Pt; omega, by simp, by rw [putI_3 (by unfold Pt; omega) (by omega) (by omega)]; simp; omega⟩
    · exact ⟨(x - 240) * 262144 + (y - 128) * 4096, [128, 128], by unfold Pt; omega, by simp, by rw [putI_4 (by unfold Pt; omega) (by omega)]; simp; omega⟩
  | [x, y, z], _ =>
    have hx := allB_mem hB x (by simp)
    have hy := allB_mem hB y (by simp)
    have hz := allB_mem hB z (by simp)
    have h := (open_3 x y z hx.1 hx.2 hy.1 hy.2 hz.1 hz.2).1 h
    unfold okI at h
    exact ⟨(x - 240) * 262144 + (y - 128) * 4096 + (z - 128) * 64, [128], by unfold Pt; omega, by simp, by rw [putI_4 (by unfold Pt; omega) (by omega)]; simp; omega⟩
  | [], hl => exact absurd hl (by simp)
  | _ :: _ :: _ :: _ :: _, hl => exact absurd hl (by simp)

theorem open_of {r : List Int} (hne : r ≠ []) (h : OpenS r) : openI r = true := by
  obtain ⟨c, q, hc, hq, he⟩ := h
  have hp := hc
  unfold Pt at hp
  have hlen := congrArg List.length he
  rw [List.length_append] at hlen
  have hq0 : 0 < q.length := List.length_pos_iff.2 hq
  have hr0 : 0 < r.length := List.length_pos_iff.2 hne
  by_cases h1 : c < 128
  · rw [putI_1 hc h1] at hlen; simp at hlen; omega
  · by_cases h2 : c < 2048
    · rw [putI_2 hc h1 h2] at hlen he
      match r, hne with
      | [x], _ => simp at he; exact (open_1 x (by omega) (by omega)).2 (by omega)
      | _ :: _ :: _, _ => simp at hlen; omega
    · by_cases h3 : c < 65536
      · rw [putI_3 hc h2 h3] at hlen he
        match r, hne with
        | [x], _ => simp at he; exact (open_1 x (by omega) (by omega)).2 (by omega)
        | [x, y], _ => simp at he; exact (open_2 x y (by omega) (by omega) (by omega) (by omega)).2 (by unfold okI; omega)
        | _ :: _ :: _ :: _, _ => simp at hlen; omega
      · rw [putI_4 hc h3] at hlen he
        match r, hne with
        | [x], _ => simp at he; exact (open_1 x (by omega) (by omega)).2 (by omega)
        | [x, y], _ => simp at he; exact (open_2 x y (by omega) (by omega) (by omega) (by omega)).2 (by unfold okI; omega)
        | [x, y, z], _ => simp at he; exact (open_3 x y z (by omega) (by omega) (by omega) (by omega) (by omega) (by omega)).2 (by unfold okI; omega)
        | _ :: _ :: _ :: _ :: _, _ => simp at hlen; omega
end Go.Proofs.YtnaaimnmphcilaaDoor.Hand

namespace Go.Proofs.YtnaaimnmphcilaaDoor.Hand
open Go.RowKit Go.Proofs.YtnaaimnmphcilaaDoorW.PrintWords Go.Proofs.YtnaaimnmphcilaaDoorW.PrintLast Go.Proofs.YtnaaimnmphcilaaDoorW.PrintMore
set_option linter.unusedVariables false
set_option linter.unusedSimpArgs false

theorem faultL_ge : ∀ (n : Nat) (l : List Int), faultL n l 0 = -1 ∨ 0 ≤ faultL n l 0 := by
  have : ∀ (n : Nat) (l : List Int) (a : Int), 0 ≤ a → faultL n l a = -1 ∨ 0 ≤ faultL n l a := by
    intro n
    induction n with
    | zero => intro l a _; exact .inl rfl
    | succ n ih =>
      intro l a ha
      unfold faultL
      split
      · exact .inl rfl
      · split
        · exact ih _ _ (by omega)
        · exact .inr ha
  exact fun n l => this n l 0 (by omega)
theorem faultL_shift : ∀ (n : Nat) (l : List Int) (a : Int), 0 ≤ a → faultL n l a = if faultL n l 0 < 0 then -1 else a + faultL n l 0
  | 0, l, a, _ => by simp [faultL]
  | n + 1, l, a, ha => by
    by_cases hne : l = []
    · simp [faultL, hne]
    · by_cases hg : Good (decI l)
      · have e1 : faultL (n + 1) l a = faultL n (l.drop (decI l).2) (a + (decI l).2) := by rw [faultL, if_neg hne, if_pos hg]
        have e2 : faultL (n + 1) l 0 = faultL n (l.drop (decI l).2) (0 + (decI l).2) := by rw [faultL, if_neg hne, if_pos hg]
        have h1 := faultL_shift n (l.drop (decI l).2) (a + (decI l).2) (by omega)
        have h2 := faultL_shift n (l.drop (decI l).2) (0 + (decI l).2) (by omega)
        rw [e1, e2, h1, h2]
        rcases faultL_ge n (l.drop (decI l).2) with h | h
        · rw [h]; simp
        · rw [if_neg (by omega), if_neg (by omega), if_neg (by omega)]; omega
      · have e1 : ∀ a, faultL (n + 1) l a = a := fun a => by rw [faultL, if_neg hne, if_neg hg]
        rw [e1, e1]; simp
theorem faultL_fuel : ∀ (n m : Nat) (l : List Int) (a : Int), allB l = true → l.length ≤ n → l.length ≤ m → faultL n l a = faultL m l a
  | 0, m, l, a, hB, hn, _ => by
    have : l = [] := List.eq_nil_of_length_eq_zero (by omega)
    subst this
    cases m <;> simp [faultL]
  | n + 1, 0, l, a, hB, _, hm => by
    have : l = [] := List.eq_nil_of_length_eq_zero (by omega)
    subst this
    simp [faultL]
  | n + 1, m + 1, l, a, hB, hn, hm => by
    unfold faultL
    by_cases hne : l = []
    · simp [hne]
    · have hw := decI_width hB
      have hl : 0 < l.length := List.length_pos_iff.2 hne
      rw [if_neg hne, if_neg hne]
      rw [faultL_fuel n m (l.drop (decI l).2) _ (allB_drop hB _) (by rw [List.length_drop]; omega) (by rw [List.length_drop]; omega)]
theorem faultI_step {l : List Int} (hB : allB l = true) (hne : l ≠ []) :
    faultI l = if Good (decI l) then (if faultI (l.drop (decI l).2) < 0 then -1 else ((decI l).2 : Nat) + faultI (l.drop (decI l).2)) else 0 := by
  have hl : 0 < l.length := List.length_pos_iff.2 hne
  have hw := decI_width hB
  obtain ⟨n, hn⟩ : ∃ n, l.length = n + 1 := ⟨l.length - 1, by omega⟩
  conv => lhs; unfold faultI; rw [hn, faultL]
  rw [if_neg hne]
  by_cases hg : Good (decI l)
  · rw [if_pos hg, if_pos hg, faultL_shift n _ _ (by omega)]
    have : faultL n (l.drop (decI l).2) 0 = faultI (l.drop (decI l).2) := by
      unfold faultI
      exact faultL_fuel _ _ _ _ (allB_drop hB _) (by rw [List.length_drop]; omega) (Nat.le_refl _)
    rw [this]; simp
  · rw [if_neg hg, if_neg hg]
theorem faultI_nil : faultI [] = -1 := rfl

theorem fault_app : ∀ (cs : List Int), AllPt cs → ∀ x, allB x = true → faultI (layI cs ++ x) = if faultI x < 0 then -1 else ((layI cs).length : Int) + faultI x
  | [], _, x, hx => by
    rcases faultL_ge x.length x with h | h
    · have h' : faultI x = -1 := h
      simp [layI_nil, h']
    · have h' : 0 ≤ faultI x := h
      simp [layI_nil]; omega
  | c :: cs, hc, x, hx => by
    have hp := hc c (by simp)
    have ih := fault_app cs (fun y hy => hc y (by simp [hy])) x hx
    have hB : allB (putI c ++ (layI cs ++ x)) = true := by rw [allB_append, allB_putI, allB_append, allB_layI, hx]; rfl
    have hl := putI_len hp
    have hne : putI c ++ (layI cs ++ x) ≠ [] := fun h => by
      have := congrArg List.length h
      rw [List.length_append, hl] at this
      have := widI_le c
      simp at *
      omega
    have hd := dec_put hp (layI cs ++ x)
    have hg : Good (decI (putI c ++ (layI cs ++ x))) := by
      rw [hd]
      intro ⟨h1, h2⟩
      simp only at h1 h2
      have : c = 65533 := by omega
      subst this
      have : widI 65533 = 3 := by decide
      omega
    have hdr : (putI c ++ (layI cs ++ x)).drop (widI c) = layI cs ++ x := by rw [← hl, List.drop_left]
    rw [layI_cons, List.append_assoc, faultI_step hB hne, if_pos hg, hd]
    simp only
    rw [hdr, ih, List.length_append, hl]
    rcases faultL_ge x.length x with h | h
    · have h' : faultI x = -1 := h
      rw [h']; simp
    · have h' : 0 ≤ faultI x := h
      rw [if_neg (show ¬ faultI x < 0 by omega), if_neg (show ¬ faultI x < 0 by omega), if_neg (by omega)]
      omega

theorem fault_split : ∀ (n : Nat) (l : List Int), l.length ≤ n → allB l = true → 0 ≤ faultI l → ∃ cs r, AllPt cs ∧ l = layI cs ++ r ∧ ((layI cs).length : Int) = faultI l ∧ r ≠ [] ∧ ¬ Good (decI r)
  | 0, l, hn, hB, hf => by
    have : l = [] := List.eq_nil_of_length_eq_zero (by omega)
    subst this
    rw [faultI_nil] at hf; omega
  | n + 1, l, hn, hB, hf => by
    by_cases hne : l = []
    · subst hne; rw [faultI_nil] at hf; omega
    · have hl : 0 < l.length := List.length_pos_iff.2 hne
      have hs := faultI_step hB hne
      by_cases hg : Good (decI l)
      · rw [if_pos hg] at hs
        obtain ⟨c, hc, hd, ht, hle⟩ := dec_good_I hne (allB_take hB 4) hg
        have hw := widI_le c
        rw [hd] at hs
        simp only at hs
        have hf2 : 0 ≤ faultI (l.drop (widI c)) := by
          by_cases h : faultI (l.drop (widI c)) < 0
          · rw [if_pos h] at hs; omega
          · omega
        rw [if_neg (by omega)] at hs
        obtain ⟨cs, r, h1, h2, h3, h4, h5⟩ := fault_split n (l.drop (widI c)) (by rw [List.length_drop]; omega) (allB_drop hB _) hf2
        refine ⟨c :: cs, r, fun y hy => ?_, ?_, ?_, h4, h5⟩
        · rcases List.mem_cons.1 hy with rfl | hy
          · exact hc
          · exact h1 y hy
        · rw [layI_cons, List.append_assoc, ← h2, ← ht, List.take_append_drop]
        · rw [layI_cons, List.length_append, putI_len hc]; omega
      · rw [if_neg hg] at hs
        exact ⟨[], l, fun _ h => (by cases h), by simp [layI_nil], by rw [hs]; rfl, hne, hg⟩

theorem open_dec {r : List Int} (hB : allB r = true) (hne : r ≠ []) (hg : ¬ Good (decI r)) (ho : openI r = false) (m : List Int) (hm : allB m = true) : ¬ Good (decI (r ++ m)) ∧ openI (r ++ m) = false := by
  have hBm : allB (r ++ m) = true := by rw [allB_append, hB, hm]; rfl
  have hnm : r ++ m ≠ [] := fun h => hne (List.append_eq_nil_iff.1 h).1
  have hno : ¬ OpenS r := fun h => by rw [open_of hne h] at ho; cases ho
  refine ⟨fun hgm => ?_, ?_⟩
  · obtain ⟨c, hc, hd, ht, hle⟩ := dec_good_I hnm (allB_take hBm 4) hgm
    by_cases hw : widI c ≤ r.length
    · rw [List.take_append_of_le_length hw] at ht
      have := dec_put hc (r.drop (widI c))
      rw [← ht, List.take_append_drop] at this
      apply hg
      rw [this]
      intro ⟨h1, h2⟩
      simp only at h1 h2
      have h0 : 0 ≤ c := by unfold Pt at hc; omega
      have : c = 65533 := by omega
      subst this
      have : widI 65533 = 3 := by decide
      omega
    · refine hno ⟨c, m.take (widI c - r.length), hc, fun h => ?_, ?_⟩
      · have := congrArg List.length ht
        have h2 := congrArg List.length h
        rw [List.length_take, List.length_nil] at h2
        rw [List.length_append] at hle
        omega
      · rw [← ht, List.take_append, List.take_of_length_le (by omega)]
  · by_cases h : openI (r ++ m) = true
    · obtain ⟨c, q, hc, hq, he⟩ := open_to hBm h
      exact absurd ⟨c, m ++ q, hc, fun h => hq (List.append_eq_nil_iff.1 h).2, by rw [he, List.append_assoc]⟩ hno
    · simpa using h

theorem look_app (cs : List Int) (hcs : AllPt cs) (x : List Int) (hx : allB x = true) (hlen : (layI cs).length + x.length ≤ 9223372036854775807) :
    lookB ((layI cs).length : Int) (-1) x = stB (layI cs ++ x) ∧ lookP x = stP (layI cs ++ x) := by
  have ha := fault_app cs hcs x hx
  unfold stP lookB lookP stB
  rw [ha]
  rcases faultI_valid hx with h | h
  · rw [h.2]; simp
  · have h0 : ¬ faultI x < 0 := by omega
    have h1 : ¬ ((layI cs).length : Int) + faultI x < 0 := by omega
    have hdr : (layI cs ++ x).drop (((layI cs).length : Int) + faultI x).toNat = x.drop (faultI x).toNat := by
      rw [show (((layI cs).length : Int) + faultI x).toNat = (layI cs).length + (faultI x).toNat by omega, List.drop_append, List.drop_eq_nil_of_le (by omega), List.nil_append]
      congr 1; omega
    have hw : wrap64 (((layI cs).length : Int) + faultI x) = ((layI cs).length : Int) + faultI x := by unfold wrap64; omega
    simp only [if_neg h0, if_neg h1, hdr, hw]
    refine ⟨?_, ?_⟩ <;> first | rfl | trivial

theorem st_feed (l m : List Int) (hl : allB l = true) (hm : allB m = true) (hlen : l.length + m.length ≤ 9223372036854775807) :
    feedB (l.length : Int) (stB l) (stP l) m = stB (l ++ m) ∧ feedP (stB l) (stP l) m = stP (l ++ m) := by
  rcases faultI_valid hl with ⟨hv, hf⟩ | ⟨hv, hf0, hf1⟩
  · obtain ⟨cs, hcs, rfl⟩ := valid_lay l.length l (Nat.le_refl _) hl hv
    have h1 : stB (layI cs) = -1 := by unfold stB; rw [hf]; rfl
    have h2 : stP (layI cs) = [] := by unfold stP lookP; rw [hf]; rfl
    unfold feedB feedP
    rw [h1, h2, if_neg (by decide), if_neg (by decide)]
    simpa using look_app cs hcs m hm hlen
  · obtain ⟨cs, r, hcs, he, hlr, hne, hg⟩ := fault_split l.length l (Nat.le_refl _) hl hf0
    have hdr : l.drop (faultI l).toNat = r := by
      rw [show (faultI l).toNat = (layI cs).length by omega]
      conv => lhs; rw [he]
      rw [List.drop_left]
    have hBr : allB r = true := by rw [← hdr]; exact allB_drop hl _
    have hll : l.length = (layI cs).length + r.length := by conv => lhs; rw [he, List.length_append]
    have hf : ¬ faultI l < 0 := by omega
    by_cases ho : openI r = true
    · have h1 : stB l = -1 := by unfold stB; rw [if_neg hf, hdr, if_pos ho]
      have h2 : stP l = r := by unfold stP lookP; rw [if_neg hf, hdr, if_pos ho]
      unfold feedB feedP
      rw [h1, h2, if_neg (by decide), if_neg (by decide)]
      have := look_app cs hcs (r ++ m) (by rw [allB_append, hBr, hm]; rfl) (by rw [List.length_append]; omega)
      rw [← List.append_assoc, ← he] at this
      rw [show (l.length : Int) - (r.length : Int) = ((layI cs).length : Int) by omega]
      exact this
    · rw [Bool.not_eq_true] at ho
      have h1 : stB l = faultI l := by unfold stB; rw [if_neg hf, hdr, if_neg (by simp [ho])]
      have h2 : stP l = [] := by unfold stP lookP; rw [if_neg hf, hdr, if_neg (by simp [ho])]
      unfold feedB feedP
      rw [h1, h2, if_pos hf0, if_pos hf0]
      obtain ⟨hg2, ho2⟩ := open_dec hBr hne hg ho m hm
      have hB2 : allB (r ++ m) = true := by rw [allB_append, hBr, hm]; rfl
      have hf2 : faultI (r ++ m) = 0 := by rw [faultI_step hB2 (fun h => hne (List.append_eq_nil_iff.1 h).1), if_neg hg2]
      have hfa : faultI (l ++ m) = faultI l := by
        have := fault_app cs hcs (r ++ m) hB2
        rw [hf2, if_neg (by omega), ← List.append_assoc, ← he] at this
        omega
      have hd2 : (l ++ m).drop (faultI l).toNat = r ++ m := by
        rw [show (faultI l).toNat = (layI cs).length by omega]
        conv => lhs; rw [he, List.append_assoc]
        rw [List.drop_left]
      unfold stB stP lookP
      rw [hfa, if_neg hf, hd2, if_neg (by simp [ho2]), if_neg hf, if_neg (by simp [ho2])]
      exact ⟨rfl, rfl⟩

theorem st_end (l : List Int) (hl : allB l = true) (hlen : l.length ≤ 9223372036854775807) : endI (l.length : Int) (stB l) (stP l) = faultI l := by
  unfold endI stB stP lookP
  rcases faultI_valid hl with ⟨hv, hf⟩ | ⟨hv, hf0, hf1⟩
  · rw [hf]; simp
  · have hf : ¬ faultI l < 0 := by omega
    rw [if_neg hf, if_neg hf]
    by_cases ho : openI (l.drop (faultI l).toNat) = true
    · rw [if_pos ho, if_pos ho, List.length_drop, if_pos ⟨by decide, by omega⟩]
      unfold wrap64
      omega
    · rw [if_neg ho, if_neg ho, if_neg (by simp)]
end Go.Proofs.YtnaaimnmphcilaaDoor.Hand

namespace Go.Proofs.YtnaaimnmphcilaaDoor.Hand
open Go.RowKit Go.Proofs.YtnaaimnmphcilaaDoor.RefB Go.Proofs.YtnaaimnmphcilaaDoorW.PrintWords Go.Proofs.YtnaaimnmphcilaaDoorW.PrintLast Go.Proofs.YtnaaimnmphcilaaDoorW.PrintMore
set_option linter.unusedVariables false
set_option linter.unusedSimpArgs false

theorem tails_B : ∀ (n : Nat), ∀ t ∈ tailsI n, allB t = true
  | 0, t, h => by simp [tailsI] at h; rw [h]; rfl
  | n + 1, t, h => by
    simp only [tailsI, extI, List.mem_flatMap] at h
    obtain ⟨u, hu, ht⟩ := h
    have := tails_B n u hu
    simp at ht
    rcases ht with rfl | rfl | rfl | rfl | rfl | rfl | rfl | rfl <;> (rw [allB_append, this]; rfl)
theorem tails_mem {n : Nat} {t : List Int} (h : t ∈ tailsI n) (z : Int) (hz : z = 128 ∨ z = 144 ∨ z = 160) : t ++ [z] ∈ tailsI (n + 1) := by
  simp only [tailsI, extI, List.mem_flatMap]
  refine ⟨t, h, ?_⟩
  rcases hz with rfl | rfl | rfl <;> simp
theorem tails_0 : ([] : List Int) ∈ tailsI 0 := by simp [tailsI]
theorem tails_1 : ([128] : List Int) ∈ tailsI 1 := tails_mem tails_0 128 (.inl rfl)
theorem tails_2 : ([128, 128] : List Int) ∈ tailsI 2 := tails_mem tails_1 128 (.inl rfl)
theorem tails_2' : ([160, 128] : List Int) ∈ tailsI 2 := tails_mem (tails_mem tails_0 160 (.inr (.inr rfl))) 128 (.inl rfl)
theorem tails_3 : ([128, 128, 128] : List Int) ∈ tailsI 3 := tails_mem tails_2 128 (.inl rfl)
theorem tails_3' : ([144, 128, 128] : List Int) ∈ tailsI 3 := tails_mem (tails_mem (tails_mem tails_0 144 (.inr (.inl rfl))) 128 (.inl rfl)) 128 (.inl rfl)

theorem open_told {r : List Int} (hB : allB r = true) (h : openI r = true) : ∃ c q, Pt c ∧ q ≠ [] ∧ putI c = r ++ q ∧ q ∈ tailsI q.length := by
  have hl := open_4 h
  match r, hl with
  | [x], _ =>
    have hx := allB_mem hB x (by simp)
    have h := (open_1 x hx.1 hx.2).1 h
    by_cases a : x < 224
    · exact ⟨(x - 192) * 64, [128], by unfold Pt; omega, by simp, by rw [putI_2 (by unfold Pt; omega) (by omega) (by omega)]; simp; omega, tails_1⟩
    · by_cases b : x = 224
      · exact ⟨2048, [160, 128], by unfold Pt; omega, by simp, by rw [putI_3 (by unfold Pt; omega) (by omega) (by omega)]; simp; omega, tails_2'⟩
      · by_cases c : x < 240
        · exact ⟨(x - 224) * 4096, [128, 128], by unfold Pt; omega, by simp, by rw [putI_3 (by unfold Pt; omega) (by omega) (by omega)]; simp; omega, tails_2⟩
        · by_cases d : x = 240
          · exact ⟨65536, [144, 128, 128], by unfold Pt; omega, by simp, by rw [putI_4 (by unfold Pt; omega) (by omega)]; simp; omega, tails_3'⟩
          · exact ⟨(x - 240) * 262144, [128, 128, 128], by unfold Pt; omega, by simp, by rw [putI_4 (by unfold Pt; omega) (by omega)]; simp; omega, tails_3⟩
  | [x, y], _ =>
    have hx := allB_mem hB x (by simp)
    have hy := allB_mem hB y (by simp)
    have h := (open_2 x y hx.1 hx.2 hy.1 hy.2).1 h
    unfold okI at h
    by_cases c : x < 240
    · exact ⟨(x - 224) * 4096 + (y - 128) * 64, [128], by unfold Pt; omega, by simp, by rw [putI_3 (by unfold Pt; omega) (by omega) (by omega)]; simp; omega, tails_1⟩
    · exact ⟨(x - 240) * 262144 + (y - 128) * 4096, [128, 128], by unfold Pt; omega, by simp, by rw [putI_4 (by unfold Pt; omega) (by omega)]; simp; omega, tails_2⟩
  | [x, y, z], _ =>
    have hx := allB_mem hB x (by simp)
    have hy := allB_mem hB y (by simp)
    have hz := allB_mem hB z (by simp)
    have h := (open_3 x y z hx.1 hx.2 hy.1 hy.2 hz.1 hz.2).1 h
    unfold okI at h
    exact ⟨(x - 240) * 262144 + (y - 128) * 4096 + (z - 128) * 64, [128], by unfold Pt; omega, by simp, by rw [putI_4 (by unfold Pt; omega) (by omega)]; simp; omega, tails_1⟩
  | [], hl => exact absurd hl (by simp)
  | _ :: _ :: _ :: _ :: _, hl => exact absurd hl (by simp)

theorem good_pt {c : Int} (hc : Pt c) : Good (c.toNat, widI c) := by
  intro ⟨h1, h2⟩
  simp only at h1 h2
  have h0 : 0 ≤ c := by unfold Pt at hc; omega
  have : c = 65533 := by omega
  subst this
  have : widI 65533 = 3 := by decide
  omega
/-- Open bytes and some tail are one code point .. -/
theorem open_one {r : List Int} (hB : allB r = true) (h : openI r = true) : ∃ n, 1 ≤ n ∧ n + r.length ≤ 4 ∧ ∃ t ∈ tailsI n, (RefB.oneI (r ++ t)).2 = ((n + r.length : Nat) : Int) := by
  obtain ⟨c, q, hc, hq, he, hm⟩ := open_told hB h
  have hl := congrArg List.length he
  rw [putI_len hc, List.length_append] at hl
  have hw := widI_le c
  have hq0 : 0 < q.length := List.length_pos_iff.2 hq
  refine ⟨q.length, by omega, by omega, q, hm, ?_⟩
  have hd := dec_put hc []
  rw [List.append_nil, he] at hd
  unfold RefB.oneI
  rw [if_pos (by rw [hd]; exact good_pt hc), hd]
  simp only
  omega
/-- .. and no others. -/
theorem one_open {r : List Int} (hB : allB r = true) (hne : r ≠ []) {n : Nat} (hn : 1 ≤ n) {t : List Int} (ht : t ∈ tailsI n) (h : (RefB.oneI (r ++ t)).2 = ((n + r.length : Nat) : Int)) : openI r = true := by
  have hBt : allB (r ++ t) = true := by rw [allB_append, hB, tails_B n t ht]; rfl
  have hnt : r ++ t ≠ [] := fun e => hne (List.append_eq_nil_iff.1 e).1
  have htl := tailsI_each n t ht
  have hr0 : 0 < r.length := List.length_pos_iff.2 hne
  by_cases hg : Good (decI (r ++ t))
  · obtain ⟨c, hc, hd, hp, hle⟩ := dec_good_I hnt (allB_take hBt 4) hg
    unfold RefB.oneI at h
    rw [if_pos hg, hd] at h
    simp only at h
    have hlen : widI c = (r ++ t).length := by rw [List.length_append, htl]; omega
    rw [hlen, List.take_length] at hp
    exact open_of hne ⟨c, t, hc, fun e => by rw [e] at htl; simp at htl; omega, hp.symm⟩
  · rw [oneI_bad hg] at h
    simp only at h
    omega
theorem open_fault {r : List Int} (hB : allB r = true) (h : openI r = true) : faultI r = 0 := by
  obtain ⟨c, q, hc, hq, he⟩ := open_to hB h
  have hl := congrArg List.length he
  rw [putI_len hc, List.length_append] at hl
  have hq0 : 0 < q.length := List.length_pos_iff.2 hq
  have hne : r ≠ [] := fun e => by subst e; simp [openI] at h
  have hg : ¬ Good (decI r) := fun hg => by
    obtain ⟨c', hc', hd', ht, hle⟩ := dec_good_I hne (allB_take hB 4) hg
    have h1 := dec_put hc []
    rw [List.append_nil, he] at h1
    have h2 := dec_put hc' (r.drop (widI c') ++ q)
    rw [← List.append_assoc, ← ht, List.take_append_drop, h1] at h2
    injection h2 with _ h3
    omega
  rw [faultI_step hB hne, if_neg hg]

/-- gessoref01.Fault by faultI. -/
theorem rfault_loop : ∀ (n : Nat) (rest pre : List Int) (k : Nat), rest.length ≤ n → rest.length + 25 ≤ k → allB rest = true → (pre ++ rest).length ≤ 9223372036854775807 →
    QB.gessoref01_Fault.l0 k (pre ++ rest) (pre.length : Int) = some (faultL n rest pre.length)
  | n, [], pre, k, hn, hk, hB, hl => by
    obtain ⟨k, rfl⟩ : ∃ m, k = m + 1 := ⟨k - 1, by omega⟩
    simp only [QB.gessoref01_Fault.l0, List.append_nil]
    rw [if_neg (by omega)]
    cases n <;> simp [faultL]
  | 0, c :: rest, pre, k, hn, hk, hB, hl => by simp at hn
  | n + 1, c :: rest, pre, k, hn, hk, hB, hl => by
    obtain ⟨k, rfl⟩ : ∃ m, k = m + 1 := ⟨k - 1, by omega⟩
    have hlen : (pre ++ c :: rest).length = pre.length + (c :: rest).length := by simp
    have hpos : 0 < (c :: rest).length := by simp
    rw [QB.gessoref01_Fault.l0, if_pos (by omega), if_pos (by omega), if_pos (by omega), Int.toNat_natCast, List.drop_left]
    generalize hr : c :: rest = r at *
    have hne : r ≠ [] := by rw [← hr]; simp
    rw [one_f r hB hne k (by omega)]
    simp only [Option.bind_some]
    unfold faultL
    rw [if_neg hne]
    have hw := decI_width hB
    by_cases hg : Hand.Good (decI r)
    · obtain ⟨c', hc', h1, h2, h3⟩ := oneI_good hB hne hg
      have hwi := widI_le c'
      rw [if_pos hg, h1]
      simp only
      rw [if_neg (by omega), RefB.wrap_id (by omega) (by omega), h2]
      simp only
      have := rfault_loop n (r.drop (widI c')) (pre ++ r.take (widI c')) k (by rw [List.length_drop]; omega) (by rw [List.length_drop]; omega) (allB_drop hB _) (by rw [List.append_assoc, List.take_append_drop]; exact hl)
      rw [List.append_assoc, List.take_append_drop, List.length_append, List.length_take, show min (widI c') r.length = widI c' by omega, Int.natCast_add] at this
      exact this
    · rw [if_neg hg, oneI_bad hg]
      simp
theorem rfault_f (l : List Int) (k : Nat) (hk : l.length + 25 ≤ k) (hB : allB l = true) (hl : l.length ≤ 9223372036854775807) : QB.gessoref01_Fault.f k l = some (faultI l) := by
  have := rfault_loop l.length l [] k (Nat.le_refl _) hk hB (by simpa using hl)
  unfold QB.gessoref01_Fault.f faultI
  simpa using this
theorem rfault_calls (A : Option Addr) (c : Nat) (l : List Int) (w : World) (hr : Kd.C (Kd.int .u8) w A l.length l) (hc : l.length ≤ c) (hB : allB l = true) :
    Calls Tryd.prog 37 #[.slice A l.length c] w fun e w' => e = .returned (.int .i64 (faultI l)) ∧ Below w.heap.size w w' :=
  QB.gessoref01_Fault.calls (l.length + 25) A c l (faultI l) w hr hc (rfault_f l _ (Nat.le_refl _) hB hr.2.1)
theorem rone_calls (A : Option Addr) (c : Nat) (l : List Int) (w : World) (hr : Kd.C (Kd.int .u8) w A l.length l) (hc : l.length ≤ c) (hB : allB l = true) (hne : l ≠ []) :
    Calls Tryd.prog 39 #[.slice A l.length c] w fun e w' => e = .returned (.tuple #[.int .u32 (RefB.oneI l).1, .int .i64 (RefB.oneI l).2]) ∧ Below w.heap.size w w' :=
  QA.gessoref01_One.calls 20 A c l _ _ w hr hc (one_f l hB hne 20 (Nat.le_refl _))
end Go.Proofs.YtnaaimnmphcilaaDoor.Hand

namespace Go.Proofs.YtnaaimnmphcilaaDoor.Hand
open Go.RowKit Go.Proofs.YtnaaimnmphcilaaDoorW.PrintWords Go.Proofs.YtnaaimnmphcilaaDoorW.PrintLast Go.Proofs.YtnaaimnmphcilaaDoorW.PrintMore
set_option linter.unusedVariables false
set_option linter.unusedSimpArgs false

theorem R_new_nil {W : World} {o : Obj} (ho : o = .cells #[] 5) : Kd.R (Kd.int .u8) 5 (W.alloc o) W.heap.size (fun _ => True) (.slice (some ⟨W.heap.size, 0, none⟩) 0 0) [] := by
  subst ho
  exact ⟨fun _ _ => trivial, [], World.ownsRow_made W #[] 0 (Nat.le_refl _) (Nat.zero_le _) rfl, Reps.none _ _⟩

theorem len_two {l xs : List Int} {p q : Nat} (hp : l.length = p) (hq : xs.length = q) : (([] : List Int) ++ l ++ xs).length = p + q := by simp [hp, hq]
theorem rone_at (A : Option Addr) (c : Nat) (l : List Int) (n : Nat) (w : World) {e base : Nat} {ok : Nat → Prop} (hr : Kd.R (Kd.int .u8) e w base ok (.slice A n c) l) (hB : allB l = true) (hne : l ≠ []) :
    Calls Tryd.prog 39 #[.slice A n c] w fun e w' => e = .returned (.tuple #[.int .u32 (RefB.oneI l).1, .int .i64 (RefB.oneI l).2]) ∧ Below w.heap.size w w' := by
  obtain ⟨hn, hc, hC⟩ := Kd.R_reads' hr
  subst hn
  exact rone_calls A c l w hC hc hB hne

set_option maxHeartbeats 2000000 in
theorem refopen_short (A : Option Addr) (c n : Nat) (w : World) (hn : n = 0 ∨ 3 < n) :
    Calls Tryd.prog 19 #[.slice A n c] w fun e w' => e = .returned (.bool false) ∧ Below w.heap.size w w' := by
  rcases hn with h | h
  · have h1 : (n : Int) < 1 := by omega
    clear h
    go_enter Tryd.func19, Tryd.ntmps19
    go_wp2
    go_ret
    exact ⟨rfl, Below.refl _ _⟩
  · have h1 : ¬ (n : Int) < 1 := by omega
    have h2 : (n : Int) > 3 := by omega
    clear h
    go_enter Tryd.func19, Tryd.ntmps19
    go_wp2
    go_ret
    exact ⟨rfl, Below.refl _ _⟩

set_option maxHeartbeats 4000000 in
theorem refopen_long (A : Option Addr) (c : Nat) (l : List Int) (w : World) (hr : Kd.C (Kd.int .u8) w A l.length l) (hc : l.length ≤ c) (hB : allB l = true) (h1 : 1 ≤ l.length) (h3 : l.length ≤ 3) :
    Calls Tryd.prog 19 #[.slice A l.length c] w fun e w' => e = .returned (.bool (openI l)) ∧ Below w.heap.size w w' := by
  have cF := rfault_calls A c l w hr hc hB
  have HR := Aside0.mk hr
  have HC := Aside0.mk hc
  have HB0 := Aside0.mk hB
  have hne : l ≠ [] := fun e => by rw [e] at h1; simp at h1
  have HNE := Aside0.mk hne
  have HOF := Aside0.mk (open_fault hB)
  have HO1 := Aside0.mk (open_one hB)
  obtain ⟨p, hp⟩ : ∃ p, l.length = p := ⟨_, rfl⟩
  have HP := Aside0.mk hp
  rw [hp] at cF h1 h3
  rw [hp]
  have g1 : ¬ (p : Int) < 1 := by omega
  have g2 : ¬ (p : Int) > 3 := by omega
  by_cases hf : faultI l < 0
  · have hno : openI l = false := by
      cases ho : openI l with
      | false => rfl
      | true => have := HOF.out ho; omega
    rw [hno]
    clear hr hc hB hne hp hno
    generalize faultI l = f at *
    go_enter Tryd.func19, Tryd.ntmps19
    go_wp2_with (go_at_call 37; refine cF.mono ?_; rintro e w1 ⟨rfl, hb1⟩)
    go_ret
    exact ⟨rfl, hb1⟩
  · clear hr hc hB hne hp HOF
    generalize faultI l = f at *
    have H1 := Aside0.mk h1
    have H3 := Aside0.mk h3
    clear h1 h3
    go_enter Tryd.func19, Tryd.ntmps19
    go_wp2_with (go_at_call 37; refine cF.mono ?_; rintro e w1 ⟨rfl, hb1⟩)
    have HB1 := Aside0.mk hb1
    clear hb1
    go_loopg [3] 5 (fun gk i wr => ∃ n : Nat, Aside0 (gk + n = 6 ∧ 1 ≤ n) ∧ i = .int .i64 n ∧ Aside0 (Below w.heap.size w wr) ∧ Aside0 (∀ n', 1 ≤ n' → n' < n → ∀ t ∈ tailsI n', (RefB.oneI (l ++ t)).2 ≠ ((n' + l.length : Nat) : Int)))
    case atStart => exact ⟨1, ⟨rfl, Nat.le_refl _⟩, rfl, HB1, ⟨fun n' h1 h2 => by omega⟩⟩
    case round =>
      obtain ⟨n, HK, rfl, HB, HNO⟩ := hrel
      clear HB1
      by_cases hn : n + p ≤ 4
      · have hn1 := HK.out.2
        have HH1 := H1.out
        have hs : wrap64 ((n : Int) + (p : Int)) = (n : Int) + (p : Int) := by unfold wrap64; omega
        have hle : (n : Int) + (p : Int) ≤ 4 := by omega
        have HN3 : Aside0 (n ≤ 3) := ⟨by omega⟩
        have HNP : Aside0 (n + p ≤ 4) := ⟨hn⟩
        have hwn : wrap64 ((n : Int) + 1) = (n : Int) + 1 := by unfold wrap64; omega
        clear hn1 HH1
        go_wp2_with (go_at_call 38; (with_reducible refine (tails_calls n HN3.out _).mono ?_); rintro e w2 ⟨v, rfl, ⟨ts, hR, hI⟩, hb2⟩; obtain ⟨A3, c3, rfl⟩ := Kd.R_slice hR; have HRR := Aside0.mk hR; have HII := Aside0.mk hI; have HB2 := Aside0.mk (HB.out.trans (hb2.mono HB.out.size)); have HS2 : Aside0 (w.heap.size ≤ w2.heap.size) := ⟨Nat.le_trans HB.out.size hb2.size⟩; clear hR hI hb2)
        have HLT : Aside0 (ts.length = (tailsI n).length) := ⟨HII.out.1⟩
        have HLB : Aside0 (ts.length ≤ 512) := ⟨by rw [HLT.out, tailsI_len]; exact Nat.pow_le_pow_right (n := 8) (by decide) HN3.out⟩
        obtain ⟨L, hL⟩ : ∃ L, ts.length = L := ⟨_, rfl⟩
        have HL := Aside0.mk hL
        rw [hL] at HRR ⊢
        rw [hL] at HLT HLB
        clear hL
        go_loopg [5] L (fun gk2 i wx => ∃ m : Nat, Aside0 (gk2 + m = L) ∧ i = .int .i64 m ∧ Aside0 (Below w2.heap.size w2 wx) ∧ Aside0 (∀ j, j < m → ∀ t, (tailsI n)[j]? = some t → (RefB.oneI (l ++ t)).2 ≠ ((n + l.length : Nat) : Int)))
        case atStart => exact ⟨0, ⟨rfl⟩, rfl, ⟨Below.refl _ _⟩, ⟨fun j hj => by omega⟩⟩
        case round =>
          obtain ⟨m, HM, rfl, HB3, HNO2⟩ := hrel
          by_cases hm : m < L
          · have hmi : (m : Int) < (L : Int) := by omega
            have hmi0 : (0 : Int) ≤ (m : Int) := by omega
            have hwm : wrap64 ((m : Int) + 1) = (m : Int) + 1 := by unfold wrap64; have := HLB.out; omega
            have hmt : m < ts.length := by rw [HL.out]; exact hm
            have hmx : m < (tailsI n).length := by rw [← HLT.out]; exact hm
            obtain ⟨ad, c', hv⟩ := Kd.R_slice1 HRR.out (by rw [HL.out]; omega)
            injection hv with e1 e2 e3
            subst e1
            subst e3
            clear e2
            obtain ⟨g, rfl⟩ := Kd.R_head HRR.out
            obtain ⟨t, ht⟩ : ∃ t, ts[m]? = some t := ⟨ts[m], by simp [hmt]⟩
            obtain ⟨xs, hxs⟩ : ∃ xs, (tailsI n)[m]? = some xs := ⟨(tailsI n)[m], by simp [hmx]⟩
            have HT0 := HII.out.2 m t xs ht hxs
            obtain ⟨ta, tn, tc⟩ := t
            obtain ⟨htn, htc, hCt⟩ := Kd.R_reads' HT0
            subst htn
            have hcell : w2.cell? ⟨g, m, none⟩ = some (.slice ta xs.length tc) := by
              have hh := HRR.out
              rw [← HL.out] at hh
              have h2 := (Kd.R_cell (enc := encS) (h1 := fun _ => rfl) (none, 0, 0) hh (m : Int) (by omega) (by omega)).1
              rw [Int.toNat_natCast] at h2
              rw [h2]
              simp [rdOf, List.getD, ht, encS]
            have HCT := Aside0.mk (Kd.C_below hCt HB3.out)
            have HXM := Aside0.mk (List.mem_of_getElem? hxs)
            have HXS := Aside0.mk hxs
            have HXL : Aside0 (xs.length = n) := ⟨tailsI_each n xs HXM.out⟩
            have hcx := pw_cell_below HB3.out hcell
            obtain ⟨q, hq⟩ : ∃ q, xs.length = q := ⟨_, rfl⟩
            have HQ := Aside0.mk hq
            rw [hq] at hcx HCT
            have HRL : Aside0 (Kd.C (Kd.int .u8) wr A p l) := ⟨by have := Kd.C_below HR.out ((HB2.out.trans (HB3.out.mono HS2.out))); rw [HP.out] at this; exact this⟩
            have HTX : Aside0 (Kd.C (Kd.int .u8) wr ta q xs) := HCT
            have HBW : Aside0 (Below w.heap.size w wr) := ⟨HB2.out.trans (HB3.out.mono HS2.out)⟩
            have HQP : Aside0 (q + p ≤ 4) := ⟨by have := HXL.out; have := HNP.out; have := HQ.out; omega⟩
            have HBL : Aside0 (allB (l ++ xs) = true) := ⟨by rw [allB_append, HB0.out, tails_B n xs HXM.out]; rfl⟩
            have HNL : Aside0 (l ++ xs ≠ []) := ⟨fun e => HNE.out (List.append_eq_nil_iff.1 e).1⟩
            clear hcell hxs ht hmt hmx hq hCt htc HT0
            go_wp2
            generalize hWX : wr = wx at *
            go_region_held3 (fun w' => w'.cell? ⟨g, m, none⟩ = some (.slice ta q tc)) (first | exact e2_ | exact e1_ | exact e0_ | exact hcx | go_keep)
              (first | ((refine Kd.R_append_rows_step (Kd.int .u8) (w0 := wx) wx.heap.size (by rfl) (.tmp 37) (.tmp 38) 23 5 (.int .u8 0) 1 (by rfl) Tryd.underlying23 info5 rfl (by decide) (by decide) (.slice (some ⟨wx.heap.size, 0, none⟩) 0 0) [] l A p c (fun _ => True) (fun _ => False) (by rfl) (by rfl) (R_new_nil rfl) (Kd.C_below HRL.out (below_alloc (below_drew (Below.refl _ _)) _)) (fun _ _ h => h) (fun _ h => h.elim) (fun _ _ => trivial) (below_alloc (below_drew (Below.refl _ _)) _) (below_alloc (below_drew (Below.refl _ _)) _).size (by have := HQP.out; simp; omega) ?_; intro v1_ w1_ ho1_ hb1_ hg1_ _; have e0_ := pw_cell_below hb1_ hcx)) | ((refine Kd.R_append_rows_step (Kd.int .u8) (w0 := wx) wx.heap.size (by rfl) (.tmp 39) (.tmp 43) 23 5 (.int .u8 0) 1 (by rfl) Tryd.underlying23 info5 rfl (by decide) (by decide) v1_ ([] ++ l) xs ta q tc (fun _ => True) (fun _ => False) (by rfl) (by rfl) ho1_ (Kd.C_below HTX.out hb1_) (fun _ _ h => h) (fun _ h => h.elim) (fun _ _ => trivial) hb1_ hb1_.size (by have := HQP.out; have := HP.out; simp; omega) ?_; intro v2_ w2_ ho2_ hb2_ hg2_ _; have e1_ := pw_cell_below hb2_ hcx; obtain ⟨A2_, c2_, eq2_⟩ := Kd.R_slice ho2_; rw [len_two HP.out HQ.out] at eq2_; subst eq2_; have HO2 := Aside0.mk ho2_; have HBB := Aside0.mk hb2_; clear ho1_ hb1_ hg1_ hg2_ e0_ ho2_ hb2_)) | (go_at_call 39; (with_reducible refine (rone_at A2_ c2_ (l ++ xs) (p + q) _ HO2.out HBL.out HNL.out).mono ?_); rintro e w3_ ⟨rfl, hb3_⟩; have e2_ := pw_cell_below hb3_ e1_; have HB4 := Aside0.mk (HBW.out.trans ((HBB.out.trans (hb3_.mono HBB.out.size)).mono HBW.out.size)); have HB5 := Aside0.mk (HB3.out.trans ((HBB.out.trans (hb3_.mono HBB.out.size)).mono HB3.out.size)); clear hb3_))
            obtain ⟨k1, hk1⟩ : ∃ k1, (RefB.oneI (l ++ xs)).1 = k1 := ⟨_, rfl⟩
            obtain ⟨k2, hk2⟩ : ∃ k2, (RefB.oneI (l ++ xs)).2 = k2 := ⟨_, rfl⟩
            rw [hk1, hk2]
            have HK2 := Aside0.mk hk2
            have HWX := Aside0.mk hWX
            clear hk1 hk2 hWX hcx e1_ e2_
            by_cases hk : k2 = (n : Int) + (p : Int)
            · subst hk
              have hyes : openI l = true := one_open HB0.out HNE.out HK.out.2 HXM.out (by rw [HK2.out, HP.out]; omega)
              have HY := Aside0.mk hyes
              clear hyes
              go_wp2
              go_ret
              exact ⟨by rw [HY.out]; rfl, HB4.out⟩
            · have HKN := Aside0.mk hk
              have hkb : (k2 == (n : Int) + (p : Int)) = false := beq_eq_false_iff_ne.2 hk
              clear hk
              go_wp2
              go_roundg (L - m - 1)
              case measure => have := HM.out; omega
              case rel => exact ⟨m + 1, ⟨by have := HM.out; omega⟩, by simp; exact hwm, HB5, ⟨fun j hj t' ht' he => by
                by_cases hjm : j = m
                · subst hjm
                  rw [HXS.out] at ht'
                  injection ht' with ht'
                  subst ht'
                  rw [HK2.out, HP.out] at he
                  exact HKN.out (by omega)
                · exact HNO2.out j (by omega) t' ht' he⟩⟩
          · have hmL : m = L := by have := HM.out; omega
            subst hmL
            go_wp2
            go_roundg (6 - n - 1)
            case measure => have := HK.out; omega
            case rel => exact ⟨n + 1, ⟨by have := HK.out; have := HN3.out; omega⟩, by simp, ⟨HB2.out.trans (HB3.out.mono HS2.out)⟩, ⟨fun n' h1 h2 t ht he => by
                by_cases hnn : n' = n
                · subst hnn
                  obtain ⟨j, hj⟩ := List.getElem?_of_mem ht
                  exact HNO2.out j (by have := (List.getElem?_eq_some_iff.1 hj).1; rw [HLT.out]; exact this) t hj he
                · exact HNO.out n' h1 (by omega) t ht he⟩⟩
      · have hs : wrap64 ((n : Int) + (p : Int)) = (n : Int) + (p : Int) := by have := HK.out; have := H3.out; unfold wrap64; omega
        have hle : ¬ (n : Int) + (p : Int) ≤ 4 := by omega
        have hno : openI l = false := by
          cases ho : openI l with
          | false => rfl
          | true =>
            obtain ⟨n', h1, h2, t, ht, he⟩ := HO1.out ho
            exact absurd he (HNO.out n' h1 (by have := HP.out; omega) t ht)
        have HY := Aside0.mk hno
        clear hno
        go_wp2
        go_ret
        exact ⟨by rw [HY.out]; rfl, HB.out⟩

theorem refopen_calls (A : Option Addr) (c : Nat) (l : List Int) (w : World) (hr : Kd.C (Kd.int .u8) w A l.length l) (hc : l.length ≤ c) (hB : allB l = true) :
    Calls Tryd.prog 19 #[.slice A l.length c] w fun e w' => e = .returned (.bool (openI l)) ∧ Below w.heap.size w w' := by
  by_cases h : 1 ≤ l.length ∧ l.length ≤ 3
  · exact refopen_long A c l w hr hc hB h.1 h.2
  · have : openI l = false := by unfold openI; rw [decide_eq_false (by omega), Bool.false_and]
    rw [this]
    exact refopen_short A c l.length w (by omega)
end Go.Proofs.YtnaaimnmphcilaaDoor.Hand

namespace Go.Proofs.YtnaaimnmphcilaaDoor.Hand
open Go.RowKit Go.Proofs.YtnaaimnmphcilaaDoorW.PrintWords Go.Proofs.YtnaaimnmphcilaaDoorW.PrintLast

def gessoref02_Open.f (l : List Int) : Option Bool := if allB l = true then some (openI l) else none
theorem gessoref02_Open.calls (A0 : Option Addr) (c0 : Nat) (l0 : List Int) (r : Bool) (w : World) (hr0 : Kd.C (Kd.int .u8) w A0 l0.length l0) (hc0 : l0.length ≤ c0) (h : gessoref02_Open.f l0 = some r) :
    Calls Tryd.prog 19 #[.slice A0 l0.length c0] w fun e w' => e = .returned (.bool r) ∧ Below w.heap.size w w' := by
  unfold gessoref02_Open.f at h
  split at h
  · rename_i hB
    injection h with h
    subst h
    exact refopen_calls A0 c0 l0 w hr0 hc0 hB
  · cases h
end Go.Proofs.YtnaaimnmphcilaaDoor.Hand
