/- Scans, by the reference, and the call of ScanFeeds. -/
import Derived.Test.YtnaaimnmphcilaaDoorProg
import Derived.Below
import Derived.Deep.Draws
import Derived.Deep.AppendLies
import Derived.Maps.AppendAt
import Derived.OwnWalk
import Derived.Laws.BytesArg
import Derived.Laws.MakeOwn
import Derived.Laws.OwnMore
import Derived.Deep.OwnRows
import Derived.Tactics
import Derived.Lib.ConvBytes
import Derived.Laws.Slices
import Derived.WalkKit
import Derived.KernelRfl
import Derived.RowKit3
import Derived.Deep.LoopGhost
import Derived.Deep.QuietTactic
import Derived.BigQuiet
import Derived.WideLaws
import Derived.Deep.DeepCutAuto
import Derived.Deep.CutBlock
import Derived.Deep.RegionHeld3
import Derived.Laws.Rows
import Derived.Lib.AppendStr
import Derived.ArgAppend
import Derived.Laws.IdiomCopy
import Derived.OrdersHeld
import Derived.Laws.BitsLemmas
import Derived.RowKit
import Derived.Test.YtnaaimnmphcilaaDoorGSf1
import Derived.Test.YtnaaimnmphcilaaDoorWWords
import Derived.Test.YtnaaimnmphcilaaDoorWLast
import Derived.Test.YtnaaimnmphcilaaDoorWTab
import Derived.Test.YtnaaimnmphcilaaDoorWFour
import Derived.Test.YtnaaimnmphcilaaDoorWQPut
import Derived.Test.YtnaaimnmphcilaaDoorWApart
import Derived.Test.YtnaaimnmphcilaaDoorWArr
import Derived.Test.YtnaaimnmphcilaaDoorWZeros
import Derived.Test.YtnaaimnmphcilaaDoorWFoot
import Derived.Test.YtnaaimnmphcilaaDoorWKept
import Derived.Test.YtnaaimnmphcilaaDoorWShare
import Derived.Test.YtnaaimnmphcilaaDoorWN
import Derived.Test.YtnaaimnmphcilaaDoorWFootNe
import Derived.Test.YtnaaimnmphcilaaDoorWAt
import Derived.Test.YtnaaimnmphcilaaDoorWEqStruct
import Derived.Test.YtnaaimnmphcilaaDoorWRepsOne
import Derived.Test.YtnaaimnmphcilaaDoorWInv
import Derived.Test.YtnaaimnmphcilaaDoorWInvWords
import Derived.Test.YtnaaimnmphcilaaDoorWGuard
import Derived.Test.YtnaaimnmphcilaaDoorWNEv
import Derived.Test.YtnaaimnmphcilaaDoorWMore
import Derived.BigRegion
import Derived.Deep.Slices
import Derived.ChangeArms
namespace Go.Proofs.YtnaaimnmphcilaaDoor.QC
open Go.Proofs.YtnaaimnmphcilaaDoor.Hand Go.Proofs.YtnaaimnmphcilaaDoor.QA Go.Proofs.YtnaaimnmphcilaaDoor.QB
open Go.RowKit Go.Proofs.YtnaaimnmphcilaaDoorW.PrintWords Go.Proofs.YtnaaimnmphcilaaDoorW.PrintLast Go.Proofs.YtnaaimnmphcilaaDoorW.PrintMore
attribute [local go_sem] max2_int min2_int max_two min_two max_three min_three max_four min_four   -- for this text's walks alone
set_option linter.unusedVariables false
set_option linter.unusedSimpArgs false



/-- A state of type 67 at block g of W; what its slices lead to came in by w0. -/
def IsS67 (w0 W : World) (g : Nat) (f0 : Int) (f1 : Int) (f2 : List Int) : Prop := ∃ A2 c2, W.heap[g]? = some (.cells #[.int .i64 f0, .int .i64 f1, .slice A2 f2.length c2] 67 (0, 0)) ∧ w0.heap.size ≤ g ∧ Kd.C (Kd.int .u8) w0 A2 f2.length f2
theorem IsS67.grown {w0 W : World} {g : Nat} {f0 : Int} {f1 : Int} {f2 : List Int} {W1 : World} {row : Option Nat} (h : IsS67 w0 W g f0 f1 f2) (hw : W.grownBy W1 row) (hne : some g ≠ row) : IsS67 w0 W1 g f0 f1 f2 := by
  obtain ⟨A2, c2, hb, hg, hr2⟩ := h
  exact ⟨A2, c2, blk_grown hb hw hne, hg, hr2⟩
theorem IsS67.own_neN {w0 W : World} {g : Nat} {f0 : Int} {f1 : Int} {f2 : List Int} {α : Type} {d : Kd α} {e : Nat} {base : Nat} {ok : Nat → Prop} {v : Value} {xs : List α} (h : IsS67 w0 W g f0 f1 f2) (ho : Kd.N d e W base ok v xs) (ht : e ≠ 67) : some g ≠ v.ownBlock := by
  obtain ⟨A2, c2, hb, hg, hr2⟩ := h
  exact Kd.N_ne ho hb ht
theorem IsS67.fresh {w0 W : World} {g : Nat} {f0 : Int} {f1 : Int} {f2 : List Int} (h : IsS67 w0 W g f0 f1 f2) : ∀ k, W.heap.size ≤ k → k ≠ g := by
  obtain ⟨A2, c2, hb, hg, hr2⟩ := h
  exact Kd.freshB hb
theorem IsS67.kept {w0 W : World} {g : Nat} {f0 : Int} {f1 : Int} {f2 : List Int} {W1 : World} {S : Nat → Prop} (h : IsS67 w0 W g f0 f1 f2) (hk : Kept W W1 S) (hne : ¬ S g) : IsS67 w0 W1 g f0 f1 f2 := by
  obtain ⟨A2, c2, hb, hg, hr2⟩ := h
  exact ⟨A2, c2, blk_kept hb hk hne, hg, hr2⟩
theorem IsS67.below {w0 W : World} {g : Nat} {f0 : Int} {f1 : Int} {f2 : List Int} {W1 : World} (h : IsS67 w0 W g f0 f1 f2) (hw : Below W.heap.size W W1) : IsS67 w0 W1 g f0 f1 f2 := h.grown (grown_of_below hw none) (by simp)
theorem IsS67.alloc {w0 W : World} {g : Nat} {f0 : Int} {f1 : Int} {f2 : List Int} (h : IsS67 w0 W g f0 f1 f2) (o : Obj) : IsS67 w0 (W.alloc o) g f0 f1 f2 := h.below (below_alloc (Below.refl _ _) o)
theorem IsS67.drewN {w0 W : World} {g : Nat} {f0 : Int} {f1 : Int} {f2 : List Int} (h : IsS67 w0 W g f0 f1 f2) (m : Nat) : IsS67 w0 (W.drewN m) g f0 f1 f2 := h
theorem IsS67.drew {w0 W : World} {g : Nat} {f0 : Int} {f1 : Int} {f2 : List Int} (h : IsS67 w0 W g f0 f1 f2) : IsS67 w0 W.drew g f0 f1 f2 := h
theorem IsS67.at_ {w0 W : World} {g : Nat} {f0 : Int} {f1 : Int} {f2 : List Int} {w' : World} {m : Nat} (hq : W.drewN m = w') (h : IsS67 w0 W g f0 f1 f2) : IsS67 w0 w' g f0 f1 f2 := by subst hq; exact IsS67.drewN h m
theorem IsS67.apart {w0 W : World} {g : Nat} {f0 : Int} {f1 : Int} {f2 : List Int} {α : Type} {d : Kd α} {e : Nat} {base : Nat} {ok : Nat → Prop} {v : Value} {xs : List α} (h : IsS67 w0 W g f0 f1 f2) (ho : d.R e W base ok v xs) (ht : ∀ q, q ∈ e :: d.E → q ≠ 67) : d.R e W base (fun k => ok k ∧ k ≠ g) v xs := by
  obtain ⟨A2, c2, hb, hg, hr2⟩ := h
  exact Kd.R_types ho hb ht
theorem IsS67.own_ne {w0 W : World} {g : Nat} {f0 : Int} {f1 : Int} {f2 : List Int} {α : Type} {d : Kd α} {e : Nat} {base : Nat} {ok : Nat → Prop} {v : Value} {xs : List α} (h : IsS67 w0 W g f0 f1 f2) (ho : d.R e W base ok v xs) (ht : e ≠ 67) : some g ≠ v.ownBlock := by
  obtain ⟨A2, c2, hb, hg, hr2⟩ := h
  exact Kd.R_ne ho hb ht
theorem IsS67.apartQ {w0 W : World} {g : Nat} {f0 : Int} {f1 : Int} {f2 : List Int} {α : Type} {d : Kd α} {e : Nat} {base : Nat} {ok : Nat → Prop} {v : Value} {xs : List α} (h : IsS67 w0 W g f0 f1 f2) (ho : d.Q e W base ok v xs) (ht : ∀ q, q ∈ e :: d.E → q ≠ 67) : d.Q e W base (fun k => ok k ∧ k ≠ g) v xs := by
  obtain ⟨A2, c2, hb, hg, hr2⟩ := h
  exact Kd.Q_types ho hb ht
theorem IsS67.own_neQ {w0 W : World} {g : Nat} {f0 : Int} {f1 : Int} {f2 : List Int} {α : Type} {d : Kd α} {e : Nat} {base : Nat} {ok : Nat → Prop} {v : Value} {xs : List α} (h : IsS67 w0 W g f0 f1 f2) (ho : d.Q e W base ok v xs) (ht : e ≠ 67) : some g ≠ v.ownBlock := by
  obtain ⟨A2, c2, hb, hg, hr2⟩ := h
  exact Kd.Q_ne ho hb ht
theorem IsS67.apartS {w0 W : World} {g : Nat} {f0 : Int} {f1 : Int} {f2 : List Int} {α : Type} {d : Kd α} {e : Nat} {base : Nat} {ok : Nat → Prop} {v : Value} {xs : List α} (h : IsS67 w0 W g f0 f1 f2) (ho : d.S e W base ok v xs) (ht : ∀ q, q ∈ e :: d.E → q ≠ 67) : d.S e W base (fun k => ok k ∧ k ≠ g) v xs := by
  obtain ⟨A2, c2, hb, hg, hr2⟩ := h
  exact Kd.S_types ho hb ht
theorem IsS67.own_neS {w0 W : World} {g : Nat} {f0 : Int} {f1 : Int} {f2 : List Int} {α : Type} {d : Kd α} {e : Nat} {base : Nat} {ok : Nat → Prop} {v : Value} {xs : List α} (h : IsS67 w0 W g f0 f1 f2) (ho : d.S e W base ok v xs) (ht : e ≠ 67) : some g ≠ v.ownBlock := by
  obtain ⟨A2, c2, hb, hg, hr2⟩ := h
  exact Kd.S_ne ho hb ht
theorem IsS67.lt {w0 W : World} {g : Nat} {f0 : Int} {f1 : Int} {f2 : List Int} (h : IsS67 w0 W g f0 f1 f2) : g < W.heap.size := by
  obtain ⟨A2, c2, hb, hg, hr2⟩ := h
  exact blk_lt hb
theorem IsS67.ge {w0 W : World} {g : Nat} {f0 : Int} {f1 : Int} {f2 : List Int} (h : IsS67 w0 W g f0 f1 f2) : w0.heap.size ≤ g := by
  obtain ⟨A2, c2, hb, hg, hr2⟩ := h
  exact hg
theorem IsS67.ne_blk {w0 W : World} {g : Nat} {f0 : Int} {f1 : Int} {f2 : List Int} {a : Nat} {cs : Array Value} {t : TypeId} {fr : Nat × Nat} (h : IsS67 w0 W g f0 f1 f2) (hb2 : W.heap[a]? = some (.cells cs t fr)) (ht : t ≠ 67) : g ≠ a := by
  obtain ⟨A2, c2, hb, hg, hr2⟩ := h
  rintro rfl
  rw [hb] at hb2
  injection hb2 with hb2
  injection hb2 with _ ht2
  exact ht ht2.symm
theorem IsS67.far {w0 W : World} {g : Nat} {f0 : Int} {f1 : Int} {f2 : List Int} {p : Addr} (h : IsS67 w0 W g f0 f1 f2) (hne : g ≠ p.block) (u : Value) : IsS67 w0 (W.setCell p u) g f0 f1 f2 := by
  obtain ⟨A2, c2, hb, hg, hr2⟩ := h
  exact ⟨A2, c2, blk_far hb hne u, hg, hr2⟩
theorem cellS67_0 {W : World} {g : Nat} {A2 : Option Addr} {c2 : Nat} {f0 : Int} {f1 : Int} {f2 : List Int} (h : W.heap[g]? = some (.cells #[.int .i64 f0, .int .i64 f1, .slice A2 f2.length c2] 67 (0, 0))) : W.cell? ⟨g, 0, none⟩ = some (.int .i64 f0) := (blk_cell h 0).trans rfl
theorem IsS67.set_0 {w0 W : World} {g : Nat} {f0 : Int} {f1 : Int} {f2 : List Int} (h : IsS67 w0 W g f0 f1 f2) (x : Int) : IsS67 w0 (W.setCell ⟨g, 0, none⟩ (.int .i64 x)) g x f1 f2 := by
  obtain ⟨A2, c2, hb, hg, hr2⟩ := h
  exact ⟨A2, c2, by simpa using blk_set hb 0 (.int .i64 x), hg, hr2⟩
theorem cellS67_1 {W : World} {g : Nat} {A2 : Option Addr} {c2 : Nat} {f0 : Int} {f1 : Int} {f2 : List Int} (h : W.heap[g]? = some (.cells #[.int .i64 f0, .int .i64 f1, .slice A2 f2.length c2] 67 (0, 0))) : W.cell? ⟨g, 1, none⟩ = some (.int .i64 f1) := (blk_cell h 1).trans rfl
theorem IsS67.set_1 {w0 W : World} {g : Nat} {f0 : Int} {f1 : Int} {f2 : List Int} (h : IsS67 w0 W g f0 f1 f2) (x : Int) : IsS67 w0 (W.setCell ⟨g, 1, none⟩ (.int .i64 x)) g f0 x f2 := by
  obtain ⟨A2, c2, hb, hg, hr2⟩ := h
  exact ⟨A2, c2, by simpa using blk_set hb 1 (.int .i64 x), hg, hr2⟩
theorem cellS67_2 {W : World} {g : Nat} {A2 : Option Addr} {c2 : Nat} {f0 : Int} {f1 : Int} {f2 : List Int} (h : W.heap[g]? = some (.cells #[.int .i64 f0, .int .i64 f1, .slice A2 f2.length c2] 67 (0, 0))) : W.cell? ⟨g, 2, none⟩ = some (.slice A2 f2.length c2) := (blk_cell h 2).trans rfl
theorem IsS67.new (w0 W : World) (A2 : Option Addr) (c2 : Nat) (f0 : Int) (f1 : Int) (f2 : List Int) (hB : Below w0.heap.size w0 W) (hr2 : Kd.C (Kd.int .u8) w0 A2 f2.length f2) : IsS67 w0 (W.alloc (.cells #[.int .i64 f0, .int .i64 f1, .slice A2 f2.length c2] 67)) W.heap.size f0 f1 f2 := ⟨A2, c2, by simpa using heap_alloc_new W _, hB.size, hr2⟩
def errW : Option Int → Value
  | none => .nilIface
  | some c => .iface 0 (.int .i64 c)
theorem errW_none : errW none = .nilIface := rfl
theorem errW_some (c : Int) : errW (some c) = .iface 0 (.int .i64 c) := rfl

theorem info5 : (Tryd.prog.info? 5).map (fun i => (i.zero, i.size, i.bytes)) = some (some (.int .u8 0), 1, 1) := by kernel_rfl
theorem info23 : (Tryd.prog.info? 23).map (fun i => (i.zero, i.size, i.bytes)) = some (some (.slice none 0 0), 1, 24) := by kernel_rfl
-- the values' own types
def rd_L1 (xs : List (List Int)) (i : Int) : (List Int) := xs.getD i.toNat ([] : List Int)
theorem at_L1 {w : World} {A : Option Addr} {n : Nat} {xs : List (List Int)} (h : Kd.C (Kd.slice 5 (Kd.int .u8)) w A n xs) (i : Int) (h0 : 0 ≤ i) (h1 : i < n) : ∃ ad A0 c0, A = some ad ∧ w.cell? (ad.add i.toNat) = some (.slice A0 (rd_L1 xs i).length c0) ∧ (rd_L1 xs i).length ≤ c0 ∧ (Kd.int .u8).C w A0 (rd_L1 xs i).length (rd_L1 xs i) := by
  obtain ⟨ad, c, e, _, hK, hc0⟩ := Kd.C_get h ([] : List Int) i h0 h1
  have hc : ∀ j u, c[j]? = some u → w.cell? (ad.add (i.toNat * 1 + j)) = some u := hc0
  obtain ⟨A0, c0, rfl, l0, g0⟩ := hK
  exact ⟨ad, A0, c0, e, by have hq := hc 0 _ rfl; rwa [Nat.mul_one, Nat.add_zero] at hq, l0, g0⟩

/-! ### gessoref02_Same: function 40 -/
def gessoref02_Same.f (a0_0 : Int) (a0_1 : Int) (l0_2 : List Int) (a1_0 : Int) (a1_1 : Int) (l1_2 : List Int) : Option (Bool) := if a0_0 = a1_0 then (if a0_1 = a1_1 then (some ((strOfNums l0_2).toList == (strOfNums l1_2).toList)) else (some false)) else (some false)
set_option maxHeartbeats 8000000 in
set_option maxRecDepth 100000 in
theorem gessoref02_Same.calls (a0_0 : Int) (a0_1 : Int) (A0_2 : Option Addr) (c0_2 : Nat) (l0_2 : List Int) (a1_0 : Int) (a1_1 : Int) (A1_2 : Option Addr) (c1_2 : Nat) (l1_2 : List Int) (r : Bool) (w : World) (hr0_2 : Kd.C (Kd.int .u8) w A0_2 l0_2.length l0_2) (hc0_2 : l0_2.length ≤ c0_2) (hr1_2 : Kd.C (Kd.int .u8) w A1_2 l1_2.length l1_2) (hc1_2 : l1_2.length ≤ c1_2) (h : gessoref02_Same.f a0_0 a0_1 l0_2 a1_0 a1_1 l1_2 = some r) :
    Calls Tryd.prog 40 #[.agg #[.int .i64 a0_0, .int .i64 a0_1, .slice A0_2 l0_2.length c0_2], .agg #[.int .i64 a1_0, .int .i64 a1_1, .slice A1_2 l1_2.length c1_2]] w fun e w' => e = .returned (.bool r) ∧ Below w.heap.size w w' := by
  have hu42 := Tryd.underlying42
  have HR0_2 := Aside0.mk hr0_2
  have HC0_2 := Aside0.mk hc0_2
  clear hr0_2 hc0_2
  have HR1_2 := Aside0.mk hr1_2
  have HC1_2 := Aside0.mk hc1_2
  clear hr1_2 hc1_2
  have HB := Aside0.mk (Below.refl w.heap.size w)
  have H : (if a0_0 = a1_0 then (if a0_1 = a1_1 then (some ((strOfNums l0_2).toList == (strOfNums l1_2).toList)) else (some false)) else (some false)) = some r := h
  clear h
  by_cases c3 : a0_0 = a1_0
  · rw [if_pos c3] at H
    have c3b0 : (a0_0 == a1_0) = true := beq_iff_eq.mpr c3
    have c3b1 : (a0_0 != a1_0) = false := bne_eq_false_iff_eq.mpr c3
    clear c3
    by_cases c4 : a0_1 = a1_1
    · rw [if_pos c4] at H
      have c4b0 : (a0_1 == a1_1) = true := beq_iff_eq.mpr c4
      have c4b1 : (a0_1 != a1_1) = false := bne_eq_false_iff_eq.mpr c4
      clear c4
      obtain rfl := Option.some.inj H
      go_enter Tryd.func40, Tryd.ntmps40
      go_wp2_with (first | ((with_reducible refine gate_dst (N := 2) rfl ?_); refine box_event ?hg (N := 2) ?hd (cs := #[.int .i64 a0_0, .int .i64 a0_1, .slice A0_2 l0_2.length c0_2]) (t := 42) ?hr ?_; (case hd => rfl); (case hg => rfl); (case hr => first | (go_simp; done) | (go_simp; rfl)); intro gb109 hg w5 hbox hb; have n0_ := Aside0.mk (below_step (by repeat (first | (with_reducible first | exact HB.out | apply below_alloc | apply pw_below_drewN | apply below_drew1) | exact HB.out)) hb); have n1_ := Aside0.mk (hbox); have n2_ := Aside0.mk ((by rw [hg]; exact (below_size (by repeat (first | (with_reducible first | exact HB.out | apply below_alloc | apply pw_below_drewN | apply below_drew1) | exact HB.out))) : w.heap.size ≤ gb109)); have n3_ := Aside0.mk ((by rw [hg]; exact (below_size (by repeat (first | (with_reducible first | exact HB.out | apply below_alloc | apply pw_below_drewN | apply below_drew1) | exact HB.out))) : w.heap.size ≤ gb109)); clear HB; have HB := n0_; have BK109 := n1_; have GW109 := n2_; have GE109 := n3_; clear n0_ n1_ n2_ n3_; clear hb hbox hg) | ((with_reducible refine gate_dst (N := 3) rfl ?_); refine box_event ?hg (N := 3) ?hd (cs := #[.int .i64 a1_0, .int .i64 a1_1, .slice A1_2 l1_2.length c1_2]) (t := 42) ?hr ?_; (case hd => rfl); (case hg => rfl); (case hr => first | (go_simp; done) | (go_simp; rfl)); intro gb110 hg w6 hbox hb; have n0_ := Aside0.mk (blk_below (g := gb109) (o := .cells #[.int .i64 a0_0, .int .i64 a0_1, .slice A0_2 l0_2.length c0_2] 42 (0, 0)) (by (with_reducible repeat (first | refine blk_drewN ?_ _ | refine blk_drew ?_ | refine blk_alloc ?_ _)); exact BK109.out) hb); have n1_ := Aside0.mk (below_step (by repeat (first | (with_reducible first | exact HB.out | apply below_alloc | apply pw_below_drewN | apply below_drew1 | refine below_set ?_ GE109.out) | exact HB.out)) hb); have n2_ := Aside0.mk (hbox); have n3_ := Aside0.mk ((by rw [hg]; exact (below_size (by repeat (first | (with_reducible first | exact HB.out | apply below_alloc | apply pw_below_drewN | apply below_drew1 | refine below_set ?_ GE109.out) | exact HB.out))) : w.heap.size ≤ gb110)); have n4_ := Aside0.mk ((by rw [hg]; exact (below_size (by repeat (first | (with_reducible first | exact HB.out | apply below_alloc | apply pw_below_drewN | apply below_drew1 | refine below_set ?_ GE109.out) | exact HB.out))) : w.heap.size ≤ gb110)); have n5_ := Aside0.mk ((by rw [hg]; exact Nat.ne_of_lt (blk_lt (g := gb109) (o := .cells #[.int .i64 a0_0, .int .i64 a0_1, .slice A0_2 l0_2.length c0_2] 42 (0, 0)) (by (with_reducible repeat (first | refine blk_drewN ?_ _ | refine blk_drew ?_ | refine blk_alloc ?_ _)); exact BK109.out)) : gb109 ≠ gb110)); have n6_ := Aside0.mk ((by rw [hg]; exact Nat.ne_of_gt (blk_lt (g := gb109) (o := .cells #[.int .i64 a0_0, .int .i64 a0_1, .slice A0_2 l0_2.length c0_2] 42 (0, 0)) (by (with_reducible repeat (first | refine blk_drewN ?_ _ | refine blk_drew ?_ | refine blk_alloc ?_ _)); exact BK109.out)) : gb110 ≠ gb109)); clear BK109; clear HB; have BK109 := n0_; have HB := n1_; have BK110 := n2_; have GW110 := n3_; have GE110 := n4_; have NB109_110 := n5_; have NB110_109 := n6_; clear n0_ n1_ n2_ n3_ n4_ n5_ n6_; clear hb hbox hg; have hnb7 := NB109_110.out; have hnc7 := NB110_109.out; have hcz8_0 : w6.cell? ⟨gb109, 0, none⟩ = some (.int .i64 a0_0) := (blk_cell BK109.out 0).trans rfl; have hcz8_1 : w6.cell? ⟨gb109, 1, none⟩ = some (.int .i64 a0_1) := (blk_cell BK109.out 1).trans rfl; have hcz8_2 : w6.cell? ⟨gb109, 2, none⟩ = some (.slice A0_2 l0_2.length c0_2) := (blk_cell BK109.out 2).trans rfl; have hfz8_0 := blk_frozen BK109.out 0; have hfz8_1 := blk_frozen BK109.out 1; have hfz8_2 := blk_frozen BK109.out 2; have hcz9_0 : w6.cell? ⟨gb110, 0, none⟩ = some (.int .i64 a1_0) := (blk_cell BK110.out 0).trans rfl; have hcz9_1 : w6.cell? ⟨gb110, 1, none⟩ = some (.int .i64 a1_1) := (blk_cell BK110.out 1).trans rfl; have hcz9_2 : w6.cell? ⟨gb110, 2, none⟩ = some (.slice A1_2 l1_2.length c1_2) := (blk_cell BK110.out 2).trans rfl; have hfz9_0 := blk_frozen BK110.out 0; have hfz9_1 := blk_frozen BK110.out 1; have hfz9_2 := blk_frozen BK110.out 2; have hcv10 := Kd.C_string (P := Tryd.prog) (A := A0_2) (c := c0_2) Tryd.underlying23 Tryd.underlying5 Tryd.underlying9 (Kd.C_below HR0_2.out HB.out); have hcv11 := Kd.C_string (P := Tryd.prog) (A := A1_2) (c := c1_2) Tryd.underlying23 Tryd.underlying5 Tryd.underlying9 (Kd.C_below HR1_2.out HB.out)))
      go_ret
      exact ⟨by first | rfl | (simp [errW_none, errW_some] <;> rfl) | (simp [*, errW_none, errW_some] <;> rfl), by repeat (first | (with_reducible first | exact HB.out | apply below_alloc | apply pw_below_drewN | apply below_drew1 | refine below_set ?_ GE109.out | refine below_set ?_ GE110.out) | exact HB.out)⟩
    · rw [if_neg c4] at H
      have c4b0 : (a0_1 == a1_1) = false := beq_eq_false_iff_ne.mpr c4
      have c4b1 : (a0_1 != a1_1) = true := bne_iff_ne.mpr c4
      obtain rfl := Option.some.inj H
      go_enter Tryd.func40, Tryd.ntmps40
      go_wp2_with (first | ((with_reducible refine gate_dst (N := 2) rfl ?_); refine box_event ?hg (N := 2) ?hd (cs := #[.int .i64 a0_0, .int .i64 a0_1, .slice A0_2 l0_2.length c0_2]) (t := 42) ?hr ?_; (case hd => rfl); (case hg => rfl); (case hr => first | (go_simp; done) | (go_simp; rfl)); intro gb109 hg w12 hbox hb; have n0_ := Aside0.mk (below_step (by repeat (first | (with_reducible first | exact HB.out | apply below_alloc | apply pw_below_drewN | apply below_drew1) | exact HB.out)) hb); have n1_ := Aside0.mk (hbox); have n2_ := Aside0.mk ((by rw [hg]; exact (below_size (by repeat (first | (with_reducible first | exact HB.out | apply below_alloc | apply pw_below_drewN | apply below_drew1) | exact HB.out))) : w.heap.size ≤ gb109)); have n3_ := Aside0.mk ((by rw [hg]; exact (below_size (by repeat (first | (with_reducible first | exact HB.out | apply below_alloc | apply pw_below_drewN | apply below_drew1) | exact HB.out))) : w.heap.size ≤ gb109)); clear HB; have HB := n0_; have BK109 := n1_; have GW109 := n2_; have GE109 := n3_; clear n0_ n1_ n2_ n3_; clear hb hbox hg) | ((with_reducible refine gate_dst (N := 3) rfl ?_); refine box_event ?hg (N := 3) ?hd (cs := #[.int .i64 a1_0, .int .i64 a1_1, .slice A1_2 l1_2.length c1_2]) (t := 42) ?hr ?_; (case hd => rfl); (case hg => rfl); (case hr => first | (go_simp; done) | (go_simp; rfl)); intro gb110 hg w13 hbox hb; have n0_ := Aside0.mk (blk_below (g := gb109) (o := .cells #[.int .i64 a0_0, .int .i64 a0_1, .slice A0_2 l0_2.length c0_2] 42 (0, 0)) (by (with_reducible repeat (first | refine blk_drewN ?_ _ | refine blk_drew ?_ | refine blk_alloc ?_ _)); exact BK109.out) hb); have n1_ := Aside0.mk (below_step (by repeat (first | (with_reducible first | exact HB.out | apply below_alloc | apply pw_below_drewN | apply below_drew1 | refine below_set ?_ GE109.out) | exact HB.out)) hb); have n2_ := Aside0.mk (hbox); have n3_ := Aside0.mk ((by rw [hg]; exact (below_size (by repeat (first | (with_reducible first | exact HB.out | apply below_alloc | apply pw_below_drewN | apply below_drew1 | refine below_set ?_ GE109.out) | exact HB.out))) : w.heap.size ≤ gb110)); have n4_ := Aside0.mk ((by rw [hg]; exact (below_size (by repeat (first | (with_reducible first | exact HB.out | apply below_alloc | apply pw_below_drewN | apply below_drew1 | refine below_set ?_ GE109.out) | exact HB.out))) : w.heap.size ≤ gb110)); have n5_ := Aside0.mk ((by rw [hg]; exact Nat.ne_of_lt (blk_lt (g := gb109) (o := .cells #[.int .i64 a0_0, .int .i64 a0_1, .slice A0_2 l0_2.length c0_2] 42 (0, 0)) (by (with_reducible repeat (first | refine blk_drewN ?_ _ | refine blk_drew ?_ | refine blk_alloc ?_ _)); exact BK109.out)) : gb109 ≠ gb110)); have n6_ := Aside0.mk ((by rw [hg]; exact Nat.ne_of_gt (blk_lt (g := gb109) (o := .cells #[.int .i64 a0_0, .int .i64 a0_1, .slice A0_2 l0_2.length c0_2] 42 (0, 0)) (by (with_reducible repeat (first | refine blk_drewN ?_ _ | refine blk_drew ?_ | refine blk_alloc ?_ _)); exact BK109.out)) : gb110 ≠ gb109)); clear BK109; clear HB; have BK109 := n0_; have HB := n1_; have BK110 := n2_; have GW110 := n3_; have GE110 := n4_; have NB109_110 := n5_; have NB110_109 := n6_; clear n0_ n1_ n2_ n3_ n4_ n5_ n6_; clear hb hbox hg; have hnb14 := NB109_110.out; have hnc14 := NB110_109.out; have hcz15_0 : w13.cell? ⟨gb109, 0, none⟩ = some (.int .i64 a0_0) := (blk_cell BK109.out 0).trans rfl; have hcz15_1 : w13.cell? ⟨gb109, 1, none⟩ = some (.int .i64 a0_1) := (blk_cell BK109.out 1).trans rfl; have hcz15_2 : w13.cell? ⟨gb109, 2, none⟩ = some (.slice A0_2 l0_2.length c0_2) := (blk_cell BK109.out 2).trans rfl; have hfz15_0 := blk_frozen BK109.out 0; have hfz15_1 := blk_frozen BK109.out 1; have hfz15_2 := blk_frozen BK109.out 2; have hcz16_0 : w13.cell? ⟨gb110, 0, none⟩ = some (.int .i64 a1_0) := (blk_cell BK110.out 0).trans rfl; have hcz16_1 : w13.cell? ⟨gb110, 1, none⟩ = some (.int .i64 a1_1) := (blk_cell BK110.out 1).trans rfl; have hcz16_2 : w13.cell? ⟨gb110, 2, none⟩ = some (.slice A1_2 l1_2.length c1_2) := (blk_cell BK110.out 2).trans rfl; have hfz16_0 := blk_frozen BK110.out 0; have hfz16_1 := blk_frozen BK110.out 1; have hfz16_2 := blk_frozen BK110.out 2))
      go_ret
      exact ⟨by first | rfl | (simp [errW_none, errW_some] <;> rfl) | (simp [*, errW_none, errW_some] <;> rfl), by repeat (first | (with_reducible first | exact HB.out | apply below_alloc | apply pw_below_drewN | apply below_drew1 | refine below_set ?_ GE109.out | refine below_set ?_ GE110.out) | exact HB.out)⟩
  · rw [if_neg c3] at H
    have c3b0 : (a0_0 == a1_0) = false := beq_eq_false_iff_ne.mpr c3
    have c3b1 : (a0_0 != a1_0) = true := bne_iff_ne.mpr c3
    obtain rfl := Option.some.inj H
    go_enter Tryd.func40, Tryd.ntmps40
    go_wp2_with (first | ((with_reducible refine gate_dst (N := 2) rfl ?_); refine box_event ?hg (N := 2) ?hd (cs := #[.int .i64 a0_0, .int .i64 a0_1, .slice A0_2 l0_2.length c0_2]) (t := 42) ?hr ?_; (case hd => rfl); (case hg => rfl); (case hr => first | (go_simp; done) | (go_simp; rfl)); intro gb109 hg w17 hbox hb; have n0_ := Aside0.mk (below_step (by repeat (first | (with_reducible first | exact HB.out | apply below_alloc | apply pw_below_drewN | apply below_drew1) | exact HB.out)) hb); have n1_ := Aside0.mk (hbox); have n2_ := Aside0.mk ((by rw [hg]; exact (below_size (by repeat (first | (with_reducible first | exact HB.out | apply below_alloc | apply pw_below_drewN | apply below_drew1) | exact HB.out))) : w.heap.size ≤ gb109)); have n3_ := Aside0.mk ((by rw [hg]; exact (below_size (by repeat (first | (with_reducible first | exact HB.out | apply below_alloc | apply pw_below_drewN | apply below_drew1) | exact HB.out))) : w.heap.size ≤ gb109)); clear HB; have HB := n0_; have BK109 := n1_; have GW109 := n2_; have GE109 := n3_; clear n0_ n1_ n2_ n3_; clear hb hbox hg) | ((with_reducible refine gate_dst (N := 3) rfl ?_); refine box_event ?hg (N := 3) ?hd (cs := #[.int .i64 a1_0, .int .i64 a1_1, .slice A1_2 l1_2.length c1_2]) (t := 42) ?hr ?_; (case hd => rfl); (case hg => rfl); (case hr => first | (go_simp; done) | (go_simp; rfl)); intro gb110 hg w18 hbox hb; have n0_ := Aside0.mk (blk_below (g := gb109) (o := .cells #[.int .i64 a0_0, .int .i64 a0_1, .slice A0_2 l0_2.length c0_2] 42 (0, 0)) (by (with_reducible repeat (first | refine blk_drewN ?_ _ | refine blk_drew ?_ | refine blk_alloc ?_ _)); exact BK109.out) hb); have n1_ := Aside0.mk (below_step (by repeat (first | (with_reducible first | exact HB.out | apply below_alloc | apply pw_below_drewN | apply below_drew1 | refine below_set ?_ GE109.out) | exact HB.out)) hb); have n2_ := Aside0.mk (hbox); have n3_ := Aside0.mk ((by rw [hg]; exact (below_size (by repeat (first | (with_reducible first | exact HB.out | apply below_alloc | apply pw_below_drewN | apply below_drew1 | refine below_set ?_ GE109.out) | exact HB.out))) : w.heap.size ≤ gb110)); have n4_ := Aside0.mk ((by rw [hg]; exact (below_size (by repeat (first | (with_reducible first | exact HB.out | apply below_alloc | apply pw_below_drewN | apply below_drew1 | refine below_set ?_ GE109.out) | exact HB.out))) : w.heap.size ≤ gb110)); have n5_ := Aside0.mk ((by rw [hg]; exact Nat.ne_of_lt (blk_lt (g := gb109) (o := .cells #[.int .i64 a0_0, .int .i64 a0_1, .slice A0_2 l0_2.length c0_2] 42 (0, 0)) (by (with_reducible repeat (first | refine blk_drewN ?_ _ | refine blk_drew ?_ | refine blk_alloc ?_ _)); exact BK109.out)) : gb109 ≠ gb110)); have n6_ := Aside0.mk ((by rw [hg]; exact Nat.ne_of_gt (blk_lt (g := gb109) (o := .cells #[.int .i64 a0_0, .int .i64 a0_1, .slice A0_2 l0_2.length c0_2] 42 (0, 0)) (by (with_reducible repeat (first | refine blk_drewN ?_ _ | refine blk_drew ?_ | refine blk_alloc ?_ _)); exact BK109.out)) : gb110 ≠ gb109)); clear BK109; clear HB; have BK109 := n0_; have HB := n1_; have BK110 := n2_; have GW110 := n3_; have GE110 := n4_; have NB109_110 := n5_; have NB110_109 := n6_; clear n0_ n1_ n2_ n3_ n4_ n5_ n6_; clear hb hbox hg; have hnb19 := NB109_110.out; have hnc19 := NB110_109.out; have hcz20_0 : w18.cell? ⟨gb109, 0, none⟩ = some (.int .i64 a0_0) := (blk_cell BK109.out 0).trans rfl; have hcz20_1 : w18.cell? ⟨gb109, 1, none⟩ = some (.int .i64 a0_1) := (blk_cell BK109.out 1).trans rfl; have hcz20_2 : w18.cell? ⟨gb109, 2, none⟩ = some (.slice A0_2 l0_2.length c0_2) := (blk_cell BK109.out 2).trans rfl; have hfz20_0 := blk_frozen BK109.out 0; have hfz20_1 := blk_frozen BK109.out 1; have hfz20_2 := blk_frozen BK109.out 2; have hcz21_0 : w18.cell? ⟨gb110, 0, none⟩ = some (.int .i64 a1_0) := (blk_cell BK110.out 0).trans rfl; have hcz21_1 : w18.cell? ⟨gb110, 1, none⟩ = some (.int .i64 a1_1) := (blk_cell BK110.out 1).trans rfl; have hcz21_2 : w18.cell? ⟨gb110, 2, none⟩ = some (.slice A1_2 l1_2.length c1_2) := (blk_cell BK110.out 2).trans rfl; have hfz21_0 := blk_frozen BK110.out 0; have hfz21_1 := blk_frozen BK110.out 1; have hfz21_2 := blk_frozen BK110.out 2))
    go_ret
    exact ⟨by first | rfl | (simp [errW_none, errW_some] <;> rfl) | (simp [*, errW_none, errW_some] <;> rfl), by repeat (first | (with_reducible first | exact HB.out | apply below_alloc | apply pw_below_drewN | apply below_drew1 | refine below_set ?_ GE109.out | refine below_set ?_ GE110.out) | exact HB.out)⟩

/-! ### gessoref02_End: function 41 -/
def gessoref02_End.f (a0_0 : Int) (a0_1 : Int) (l0_2 : List Int) : Option (Int) := if a0_1 < 0 then (if (l0_2.length : Int) > 0 then (some (wrap64 (a0_0 - (l0_2.length : Int)))) else (some a0_1)) else (some a0_1)
set_option maxHeartbeats 8000000 in
set_option maxRecDepth 100000 in
theorem gessoref02_End.calls (a0_0 : Int) (a0_1 : Int) (A0_2 : Option Addr) (c0_2 : Nat) (l0_2 : List Int) (r : Int) (w : World) (hr0_2 : Kd.C (Kd.int .u8) w A0_2 l0_2.length l0_2) (hc0_2 : l0_2.length ≤ c0_2) (h : gessoref02_End.f a0_0 a0_1 l0_2 = some r) :
    Calls Tryd.prog 41 #[.agg #[.int .i64 a0_0, .int .i64 a0_1, .slice A0_2 l0_2.length c0_2]] w fun e w' => e = .returned (.int .i64 r) ∧ Below w.heap.size w w' := by
  have hu42 := Tryd.underlying42
  have HR0_2 := Aside0.mk hr0_2
  have HC0_2 := Aside0.mk hc0_2
  clear hr0_2 hc0_2
  have HB := Aside0.mk (Below.refl w.heap.size w)
  have H : (if a0_1 < 0 then (if (l0_2.length : Int) > 0 then (some (wrap64 (a0_0 - (l0_2.length : Int)))) else (some a0_1)) else (some a0_1)) = some r := h
  clear h
  by_cases c2 : a0_1 < 0
  · rw [if_pos c2] at H
    have c2b0 : decide (a0_1 < 0) = true := decide_eq_true c2
    clear c2
    by_cases c3 : (l0_2.length : Int) > 0
    · rw [if_pos c3] at H
      have c3b0 : decide (0 < (l0_2.length : Int)) = true := decide_eq_true c3
      have c3b1 : decide (0 < l0_2.length) = true := decide_eq_true (by omega)
      clear c3
      obtain rfl := Option.some.inj H
      go_enter Tryd.func41, Tryd.ntmps41
      go_wp2_with (first | ((with_reducible refine gate_dst (N := 1) rfl ?_); (try (refine gate_guard (by rfl) ?_; dsimp only)); refine box_event ?hg (N := 1) ?hd (cs := #[.int .i64 a0_0, .int .i64 a0_1, .slice A0_2 l0_2.length c0_2]) (t := 42) ?hr ?_; (case hd => rfl); (case hg => rfl); (case hr => first | (go_simp; done) | (go_simp; rfl)); intro gb111 hg w4 hbox hb; have n0_ := Aside0.mk (below_step (by repeat (first | (with_reducible first | exact HB.out | apply below_alloc | apply pw_below_drewN | apply below_drew1) | exact HB.out)) hb); have n1_ := Aside0.mk (hbox); have n2_ := Aside0.mk ((by rw [hg]; exact (below_size (by repeat (first | (with_reducible first | exact HB.out | apply below_alloc | apply pw_below_drewN | apply below_drew1) | exact HB.out))) : w.heap.size ≤ gb111)); have n3_ := Aside0.mk ((by rw [hg]; exact (below_size (by repeat (first | (with_reducible first | exact HB.out | apply below_alloc | apply pw_below_drewN | apply below_drew1) | exact HB.out))) : w.heap.size ≤ gb111)); clear HB; have HB := n0_; have BK111 := n1_; have GW111 := n2_; have GE111 := n3_; clear n0_ n1_ n2_ n3_; clear hb hbox hg; have hcz5_0 : w4.cell? ⟨gb111, 0, none⟩ = some (.int .i64 a0_0) := (blk_cell BK111.out 0).trans rfl; have hcz5_1 : w4.cell? ⟨gb111, 1, none⟩ = some (.int .i64 a0_1) := (blk_cell BK111.out 1).trans rfl; have hcz5_2 : w4.cell? ⟨gb111, 2, none⟩ = some (.slice A0_2 l0_2.length c0_2) := (blk_cell BK111.out 2).trans rfl; have hfz5_0 := blk_frozen BK111.out 0; have hfz5_1 := blk_frozen BK111.out 1; have hfz5_2 := blk_frozen BK111.out 2))
      go_ret
      exact ⟨by first | rfl | (simp [errW_none, errW_some] <;> rfl) | (simp [*, errW_none, errW_some] <;> rfl), by repeat (first | (with_reducible first | exact HB.out | apply below_alloc | apply pw_below_drewN | apply below_drew1 | refine below_set ?_ GE111.out) | exact HB.out)⟩
    · rw [if_neg c3] at H
      have c3b0 : decide (0 < (l0_2.length : Int)) = false := decide_eq_false c3
      have c3b1 : decide (0 < l0_2.length) = false := decide_eq_false (by omega)
      clear c3
      obtain rfl := Option.some.inj H
      go_enter Tryd.func41, Tryd.ntmps41
      go_wp2_with (first | ((with_reducible refine gate_dst (N := 1) rfl ?_); (try (refine gate_guard (by rfl) ?_; dsimp only)); refine box_event ?hg (N := 1) ?hd (cs := #[.int .i64 a0_0, .int .i64 a0_1, .slice A0_2 l0_2.length c0_2]) (t := 42) ?hr ?_; (case hd => rfl); (case hg => rfl); (case hr => first | (go_simp; done) | (go_simp; rfl)); intro gb111 hg w6 hbox hb; have n0_ := Aside0.mk (below_step (by repeat (first | (with_reducible first | exact HB.out | apply below_alloc | apply pw_below_drewN | apply below_drew1) | exact HB.out)) hb); have n1_ := Aside0.mk (hbox); have n2_ := Aside0.mk ((by rw [hg]; exact (below_size (by repeat (first | (with_reducible first | exact HB.out | apply below_alloc | apply pw_below_drewN | apply below_drew1) | exact HB.out))) : w.heap.size ≤ gb111)); have n3_ := Aside0.mk ((by rw [hg]; exact (below_size (by repeat (first | (with_reducible first | exact HB.out | apply below_alloc | apply pw_below_drewN | apply below_drew1) | exact HB.out))) : w.heap.size ≤ gb111)); clear HB; have HB := n0_; have BK111 := n1_; have GW111 := n2_; have GE111 := n3_; clear n0_ n1_ n2_ n3_; clear hb hbox hg; have hcz7_0 : w6.cell? ⟨gb111, 0, none⟩ = some (.int .i64 a0_0) := (blk_cell BK111.out 0).trans rfl; have hcz7_1 : w6.cell? ⟨gb111, 1, none⟩ = some (.int .i64 a0_1) := (blk_cell BK111.out 1).trans rfl; have hcz7_2 : w6.cell? ⟨gb111, 2, none⟩ = some (.slice A0_2 l0_2.length c0_2) := (blk_cell BK111.out 2).trans rfl; have hfz7_0 := blk_frozen BK111.out 0; have hfz7_1 := blk_frozen BK111.out 1; have hfz7_2 := blk_frozen BK111.out 2))
      go_ret
      exact ⟨by first | rfl | (simp [errW_none, errW_some] <;> rfl) | (simp [*, errW_none, errW_some] <;> rfl), by repeat (first | (with_reducible first | exact HB.out | apply below_alloc | apply pw_below_drewN | apply below_drew1 | refine below_set ?_ GE111.out) | exact HB.out)⟩
  · rw [if_neg c2] at H
    have c2b0 : decide (a0_1 < 0) = false := decide_eq_false c2
    clear c2
    obtain rfl := Option.some.inj H
    go_enter Tryd.func41, Tryd.ntmps41
    go_wp2_with (first | ((with_reducible refine gate_dst (N := 1) rfl ?_); (try (refine gate_guard (by rfl) ?_; dsimp only)); refine box_event ?hg (N := 1) ?hd (cs := #[.int .i64 a0_0, .int .i64 a0_1, .slice A0_2 l0_2.length c0_2]) (t := 42) ?hr ?_; (case hd => rfl); (case hg => rfl); (case hr => first | (go_simp; done) | (go_simp; rfl)); intro gb111 hg w8 hbox hb; have n0_ := Aside0.mk (below_step (by repeat (first | (with_reducible first | exact HB.out | apply below_alloc | apply pw_below_drewN | apply below_drew1) | exact HB.out)) hb); have n1_ := Aside0.mk (hbox); have n2_ := Aside0.mk ((by rw [hg]; exact (below_size (by repeat (first | (with_reducible first | exact HB.out | apply below_alloc | apply pw_below_drewN | apply below_drew1) | exact HB.out))) : w.heap.size ≤ gb111)); have n3_ := Aside0.mk ((by rw [hg]; exact (below_size (by repeat (first | (with_reducible first | exact HB.out | apply below_alloc | apply pw_below_drewN | apply below_drew1) | exact HB.out))) : w.heap.size ≤ gb111)); clear HB; have HB := n0_; have BK111 := n1_; have GW111 := n2_; have GE111 := n3_; clear n0_ n1_ n2_ n3_; clear hb hbox hg; have hcz9_0 : w8.cell? ⟨gb111, 0, none⟩ = some (.int .i64 a0_0) := (blk_cell BK111.out 0).trans rfl; have hcz9_1 : w8.cell? ⟨gb111, 1, none⟩ = some (.int .i64 a0_1) := (blk_cell BK111.out 1).trans rfl; have hcz9_2 : w8.cell? ⟨gb111, 2, none⟩ = some (.slice A0_2 l0_2.length c0_2) := (blk_cell BK111.out 2).trans rfl; have hfz9_0 := blk_frozen BK111.out 0; have hfz9_1 := blk_frozen BK111.out 1; have hfz9_2 := blk_frozen BK111.out 2))
    go_ret
    exact ⟨by first | rfl | (simp [errW_none, errW_some] <;> rfl) | (simp [*, errW_none, errW_some] <;> rfl), by repeat (first | (with_reducible first | exact HB.out | apply below_alloc | apply pw_below_drewN | apply below_drew1 | refine below_set ?_ GE111.out) | exact HB.out)⟩

/-! ### gessoref02_May: function 30 -/
def gessoref02_May.j0 : Nat → Bool → Int → Int → List Int → Option (Bool)
  | 0, _, _, _, _ => none
  | k + 1, x27, x231000, x231001, x231002 => if x27 = true then (some false) else (if (x231002.length : Int) = 0 then (some true) else ((gessoref02_Open.f x231002).bind fun t231 => (if t231 = true then (if (x231002.length : Int) ≤ x231000 then (some (x231001 == (-1))) else (some false)) else (some false))))
def gessoref02_May.f (k : Nat) (a0_0 : Int) (a0_1 : Int) (l0_2 : List Int) : Option (Bool) := if a0_0 < 0 then (gessoref02_May.j0 k true a0_0 a0_1 l0_2) else (if a0_0 > 1099511627776 then (gessoref02_May.j0 k true a0_0 a0_1 l0_2) else (if a0_1 < (-1) then (gessoref02_May.j0 k true a0_0 a0_1 l0_2) else (if a0_1 ≥ a0_0 then (gessoref02_May.j0 k (decide (a0_1 ≥ 0)) a0_0 a0_1 l0_2) else (gessoref02_May.j0 k false a0_0 a0_1 l0_2))))
theorem gessoref02_May.mono_l : ∀ k, (∀ y0 y1 y2 y3, LeO (gessoref02_May.j0 k y0 y1 y2 y3) (gessoref02_May.j0 (k + 1) y0 y1 y2 y3))
  | 0 => fun _ _ _ _ r h => by simp [gessoref02_May.j0] at h
  | k + 1 => by
    have ih0 := gessoref02_May.mono_l k
    · intro y0 y1 y2 y3
      unfold gessoref02_May.j0
      repeat' first
      | (with_reducible exact ih0 _ _ _ _)
      | (with_reducible exact LeO.refl _)
      | (with_reducible exact LeO.none _)
      | (with_reducible refine LeO.ite ?_ ?_)
      | (with_reducible refine LeO.bind ?_ (fun _ => ?_))
      | exact ih0 _ _ _ _
      | exact LeO.none _
      | refine LeO.ite ?_ ?_
      | refine LeO.bind ?_ (fun _ => ?_)
theorem gessoref02_May.mono : ∀ a0 a1 a2 k, LeO (gessoref02_May.f k a0 a1 a2) (gessoref02_May.f (k + 1) a0 a1 a2) := by
  intro a0 a1 a2 k
  have ih0 := gessoref02_May.mono_l k
  unfold gessoref02_May.f
  repeat' first
      | (with_reducible exact ih0 _ _ _ _)
      | (with_reducible exact LeO.refl _)
      | (with_reducible exact LeO.none _)
      | (with_reducible refine LeO.ite ?_ ?_)
      | (with_reducible refine LeO.bind ?_ (fun _ => ?_))
      | exact ih0 _ _ _ _
      | exact LeO.none _
      | refine LeO.ite ?_ ?_
      | refine LeO.bind ?_ (fun _ => ?_)
set_option maxHeartbeats 8000000 in
set_option maxRecDepth 100000 in
theorem gessoref02_May.calls (k : Nat) (a0_0 : Int) (a0_1 : Int) (A0_2 : Option Addr) (c0_2 : Nat) (l0_2 : List Int) (r : Bool) (w : World) (hr0_2 : Kd.C (Kd.int .u8) w A0_2 l0_2.length l0_2) (hc0_2 : l0_2.length ≤ c0_2) (h : gessoref02_May.f k a0_0 a0_1 l0_2 = some r) :
    Calls Tryd.prog 30 #[.agg #[.int .i64 a0_0, .int .i64 a0_1, .slice A0_2 l0_2.length c0_2]] w fun e w' => e = .returned (.bool r) ∧ Below w.heap.size w w' := by
  have hu42 := Tryd.underlying42
  have HR0_2 := Aside0.mk hr0_2
  have HC0_2 := Aside0.mk hc0_2
  clear hr0_2 hc0_2
  have HB := Aside0.mk (Below.refl w.heap.size w)
  have H : (if a0_0 < 0 then (gessoref02_May.j0 k true a0_0 a0_1 l0_2) else (if a0_0 > 1099511627776 then (gessoref02_May.j0 k true a0_0 a0_1 l0_2) else (if a0_1 < (-1) then (gessoref02_May.j0 k true a0_0 a0_1 l0_2) else (if a0_1 ≥ a0_0 then (gessoref02_May.j0 k (decide (a0_1 ≥ 0)) a0_0 a0_1 l0_2) else (gessoref02_May.j0 k false a0_0 a0_1 l0_2))))) = some r := h
  clear h
  have HC2 := Aside0.mk H
  clear H
  go_enter Tryd.func30, Tryd.ntmps30
  go_upto_region 1 with (first | ((with_reducible refine gate_dst (N := 1) rfl ?_); (try (refine gate_guard (by rfl) ?_; dsimp only)); refine box_event ?hg (N := 1) ?hd (cs := #[.int .i64 a0_0, .int .i64 a0_1, .slice A0_2 l0_2.length c0_2]) (t := 42) ?hr ?_; (case hd => rfl); (case hg => rfl); (case hr => first | (go_simp; done) | (go_simp; rfl)); intro gb230 hg w3 hbox hb; have n0_ := Aside0.mk (below_step (by repeat (first | (with_reducible first | exact HB.out | apply below_alloc | apply pw_below_drewN | apply below_drew1) | exact HB.out)) hb); have n1_ := Aside0.mk (hbox); have n2_ := Aside0.mk ((by rw [hg]; exact (below_size (by repeat (first | (with_reducible first | exact HB.out | apply below_alloc | apply pw_below_drewN | apply below_drew1) | exact HB.out))) : w.heap.size ≤ gb230)); have n3_ := Aside0.mk ((by rw [hg]; exact (below_size (by repeat (first | (with_reducible first | exact HB.out | apply below_alloc | apply pw_below_drewN | apply below_drew1) | exact HB.out))) : w.heap.size ≤ gb230)); clear HB; have HB := n0_; have BK230 := n1_; have GW230 := n2_; have GE230 := n3_; clear n0_ n1_ n2_ n3_; clear hb hbox hg))
  (try simp only [Act.put, List.setIfInBounds_toArray, List.set_cons_zero, List.set_cons_succ])
  go_cut [27] (fun v27 wc => ∃ (kq : Nat) (x27_1 : Bool), v27 = .bool x27_1 ∧ Aside0 (gessoref02_May.j0 kq x27_1 a0_0 a0_1 l0_2 = some r) ∧ Aside0 (kq ≤ k) ∧ Aside0 (wc.heap[gb230]? = some (.cells #[.int .i64 a0_0, .int .i64 a0_1, (.slice A0_2 l0_2.length c0_2)] 42 (0, 0))) ∧ Aside0 (Below w.heap.size w wc))
  case first =>
    have H := HC2.out
    clear HC2
    by_cases c4 : a0_0 < 0
    · rw [if_pos c4] at H
      have c4b0 : decide (a0_0 < 0) = true := decide_eq_true c4
      clear c4
      (first | rw [c4b0] | (simp only [i64_w, i32_w]; rw [c4b0]) | skip)
      have H' := Aside0.mk H
      clear H
      have hcz5_0 : w3.cell? ⟨gb230, 0, none⟩ = some (.int .i64 a0_0) := (blk_cell BK230.out 0).trans rfl
      have hcz5_1 : w3.cell? ⟨gb230, 1, none⟩ = some (.int .i64 a0_1) := (blk_cell BK230.out 1).trans rfl
      have hcz5_2 : w3.cell? ⟨gb230, 2, none⟩ = some (.slice A0_2 l0_2.length c0_2) := (blk_cell BK230.out 2).trans rfl
      have hfz5_0 := blk_frozen BK230.out 0
      have hfz5_1 := blk_frozen BK230.out 1
      have hfz5_2 := blk_frozen BK230.out 2
      go_wp2
      go_meet
      case rel => exact ⟨_, (true), (by first | rfl | (simp; done) | (simp [*]; done)), H', ⟨by first | omega | exact Nat.le_refl _⟩, ⟨by (with_reducible repeat (first | refine blk_drewN ?_ _ | refine blk_drew ?_ | refine blk_alloc ?_ _)); exact BK230.out⟩, ⟨by repeat (first | (with_reducible first | exact HB.out | apply below_alloc | apply pw_below_drewN | apply below_drew1 | refine below_set ?_ GE230.out) | exact HB.out)⟩⟩
    · rw [if_neg c4] at H
      have c4b0 : decide (a0_0 < 0) = false := decide_eq_false c4
      clear c4
      (first | rw [c4b0] | (simp only [i64_w, i32_w]; rw [c4b0]) | skip)
      by_cases c6 : a0_0 > 1099511627776
      · rw [if_pos c6] at H
        have c6b0 : decide (1099511627776 < a0_0) = true := decide_eq_true c6
        clear c6
        have H' := Aside0.mk H
        clear H
        have hcz7_0 : w3.cell? ⟨gb230, 0, none⟩ = some (.int .i64 a0_0) := (blk_cell BK230.out 0).trans rfl
        have hcz7_1 : w3.cell? ⟨gb230, 1, none⟩ = some (.int .i64 a0_1) := (blk_cell BK230.out 1).trans rfl
        have hcz7_2 : w3.cell? ⟨gb230, 2, none⟩ = some (.slice A0_2 l0_2.length c0_2) := (blk_cell BK230.out 2).trans rfl
        have hfz7_0 := blk_frozen BK230.out 0
        have hfz7_1 := blk_frozen BK230.out 1
        have hfz7_2 := blk_frozen BK230.out 2
        go_wp2
        go_meet
        case rel => exact ⟨_, (true), (by first | rfl | (simp; done) | (simp [*]; done)), H', ⟨by first | omega | exact Nat.le_refl _⟩, ⟨by (with_reducible repeat (first | refine blk_drewN ?_ _ | refine blk_drew ?_ | refine blk_alloc ?_ _)); exact BK230.out⟩, ⟨by repeat (first | (with_reducible first | exact HB.out | apply below_alloc | apply pw_below_drewN | apply below_drew1 | refine below_set ?_ GE230.out) | exact HB.out)⟩⟩
      · rw [if_neg c6] at H
        have c6b0 : decide (1099511627776 < a0_0) = false := decide_eq_false c6
        clear c6
        by_cases c8 : a0_1 < (-1)
        · rw [if_pos c8] at H
          have c8b0 : decide (a0_1 < (-1)) = true := decide_eq_true c8
          clear c8
          have H' := Aside0.mk H
          clear H
          have hcz9_0 : w3.cell? ⟨gb230, 0, none⟩ = some (.int .i64 a0_0) := (blk_cell BK230.out 0).trans rfl
          have hcz9_1 : w3.cell? ⟨gb230, 1, none⟩ = some (.int .i64 a0_1) := (blk_cell BK230.out 1).trans rfl
          have hcz9_2 : w3.cell? ⟨gb230, 2, none⟩ = some (.slice A0_2 l0_2.length c0_2) := (blk_cell BK230.out 2).trans rfl
          have hfz9_0 := blk_frozen BK230.out 0
          have hfz9_1 := blk_frozen BK230.out 1
          have hfz9_2 := blk_frozen BK230.out 2
          go_wp2
          go_meet
          case rel => exact ⟨_, (true), (by first | rfl | (simp; done) | (simp [*]; done)), H', ⟨by first | omega | exact Nat.le_refl _⟩, ⟨by (with_reducible repeat (first | refine blk_drewN ?_ _ | refine blk_drew ?_ | refine blk_alloc ?_ _)); exact BK230.out⟩, ⟨by repeat (first | (with_reducible first | exact HB.out | apply below_alloc | apply pw_below_drewN | apply below_drew1 | refine below_set ?_ GE230.out) | exact HB.out)⟩⟩
        · rw [if_neg c8] at H
          have c8b0 : decide (a0_1 < (-1)) = false := decide_eq_false c8
          clear c8
          by_cases c10 : a0_1 ≥ a0_0
          · rw [if_pos c10] at H
            have c10b0 : decide (a0_0 ≤ a0_1) = true := decide_eq_true c10
            clear c10
            have H' := Aside0.mk H
            clear H
            have hcz11_0 : w3.cell? ⟨gb230, 0, none⟩ = some (.int .i64 a0_0) := (blk_cell BK230.out 0).trans rfl
            have hcz11_1 : w3.cell? ⟨gb230, 1, none⟩ = some (.int .i64 a0_1) := (blk_cell BK230.out 1).trans rfl
            have hcz11_2 : w3.cell? ⟨gb230, 2, none⟩ = some (.slice A0_2 l0_2.length c0_2) := (blk_cell BK230.out 2).trans rfl
            have hfz11_0 := blk_frozen BK230.out 0
            have hfz11_1 := blk_frozen BK230.out 1
            have hfz11_2 := blk_frozen BK230.out 2
            go_wp2
            go_meet
            case rel => exact ⟨_, (decide (a0_1 ≥ 0)), (by first | rfl | (simp; done) | (simp [*]; done)), H', ⟨by first | omega | exact Nat.le_refl _⟩, ⟨by (with_reducible repeat (first | refine blk_drewN ?_ _ | refine blk_drew ?_ | refine blk_alloc ?_ _)); exact BK230.out⟩, ⟨by repeat (first | (with_reducible first | exact HB.out | apply below_alloc | apply pw_below_drewN | apply below_drew1 | refine below_set ?_ GE230.out) | exact HB.out)⟩⟩
          · rw [if_neg c10] at H
            have c10b0 : decide (a0_0 ≤ a0_1) = false := decide_eq_false c10
            clear c10
            have H' := Aside0.mk H
            clear H
            have hcz12_0 : w3.cell? ⟨gb230, 0, none⟩ = some (.int .i64 a0_0) := (blk_cell BK230.out 0).trans rfl
            have hcz12_1 : w3.cell? ⟨gb230, 1, none⟩ = some (.int .i64 a0_1) := (blk_cell BK230.out 1).trans rfl
            have hcz12_2 : w3.cell? ⟨gb230, 2, none⟩ = some (.slice A0_2 l0_2.length c0_2) := (blk_cell BK230.out 2).trans rfl
            have hfz12_0 := blk_frozen BK230.out 0
            have hfz12_1 := blk_frozen BK230.out 1
            have hfz12_2 := blk_frozen BK230.out 2
            go_wp2
            go_meet
            case rel => exact ⟨_, (false), (by first | rfl | (simp; done) | (simp [*]; done)), H', ⟨by first | omega | exact Nat.le_refl _⟩, ⟨by (with_reducible repeat (first | refine blk_drewN ?_ _ | refine blk_drew ?_ | refine blk_alloc ?_ _)); exact BK230.out⟩, ⟨by repeat (first | (with_reducible first | exact HB.out | apply below_alloc | apply pw_below_drewN | apply below_drew1 | refine below_set ?_ GE230.out) | exact HB.out)⟩⟩
  case rest =>
    clear HC2
    try clear c1
    try clear p2
    try clear c3
    try clear c4
    try clear c4b0
    try clear c6
    try clear c6b0
    try clear c8
    try clear c8b0
    try clear c10
    try clear c10b0
    try clear hcz11_0
    try clear hcz11_1
    try clear hcz11_2
    try clear hcz12_0
    try clear hcz12_1
    try clear hcz12_2
    try clear hcz5_0
    try clear hcz5_1
    try clear hcz5_2
    try clear hcz7_0
    try clear hcz7_1
    try clear hcz7_2
    try clear hcz9_0
    try clear hcz9_1
    try clear hcz9_2
    try clear hfz11_0
    try clear hfz11_1
    try clear hfz11_2
    try clear hfz12_0
    try clear hfz12_1
    try clear hfz12_2
    try clear hfz5_0
    try clear hfz5_1
    try clear hfz5_2
    try clear hfz7_0
    try clear hfz7_1
    try clear hfz7_2
    try clear hfz9_0
    try clear hfz9_1
    try clear hfz9_2
    obtain ⟨kq, x27_1, rfl, HA, HJ1, BK230, HB⟩ := hcut
    cases kq with
    | zero => exact absurd HA.out (by simp [gessoref02_May.j0])
    | succ kj1 =>
      have H := HA.out
      clear HA
      simp only [gessoref02_May.j0] at H
      by_cases c13 : x27_1 = true
      · subst c13
        have H1 : (some false) = some r := by rw [if_pos rfl] at H; exact H
        clear H
        have H := H1
        clear H1
        obtain rfl := Option.some.inj H
        go_wp2
        go_ret
        exact ⟨by first | rfl | (simp [errW_none, errW_some] <;> rfl) | (simp [*, errW_none, errW_some] <;> rfl), by repeat (first | (with_reducible first | exact HB.out | apply below_alloc | apply pw_below_drewN | apply below_drew1 | refine below_set ?_ GE230.out) | exact HB.out)⟩
      · replace c13 := Bool.eq_false_iff.mpr c13
        subst c13
        have H1 : (if (l0_2.length : Int) = 0 then (some true) else ((gessoref02_Open.f l0_2).bind fun t231 => (if t231 = true then (if (l0_2.length : Int) ≤ a0_0 then (some (a0_1 == (-1))) else (some false)) else (some false)))) = some r := by rw [if_neg (show ¬ (false = true) by decide)] at H; exact H
        clear H
        have H := H1
        clear H1
        by_cases c14 : (l0_2.length : Int) = 0
        · rw [if_pos c14] at H
          have c14b0 : ((l0_2.length : Int) == 0) = true := beq_iff_eq.mpr c14
          have c14b1 : ((l0_2.length : Int) != 0) = false := bne_eq_false_iff_eq.mpr c14
          clear c14
          obtain rfl := Option.some.inj H
          have hcz15_0 : wc.cell? ⟨gb230, 0, none⟩ = some (.int .i64 a0_0) := (blk_cell BK230.out 0).trans rfl
          have hcz15_1 : wc.cell? ⟨gb230, 1, none⟩ = some (.int .i64 a0_1) := (blk_cell BK230.out 1).trans rfl
          have hcz15_2 : wc.cell? ⟨gb230, 2, none⟩ = some (.slice A0_2 l0_2.length c0_2) := (blk_cell BK230.out 2).trans rfl
          have hfz15_0 := blk_frozen BK230.out 0
          have hfz15_1 := blk_frozen BK230.out 1
          have hfz15_2 := blk_frozen BK230.out 2
          go_wp2
          go_ret
          exact ⟨by first | rfl | (simp [errW_none, errW_some] <;> rfl) | (simp [*, errW_none, errW_some] <;> rfl), by repeat (first | (with_reducible first | exact HB.out | apply below_alloc | apply pw_below_drewN | apply below_drew1 | refine below_set ?_ GE230.out) | exact HB.out)⟩
        · rw [if_neg c14] at H
          have c14b0 : ((l0_2.length : Int) == 0) = false := beq_eq_false_iff_ne.mpr c14
          have c14b1 : ((l0_2.length : Int) != 0) = true := bne_iff_ne.mpr c14
          have c14b2 : ¬ (l0_2 = []) := fun h_ => c14 (by rw [h_]; rfl)
          replace H := Option.bind_eq_some_iff.mp H
          obtain ⟨t231, A160, H⟩ := H
          replace H : (if t231 = true then (if (l0_2.length : Int) ≤ a0_0 then (some (a0_1 == (-1))) else (some false)) else (some false)) = some r := H
          have A16 := Aside0.mk A160
          clear A160
          by_cases c17 : t231 = true
          · subst c17
            have H1 : (if (l0_2.length : Int) ≤ a0_0 then (some (a0_1 == (-1))) else (some false)) = some r := by rw [if_pos rfl] at H; exact H
            clear H
            have H := H1
            clear H1
            by_cases c18 : (l0_2.length : Int) ≤ a0_0
            · rw [if_pos c18] at H
              have c18b0 : decide ((l0_2.length : Int) ≤ a0_0) = true := decide_eq_true c18
              clear c18
              obtain rfl := Option.some.inj H
              have hcz19_0 : wc.cell? ⟨gb230, 0, none⟩ = some (.int .i64 a0_0) := (blk_cell BK230.out 0).trans rfl
              have hcz19_1 : wc.cell? ⟨gb230, 1, none⟩ = some (.int .i64 a0_1) := (blk_cell BK230.out 1).trans rfl
              have hcz19_2 : wc.cell? ⟨gb230, 2, none⟩ = some (.slice A0_2 l0_2.length c0_2) := (blk_cell BK230.out 2).trans rfl
              have hfz19_0 := blk_frozen BK230.out 0
              have hfz19_1 := blk_frozen BK230.out 1
              have hfz19_2 := blk_frozen BK230.out 2
              go_wp2_with (first | ((with_reducible refine gate_callee (f := 19) rfl ?_); refine goesL_ (some 34) rfl rfl Tryd.func19 (by kernel_rfl) rfl #[.slice A0_2 l0_2.length c0_2] rfl (by (try simp only [List.map_toArray, List.map_cons, List.map_nil]); first | done | rfl | (simp only [List.length_drop, List.length_take]; rfl)) ?_; (with_reducible refine (gessoref02_Open.calls _ _ l0_2 true _ ?side1 ?side2 A16.out).mono ?_); (case side1 => repeat (first | exact (Kd.C_below HR0_2.out HB.out) | (with_reducible refine Kd.C_alloc ?_ _) | (with_reducible refine Kd.C_drewN ?_ _) | (with_reducible refine Kd.C_drew ?_))); (case side2 => exact HC0_2.out); rintro e w20 ⟨rfl, hb⟩; refine ⟨_, rfl, ?_⟩; have n0_ := Aside0.mk (blk_below (g := gb230) (o := .cells #[.int .i64 a0_0, .int .i64 a0_1, .slice A0_2 l0_2.length c0_2] 42 (0, 0)) (by (with_reducible repeat (first | refine blk_drewN ?_ _ | refine blk_drew ?_ | refine blk_alloc ?_ _)); exact BK230.out) hb); have n1_ := Aside0.mk (below_step (by repeat (first | (with_reducible first | exact HB.out | apply below_alloc | apply pw_below_drewN | apply below_drew1 | refine below_set ?_ GE230.out) | exact HB.out)) hb); clear BK230; clear HB; have BK230 := n0_; have HB := n1_; clear n0_ n1_; (try clear hb); (try clear hb2); (try clear hk); (try clear hi); have hcz21_0 : w20.cell? ⟨gb230, 0, none⟩ = some (.int .i64 a0_0) := (blk_cell BK230.out 0).trans rfl; have hcz21_1 : w20.cell? ⟨gb230, 1, none⟩ = some (.int .i64 a0_1) := (blk_cell BK230.out 1).trans rfl; have hcz21_2 : w20.cell? ⟨gb230, 2, none⟩ = some (.slice A0_2 l0_2.length c0_2) := (blk_cell BK230.out 2).trans rfl; have hfz21_0 := blk_frozen BK230.out 0; have hfz21_1 := blk_frozen BK230.out 1; have hfz21_2 := blk_frozen BK230.out 2))
              go_ret
              exact ⟨by first | rfl | (simp [errW_none, errW_some] <;> rfl) | (simp [*, errW_none, errW_some] <;> rfl), by repeat (first | (with_reducible first | exact HB.out | apply below_alloc | apply pw_below_drewN | apply below_drew1 | refine below_set ?_ GE230.out) | exact HB.out)⟩
            · rw [if_neg c18] at H
              have c18b0 : decide ((l0_2.length : Int) ≤ a0_0) = false := decide_eq_false c18
              clear c18
              obtain rfl := Option.some.inj H
              have hcz22_0 : wc.cell? ⟨gb230, 0, none⟩ = some (.int .i64 a0_0) := (blk_cell BK230.out 0).trans rfl
              have hcz22_1 : wc.cell? ⟨gb230, 1, none⟩ = some (.int .i64 a0_1) := (blk_cell BK230.out 1).trans rfl
              have hcz22_2 : wc.cell? ⟨gb230, 2, none⟩ = some (.slice A0_2 l0_2.length c0_2) := (blk_cell BK230.out 2).trans rfl
              have hfz22_0 := blk_frozen BK230.out 0
              have hfz22_1 := blk_frozen BK230.out 1
              have hfz22_2 := blk_frozen BK230.out 2
              go_wp2_with (first | ((with_reducible refine gate_callee (f := 19) rfl ?_); refine goesL_ (some 34) rfl rfl Tryd.func19 (by kernel_rfl) rfl #[.slice A0_2 l0_2.length c0_2] rfl (by (try simp only [List.map_toArray, List.map_cons, List.map_nil]); first | done | rfl | (simp only [List.length_drop, List.length_take]; rfl)) ?_; (with_reducible refine (gessoref02_Open.calls _ _ l0_2 true _ ?side1 ?side2 A16.out).mono ?_); (case side1 => repeat (first | exact (Kd.C_below HR0_2.out HB.out) | (with_reducible refine Kd.C_alloc ?_ _) | (with_reducible refine Kd.C_drewN ?_ _) | (with_reducible refine Kd.C_drew ?_))); (case side2 => exact HC0_2.out); rintro e w23 ⟨rfl, hb⟩; refine ⟨_, rfl, ?_⟩; have n0_ := Aside0.mk (blk_below (g := gb230) (o := .cells #[.int .i64 a0_0, .int .i64 a0_1, .slice A0_2 l0_2.length c0_2] 42 (0, 0)) (by (with_reducible repeat (first | refine blk_drewN ?_ _ | refine blk_drew ?_ | refine blk_alloc ?_ _)); exact BK230.out) hb); have n1_ := Aside0.mk (below_step (by repeat (first | (with_reducible first | exact HB.out | apply below_alloc | apply pw_below_drewN | apply below_drew1 | refine below_set ?_ GE230.out) | exact HB.out)) hb); clear BK230; clear HB; have BK230 := n0_; have HB := n1_; clear n0_ n1_; (try clear hb); (try clear hb2); (try clear hk); (try clear hi); have hcz24_0 : w23.cell? ⟨gb230, 0, none⟩ = some (.int .i64 a0_0) := (blk_cell BK230.out 0).trans rfl; have hcz24_1 : w23.cell? ⟨gb230, 1, none⟩ = some (.int .i64 a0_1) := (blk_cell BK230.out 1).trans rfl; have hcz24_2 : w23.cell? ⟨gb230, 2, none⟩ = some (.slice A0_2 l0_2.length c0_2) := (blk_cell BK230.out 2).trans rfl; have hfz24_0 := blk_frozen BK230.out 0; have hfz24_1 := blk_frozen BK230.out 1; have hfz24_2 := blk_frozen BK230.out 2))
              go_ret
              exact ⟨by first | rfl | (simp [errW_none, errW_some] <;> rfl) | (simp [*, errW_none, errW_some] <;> rfl), by repeat (first | (with_reducible first | exact HB.out | apply below_alloc | apply pw_below_drewN | apply below_drew1 | refine below_set ?_ GE230.out) | exact HB.out)⟩
          · replace c17 := Bool.eq_false_iff.mpr c17
            subst c17
            have H1 : (some false) = some r := by rw [if_neg (show ¬ (false = true) by decide)] at H; exact H
            clear H
            have H := H1
            clear H1
            obtain rfl := Option.some.inj H
            have hcz25_0 : wc.cell? ⟨gb230, 0, none⟩ = some (.int .i64 a0_0) := (blk_cell BK230.out 0).trans rfl
            have hcz25_1 : wc.cell? ⟨gb230, 1, none⟩ = some (.int .i64 a0_1) := (blk_cell BK230.out 1).trans rfl
            have hcz25_2 : wc.cell? ⟨gb230, 2, none⟩ = some (.slice A0_2 l0_2.length c0_2) := (blk_cell BK230.out 2).trans rfl
            have hfz25_0 := blk_frozen BK230.out 0
            have hfz25_1 := blk_frozen BK230.out 1
            have hfz25_2 := blk_frozen BK230.out 2
            go_wp2_with (first | ((with_reducible refine gate_callee (f := 19) rfl ?_); refine goesL_ (some 34) rfl rfl Tryd.func19 (by kernel_rfl) rfl #[.slice A0_2 l0_2.length c0_2] rfl (by (try simp only [List.map_toArray, List.map_cons, List.map_nil]); first | done | rfl | (simp only [List.length_drop, List.length_take]; rfl)) ?_; (with_reducible refine (gessoref02_Open.calls _ _ l0_2 false _ ?side1 ?side2 A16.out).mono ?_); (case side1 => repeat (first | exact (Kd.C_below HR0_2.out HB.out) | (with_reducible refine Kd.C_alloc ?_ _) | (with_reducible refine Kd.C_drewN ?_ _) | (with_reducible refine Kd.C_drew ?_))); (case side2 => exact HC0_2.out); rintro e w26 ⟨rfl, hb⟩; refine ⟨_, rfl, ?_⟩; have n0_ := Aside0.mk (blk_below (g := gb230) (o := .cells #[.int .i64 a0_0, .int .i64 a0_1, .slice A0_2 l0_2.length c0_2] 42 (0, 0)) (by (with_reducible repeat (first | refine blk_drewN ?_ _ | refine blk_drew ?_ | refine blk_alloc ?_ _)); exact BK230.out) hb); have n1_ := Aside0.mk (below_step (by repeat (first | (with_reducible first | exact HB.out | apply below_alloc | apply pw_below_drewN | apply below_drew1 | refine below_set ?_ GE230.out) | exact HB.out)) hb); clear BK230; clear HB; have BK230 := n0_; have HB := n1_; clear n0_ n1_; (try clear hb); (try clear hb2); (try clear hk); (try clear hi)))
            go_ret
            exact ⟨by first | rfl | (simp [errW_none, errW_some] <;> rfl) | (simp [*, errW_none, errW_some] <;> rfl), by repeat (first | (with_reducible first | exact HB.out | apply below_alloc | apply pw_below_drewN | apply below_drew1 | refine below_set ?_ GE230.out) | exact HB.out)⟩
end Go.Proofs.YtnaaimnmphcilaaDoor.QC

namespace Go.Proofs.YtnaaimnmphcilaaDoor.Hand
open Go.RowKit Go.Proofs.YtnaaimnmphcilaaDoorW.PrintWords Go.Proofs.YtnaaimnmphcilaaDoorW.PrintLast Go.Proofs.YtnaaimnmphcilaaDoorW.PrintMore
set_option linter.unusedVariables false
set_option linter.unusedSimpArgs false

/-- Can a scan have this state? -/
def mayI (s b : Int) (l : List Int) : Prop := 0 ≤ s ∧ s ≤ 1099511627776 ∧ -1 ≤ b ∧ (0 ≤ b → b < s) ∧ (l ≠ [] → openI l = true ∧ (l.length : Int) ≤ s ∧ b = -1)

set_option maxHeartbeats 2000000 in
theorem from_no1 (s b : Int) (A : Option Addr) (c n : Nat) (w : World) (h : s < 0 ∨ s > 1099511627776 ∨ b < -1 ∨ (0 ≤ b ∧ b ≥ s)) :
    Calls Tryd.prog 29 #[.agg #[.int .i64 s, .int .i64 b, .slice A n c]] w fun e w' => e = .returned (.tuple #[.pointer none, .int .i64 2]) ∧ Below w.heap.size w w' := by
  by_cases h1 : s < 0
  · clear h
    go_enter Tryd.func29, Tryd.ntmps29
    go_wp2
    all_goals (go_ret2; exact ⟨rfl, (Below.refl _ w).alloc (Nat.le_refl _) _⟩)
  · by_cases h2 : s > 1099511627776
    · clear h
      go_enter Tryd.func29, Tryd.ntmps29
      go_wp2
      all_goals (go_ret2; exact ⟨rfl, (Below.refl _ w).alloc (Nat.le_refl _) _⟩)
    · by_cases h3 : b < -1
      · clear h
        go_enter Tryd.func29, Tryd.ntmps29
        go_wp2
        all_goals (go_ret2; exact ⟨rfl, (Below.refl _ w).alloc (Nat.le_refl _) _⟩)
      · have h4 : b ≥ 0 := by omega
        have h5 : b ≥ s := by omega
        clear h
        go_enter Tryd.func29, Tryd.ntmps29
        go_wp2
        all_goals (go_ret2; exact ⟨rfl, (Below.refl _ w).alloc (Nat.le_refl _) _⟩)

theorem open_new {w : World} {A : Option Addr} {c : Nat} {l : List Int} (hr : Kd.C (Kd.int .u8) w A l.length l) (hT : Tabs w) (hB : allB l = true) (o : Obj) :
    Calls Tryd.prog 18 #[.slice A l.length c] (w.alloc o) fun e w' => e = .returned (.bool (openI l)) ∧ Below w.heap.size w w' ∧ w'.heap[w.heap.size]? = some o := by
  have hb := (Below.refl w.heap.size w).alloc (Nat.le_refl _) o
  refine (open_calls A c l (w.alloc o) (Kd.C_below hr hb) (hT.below hb) hB).mono ?_
  rintro e w' ⟨rfl, h⟩
  exact ⟨rfl, below_then hb hb.size h, blk_below (heap_alloc_new w o) h⟩

set_option maxHeartbeats 4000000 in
theorem from_no2 (s b : Int) (A : Option Addr) (c : Nat) (l : List Int) (w : World) (hr : Kd.C (Kd.int .u8) w A l.length l) (hT : Tabs w) (hB : allB l = true) (h1 : ¬ s < 0) (h2 : ¬ s > 1099511627776) (h3 : ¬ b < -1) (h4 : 0 ≤ b → b < s) (hl : l ≠ [])
    (h : openI l = false ∨ (l.length : Int) > s ∨ b ≠ -1) :
    Calls Tryd.prog 29 #[.agg #[.int .i64 s, .int .i64 b, .slice A l.length c]] w fun e w' => e = .returned (.tuple #[.pointer none, .int .i64 2]) ∧ Below w.heap.size w w' := by
  have cO := fun o => open_new (c := c) hr hT hB o
  have hpos : (l.length : Int) > 0 := by have := List.length_pos_iff.2 hl; omega
  have h5 : ¬ b ≥ 0 ∨ (b ≥ 0 ∧ ¬ b ≥ s) := by omega
  have CO := Aside0.mk cO
  clear cO hr hT hB h4
  generalize openI l = f at *
  generalize l.length = n at *
  clear hl
  have hcase : f = false ∨ (f = true ∧ (n : Int) > s) ∨ (f = true ∧ ¬ (n : Int) > s ∧ b ≠ -1) := by
    cases f
    · exact .inl rfl
    · by_cases hs : (n : Int) > s
      · exact .inr (.inl ⟨rfl, hs⟩)
      · refine .inr (.inr ⟨rfl, hs, ?_⟩)
        rcases h with h | h | h
        · cases h
        · exact absurd h hs
        · exact h
  clear h
  rcases h5 with h5 | ⟨h5, h6⟩ <;> rcases hcase with rfl | ⟨rfl, h7⟩ | ⟨rfl, h7, h8⟩
  all_goals try (exfalso; omega)
  all_goals
    try (have h9 : (b != -1) = true := bne_iff_ne.2 h8)
    go_enter Tryd.func29, Tryd.ntmps29
    go_wp2_with (go_at_call 18; with_reducible refine (CO.out _).mono ?_; rintro e w2 ⟨rfl, hb, hk⟩; have HB := Aside0.mk hb; have k0 := blk_cell hk 0; have k1 := blk_cell hk 1; have k2 := blk_cell hk 2; clear hb hk)
    go_ret2
    exact ⟨rfl, HB.out⟩

theorem clone_at (A : Option Addr) (c : Nat) (l : List Int) (n : Nat) (hn : n = l.length) (w : World) (hr : Kd.C (Kd.int .u8) w A l.length l) (hc : l.length ≤ c) (hl : l.length ≤ 140737488355328) :
    Calls Tryd.prog 45 #[.slice A n c] w fun e w' => ∃ v, e = .returned v ∧ Kd.R (Kd.int .u8) 5 w' w.heap.size (fun _ => True) v l ∧ Below w.heap.size w w' := by
  subst hn; exact clone_calls A c l w hr hc hl

set_option maxHeartbeats 4000000 in
theorem from_yes (s b : Int) (A : Option Addr) (c : Nat) (l : List Int) (w : World) (hr : Kd.C (Kd.int .u8) w A l.length l) (hc : l.length ≤ c) (hT : Tabs w) (hB : allB l = true) (hm : mayI s b l) :
    Calls Tryd.prog 29 #[.agg #[.int .i64 s, .int .i64 b, .slice A l.length c]] w fun e w' => ∃ g A2 c2, e = .returned (.tuple #[.pointer (some ⟨g, 0, none⟩), .int .i64 0]) ∧ Sc w' g s b A2 c2 l ∧ w.heap.size ≤ g ∧ (∀ x, A2 = some x → w.heap.size ≤ x.block) ∧ Below w.heap.size w w' := by
  obtain ⟨m1, m2, m3, m4, m5⟩ := hm
  have cO := fun o => open_new (c := c) hr hT hB o
  have hl4 : l.length ≤ 140737488355328 := by
    by_cases h : l = []
    · subst h; simp
    · have := open_4 (m5 h).1; omega
  have HCL : Aside0 (∀ W, Below w.heap.size w W → ∀ n, n = l.length → Calls Tryd.prog 45 #[.slice A n c] W fun e w' => ∃ v, e = .returned v ∧ Kd.R (Kd.int .u8) 5 w' W.heap.size (fun _ => True) v l ∧ Below W.heap.size W w') :=
    ⟨fun W hb n hn => clone_at A c l n hn W (Kd.C_below hr hb) hc hl4⟩
  have h1 : ¬ s < 0 := by omega
  have h2 : ¬ s > 1099511627776 := by omega
  have h3 : ¬ b < -1 := by omega
  have h5 : ¬ b ≥ 0 ∨ (b ≥ 0 ∧ ¬ b ≥ s) := by omega
  have hcase : l.length = 0 ∨ ((l.length : Int) > 0 ∧ openI l = true ∧ ¬ (l.length : Int) > s ∧ b = -1) := by
    by_cases h : l = []
    · exact .inl (by rw [h]; rfl)
    · have := m5 h
      have := List.length_pos_iff.2 h
      exact .inr ⟨by omega, (m5 h).1, by omega, (m5 h).2.2⟩
  have CO := Aside0.mk cO
  clear cO hr hT hB m5 hc hl4 m1 m2 m3 m4
  generalize openI l = f at *
  obtain ⟨n, hn⟩ : ∃ n, n = l.length := ⟨_, rfl⟩
  have HN := Aside0.mk hn
  rw [← hn] at CO hcase ⊢
  clear hn
  have hkey : Calls Tryd.prog 29 #[.agg #[.int .i64 s, .int .i64 b, .slice A n c]] w fun e w' => Aside0 (∃ g A2 c2, e = .returned (.tuple #[.pointer (some ⟨g, 0, none⟩), .int .i64 0]) ∧ Sc w' g s b A2 c2 l ∧ w.heap.size ≤ g ∧ (∀ x, A2 = some x → w.heap.size ≤ x.block) ∧ Below w.heap.size w w') := by
    rcases hcase with rfl | ⟨q1, rfl, q2, rfl⟩
    · rcases h5 with h5 | ⟨h5, h6⟩
      · go_enter Tryd.func29, Tryd.ntmps29
        go_wp2
        obtain ⟨W0, hW0⟩ : ∃ W0, W0 = w.alloc (Obj.cells #[Value.int IntKind.i64 s, Value.int IntKind.i64 b, Value.slice A 0 c] 49) := ⟨_, rfl⟩
        rw [← hW0]
        have HB0 : Aside0 (Below w.heap.size w W0) := ⟨by rw [hW0]; exact (Below.refl _ w).alloc (Nat.le_refl _) _⟩
        have K0 : Aside0 (W0.heap[w.heap.size]? = some (.cells #[Value.int IntKind.i64 s, Value.int IntKind.i64 b, Value.slice A 0 c] 49 (0, 0))) := ⟨by rw [hW0]; exact heap_alloc_new w _⟩
        clear hW0
        have d0 : W0.cell? ⟨w.heap.size, 0, none⟩ = some (.int .i64 s) := blk_cell K0.out 0
        have d1 : W0.cell? ⟨w.heap.size, 1, none⟩ = some (.int .i64 b) := blk_cell K0.out 1
        have d2 : W0.cell? ⟨w.heap.size, 2, none⟩ = some (.slice A 0 c) := blk_cell K0.out 2
        go_region_held3 (fun w' => w'.cell? ⟨w.heap.size, 0, none⟩ = some (.int .i64 s) ∧ w'.cell? ⟨w.heap.size, 1, none⟩ = some (.int .i64 b) ∧ w'.cell? ⟨w.heap.size, 2, none⟩ = some (.slice A 0 c))
          (first | exact ⟨e0, e1, e2⟩ | exact ⟨d0, d1, d2⟩ | go_keep)
          (first | (go_at_call 45; refine (HCL.out _ (below_drew HB0.out) 0 HN.out).mono ?_; rintro e w1 ⟨v, rfl, HO, HB1⟩; obtain ⟨A3, c3, rfl⟩ := Kd.R_slice HO; have e0 := pw_cell_below HB1 (show W0.drew.cell? _ = some _ from d0); have e1 := pw_cell_below HB1 (show W0.drew.cell? _ = some _ from d1); have e2 := pw_cell_below HB1 (show W0.drew.cell? _ = some _ from d2)))
        all_goals go_wp2
        go_ret2
        refine ⟨⟨w1.heap.size, A3, c3, rfl, ⟨heap_alloc_new w1 _, Kd.C_below (Kd.R_reads' HO).2.2 ((Below.refl _ w1).alloc (Nat.le_refl _) _), (Kd.R_reads' HO).2.1, fun x hx => ?_⟩, ?_, fun x hx => ?_, ?_⟩⟩
        · subst hx; have := Kd.R_lt HO x.block rfl; omega
        · have := HB1.size; have := HB0.out.size; exact Nat.le_trans HB0.out.size HB1.size
        · subst hx; have := Kd.R_base HO x.block rfl; exact Nat.le_trans HB0.out.size this
        · exact ((below_drew HB0.out).trans (HB1.mono HB0.out.size)).alloc (Nat.le_trans HB0.out.size HB1.size) _
      · go_enter Tryd.func29, Tryd.ntmps29
        go_wp2
        obtain ⟨W0, hW0⟩ : ∃ W0, W0 = w.alloc (Obj.cells #[Value.int IntKind.i64 s, Value.int IntKind.i64 b, Value.slice A 0 c] 49) := ⟨_, rfl⟩
        rw [← hW0]
        have HB0 : Aside0 (Below w.heap.size w W0) := ⟨by rw [hW0]; exact (Below.refl _ w).alloc (Nat.le_refl _) _⟩
        have K0 : Aside0 (W0.heap[w.heap.size]? = some (.cells #[Value.int IntKind.i64 s, Value.int IntKind.i64 b, Value.slice A 0 c] 49 (0, 0))) := ⟨by rw [hW0]; exact heap_alloc_new w _⟩
        clear hW0
        have d0 : W0.cell? ⟨w.heap.size, 0, none⟩ = some (.int .i64 s) := blk_cell K0.out 0
        have d1 : W0.cell? ⟨w.heap.size, 1, none⟩ = some (.int .i64 b) := blk_cell K0.out 1
        have d2 : W0.cell? ⟨w.heap.size, 2, none⟩ = some (.slice A 0 c) := blk_cell K0.out 2
        go_region_held3 (fun w' => w'.cell? ⟨w.heap.size, 0, none⟩ = some (.int .i64 s) ∧ w'.cell? ⟨w.heap.size, 1, none⟩ = some (.int .i64 b) ∧ w'.cell? ⟨w.heap.size, 2, none⟩ = some (.slice A 0 c))
          (first | exact ⟨e0, e1, e2⟩ | exact ⟨d0, d1, d2⟩ | go_keep)
          (first | (go_at_call 45; refine (HCL.out _ (below_drew HB0.out) 0 HN.out).mono ?_; rintro e w1 ⟨v, rfl, HO, HB1⟩; obtain ⟨A3, c3, rfl⟩ := Kd.R_slice HO; have e0 := pw_cell_below HB1 (show W0.drew.cell? _ = some _ from d0); have e1 := pw_cell_below HB1 (show W0.drew.cell? _ = some _ from d1); have e2 := pw_cell_below HB1 (show W0.drew.cell? _ = some _ from d2)))
        all_goals go_wp2
        go_ret2
        refine ⟨⟨w1.heap.size, A3, c3, rfl, ⟨heap_alloc_new w1 _, Kd.C_below (Kd.R_reads' HO).2.2 ((Below.refl _ w1).alloc (Nat.le_refl _) _), (Kd.R_reads' HO).2.1, fun x hx => ?_⟩, ?_, fun x hx => ?_, ?_⟩⟩
        · subst hx; have := Kd.R_lt HO x.block rfl; omega
        · have := HB1.size; have := HB0.out.size; exact Nat.le_trans HB0.out.size HB1.size
        · subst hx; have := Kd.R_base HO x.block rfl; exact Nat.le_trans HB0.out.size this
        · exact ((below_drew HB0.out).trans (HB1.mono HB0.out.size)).alloc (Nat.le_trans HB0.out.size HB1.size) _
    · have h5' : ¬ (-1 : Int) ≥ 0 := by decide
      clear h5
      go_enter Tryd.func29, Tryd.ntmps29
      go_wp2_with (go_at_call 18; with_reducible refine (CO.out _).mono ?_; rintro e W0 ⟨rfl, hb, hk⟩; have HB0 := Aside0.mk hb; have K0 := Aside0.mk hk; have k0 := blk_cell hk 0; have k1 := blk_cell hk 1; have k2 := blk_cell hk 2; clear hb hk)
      clear k0 k1 k2
      have d0 : W0.cell? ⟨w.heap.size, 0, none⟩ = some (.int .i64 s) := blk_cell K0.out 0
      have d1 : W0.cell? ⟨w.heap.size, 1, none⟩ = some (.int .i64 (-1)) := blk_cell K0.out 1
      have d2 : W0.cell? ⟨w.heap.size, 2, none⟩ = some (.slice A n c) := blk_cell K0.out 2
      go_region_held3 (fun w' => w'.cell? ⟨w.heap.size, 0, none⟩ = some (.int .i64 s) ∧ w'.cell? ⟨w.heap.size, 1, none⟩ = some (.int .i64 (-1)) ∧ w'.cell? ⟨w.heap.size, 2, none⟩ = some (.slice A n c))
        (first | exact ⟨e0, e1, e2⟩ | exact ⟨d0, d1, d2⟩ | go_keep)
        (first | (go_at_call 45; refine (HCL.out _ (below_drew HB0.out) n HN.out).mono ?_; rintro e w1 ⟨v, rfl, HO, HB1⟩; obtain ⟨A3, c3, rfl⟩ := Kd.R_slice HO; have e0 := pw_cell_below HB1 (show W0.drew.cell? _ = some _ from d0); have e1 := pw_cell_below HB1 (show W0.drew.cell? _ = some _ from d1); have e2 := pw_cell_below HB1 (show W0.drew.cell? _ = some _ from d2)))
      all_goals go_wp2
      go_ret2
      refine ⟨⟨w1.heap.size, A3, c3, rfl, ⟨heap_alloc_new w1 _, Kd.C_below (Kd.R_reads' HO).2.2 ((Below.refl _ w1).alloc (Nat.le_refl _) _), (Kd.R_reads' HO).2.1, fun x hx => ?_⟩, ?_, fun x hx => ?_, ?_⟩⟩
      · subst hx; have := Kd.R_lt HO x.block rfl; omega
      · have := HB1.size; have := HB0.out.size; exact Nat.le_trans HB0.out.size HB1.size
      · subst hx; have := Kd.R_base HO x.block rfl; exact Nat.le_trans HB0.out.size this
      · exact ((below_drew HB0.out).trans (HB1.mono HB0.out.size)).alloc (Nat.le_trans HB0.out.size HB1.size) _
  exact hkey.mono fun _ _ h => h.out
end Go.Proofs.YtnaaimnmphcilaaDoor.Hand

namespace Go.Proofs.YtnaaimnmphcilaaDoor.Hand
open Go.RowKit Go.Proofs.YtnaaimnmphcilaaDoorW.PrintWords Go.Proofs.YtnaaimnmphcilaaDoorW.PrintLast Go.Proofs.YtnaaimnmphcilaaDoorW.PrintMore
set_option linter.unusedVariables false
set_option linter.unusedSimpArgs false

theorem refsame_calls (s b : Int) (A : Option Addr) (c : Nat) (A' : Option Addr) (c' : Nat) (l : List Int) (n : Nat) (hn : n = l.length) (w : World) (hr : Kd.C (Kd.int .u8) w A l.length l) (hc : l.length ≤ c) (hr' : Kd.C (Kd.int .u8) w A' l.length l) (hc' : l.length ≤ c') :
    Calls Tryd.prog 40 #[.agg #[.int .i64 s, .int .i64 b, .slice A n c], .agg #[.int .i64 s, .int .i64 b, .slice A' n c']] w fun e w' => e = .returned (.bool true) ∧ Below w.heap.size w w' := by
  subst hn
  exact QC.gessoref02_Same.calls s b A c l s b A' c' l true w hr hc hr' hc' (by unfold QC.gessoref02_Same.f; simp)
theorem refend_calls (s b : Int) (A : Option Addr) (c : Nat) (l : List Int) (n : Nat) (hn : n = l.length) (w : World) (hr : Kd.C (Kd.int .u8) w A l.length l) (hc : l.length ≤ c) :
    Calls Tryd.prog 41 #[.agg #[.int .i64 s, .int .i64 b, .slice A n c]] w fun e w' => e = .returned (.int .i64 (endI s b l)) ∧ Below w.heap.size w w' := by
  subst hn
  refine QC.gessoref02_End.calls s b A c l _ w hr hc ?_
  unfold QC.gessoref02_End.f endI
  by_cases h : b < 0
  · by_cases h2 : (l.length : Int) > 0
    · rw [if_pos h, if_pos h2, if_pos ⟨h, by omega⟩]
    · rw [if_pos h, if_neg h2, if_neg (by omega)]
  · rw [if_neg h, if_neg (by omega)]

/-- The worlds inside same: the boxed state (block X), the scan's own (block Y). -/
structure SameW (w W : World) (X Y : Nat) (a b v v' : Value) : Prop where
  below : Below w.heap.size w W
  bx : W.heap[X]? = some (.cells #[a, b, v] 42 (0, 0))
  by_ : W.heap[Y]? = some (.cells #[a, b, v'] 49 (0, 0))
theorem SameW.then_ {w W W' : World} {X Y : Nat} {a b v v' : Value} (h : SameW w W X Y a b v v') (hb : Below W.heap.size W W') : SameW w W' X Y a b v v' := ⟨h.below.trans (hb.mono h.below.size), blk_below h.bx hb, blk_below h.by_ hb⟩
theorem SameW.drewN {w W : World} {X Y : Nat} {a b v v' : Value} (h : SameW w W X Y a b v v') (m : Nat) : SameW w (W.drewN m) X Y a b v v' := h.then_ (pw_below_drewN (Below.refl _ _) m)
theorem SameW.far {w W : World} {X Y : Nat} {a b v v' : Value} (h : SameW w W X Y a b v v') {p : Addr} (hp : w.heap.size ≤ p.block) (hx : X ≠ p.block) (hy : Y ≠ p.block) (u : Value) : SameW w (W.setCell p u) X Y a b v v' := ⟨h.below.setCell hp _, blk_far h.bx hx u, blk_far h.by_ hy u⟩
theorem SameW.cells {w W : World} {X Y : Nat} {a b v v' : Value} (h : SameW w W X Y a b v v') : W.cell? ⟨X, 0, none⟩ = some a ∧ W.cell? ⟨X, 1, none⟩ = some b ∧ W.cell? ⟨X, 2, none⟩ = some v ∧ W.cell? ⟨Y, 0, none⟩ = some a ∧ W.cell? ⟨Y, 1, none⟩ = some b ∧ W.cell? ⟨Y, 2, none⟩ = some v' :=
  ⟨blk_cell h.bx 0, blk_cell h.bx 1, blk_cell h.bx 2, blk_cell h.by_ 0, blk_cell h.by_ 1, blk_cell h.by_ 2⟩
theorem state_same {w : World} {g : Nat} {s b : Int} {A : Option Addr} {c : Nat} {l : List Int} (H : Sc w g s b A c l) (hl : l.length ≤ 140737488355328) (n : Nat) (hn : n = l.length) (u : Value) :
    Calls Tryd.prog 27 #[.pointer (some ⟨g, 0, none⟩)] (w.alloc (.cells #[.int .i64 s, .int .i64 b, u] 42)) fun e w1 => ∃ A3 c3, e = .returned (.agg #[.int .i64 s, .int .i64 b, .slice A3 n c3]) ∧
      Aside0 (SameW w (w1.alloc (.cells #[.int .i64 s, .int .i64 b, .slice A3 n c3] 49)) w.heap.size w1.heap.size (.int .i64 s) (.int .i64 b) u (.slice A3 n c3)) ∧ Aside0 (Kd.R (Kd.int .u8) 5 (w1.alloc (.cells #[.int .i64 s, .int .i64 b, .slice A3 n c3] 49)) w.heap.size (fun k => k ≠ w.heap.size ∧ k ≠ w1.heap.size) (.slice A3 n c3) l) := by
  refine (scan_state (H.two _) hl).mono ?_
  rintro e w1 ⟨v, rfl, hR, hb⟩
  obtain ⟨A3, c3, e3⟩ := Kd.R_slice hR
  rw [← hn] at e3
  subst e3
  have hs : (w.alloc (.cells #[.int .i64 s, .int .i64 b, u] 42)).heap.size = w.heap.size + 1 := Array.size_push _
  have hb0 : Below w.heap.size w (w.alloc (.cells #[.int .i64 s, .int .i64 b, u] 42)) := (Below.refl _ w).alloc (Nat.le_refl _) _
  have hb1 : Below w.heap.size w w1 := hb0.trans (hb.mono (by omega))
  refine ⟨A3, c3, rfl, ⟨⟨hb1.alloc hb1.size _, blk_below (blk_below (heap_alloc_new w _) hb) ((Below.refl _ w1).alloc (Nat.le_refl _) _), heap_alloc_new w1 _⟩⟩, ⟨?_⟩⟩
  refine Kd.R_alloc (Kd.R_mono (Kd.R_lower (Kd.R_bound hR) (show w.heap.size ≤ (w.alloc (.cells #[.int .i64 s, .int .i64 b, u] 42)).heap.size by omega)) (fun k hk => ⟨by have := hk.2.1; omega, by have := hk.2.2.1; omega⟩)) _

theorem SameW.drew_then {w W W' : World} {X Y : Nat} {a b v v' : Value} (h : SameW w W X Y a b v v') (hb : Below W.drew.heap.size W.drew W') : SameW w W' X Y a b v v' := (show SameW w W.drew X Y a b v v' from ⟨below_drew h.below, h.bx, h.by_⟩).then_ hb

theorem state_at {w : World} {g : Nat} {s b : Int} {A : Option Addr} {c : Nat} {l : List Int} (H : Sc w g s b A c l) (hl : l.length ≤ 140737488355328) (n : Nat) (hn : n = l.length) :
    Calls Tryd.prog 27 #[.pointer (some ⟨g, 0, none⟩)] w fun e w1 => ∃ A3 c3, e = .returned (.agg #[.int .i64 s, .int .i64 b, .slice A3 n c3]) ∧ (Kd.C (Kd.int .u8) w1 A3 l.length l ∧ l.length ≤ c3) ∧ Below w.heap.size w w1 := by
  refine (scan_state H hl).mono ?_
  rintro e w1 ⟨v, rfl, hR, hb⟩
  obtain ⟨A3, c3, e3⟩ := Kd.R_slice hR
  subst e3
  rw [hn]
  exact ⟨A3, c3, rfl, ⟨(Kd.R_reads' hR).2.2, (Kd.R_reads' hR).2.1⟩, hb⟩

set_option maxHeartbeats 4000000 in
theorem same_calls {w : World} {g : Nat} {s b : Int} {A : Option Addr} {c : Nat} {l : List Int} (H : Sc w g s b A c l) (A' : Option Addr) (c' n : Nat) (hn : n = l.length) (hr : Kd.C (Kd.int .u8) w A' l.length l) (hc : l.length ≤ c') (hl : l.length ≤ 140737488355328) :
    Calls Tryd.prog 22 #[.pointer (some ⟨g, 0, none⟩), .agg #[.int .i64 s, .int .i64 b, .slice A' n c']] w fun e w' => e = .returned (.bool true) ∧ Below w.heap.size w w' := by
  have HH := Aside0.mk H
  have HR := Aside0.mk hr
  have HC := Aside0.mk hc
  have HL := Aside0.mk hl
  have HN := Aside0.mk hn
  have C1 := Aside0.mk (state_same H hl n hn (.slice A' n c'))
  clear H hr hc hl hn
  go_enter Tryd.func22, Tryd.ntmps22
  go_wp2_with (first | (go_at_call 27; (with_reducible refine C1.out.mono ?_); rintro e w1 ⟨A3, c3, rfl, HS, HY⟩))
  generalize w1.alloc (.cells #[.int .i64 s, .int .i64 b, .slice A3 n c3] 49) = W1 at *
  generalize hYY : w1.heap.size = Y at *
  obtain ⟨X, hXX⟩ : ∃ X, X = w.heap.size := ⟨_, rfl⟩
  rw [← hXX] at HS HY ⊢
  have HXX := Aside0.mk hXX
  clear hXX hYY C1
  have HS0 := HS
  have HYC : Aside0 (Kd.C (Kd.int .u8) W1 A3 l.length l ∧ l.length ≤ c3) := ⟨by have h := Kd.R_reads' HY.out; have e := HN.out; exact ⟨h.2.2, by have := h.2.1; omega⟩⟩
  go_region_held3 (fun w' => w'.cell? ⟨X, 0, none⟩ = some (.int .i64 s) ∧ w'.cell? ⟨X, 1, none⟩ = some (.int .i64 b) ∧ w'.cell? ⟨X, 2, none⟩ = some (.slice A' n c') ∧ w'.cell? ⟨Y, 0, none⟩ = some (.int .i64 s) ∧ w'.cell? ⟨Y, 1, none⟩ = some (.int .i64 b) ∧ w'.cell? ⟨Y, 2, none⟩ = some (.slice A3 n c3)) (first | exact HS.out.cells | go_keep)
    (first | (go_at_call 40; (with_reducible refine (refsame_calls s b A3 c3 A' c' l n HN.out _ (Kd.C_drew HYC.out.1) HYC.out.2 (Kd.C_below HR.out (below_drew HS.out.below)) HC.out).mono ?_); rintro e w2 ⟨rfl, hb2⟩; replace HS := Aside0.mk (HS.out.drew_then hb2); have HW := Aside0.mk ((below_drew (Below.refl W1.heap.size W1)).trans hb2); clear hb2) | (go_at_call 25; (with_reducible refine (scan_fault (HH.out.below HS.out.below)).mono ?_); rintro e w3 ⟨rfl, hb3⟩; replace HS := Aside0.mk (HS.out.then_ hb3); replace HW := Aside0.mk (HW.out.trans (hb3.mono HW.out.size)); clear hb3) | (go_at_call 26; (with_reducible refine (scan_end (HH.out.below HS.out.below)).mono ?_); rintro e w4 ⟨rfl, hb4⟩; replace HS := Aside0.mk (HS.out.then_ hb4); replace HW := Aside0.mk (HW.out.trans (hb4.mono HW.out.size)); clear hb4) | (go_at_call 41; (with_reducible refine (refend_calls s b A' c' l n HN.out _ (Kd.C_below HR.out HS.out.below) HC.out).mono ?_); rintro e w5 ⟨rfl, hb5⟩; replace HS := Aside0.mk (HS.out.then_ hb5); replace HW := Aside0.mk (HW.out.trans (hb5.mono HW.out.size)); clear hb5))
  have HYR : Aside0 (∃ xs : List Int, Kd.R (Kd.int .u8) 5 w5 X (fun k => k ≠ X ∧ k ≠ Y) (.slice A3 n c3) xs) := ⟨l, Kd.R_below HY.out HW.out⟩
  have HNL : Aside0 (n ≤ 140737488355328) := ⟨by have := HN.out; have := HL.out; omega⟩
  generalize endI s b l = en at *
  clear HY HW HYC HS0
  skip
  go_wp2
  go_loopg [7] n (fun gk i wr => ∃ k : Nat, Aside0 (gk + k = n) ∧ i = .int .i64 k ∧ Aside0 (SameW w wr X Y (.int .i64 s) (.int .i64 b) (.slice A' n c') (.slice A3 n c3)) ∧ Aside0 (∃ xs : List Int, Kd.R (Kd.int .u8) 5 wr X (fun k => k ≠ X ∧ k ≠ Y) (.slice A3 n c3) xs))
  case atStart => exact ⟨0, ⟨rfl⟩, rfl, HS, HYR⟩
  case round =>
    clear HS HYR
    obtain ⟨k, HK, rfl, HS, HYR⟩ := hrel
    obtain ⟨q0, q1, q2, q3, q4, q5⟩ := HS.out.cells
    by_cases hk : k < n
    · have hki : (k : Int) < (n : Int) := by omega
      have hki0 : (0 : Int) ≤ (k : Int) := by omega
      have hwk : wrap64 ((k : Int) + 1) = (k : Int) + 1 := by unfold wrap64; have := HNL.out; omega
      obtain ⟨xs, hxs⟩ := HYR.out
      obtain ⟨ad, c4, hv⟩ := Kd.R_slice1 hxs (by have := (Kd.R_reads' hxs).1; omega)
      injection hv with e1 e2 e3
      subst e1
      clear e2 e3
      obtain ⟨gy, rfl⟩ := Kd.R_head hxs
      obtain ⟨hc0, hf0⟩ := Kd.R_celln (enc := Value.int .u8) (h1 := fun _ => rfl) (0 : Int) hxs (k : Int) hki0 hki
      rw [Int.toNat_natCast] at hc0 hf0
      have hok := hxs.1 gy rfl
      have hgX := hok.1
      have hgY := hok.2
      have HX := Aside0.mk hxs
      have HGB : Aside0 (w.heap.size ≤ gy) := ⟨by rw [← HXX.out]; exact Kd.R_base hxs gy rfl⟩
      obtain ⟨z, hz⟩ : ∃ z, rdOf (0 : Int) xs k = z := ⟨_, rfl⟩
      rw [hz] at hc0
      clear hxs hok hz HYR
      go_wp2
      go_roundg (n - k - 1)
      case measure => have := HK.out; omega
      case rel => exact ⟨k + 1, ⟨by have := HK.out; omega⟩, by simp; exact hwk, ⟨HS.out.far HGB.out (fun e => hgX e.symm) (fun e => hgY e.symm) _⟩, ⟨_, by have := Kd.R_putn (enc := Value.int .u8) (h1 := fun _ => rfl) HX.out (k : Int) ((z + 1) % 256); rw [Int.toNat_natCast] at this; exact this⟩⟩
    · have hkn : k = n := by have := HK.out; omega
      subst hkn
      go_wp2
      go_region_held3 (fun w' => w'.cell? ⟨X, 0, none⟩ = some (.int .i64 s) ∧ w'.cell? ⟨X, 1, none⟩ = some (.int .i64 b) ∧ w'.cell? ⟨X, 2, none⟩ = some (.slice A' k c')) (first | exact ⟨HS.out.cells.1, HS.out.cells.2.1, HS.out.cells.2.2.1⟩ | go_keep)
        (first | (go_at_call 27; (with_reducible refine (state_at (HH.out.below (below_drew HS.out.below)) HL.out k HN.out).mono ?_); rintro e w6 ⟨A6, c6, rfl, hC6, hb6⟩; have HC6 := Aside0.mk hC6; replace HS := Aside0.mk (HS.out.drew_then hb6); clear hC6 hb6) | (go_at_call 40; (with_reducible refine (refsame_calls s b A6 c6 A' c' l k HN.out _ HC6.out.1 HC6.out.2 (Kd.C_below HR.out HS.out.below) HC.out).mono ?_); rintro e w7 ⟨rfl, hb7⟩; replace HS := Aside0.mk (HS.out.then_ hb7); clear hb7))
      go_wp2
      go_ret
      exact ⟨rfl, HS.out.below⟩
end Go.Proofs.YtnaaimnmphcilaaDoor.Hand

namespace Go.Proofs.YtnaaimnmphcilaaDoor.Hand
open Go.RowKit Go.Proofs.YtnaaimnmphcilaaDoorW.PrintWords Go.Proofs.YtnaaimnmphcilaaDoorW.PrintLast Go.Proofs.YtnaaimnmphcilaaDoorW.PrintMore
set_option linter.unusedVariables false
set_option linter.unusedSimpArgs false

theorem st_cases {l : List Int} (hB : allB l = true) : (faultI l = -1 ∧ stB l = -1 ∧ stP l = []) ∨ ∃ k : Nat, faultI l = k ∧ k ≤ l.length ∧ ((openI (l.drop k) = true ∧ stB l = -1 ∧ stP l = l.drop k) ∨ (openI (l.drop k) = false ∧ stB l = k ∧ stP l = [])) := by
  unfold stP lookP stB
  rcases faultI_valid hB with h | h
  · exact .inl ⟨h.2, by rw [if_pos (by omega)], by rw [if_pos (by omega)]⟩
  · refine .inr ⟨(faultI l).toNat, by omega, by omega, ?_⟩
    cases ho : openI (l.drop (faultI l).toNat) with
    | true => exact .inl ⟨rfl, by rw [if_neg (by omega), if_pos rfl], by rw [if_neg (by omega), if_pos rfl]⟩
    | false => exact .inr ⟨rfl, by rw [if_neg (by omega), if_neg (by decide)]; omega, by rw [if_neg (by omega), if_neg (by decide)]⟩

theorem refopen_at (A : Option Addr) (c : Nat) (l : List Int) (n : Nat) (hn : n = l.length) (w : World) (hr : Kd.C (Kd.int .u8) w A l.length l) (hc : l.length ≤ c) (hB : allB l = true) (o : Bool) (ho : openI l = o) :
    Calls Tryd.prog 19 #[.slice A n c] w fun e w' => e = .returned (.bool o) ∧ Below w.heap.size w w' := by
  subst hn
  subst ho
  exact refopen_calls A c l w hr hc hB
/-- The first cell of the call's own is block N; its cells. -/
structure Res (w W : World) (N : Nat) (cs : Array Value) : Prop where
  below : Below w.heap.size w W
  blk : W.heap[N]? = some (.cells cs 42 (0, 0))
theorem Res.facts {w W : World} {N : Nat} {x y z : Value} (h : Res w W N #[x, y, z]) : N < W.heap.size ∧ W.cell? ⟨N, 0, none⟩ = some x ∧ W.cell? ⟨N, 1, none⟩ = some y ∧ W.cell? ⟨N, 2, none⟩ = some z ∧ W.frozen? ⟨N, 0, none⟩ = false ∧ W.frozen? ⟨N, 1, none⟩ = false ∧ W.frozen? ⟨N, 2, none⟩ = false :=
  ⟨blk_lt h.blk, blk_cell h.blk 0, blk_cell h.blk 1, blk_cell h.blk 2, blk_frozen h.blk 0, blk_frozen h.blk 1, blk_frozen h.blk 2⟩
theorem Res.then_ {w W W' : World} {N : Nat} {cs : Array Value} (h : Res w W N cs) (hb : Below W.heap.size W W') : Res w W' N cs := ⟨h.below.trans (hb.mono h.below.size), blk_below h.blk hb⟩
theorem Res.set {w W : World} {N : Nat} {cs : Array Value} (h : Res w W N cs) (hN : w.heap.size ≤ N) (j : Nat) (u : Value) : Res w (W.setCell ⟨N, j, none⟩ u) N (cs.setIfInBounds j u) := ⟨h.below.setCell hN _, blk_set h.blk j u⟩
theorem Res.far {w W : World} {N : Nat} {cs : Array Value} (h : Res w W N cs) {p : Addr} (hp : w.heap.size ≤ p.block) (hne : N ≠ p.block) (u : Value) : Res w (W.setCell p u) N cs := ⟨h.below.setCell hp _, blk_far h.blk hne u⟩
theorem Res.alloc {w W : World} {N : Nat} {cs : Array Value} (h : Res w W N cs) (o : Obj) : Res w (W.alloc o) N cs := h.then_ ((Below.refl _ W).alloc (Nat.le_refl _) o)
theorem Res.made (w : World) (x y z : Value) : Res w (w.alloc (.cells #[x, y, z] 42)) w.heap.size #[x, y, z] := ⟨(Below.refl _ w).alloc (Nat.le_refl _) _, heap_alloc_new w _⟩

theorem fault_res (A : Option Addr) (c : Nat) (l : List Int) (w : World) (hr : Kd.C (Kd.int .u8) w A l.length l) (hc : l.length ≤ c) (hB : allB l = true) (f : Int) (hf : faultI l = f) (x y z : Value) :
    Calls Tryd.prog 37 #[.slice A l.length c] (w.alloc (.cells #[x, y, z] 42)) fun e w' => e = .returned (.int .i64 f) ∧ Res w w' w.heap.size #[x, y, z] := by
  subst hf
  have hb := (Below.refl _ w).alloc (Nat.le_refl _) (Obj.cells #[x, y, z] 42)
  refine (rfault_calls A c l _ (Kd.C_below hr hb) hc hB).mono ?_
  rintro e w' ⟨he, h⟩
  exact ⟨he, (Res.made w x y z).then_ h⟩

set_option maxHeartbeats 2000000 in
theorem of_calls (A : Option Addr) (c : Nat) (l : List Int) (w : World) (hr : Kd.C (Kd.int .u8) w A l.length l) (hc : l.length ≤ c) (hB : allB l = true) :
    Calls Tryd.prog 44 #[.slice A l.length c] w fun e w' => ∃ v, e = .returned (.agg #[.int .i64 l.length, .int .i64 (stB l), v]) ∧ Kd.R (Kd.int .u8) 5 w' w.heap.size (fun _ => True) v (stP l) ∧ Below w.heap.size w w' := by
  rcases st_cases hB with ⟨h1, h2, h3⟩ | ⟨k, h1, hk, h⟩
  · have CF := Aside0.mk (fault_res A c l w hr hc hB _ h1)
    rw [h2, h3]
    generalize l.length = n at *
    clear hr hc hB h1 h2 h3
    go_enter Tryd.func44, Tryd.ntmps44
    go_wp2_with (first | (go_at_call 37; (with_reducible refine (CF.out _ _ _).mono ?_); rintro e w1 ⟨rfl, hb1⟩; obtain ⟨hlt, k0, k1, k2, f0, f1, f2⟩ := hb1.facts; have HK1 := Aside0.mk hb1; clear hb1))
    have K := (((HK1.out.set (Nat.le_refl _) 0 (.int .i64 n)).set (Nat.le_refl _) 1 (.int .i64 (-1))).set (Nat.le_refl _) 2 (.slice none 0 0)).alloc (Obj.cells #[Value.int IntKind.i64 n, Value.int IntKind.i64 (-1), Value.slice none 0 0] 42)
    generalize (((w1.setCell { block := w.heap.size, off := 0 } (Value.int IntKind.i64 n)).setCell { block := w.heap.size, off := 1 } (Value.int IntKind.i64 (-1))).setCell { block := w.heap.size, off := 2 } (Value.slice none 0 0)).alloc (Obj.cells #[Value.int IntKind.i64 n, Value.int IntKind.i64 (-1), Value.slice none 0 0] 42) = W9 at *
    have q0 : W9.cell? ⟨w.heap.size, 0, none⟩ = some (.int .i64 n) := blk_cell K.blk 0
    have q1 : W9.cell? ⟨w.heap.size, 1, none⟩ = some (.int .i64 (-1)) := blk_cell K.blk 1
    have q2 : W9.cell? ⟨w.heap.size, 2, none⟩ = some (.slice none 0 0) := blk_cell K.blk 2
    exact bodyPost_ret (v := .agg #[.int .i64 n, .int .i64 (-1), .slice none 0 0]) (by simp [results, Tryd.results44, go_sem, q0, q1, q2]) rfl ⟨_, rfl, Kd.R_nil _ _ _ _ _, K.below⟩
  · have CF := Aside0.mk (fault_res A c l w hr hc hB _ h1)
    obtain ⟨A2, hcut, hAb, hC⟩ := cut23 A l.length c k hk
    have hCo : ∀ W, Below w.heap.size w W → ∀ o, openI (l.drop k) = o → Calls Tryd.prog 19 #[.slice A2 (l.length - k) (c - k)] W fun e w' => e = .returned (.bool o) ∧ Below W.heap.size W w' := fun W hb o ho =>
      refopen_at A2 (c - k) (l.drop k) (l.length - k) (by rw [List.length_drop]) W (Kd.C_below (hC _ l rfl hc hr) hb) (by rw [List.length_drop]; omega) (allB_drop hB k) o ho
    have HCA : ∀ W, Below w.heap.size w W → Kd.C (Kd.int .u8) W A2 (l.length - k) (l.drop k) := fun W hb => by have := Kd.C_below (hC _ l rfl hc hr) hb; rwa [List.length_drop] at this
    have HLL : Aside0 (l.length ≤ 9223372036854775807) := ⟨hr.2.1⟩
    have HCO := Aside0.mk hCo
    have HCAA := Aside0.mk HCA
    have hki : (0 : Int) ≤ (k : Int) := by omega
    have hkm : (k : Int) ≤ (l.length : Int) := by omega
    rcases h with ⟨ho, h2, h3⟩ | ⟨ho, h2, h3⟩
    · rw [h2, h3]
      have HO := Aside0.mk ho
      clear hr hc hB h1 h2 h3 hCo HCA hC hAb ho
      obtain ⟨d, hd⟩ : ∃ d, l.drop k = d := ⟨_, rfl⟩
      have HD := Aside0.mk hd
      have hdn : d.length = l.length - k := by rw [← hd, List.length_drop]
      have HDN := Aside0.mk hdn
      have HDL : Aside0 (l.length - k ≤ 3) := ⟨by have := open_4 (hd ▸ HO.out); omega⟩
      rw [hd] at HO HCO HCAA ⊢
      clear hd hdn
      generalize l.length = n at *
      go_enter Tryd.func44, Tryd.ntmps44
      go_wp2_with (first | (go_at_call 37; (with_reducible refine (CF.out _ _ _).mono ?_); rintro e w1 ⟨rfl, hb1⟩; obtain ⟨hlt, k0, k1, k2, f0, f1, f2⟩ := hb1.facts; have HK1 := Aside0.mk hb1; clear hb1) | (go_at_call 19; (with_reducible refine (HCO.out _ (HK1.out.alloc _).below _ HO.out).mono ?_); rintro e w2 ⟨rfl, hb2⟩; clear k0 k1 k2 f0 f1 f2; have hX := blk_below (heap_alloc_new w1 _) hb2; obtain ⟨hlt2, k0, k1, k2, f0, f1, f2⟩ := ((HK1.out.alloc _).then_ hb2).facts; have x0 := blk_cell hX 0; have x1 := blk_cell hX 1; have x2 := blk_cell hX 2; have g0 := blk_frozen hX 0; have g1 := blk_frozen hX 1; have g2 := blk_frozen hX 2; have HX := Aside0.mk hX; have HXL := Aside0.mk (blk_lt hX); have HK2 := Aside0.mk ((HK1.out.alloc _).then_ hb2); clear hb2 hX) | ((with_reducible refine gate_dst (N := 19) rfl ?_); refine Kd.R_lit (Kd.int .u8) w2.heap.size 5 rfl (N := 19) rfl (xs := ([] : List Int)) (inner := []) (ok := fun _ => True) (okp := fun _ => True) (by go_simp) (Reps.none _ _) (fun _ hk => hk) trivial (Below.refl _ _) (Nat.le_refl _) (by simp) ?_; intro v1 w3 HO1 HB1 HG1 HAT1; have HRD := Aside0.mk (HCAA.out _ (HK2.out.below.trans (HB1.mono HK2.out.below.size)))) | ((with_reducible refine gate_builtin (b := .append) (xs := #[.tmp 19, .tmp 22]) rfl ?_); at_builtin; go_must (refine Kd.R_append_rows (Kd.int .u8) (w0 := w2) w2.heap.size rfl (.tmp 19) (.tmp 22) 23 5 (.int .u8 0) 1 rfl Tryd.underlying23 info5 rfl (by decide) (by decide) v1 [] d A2 (n - k) (c - k) (fun _ => True) (fun _ => False) rfl rfl HO1 HRD.out (fun _ _ h => h) (fun _ h => h.elim) (fun _ _ => trivial) HB1 HB1.size ?aL ?_); (case aL => have := HDL.out; simp; omega); intro v2 w4 HO2 HB2 HG2 HAT2; clear HO1 HB1 HG1 HAT1 k0 k1 k2 f0 f1 f2 x0 x1 x2 g0 g1 g2; rw [List.nil_append] at HO2; obtain ⟨A4, c4, rfl⟩ := Kd.R_slice HO2; have hX := blk_below HX.out HB2; obtain ⟨hlt4, k0, k1, k2, f0, f1, f2⟩ := (HK2.out.then_ HB2).facts; have x0 := blk_cell hX 0; have x1 := blk_cell hX 1; have x2 := blk_cell hX 2; have g0 := blk_frozen hX 0; have g1 := blk_frozen hX 1; have g2 := blk_frozen hX 2; have HX4 := Aside0.mk hX; have HXL4 := blk_lt hX; have HK4 := Aside0.mk (HK2.out.then_ HB2); clear HB2 hX))
      have hX2 : w1.heap.size < w2.heap.size := HXL.out
      have hN2 : w.heap.size < w2.heap.size := hlt2
      have hNX : w.heap.size < w1.heap.size := hlt
      have HO3 : Kd.R (Kd.int .u8) 5 w4 w2.heap.size (fun q => w2.heap.size ≤ q) (.slice A4 d.length c4) d := Kd.R_mono (Kd.R_bound HO2) (fun q hq => hq.2.1)
      have HO4 := Kd.R_far (Kd.R_far (Kd.R_far (Kd.R_far (Kd.R_far HO3 (p := ⟨w1.heap.size, 1, none⟩) (fun q (hq : w2.heap.size ≤ q) => by show q ≠ w1.heap.size; omega) (.int .i64 (-1))) (p := ⟨w1.heap.size, 2, none⟩) (fun q (hq : w2.heap.size ≤ q) => by show q ≠ w1.heap.size; omega) (.slice A4 d.length c4))
        (p := ⟨w.heap.size, 0, none⟩) (fun q (hq : w2.heap.size ≤ q) => by show q ≠ w.heap.size; omega) (.int .i64 n)) (p := ⟨w.heap.size, 1, none⟩) (fun q (hq : w2.heap.size ≤ q) => by show q ≠ w.heap.size; omega) (.int .i64 (-1))) (p := ⟨w.heap.size, 2, none⟩) (fun q (hq : w2.heap.size ≤ q) => by show q ≠ w.heap.size; omega) (.slice A4 d.length c4)
      have HO5 := Kd.R_mono (ok' := fun _ => True) (Kd.R_lower HO4 (Nat.le_of_lt hN2)) (fun _ _ => trivial)
      have K := ((((HK4.out.far (p := ⟨w1.heap.size, 1, none⟩) (Nat.le_of_lt hNX) (by show w.heap.size ≠ w1.heap.size; omega) (.int .i64 (-1))).far (p := ⟨w1.heap.size, 2, none⟩) (Nat.le_of_lt hNX) (by show w.heap.size ≠ w1.heap.size; omega) (.slice A4 d.length c4)).set (Nat.le_refl _) 0 (.int .i64 n)).set (Nat.le_refl _) 1 (.int .i64 (-1))).set (Nat.le_refl _) 2 (.slice A4 d.length c4)
      clear HO2 HO3 HO4 k0 k1 k2 f0 f1 f2 x0 x1 x2 g0 g1 g2
      generalize ((((w4.setCell { block := w1.heap.size, off := 1 } (Value.int IntKind.i64 (-1))).setCell { block := w1.heap.size, off := 2 } (Value.slice A4 d.length c4)).setCell { block := w.heap.size, off := 0 } (Value.int IntKind.i64 n)).setCell { block := w.heap.size, off := 1 } (Value.int IntKind.i64 (-1))).setCell { block := w.heap.size, off := 2 } (Value.slice A4 d.length c4) = W9 at *
      have q0 : W9.cell? ⟨w.heap.size, 0, none⟩ = some (.int .i64 n) := blk_cell K.blk 0
      have q1 : W9.cell? ⟨w.heap.size, 1, none⟩ = some (.int .i64 (-1)) := blk_cell K.blk 1
      have q2 : W9.cell? ⟨w.heap.size, 2, none⟩ = some (.slice A4 d.length c4) := blk_cell K.blk 2
      exact bodyPost_ret (v := .agg #[.int .i64 n, .int .i64 (-1), .slice A4 d.length c4]) (by simp [results, Tryd.results44, go_sem, q0, q1, q2]) rfl ⟨_, rfl, HO5, K.below⟩
    · rw [h2, h3]
      have HO := Aside0.mk ho
      clear hr hc hB h1 h2 h3 hCo HCA hC hAb ho
      generalize l.length = n at *
      go_enter Tryd.func44, Tryd.ntmps44
      go_wp2_with (first | (go_at_call 37; (with_reducible refine (CF.out _ _ _).mono ?_); rintro e w1 ⟨rfl, hb1⟩; obtain ⟨hlt, k0, k1, k2, f0, f1, f2⟩ := hb1.facts; have HK1 := Aside0.mk hb1; clear hb1) | (go_at_call 19; (with_reducible refine (HCO.out _ (HK1.out.alloc _).below _ HO.out).mono ?_); rintro e w2 ⟨rfl, hb2⟩; clear k0 k1 k2 f0 f1 f2; have hX := blk_below (heap_alloc_new w1 _) hb2; obtain ⟨hlt2, k0, k1, k2, f0, f1, f2⟩ := ((HK1.out.alloc _).then_ hb2).facts; have x0 := blk_cell hX 0; have x1 := blk_cell hX 1; have x2 := blk_cell hX 2; have g0 := blk_frozen hX 0; have g1 := blk_frozen hX 1; have g2 := blk_frozen hX 2; have HX := Aside0.mk hX; have HXL := Aside0.mk (blk_lt hX); have HK2 := Aside0.mk ((HK1.out.alloc _).then_ hb2); clear hb2 hX))
      have K := ((HK2.out.set (Nat.le_refl _) 0 (.int .i64 n)).set (Nat.le_refl _) 1 (.int .i64 k)).set (Nat.le_refl _) 2 (.slice none 0 0)
      generalize ((w2.setCell { block := w.heap.size, off := 0 } (Value.int IntKind.i64 n)).setCell { block := w.heap.size, off := 1 } (Value.int IntKind.i64 k)).setCell { block := w.heap.size, off := 2 } (Value.slice none 0 0) = W9 at *
      have q0 : W9.cell? ⟨w.heap.size, 0, none⟩ = some (.int .i64 n) := blk_cell K.blk 0
      have q1 : W9.cell? ⟨w.heap.size, 1, none⟩ = some (.int .i64 k) := blk_cell K.blk 1
      have q2 : W9.cell? ⟨w.heap.size, 2, none⟩ = some (.slice none 0 0) := blk_cell K.blk 2
      exact bodyPost_ret (v := .agg #[.int .i64 n, .int .i64 k, .slice none 0 0]) (by simp [results, Tryd.results44, go_sem, q0, q1, q2]) rfl ⟨_, rfl, Kd.R_nil _ _ _ _ _, K.below⟩
end Go.Proofs.YtnaaimnmphcilaaDoor.Hand

namespace Go.Proofs.YtnaaimnmphcilaaDoor.Hand
open Go.RowKit Go.Proofs.YtnaaimnmphcilaaDoorW.PrintWords Go.Proofs.YtnaaimnmphcilaaDoorW.PrintLast Go.Proofs.YtnaaimnmphcilaaDoorW.PrintMore
set_option linter.unusedVariables false
set_option linter.unusedSimpArgs false

set_option maxHeartbeats 1000000 in
theorem next_much (s b : Int) (A : Option Addr) (n c : Nat) (A' : Option Addr) (c' m : Nat) (w : World) (h0 : 0 ≤ s) (h1 : s ≤ 1099511627776) (hm : (m : Int) > 1099511627776 - s) :
    Calls Tryd.prog 24 #[.agg #[.int .i64 s, .int .i64 b, .slice A n c], .slice A' m c'] w fun e w' => e = .returned (.tuple #[.agg #[.int .i64 s, .int .i64 b, .slice A n c], .int .i64 13]) ∧ Below w.heap.size w w' := by
  have hw : wrap64 (1099511627776 - s) = 1099511627776 - s := by unfold wrap64; omega
  go_enter Tryd.func24, Tryd.ntmps24
  go_wp2
  have K := heap_alloc_new (w.alloc (Obj.cells #[Value.int IntKind.i64 s, Value.int IntKind.i64 b, Value.slice A n c] 42)) (Obj.cells #[Value.int IntKind.i64 s, Value.int IntKind.i64 b, Value.slice A n c] 42)
  have hs : (w.alloc (Obj.cells #[Value.int IntKind.i64 s, Value.int IntKind.i64 b, Value.slice A n c] 42)).heap.size = w.heap.size + 1 := Array.size_push _
  have hb1 : Below w.heap.size w (w.alloc (Obj.cells #[Value.int IntKind.i64 s, Value.int IntKind.i64 b, Value.slice A n c] 42)) := (Below.refl _ _).alloc (Nat.le_refl _) _
  have hb2 := hb1.alloc hb1.size (Obj.cells #[Value.int IntKind.i64 s, Value.int IntKind.i64 b, Value.slice A n c] 42)
  rw [hs] at K
  generalize (w.alloc (Obj.cells #[Value.int IntKind.i64 s, Value.int IntKind.i64 b, Value.slice A n c] 42)).alloc (Obj.cells #[Value.int IntKind.i64 s, Value.int IntKind.i64 b, Value.slice A n c] 42) = W9 at *
  have q0 : W9.cell? ⟨w.heap.size + 1, 0, none⟩ = some (.int .i64 s) := blk_cell K 0
  have q1 : W9.cell? ⟨w.heap.size + 1, 1, none⟩ = some (.int .i64 b) := blk_cell K 1
  have q2 : W9.cell? ⟨w.heap.size + 1, 2, none⟩ = some (.slice A n c) := blk_cell K 2
  exact bodyPost_ret (v := .tuple #[.agg #[.int .i64 s, .int .i64 b, .slice A n c], .int .i64 13]) (by simp [results, Tryd.results24, go_sem, q0, q1, q2]) rfl ⟨rfl, hb2⟩

theorem Res.two (w : World) (a b c x y z : Value) : Res w ((w.alloc (.cells #[a, b, c] 42)).alloc (.cells #[x, y, z] 42)) w.heap.size #[a, b, c] ∧ Res w ((w.alloc (.cells #[a, b, c] 42)).alloc (.cells #[x, y, z] 42)) (w.heap.size + 1) #[x, y, z] := by
  refine ⟨(Res.made w a b c).alloc _, ((Res.made w a b c).alloc _).below, ?_⟩
  have := heap_alloc_new (w.alloc (.cells #[a, b, c] 42)) (.cells #[x, y, z] 42)
  rwa [show (w.alloc (.cells #[a, b, c] 42)).heap.size = w.heap.size + 1 from Array.size_push _] at this
theorem Res.grown {w W W' : World} {N : Nat} {cs : Array Value} (h : Res w W N cs) {row : Option Nat} (hg : W.grownBy W' row) (hne : some N ≠ row) (hb : Below w.heap.size w W') : Res w W' N cs := ⟨hb, blk_grown h.blk hg hne⟩
set_option maxHeartbeats 4000000 in
theorem next_bad (s b : Int) (A : Option Addr) (c : Nat) (l : List Int) (A' : Option Addr) (c' : Nat) (m : List Int) (w : World) (hr : Kd.C (Kd.int .u8) w A l.length l) (hr' : Kd.C (Kd.int .u8) w A' m.length m) (hl : l.length ≤ 3) (h0 : 0 ≤ s) (h1 : s + (m.length : Int) ≤ 1099511627776) (hb : b ≥ 0) :
    Calls Tryd.prog 24 #[.agg #[.int .i64 s, .int .i64 b, .slice A l.length c], .slice A' m.length c'] w fun e w' => e = .returned (.tuple #[.agg #[.int .i64 (s + (m.length : Int)), .int .i64 b, .slice none 0 0], .int .i64 0]) ∧ Below w.heap.size w w' := by
  have hw : wrap64 (1099511627776 - s) = 1099511627776 - s := by unfold wrap64; omega
  have hw2 : wrap64 (s + (m.length : Int)) = s + (m.length : Int) := by unfold wrap64; omega
  have hgt : ¬ (m.length : Int) > 1099511627776 - s := by omega
  obtain ⟨R1, R2⟩ := Res.two w (.int .i64 s) (.int .i64 b) (.slice A l.length c) (.int .i64 0) (.int .i64 0) (.slice none 0 0)
  have HR := Aside0.mk hr
  have HR' := Aside0.mk hr'
  have HL : Aside0 (m.length ≤ 1099511627776) := ⟨by omega⟩
  have HLL := Aside0.mk hl
  have HR1 := Aside0.mk R1
  have HR2 := Aside0.mk R2
  clear hr hr' hl R1 R2
  obtain ⟨q, hq⟩ : ∃ q, q = m.length := ⟨_, rfl⟩
  have HQ := Aside0.mk hq
  rw [← hq] at hw2 hgt h1 ⊢
  obtain ⟨p, hp⟩ : ∃ p, p = l.length := ⟨_, rfl⟩
  have HP := Aside0.mk hp
  rw [← hp] at HR1 HR2 ⊢
  clear hq hp
  go_enter Tryd.func24, Tryd.ntmps24
  go_wp2_with (first | ((with_reducible refine gate_dst (N := 16) rfl ?_); go_must (refine Kd.R_lit (Kd.int .u8) (w0 := w) w.heap.size 5 rfl (N := 16) rfl (xs := ([] : List Int)) (inner := []) (ok := fun k => w.heap.size + 1 < k) (okp := fun _ => False) (by go_simp) (Reps.none _ _) (fun _ hk => hk.elim) (by simp) HR1.out.below HR1.out.below.size (by simp) ?_); intro v1 w1 HO1 HB1 HG1 HAT1; replace HR1 := Aside0.mk (HR1.out.grown HG1 (by simp) HB1); replace HR2 := Aside0.mk (HR2.out.grown HG1 (by simp) HB1); obtain ⟨t0, k0, k1, k2, f0, f1, f2⟩ := HR1.out.facts; have HRA : ReadsRow ((Kd.int .u8).K w1) (Kd.int .u8).sz w1 A p l := (by have := Kd.C_below HR.out HB1; rw [← HP.out] at this; exact this)) | ((with_reducible refine gate_builtin (b := .append) (xs := #[.tmp 16, .tmp 18]) rfl ?_); at_builtin; go_must (refine Kd.R_append_rows (Kd.int .u8) (w0 := w) w.heap.size rfl (.tmp 16) (.tmp 18) 23 5 (.int .u8 0) 1 rfl Tryd.underlying23 info5 rfl (by decide) (by decide) v1 [] l A p c (fun k => w.heap.size + 1 < k) (fun _ => False) rfl rfl HO1 HRA (fun _ _ h => h) (fun _ h => h.elim) ?aF HB1 HB1.size ?aL ?_); (case aF => intro k hk; have := HR2.out.facts.1; omega); (case aL => have := HLL.out; have := HP.out; simp; omega); intro v2 w2 HO2 HB2 HG2 HAT2; (have hne1 : ∀ N, N ≤ w.heap.size + 1 → some N ≠ v1.ownBlock := fun N hN e => by have := HO1.1 N e.symm; omega); replace HR1 := Aside0.mk (HR1.out.grown HG2 (hne1 _ (by omega)) HB2); replace HR2 := Aside0.mk (HR2.out.grown HG2 (hne1 _ (by omega)) HB2); clear t0 k0 k1 k2 f0 f1 f2 HRA HO1 HB1 HG1 HAT1 hne1 HG2 HAT2; have HRB : ReadsRow ((Kd.int .u8).K w2) (Kd.int .u8).sz w2 A' q m := (by have := Kd.C_below HR'.out HB2; rw [← HQ.out] at this; exact this)) | ((with_reducible refine gate_builtin (b := .append) (xs := #[.tmp 19, .tmp 20]) rfl ?_); at_builtin; go_must (refine Kd.R_append_rows (Kd.int .u8) (w0 := w) w.heap.size rfl (.tmp 19) (.tmp 20) 23 5 (.int .u8 0) 1 rfl Tryd.underlying23 info5 rfl (by decide) (by decide) v2 ([] ++ l) m A' q c' (fun k => w.heap.size + 1 < k) (fun _ => False) rfl rfl HO2 HRB (fun _ _ h => h) (fun _ h => h.elim) ?aF HB2 HB2.size ?aL ?_); (case aF => intro k hk; have := HR2.out.facts.1; omega); (case aL => have := HLL.out; have := HL.out; have := HQ.out; simp; omega); intro v3 w3 HO3 HB3 HG3 HAT3; (have hne1 : ∀ N, N ≤ w.heap.size + 1 → some N ≠ v2.ownBlock := fun N hN e => by have := HO2.1 N e.symm; omega); replace HR1 := Aside0.mk (HR1.out.grown HG3 (hne1 _ (by omega)) HB3); replace HR2 := Aside0.mk (HR2.out.grown HG3 (hne1 _ (by omega)) HB3); clear HRB HO2 HB2 hne1 HG3 HAT3; obtain ⟨t0, k0, k1, k2, f0, f1, f2⟩ := HR1.out.facts; obtain ⟨t1, r0, r1, r2, g0, g1, g2⟩ := HR2.out.facts))
  have K := ((HR2.out.set (by omega) 0 (.int .i64 (s + q))).set (by omega) 1 (.int .i64 b)).set (by omega) 2 (.slice none 0 0)
  clear t0 k0 k1 k2 f0 f1 f2 t1 r0 r1 r2 g0 g1 g2
  generalize ((w3.setCell { block := w.heap.size + 1, off := 0 } (Value.int IntKind.i64 (s + q))).setCell { block := w.heap.size + 1, off := 1 } (Value.int IntKind.i64 b)).setCell { block := w.heap.size + 1, off := 2 } (Value.slice none 0 0) = W9 at *
  have q0 : W9.cell? ⟨w.heap.size + 1, 0, none⟩ = some (.int .i64 (s + q)) := blk_cell K.blk 0
  have q1 : W9.cell? ⟨w.heap.size + 1, 1, none⟩ = some (.int .i64 b) := blk_cell K.blk 1
  have q2 : W9.cell? ⟨w.heap.size + 1, 2, none⟩ = some (.slice none 0 0) := blk_cell K.blk 2
  exact bodyPost_ret (v := .tuple #[.agg #[.int .i64 (s + q), .int .i64 b, .slice none 0 0], .int .i64 0]) (by simp [results, Tryd.results24, go_sem, q0, q1, q2]) rfl ⟨rfl, K.below⟩
theorem len_app {l xs : List Int} {p q : Nat} (hp : p = l.length) (hq : q = xs.length) : (l ++ xs).length = p + q := by simp [hp, hq]
theorem st_bounds (l : List Int) (hB : allB l = true) : (stB l = -1 ∨ 0 ≤ stB l ∧ stB l ≤ l.length) ∧ (stP l).length ≤ 3 := by
  refine ⟨?_, lookP_len l⟩
  rcases st_cases hB with h | ⟨k, h1, h2, h | h⟩ <;> omega
theorem feedB_go (s : Int) (l m : List Int) (hls : (l.length : Int) ≤ s) (hBl : allB l = true) (hBm : allB m = true) (h1 : s + (m.length : Int) ≤ 1099511627776) :
    feedB s (-1) l m = if stB (l ++ m) ≥ 0 then stB (l ++ m) + (s - (l.length : Int)) else -1 := by
  have hB : allB (l ++ m) = true := by rw [allB_append, hBl, hBm]; rfl
  unfold feedB lookB
  rw [if_neg (by decide)]
  rcases st_cases hB with ⟨h1, h2, h3⟩ | ⟨k, h1, h2, ⟨h3, h4, h5⟩ | ⟨h3, h4, h5⟩⟩
  · rw [if_pos (by omega), h2, if_neg (by decide)]
  · rw [h1, if_neg (by omega), Int.toNat_natCast, h3, if_pos rfl, h4, if_neg (by decide)]
  · rw [h1, if_neg (by omega), Int.toNat_natCast, h3, if_neg (by decide), h4, if_pos (by omega)]
    rw [List.length_append] at h2
    unfold wrap64; omega
theorem feedP_go (l m : List Int) : feedP (-1) l m = stP (l ++ m) := by unfold feedP stP; rw [if_neg (by decide)]
theorem of_at (A : Option Addr) (c : Nat) (l : List Int) (n : Nat) (w : World) {e base : Nat} {ok : Nat → Prop} (hr : Kd.R (Kd.int .u8) e w base ok (.slice A n c) l) (hB : allB l = true) (x : Int) (y : List Int) (hx : stB l = x) (hy : stP l = y) :
    Calls Tryd.prog 44 #[.slice A n c] w fun e w' => ∃ A2 n2 c2, e = .returned (.agg #[.int .i64 n, .int .i64 x, .slice A2 n2 c2]) ∧ Kd.R (Kd.int .u8) 5 w' w.heap.size (fun _ => True) (.slice A2 n2 c2) y ∧ Below w.heap.size w w' := by
  obtain ⟨hn, hc, hC⟩ := Kd.R_reads' hr
  subst hn
  subst hx
  subst hy
  refine (of_calls A c l w hC hc hB).mono ?_
  rintro e w' ⟨v, rfl, hv, hb⟩
  obtain ⟨A2, c2, rfl⟩ := Kd.R_slice hv
  exact ⟨A2, _, c2, rfl, hv, hb⟩

set_option maxHeartbeats 4000000 in
theorem next_go (s : Int) (A : Option Addr) (c : Nat) (l : List Int) (A' : Option Addr) (c' : Nat) (m : List Int) (w : World) (hr : Kd.C (Kd.int .u8) w A l.length l) (hr' : Kd.C (Kd.int .u8) w A' m.length m) (hl : l.length ≤ 3) (h0 : 0 ≤ s) (hls : (l.length : Int) ≤ s) (h1 : s + (m.length : Int) ≤ 1099511627776) (hBl : allB l = true) (hBm : allB m = true) :
    Calls Tryd.prog 24 #[.agg #[.int .i64 s, .int .i64 (-1), .slice A l.length c], .slice A' m.length c'] w fun e w' => ∃ v, e = .returned (.tuple #[.agg #[.int .i64 (s + (m.length : Int)), .int .i64 (feedB s (-1) l m), v], .int .i64 0]) ∧ Kd.R (Kd.int .u8) 5 w' w.heap.size (fun _ => True) v (feedP (-1) l m) ∧ Below w.heap.size w w' := by
  rw [feedB_go s l m hls hBl hBm h1, feedP_go]
  have HS := Aside0.mk (st_bounds (l ++ m) (by rw [allB_append, hBl, hBm]; rfl))
  have HBLM : Aside0 (allB (l ++ m) = true) := ⟨by rw [allB_append, hBl, hBm]; rfl⟩
  have HLS : Aside0 (l.length + m.length ≤ 1099511627776) := ⟨by omega⟩
  generalize hstb : stB (l ++ m) = x at *
  have HX := Aside0.mk hstb
  generalize hstp : stP (l ++ m) = y at *
  have HY := Aside0.mk hstp
  clear hstp hstb hBl hBm
  have hw : wrap64 (1099511627776 - s) = 1099511627776 - s := by unfold wrap64; omega
  have hw2 : wrap64 (s + (m.length : Int)) = s + (m.length : Int) := by unfold wrap64; omega
  have hgt : ¬ (m.length : Int) > 1099511627776 - s := by omega
  obtain ⟨R1, R2⟩ := Res.two w (.int .i64 s) (.int .i64 (-1)) (.slice A l.length c) (.int .i64 0) (.int .i64 0) (.slice none 0 0)
  have HR := Aside0.mk hr
  have HR' := Aside0.mk hr'
  have HL : Aside0 (m.length ≤ 1099511627776) := ⟨by omega⟩
  have HLL := Aside0.mk hl
  have HR1 := Aside0.mk R1
  have HR2 := Aside0.mk R2
  clear hr hr' hl R1 R2
  obtain ⟨q, hq⟩ : ∃ q, q = m.length := ⟨_, rfl⟩
  have HQ := Aside0.mk hq
  rw [← hq] at hw2 hgt h1 ⊢
  obtain ⟨p, hp⟩ : ∃ p, p = l.length := ⟨_, rfl⟩
  have HP := Aside0.mk hp
  rw [← hp] at HR1 HR2 ⊢
  clear hq hp
  have hw3 : wrap64 (s - (p : Int)) = s - p := by have := HP.out; unfold wrap64; omega
  have hw5 : wrap64 ((p : Int) + q + (s - p)) = s + q := by have := HP.out; unfold wrap64; omega
  rcases HS.out.1 with rfl | ⟨hx0, hx1⟩
  · go_enter Tryd.func24, Tryd.ntmps24
    go_wp2_with (first | ((with_reducible refine gate_dst (N := 16) rfl ?_); go_must (refine Kd.R_lit (Kd.int .u8) (w0 := w) w.heap.size 5 rfl (N := 16) rfl (xs := ([] : List Int)) (inner := []) (ok := fun k => w.heap.size + 1 < k) (okp := fun _ => False) (by go_simp) (Reps.none _ _) (fun _ hk => hk.elim) (by simp) HR1.out.below HR1.out.below.size (by simp) ?_); intro v1 w1 HO1 HB1 HG1 HAT1; replace HR1 := Aside0.mk (HR1.out.grown HG1 (by simp) HB1); replace HR2 := Aside0.mk (HR2.out.grown HG1 (by simp) HB1); obtain ⟨t0, k0, k1, k2, f0, f1, f2⟩ := HR1.out.facts; have HRA : ReadsRow ((Kd.int .u8).K w1) (Kd.int .u8).sz w1 A p l := (by have := Kd.C_below HR.out HB1; rw [← HP.out] at this; exact this)) | ((with_reducible refine gate_builtin (b := .append) (xs := #[.tmp 16, .tmp 18]) rfl ?_); at_builtin; go_must (refine Kd.R_append_rows (Kd.int .u8) (w0 := w) w.heap.size rfl (.tmp 16) (.tmp 18) 23 5 (.int .u8 0) 1 rfl Tryd.underlying23 info5 rfl (by decide) (by decide) v1 [] l A p c (fun k => w.heap.size + 1 < k) (fun _ => False) rfl rfl HO1 HRA (fun _ _ h => h) (fun _ h => h.elim) ?aF HB1 HB1.size ?aL ?_); (case aF => intro k hk; have := HR2.out.facts.1; omega); (case aL => have := HLL.out; have := HP.out; simp; omega); intro v2 w2 HO2 HB2 HG2 HAT2; (have hne1 : ∀ N, N ≤ w.heap.size + 1 → some N ≠ v1.ownBlock := fun N hN e => by have := HO1.1 N e.symm; omega); replace HR1 := Aside0.mk (HR1.out.grown HG2 (hne1 _ (by omega)) HB2); replace HR2 := Aside0.mk (HR2.out.grown HG2 (hne1 _ (by omega)) HB2); clear t0 k0 k1 k2 f0 f1 f2 HRA HO1 HB1 HG1 HAT1 hne1 HG2 HAT2; have HRB : ReadsRow ((Kd.int .u8).K w2) (Kd.int .u8).sz w2 A' q m := (by have := Kd.C_below HR'.out HB2; rw [← HQ.out] at this; exact this)) | ((with_reducible refine gate_builtin (b := .append) (xs := #[.tmp 19, .tmp 20]) rfl ?_); at_builtin; go_must (refine Kd.R_append_rows (Kd.int .u8) (w0 := w) w.heap.size rfl (.tmp 19) (.tmp 20) 23 5 (.int .u8 0) 1 rfl Tryd.underlying23 info5 rfl (by decide) (by decide) v2 ([] ++ l) m A' q c' (fun k => w.heap.size + 1 < k) (fun _ => False) rfl rfl HO2 HRB (fun _ _ h => h) (fun _ h => h.elim) ?aF HB2 HB2.size ?aL ?_); (case aF => intro k hk; have := HR2.out.facts.1; omega); (case aL => have := HLL.out; have := HL.out; have := HQ.out; simp; omega); intro v3 w3 HO3 HB3 HG3 HAT3; (have hne1 : ∀ N, N ≤ w.heap.size + 1 → some N ≠ v2.ownBlock := fun N hN e => by have := HO2.1 N e.symm; omega); replace HR1 := Aside0.mk (HR1.out.grown HG3 (hne1 _ (by omega)) HB3); replace HR2 := Aside0.mk (HR2.out.grown HG3 (hne1 _ (by omega)) HB3); clear HRB HO2 HB2 hne1 HG3 HAT3; rw [List.nil_append] at HO3; obtain ⟨A3, c3, e3⟩ := Kd.R_slice HO3; rw [len_app HP.out HQ.out] at e3; subst e3; obtain ⟨t0, k0, k1, k2, f0, f1, f2⟩ := HR1.out.facts; obtain ⟨t1, r0, r1, r2, g0, g1, g2⟩ := HR2.out.facts) | (go_at_call 44; (with_reducible refine (of_at A3 c3 (l ++ m) (p + q) _ HO3 HBLM.out _ y HX.out HY.out).mono ?_); rintro e w4 ⟨A4, n4, c4, rfl, hv4, hb4⟩; have HV4 := Aside0.mk hv4; have HB4 := Aside0.mk hb4; have HT1 := Aside0.mk t1; replace HR1 := Aside0.mk (HR1.out.then_ hb4); replace HR2 := Aside0.mk (HR2.out.then_ hb4); clear t0 k0 k1 k2 f0 f1 f2 t1 r0 r1 r2 g0 g1 g2 hb4 hv4 HB3 HO3; obtain ⟨t0, k0, k1, k2, f0, f1, f2⟩ := HR1.out.facts; obtain ⟨t1, r0, r1, r2, g0, g1, g2⟩ := HR2.out.facts))
    have ht1 := HT1.out
    have HV5 : Kd.R (Kd.int .u8) 5 w4 w3.heap.size (fun k => w3.heap.size ≤ k) (.slice A4 n4 c4) y := Kd.R_mono (Kd.R_bound HV4.out) (fun k hk => hk.2.1)
    have HV6 := Kd.R_far (Kd.R_far (Kd.R_far HV5 (p := ⟨w.heap.size + 1, 0, none⟩) (fun k (hk : w3.heap.size ≤ k) => by show k ≠ w.heap.size + 1; omega) (.int .i64 ((p : Int) + q + (s - p)))) (p := ⟨w.heap.size + 1, 1, none⟩) (fun k (hk : w3.heap.size ≤ k) => by show k ≠ w.heap.size + 1; omega) (.int .i64 (-1))) (p := ⟨w.heap.size + 1, 2, none⟩) (fun k (hk : w3.heap.size ≤ k) => by show k ≠ w.heap.size + 1; omega) (.slice A4 n4 c4)
    have HV7 := Kd.R_mono (ok' := fun _ => True) (Kd.R_lower (Kd.R_alloc HV6 (Obj.cells #[Value.int IntKind.i64 ((p : Int) + q + (s - p)), Value.int IntKind.i64 (-1), Value.slice A4 n4 c4] 42)) (show w.heap.size ≤ w3.heap.size by omega)) (fun _ _ => trivial)
    have K := (((HR2.out.set (by omega) 0 (.int .i64 ((p : Int) + q + (s - p)))).set (by omega) 1 (.int .i64 (-1))).set (by omega) 2 (.slice A4 n4 c4)).alloc (Obj.cells #[Value.int IntKind.i64 ((p : Int) + q + (s - p)), Value.int IntKind.i64 (-1), Value.slice A4 n4 c4] 42)
    clear t0 k0 k1 k2 f0 f1 f2 t1 r0 r1 r2 g0 g1 g2 HV5 HV6
    generalize (((w4.setCell { block := w.heap.size + 1, off := 0 } (Value.int IntKind.i64 ((p : Int) + q + (s - p)))).setCell { block := w.heap.size + 1, off := 1 } (Value.int IntKind.i64 (-1))).setCell { block := w.heap.size + 1, off := 2 } (Value.slice A4 n4 c4)).alloc (Obj.cells #[Value.int IntKind.i64 ((p : Int) + q + (s - p)), Value.int IntKind.i64 (-1), Value.slice A4 n4 c4] 42) = W9 at *
    have q0 : W9.cell? ⟨w.heap.size + 1, 0, none⟩ = some (.int .i64 ((p : Int) + q + (s - p))) := blk_cell K.blk 0
    have q1 : W9.cell? ⟨w.heap.size + 1, 1, none⟩ = some (.int .i64 (-1)) := blk_cell K.blk 1
    have q2 : W9.cell? ⟨w.heap.size + 1, 2, none⟩ = some (.slice A4 n4 c4) := blk_cell K.blk 2
    refine bodyPost_ret (v := .tuple #[.agg #[.int .i64 ((p : Int) + q + (s - p)), .int .i64 (-1), .slice A4 n4 c4], .int .i64 0]) (by simp [results, Tryd.results24, go_sem, q0, q1, q2]) rfl ⟨_, ?_, HV7, K.below⟩
    rw [show ((p : Int) + q + (s - p)) = s + q by omega]
  · have hx2 : x ≥ 0 := hx0
    have hw6 : wrap64 (x + (s - (p : Int))) = x + (s - p) := by have := HP.out; have := HLS.out; rw [List.length_append] at hx1; unfold wrap64; omega
    have HX1 := Aside0.mk hx1
    clear hx1 hx0
    go_enter Tryd.func24, Tryd.ntmps24
    go_wp2_with (first | ((with_reducible refine gate_dst (N := 16) rfl ?_); go_must (refine Kd.R_lit (Kd.int .u8) (w0 := w) w.heap.size 5 rfl (N := 16) rfl (xs := ([] : List Int)) (inner := []) (ok := fun k => w.heap.size + 1 < k) (okp := fun _ => False) (by go_simp) (Reps.none _ _) (fun _ hk => hk.elim) (by simp) HR1.out.below HR1.out.below.size (by simp) ?_); intro v1 w1 HO1 HB1 HG1 HAT1; replace HR1 := Aside0.mk (HR1.out.grown HG1 (by simp) HB1); replace HR2 := Aside0.mk (HR2.out.grown HG1 (by simp) HB1); obtain ⟨t0, k0, k1, k2, f0, f1, f2⟩ := HR1.out.facts; have HRA : ReadsRow ((Kd.int .u8).K w1) (Kd.int .u8).sz w1 A p l := (by have := Kd.C_below HR.out HB1; rw [← HP.out] at this; exact this)) | ((with_reducible refine gate_builtin (b := .append) (xs := #[.tmp 16, .tmp 18]) rfl ?_); at_builtin; go_must (refine Kd.R_append_rows (Kd.int .u8) (w0 := w) w.heap.size rfl (.tmp 16) (.tmp 18) 23 5 (.int .u8 0) 1 rfl Tryd.underlying23 info5 rfl (by decide) (by decide) v1 [] l A p c (fun k => w.heap.size + 1 < k) (fun _ => False) rfl rfl HO1 HRA (fun _ _ h => h) (fun _ h => h.elim) ?aF HB1 HB1.size ?aL ?_); (case aF => intro k hk; have := HR2.out.facts.1; omega); (case aL => have := HLL.out; have := HP.out; simp; omega); intro v2 w2 HO2 HB2 HG2 HAT2; (have hne1 : ∀ N, N ≤ w.heap.size + 1 → some N ≠ v1.ownBlock := fun N hN e => by have := HO1.1 N e.symm; omega); replace HR1 := Aside0.mk (HR1.out.grown HG2 (hne1 _ (by omega)) HB2); replace HR2 := Aside0.mk (HR2.out.grown HG2 (hne1 _ (by omega)) HB2); clear t0 k0 k1 k2 f0 f1 f2 HRA HO1 HB1 HG1 HAT1 hne1 HG2 HAT2; have HRB : ReadsRow ((Kd.int .u8).K w2) (Kd.int .u8).sz w2 A' q m := (by have := Kd.C_below HR'.out HB2; rw [← HQ.out] at this; exact this)) | ((with_reducible refine gate_builtin (b := .append) (xs := #[.tmp 19, .tmp 20]) rfl ?_); at_builtin; go_must (refine Kd.R_append_rows (Kd.int .u8) (w0 := w) w.heap.size rfl (.tmp 19) (.tmp 20) 23 5 (.int .u8 0) 1 rfl Tryd.underlying23 info5 rfl (by decide) (by decide) v2 ([] ++ l) m A' q c' (fun k => w.heap.size + 1 < k) (fun _ => False) rfl rfl HO2 HRB (fun _ _ h => h) (fun _ h => h.elim) ?aF HB2 HB2.size ?aL ?_); (case aF => intro k hk; have := HR2.out.facts.1; omega); (case aL => have := HLL.out; have := HL.out; have := HQ.out; simp; omega); intro v3 w3 HO3 HB3 HG3 HAT3; (have hne1 : ∀ N, N ≤ w.heap.size + 1 → some N ≠ v2.ownBlock := fun N hN e => by have := HO2.1 N e.symm; omega); replace HR1 := Aside0.mk (HR1.out.grown HG3 (hne1 _ (by omega)) HB3); replace HR2 := Aside0.mk (HR2.out.grown HG3 (hne1 _ (by omega)) HB3); clear HRB HO2 HB2 hne1 HG3 HAT3; rw [List.nil_append] at HO3; obtain ⟨A3, c3, e3⟩ := Kd.R_slice HO3; rw [len_app HP.out HQ.out] at e3; subst e3; obtain ⟨t0, k0, k1, k2, f0, f1, f2⟩ := HR1.out.facts; obtain ⟨t1, r0, r1, r2, g0, g1, g2⟩ := HR2.out.facts) | (go_at_call 44; (with_reducible refine (of_at A3 c3 (l ++ m) (p + q) _ HO3 HBLM.out _ y HX.out HY.out).mono ?_); rintro e w4 ⟨A4, n4, c4, rfl, hv4, hb4⟩; have HV4 := Aside0.mk hv4; have HB4 := Aside0.mk hb4; have HT1 := Aside0.mk t1; replace HR1 := Aside0.mk (HR1.out.then_ hb4); replace HR2 := Aside0.mk (HR2.out.then_ hb4); clear t0 k0 k1 k2 f0 f1 f2 t1 r0 r1 r2 g0 g1 g2 hb4 hv4 HB3 HO3; obtain ⟨t0, k0, k1, k2, f0, f1, f2⟩ := HR1.out.facts; obtain ⟨t1, r0, r1, r2, g0, g1, g2⟩ := HR2.out.facts))
    have ht1 := HT1.out
    have HV5 : Kd.R (Kd.int .u8) 5 w4 w3.heap.size (fun k => w3.heap.size ≤ k) (.slice A4 n4 c4) y := Kd.R_mono (Kd.R_bound HV4.out) (fun k hk => hk.2.1)
    have HV6 := Kd.R_far (Kd.R_far (Kd.R_far HV5 (p := ⟨w.heap.size + 1, 0, none⟩) (fun k (hk : w3.heap.size ≤ k) => by show k ≠ w.heap.size + 1; omega) (.int .i64 ((p : Int) + q + (s - p)))) (p := ⟨w.heap.size + 1, 1, none⟩) (fun k (hk : w3.heap.size ≤ k) => by show k ≠ w.heap.size + 1; omega) (.int .i64 (x + (s - (p : Int))))) (p := ⟨w.heap.size + 1, 2, none⟩) (fun k (hk : w3.heap.size ≤ k) => by show k ≠ w.heap.size + 1; omega) (.slice A4 n4 c4)
    have HV7 := Kd.R_mono (ok' := fun _ => True) (Kd.R_lower (Kd.R_alloc HV6 (Obj.cells #[Value.int IntKind.i64 ((p : Int) + q + (s - p)), Value.int IntKind.i64 (x + (s - (p : Int))), Value.slice A4 n4 c4] 42)) (show w.heap.size ≤ w3.heap.size by omega)) (fun _ _ => trivial)
    have K := (((HR2.out.set (by omega) 0 (.int .i64 ((p : Int) + q + (s - p)))).set (by omega) 1 (.int .i64 (x + (s - (p : Int))))).set (by omega) 2 (.slice A4 n4 c4)).alloc (Obj.cells #[Value.int IntKind.i64 ((p : Int) + q + (s - p)), Value.int IntKind.i64 (x + (s - (p : Int))), Value.slice A4 n4 c4] 42)
    clear t0 k0 k1 k2 f0 f1 f2 t1 r0 r1 r2 g0 g1 g2 HV5 HV6
    generalize (((w4.setCell { block := w.heap.size + 1, off := 0 } (Value.int IntKind.i64 ((p : Int) + q + (s - p)))).setCell { block := w.heap.size + 1, off := 1 } (Value.int IntKind.i64 (x + (s - (p : Int))))).setCell { block := w.heap.size + 1, off := 2 } (Value.slice A4 n4 c4)).alloc (Obj.cells #[Value.int IntKind.i64 ((p : Int) + q + (s - p)), Value.int IntKind.i64 (x + (s - (p : Int))), Value.slice A4 n4 c4] 42) = W9 at *
    have q0 : W9.cell? ⟨w.heap.size + 1, 0, none⟩ = some (.int .i64 ((p : Int) + q + (s - p))) := blk_cell K.blk 0
    have q1 : W9.cell? ⟨w.heap.size + 1, 1, none⟩ = some (.int .i64 (x + (s - (p : Int)))) := blk_cell K.blk 1
    have q2 : W9.cell? ⟨w.heap.size + 1, 2, none⟩ = some (.slice A4 n4 c4) := blk_cell K.blk 2
    refine bodyPost_ret (v := .tuple #[.agg #[.int .i64 ((p : Int) + q + (s - p)), .int .i64 (x + (s - (p : Int))), .slice A4 n4 c4], .int .i64 0]) (by simp [results, Tryd.results24, go_sem, q0, q1, q2]) rfl ⟨_, ?_, HV7, K.below⟩
    rw [show ((p : Int) + q + (s - p)) = s + q by omega]
end Go.Proofs.YtnaaimnmphcilaaDoor.Hand

namespace Go.Proofs.YtnaaimnmphcilaaDoor.Hand
open Go.RowKit Go.Proofs.YtnaaimnmphcilaaDoorW.PrintWords Go.Proofs.YtnaaimnmphcilaaDoorW.PrintLast Go.Proofs.YtnaaimnmphcilaaDoorW.PrintMore
set_option linter.unusedVariables false
set_option linter.unusedSimpArgs false

open Classical in
theorem may_f (k : Nat) (s b : Int) (l : List Int) (hB : allB l = true) : QC.gessoref02_May.f (k + 1) s b l = some (decide (mayI s b l)) := by
  have ho : gessoref02_Open.f l = some (openI l) := by unfold gessoref02_Open.f; rw [if_pos hB]
  have jt : QC.gessoref02_May.j0 (k + 1) true s b l = some false := by rw [QC.gessoref02_May.j0, if_pos rfl]
  have jf : QC.gessoref02_May.j0 (k + 1) false s b l = if (l.length : Int) = 0 then some true else (if openI l = true then (if (l.length : Int) ≤ s then some (b == (-1)) else some false) else some false) := by
    rw [QC.gessoref02_May.j0, if_neg (by decide), ho]
    rfl
  unfold QC.gessoref02_May.f
  by_cases h1 : s < 0
  · rw [if_pos h1, jt, decide_eq_false (fun h => by have := h.1; omega)]
  rw [if_neg h1]
  by_cases h2 : s > 1099511627776
  · rw [if_pos h2, jt, decide_eq_false (fun h => by have := h.2.1; omega)]
  rw [if_neg h2]
  by_cases h3 : b < -1
  · rw [if_pos h3, jt, decide_eq_false (fun h => by have := h.2.2.1; omega)]
  rw [if_neg h3]
  have key : ∀ (hbs : 0 ≤ b → b < s), QC.gessoref02_May.j0 (k + 1) false s b l = some (decide (mayI s b l)) := by
    intro hbs
    rw [jf]
    by_cases hl : l = []
    · subst hl
      rw [if_pos (by simp), decide_eq_true ⟨by omega, by omega, by omega, hbs, fun h => absurd rfl h⟩]
    · have hl0 : 0 < l.length := List.length_pos_iff.2 hl
      rw [if_neg (by omega)]
      by_cases ho2 : openI l = true
      · rw [if_pos ho2]
        by_cases h4 : (l.length : Int) ≤ s
        · rw [if_pos h4]
          by_cases h5 : b = -1
          · rw [decide_eq_true ⟨by omega, by omega, by omega, hbs, fun _ => ⟨ho2, h4, h5⟩⟩, h5]; rfl
          · rw [decide_eq_false (fun h => h5 (h.2.2.2.2 hl).2.2), beq_eq_false_iff_ne.2 h5]
        · rw [if_neg h4, decide_eq_false (fun h => h4 (h.2.2.2.2 hl).2.1)]
      · rw [if_neg ho2, decide_eq_false (fun h => ho2 (h.2.2.2.2 hl).1)]
  by_cases h4 : b ≥ s
  · rw [if_pos h4]
    by_cases h5 : b ≥ 0
    · rw [decide_eq_true h5, jt, decide_eq_false (fun h => by have := h.2.2.2.1 h5; omega)]
    · rw [decide_eq_false h5]
      exact key (fun h => absurd h h5)
  · rw [if_neg h4]
    exact key (fun _ => by omega)
open Classical in
theorem may_calls (s b : Int) (A : Option Addr) (c : Nat) (l : List Int) (n : Nat) (hn : n = l.length) (w : World) (hr : Kd.C (Kd.int .u8) w A l.length l) (hc : l.length ≤ c) (hB : allB l = true) (r : Bool) (hr2 : decide (mayI s b l) = r) :
    Calls Tryd.prog 30 #[.agg #[.int .i64 s, .int .i64 b, .slice A n c]] w fun e w' => e = .returned (.bool r) ∧ Below w.heap.size w w' := by
  subst hn
  subst hr2
  exact QC.gessoref02_May.calls (0 + 1) s b A c l _ w hr hc (may_f 0 s b l hB)

def nxM (s : Int) (m : List Int) : Prop := (m.length : Int) > 1099511627776 - s
instance (s : Int) (m : List Int) : Decidable (nxM s m) := inferInstanceAs (Decidable (_ > _))
def nxS (s : Int) (m : List Int) : Int := if nxM s m then s else s + (m.length : Int)
def nxB (s b : Int) (l m : List Int) : Int := if nxM s m then b else feedB s b l m
def nxP (s b : Int) (l m : List Int) : List Int := if nxM s m then l else feedP b l m
def nxF (s : Int) (m : List Int) : Int := if nxM s m then 13 else 0

theorem may_len {s b : Int} {l : List Int} (h : mayI s b l) : l.length ≤ 3 ∧ (l.length : Int) ≤ s := by
  by_cases hl : l = []
  · subst hl; exact ⟨by simp, by have := h.1; simpa using this⟩
  · have := h.2.2.2.2 hl
    have := open_4 this.1
    omega
theorem may_bad {s b : Int} {l : List Int} (h : mayI s b l) (hb : b ≥ 0) : l = [] := by
  by_cases hl : l = []
  · exact hl
  · have := (h.2.2.2.2 hl).2.2; omega

theorem next_any (s b : Int) (A : Option Addr) (c : Nat) (l : List Int) (A' : Option Addr) (c' : Nat) (m : List Int) (n n' : Nat) (hn : n = l.length) (hn' : n' = m.length) {N : Nat} (w : World) (hi : Inp N w A l) (hc : l.length ≤ c) (hi' : Inp N w A' m) (hc' : m.length ≤ c')
    (hm : mayI s b l) (hBl : allB l = true) (hBm : allB m = true) (g : Nat) (hg : N ≤ g) (hgw : g < w.heap.size) :
    Calls Tryd.prog 24 #[.agg #[.int .i64 s, .int .i64 b, .slice A n c], .slice A' n' c'] w fun e w' => ∃ A2 n2 c2, e = .returned (.tuple #[.agg #[.int .i64 (nxS s m), .int .i64 (nxB s b l m), .slice A2 n2 c2], .int .i64 (nxF s m)]) ∧
      Aside0 (n2 = (nxP s b l m).length ∧ (nxP s b l m).length ≤ c2 ∧ ∀ W, Kept w' W (· = g) → Kd.C (Kd.int .u8) W A2 (nxP s b l m).length (nxP s b l m)) ∧ Aside0 (Below w.heap.size w w') := by
  subst hn
  subst hn'
  have hlen := may_len hm
  unfold nxS nxB nxP nxF
  by_cases hmm : nxM s m
  · rw [if_pos hmm, if_pos hmm, if_pos hmm, if_pos hmm]
    refine (next_much s b A l.length c A' c' m.length w hm.1 hm.2.1 hmm).mono ?_
    rintro e w' ⟨rfl, hb⟩
    refine ⟨A, l.length, c, rfl, ⟨rfl, hc, fun W hk => ?_⟩, ⟨hb⟩⟩
    by_cases hl : l = []
    · subst hl; exact C_any_nil
    · exact C_keep (Kd.C_below hi.c hb) hk (fun x hx e => by have := hi.lt hl x hx; omega)
  · rw [if_neg hmm, if_neg hmm, if_neg hmm, if_neg hmm]
    have h1 : s + (m.length : Int) ≤ 1099511627776 := by unfold nxM at hmm; omega
    by_cases hb : b ≥ 0
    · have hl := may_bad hm hb
      have hf : feedB s b l m = b := by unfold feedB; rw [if_pos hb]
      have hp : feedP b l m = [] := by unfold feedP; rw [if_pos hb, hl]
      rw [hf, hp]
      refine (next_bad s b A c l A' c' m w hi.c hi'.c hlen.1 hm.1 h1 hb).mono ?_
      rintro e w' ⟨rfl, hb⟩
      exact ⟨none, 0, 0, rfl, ⟨rfl, Nat.le_refl _, fun W _ => C_any_nil⟩, ⟨hb⟩⟩
    · have hb1 : b = -1 := by have := hm.2.2.1; omega
      subst hb1
      refine (next_go s A c l A' c' m w hi.c hi'.c hlen.1 hm.1 hlen.2 h1 hBl hBm).mono ?_
      rintro e w' ⟨v, rfl, hv, hb⟩
      obtain ⟨A2, c2, rfl⟩ := Kd.R_slice hv
      refine ⟨A2, _, c2, rfl, ⟨rfl, (Kd.R_reads' hv).2.1, fun W hk => C_keep (Kd.R_reads' hv).2.2 hk (fun x hx e => ?_)⟩, ⟨hb⟩⟩
      subst hx
      have := Kd.R_base hv x.block rfl
      omega

theorem feed_any {w : World} {g : Nat} {s b : Int} {A : Option Addr} {c : Nat} {l : List Int} (H : Sc w g s b A c l) {N : Nat} (hN : N ≤ g) (A' : Option Addr) (c' : Nat) (m : List Int) (n : Nat) (hn : n = m.length) (hi : Inp N w A' m) (hc : m.length ≤ c')
    (hT : Tabs w) (hg : 2 ≤ g) (hm : mayI s b l) (hBl : allB l = true) (hB : allB m = true) :
    Calls Tryd.prog 23 #[.pointer (some ⟨g, 0, none⟩), .slice A' n c'] w fun e w' => e = .returned (.int .i64 (nxF s m)) ∧ Aside0 (∃ A2 c2, Sc w' g (nxS s m) (nxB s b l m) A2 c2 (nxP s b l m)) ∧ Aside0 (Turned g w w') := by
  subst hn
  have hlen := may_len hm
  unfold nxS nxB nxP nxF
  by_cases hmm : nxM s m
  · rw [if_pos hmm, if_pos hmm, if_pos hmm, if_pos hmm]
    refine (feed_much H A' c' m.length hm.1 hm.2.1 hmm).mono ?_
    rintro e w' ⟨rfl, hb⟩
    exact ⟨rfl, ⟨A, c, H.below hb⟩, ⟨(Turned.refl g w).then_below hb (Nat.le_of_lt H.lt)⟩⟩
  · rw [if_neg hmm, if_neg hmm, if_neg hmm, if_neg hmm]
    have h1 : s + (m.length : Int) ≤ 1099511627776 := by unfold nxM at hmm; omega
    refine (feed_inp H hN A' c' m m.length rfl hi hc hT hg hBl hB hm.1 (by omega) h1).mono ?_
    rintro e w' ⟨rfl, h⟩
    obtain ⟨A2, c2, h2, _⟩ := h.out.sc
    exact ⟨rfl, ⟨A2, c2, h2⟩, ⟨h.out.turned⟩⟩
end Go.Proofs.YtnaaimnmphcilaaDoor.Hand

namespace Go.Proofs.YtnaaimnmphcilaaDoor.Hand
open Go.RowKit Go.Proofs.YtnaaimnmphcilaaDoorW.PrintWords Go.Proofs.YtnaaimnmphcilaaDoorW.PrintLast Go.Proofs.YtnaaimnmphcilaaDoorW.PrintMore
set_option linter.unusedVariables false
set_option linter.unusedSimpArgs false

theorem concat_new2 {W : World} {g : Nat} {s b : Int} {A : Option Addr} {c : Nat} {l : List Int} (H : Sc W g s b A c l) {A' : Option Addr} {c' : Nat} {m : List Int} (hr : Kd.C (Kd.int .u8) W A' m.length m) (hl : l.length + m.length ≤ 140737488355328) :
    Calls Tryd.prog 43 #[.slice (some ⟨W.heap.size, 0, none⟩) 2 2] (W.alloc (.cells #[.slice A l.length c, .slice A' m.length c'] 23)) fun e w' =>
      ∃ A3 n3 c3, e = .returned (.slice A3 n3 c3) ∧ n3 = (l ++ m).length ∧ (l ++ m).length ≤ c3 ∧ Kd.C (Kd.int .u8) w' A3 (l ++ m).length (l ++ m) ∧ (∀ x, A3 = some x → W.heap.size < x.block ∧ x.block < w'.heap.size) ∧ Below W.heap.size W w' := by
  have hb := (Below.refl W.heap.size W).alloc (Nat.le_refl _) (.cells #[.slice A l.length c, .slice A' m.length c'] 23)
  have hk := heap_alloc_new W (.cells #[.slice A l.length c, .slice A' m.length c'] 23)
  have hs : (W.alloc (.cells #[.slice A l.length c, .slice A' m.length c'] 23)).heap.size = W.heap.size + 1 := Array.size_push _
  refine (concat_calls W.heap.size A c l A' c' m _ (blk_cell hk 0) (blk_cell hk 1) (Kd.C_below H.came hb) (Kd.C_below hr hb) hl).mono ?_
  rintro e w' ⟨v, rfl, HO, HB⟩
  obtain ⟨A3, c3, rfl⟩ := Kd.R_slice HO
  refine ⟨A3, _, c3, rfl, rfl, (Kd.R_reads' HO).2.1, (Kd.R_reads' HO).2.2, fun x hx => ?_, hb.trans (HB.mono (by omega))⟩
  subst hx
  have h1 := Kd.R_base HO x.block rfl
  have h2 := Kd.R_lt HO x.block rfl
  exact ⟨by omega, h2⟩

/-- The scan at g has come to a new state; what is pending lies where it lay, or in new memory. -/
structure Fed2 (w w' : World) (g : Nat) (s b : Int) (A : Option Addr) (l : List Int) : Prop where
  sc : ∃ A2 c2, Sc w' g s b A2 c2 l ∧ ∀ x, A2 = some x → A = some x ∨ (w.heap.size ≤ x.block ∧ x.block < w'.heap.size)
  turned : Turned g w w'

set_option maxHeartbeats 800000 in
theorem feed_calls2 {w : World} {g : Nat} {s b : Int} {A : Option Addr} {c : Nat} {l : List Int} (H : Sc w g s b A c l) (A' : Option Addr) (c' : Nat) (m : List Int) (hr : Kd.C (Kd.int .u8) w A' m.length m) (hc : m.length ≤ c')
    (hap : m ≠ [] → ∀ x, A' = some x → x.block ≠ g) (hT : Tabs w) (hg : 2 ≤ g) (hBl : allB l = true) (hB : allB m = true) (h0 : 0 ≤ s) (hl : l.length ≤ 140737488355) (h1 : s + (m.length : Int) ≤ 1099511627776) :
    Calls Tryd.prog 23 #[.pointer (some ⟨g, 0, none⟩), .slice A' m.length c'] w fun e w' => e = .returned (.int .i64 0) ∧ Fed2 w w' g (s + (m.length : Int)) (feedB s b l m) A (feedP b l m) := by
  obtain ⟨k0, k1, k2⟩ := H.cells
  obtain ⟨f0, f1, f2⟩ := H.frozen
  have hw : wrap64 (1099511627776 - s) = 1099511627776 - s := by unfold wrap64; omega
  have hw2 : wrap64 (s + (m.length : Int)) = s + (m.length : Int) := by unfold wrap64; omega
  have hw3 : wrap64 (s - (l.length : Int)) = s - (l.length : Int) := by unfold wrap64; omega
  have hn : ¬ (m.length : Int) > 1099511627776 - s := by omega
  have hglt : g ≤ w.heap.size := Nat.le_of_lt H.lt
  by_cases hbad : b ≥ 0
  · have e1 : feedB s b l m = b := by unfold feedB; rw [if_pos hbad]
    have e2 : feedP b l m = l := by unfold feedP; rw [if_pos hbad]
    rw [e1, e2]
    have HH := Aside0.mk H
    clear e1 e2 hr hc hap hT hBl hB H
    have HW2 := Aside0.mk hw2
    clear hw2
    generalize m.length = n at *
    have HLN : Aside0 (∃ ll, ll = l.length) := ⟨_, rfl⟩
    go_enter Tryd.func23, Tryd.ntmps23
    go_wp2_with (first | go_quiet (fail))
    go_ret
    have hS := (HH.out.below (pw_below_drewN (Below.refl _ _) nq)).seen (wrap64 (s + (n : Int)))
    have ht := ((Turned.refl g w).then_below (pw_below_drewN (Below.refl _ _) nq) hglt).set 0 (.int .i64 (wrap64 (s + (n : Int))))
    rw [HW2.out] at hS ht
    exact ⟨rfl, ⟨A, c, hS, fun x hx => .inl hx⟩, ht⟩
  · have e1 : feedB s b l m = lookB (s - (l.length : Int)) b (l ++ m) := by unfold feedB; rw [if_neg hbad]
    have e2 : feedP b l m = lookP (l ++ m) := by unfold feedP; rw [if_neg hbad]
    rw [e1, e2]
    have HT2 : ∀ nq, Aside0 (Turned g w ((w.drewN nq).setCell ⟨g, 0, none⟩ (.int .i64 (s + (m.length : Int))))) := fun nq => ⟨((Turned.refl g w).then_below (pw_below_drewN (Below.refl _ _) nq) hglt).set 0 _⟩
    have HS2 : ∀ nq, Aside0 (Sc ((w.drewN nq).setCell ⟨g, 0, none⟩ (.int .i64 (s + (m.length : Int)))) g (s + (m.length : Int)) b A c l) := fun nq => ⟨(H.below (pw_below_drewN (Below.refl _ _) nq)).seen _⟩
    have HC2 : ∀ nq, Aside0 (Kd.C (Kd.int .u8) ((w.drewN nq).setCell ⟨g, 0, none⟩ (.int .i64 (s + (m.length : Int)))) A' m.length m) := fun nq => ⟨by
        by_cases hm0 : m = []
        · rw [hm0]; exact ⟨rfl, by simp, fun h => absurd h (Nat.lt_irrefl 0)⟩
        · exact C_keep hr (HT2 nq).out.kept (fun x hx he => hap hm0 x hx he)⟩
    have HLM : Aside0 (l.length + m.length ≤ 140737488355328) := ⟨by omega⟩
    have HTB := Aside0.mk hT
    have HAB : Aside0 (allB (l ++ m) = true) := ⟨by rw [allB_append, hBl, hB]; rfl⟩
    have HG := Aside0.mk hg
    have HGL := Aside0.mk hglt
    have CC : ∀ nq, Aside0 (Calls Tryd.prog 43 #[.slice (some ⟨w.heap.size, 0, none⟩) 2 2] (((w.drewN nq).setCell ⟨g, 0, none⟩ (.int .i64 (s + (m.length : Int)))).alloc (.cells #[.slice A l.length c, .slice A' m.length c'] 23)) fun e w' =>
      ∃ A3 n3 c3, e = .returned (.slice A3 n3 c3) ∧ n3 = (l ++ m).length ∧ (l ++ m).length ≤ c3 ∧ Kd.C (Kd.int .u8) w' A3 (l ++ m).length (l ++ m) ∧ (∀ x, A3 = some x → w.heap.size < x.block ∧ x.block < w'.heap.size) ∧ Below w.heap.size ((w.drewN nq).setCell ⟨g, 0, none⟩ (.int .i64 (s + (m.length : Int)))) w') := fun nq => ⟨by
        have hsz : ((w.drewN nq).setCell ⟨g, 0, none⟩ (.int .i64 (s + (m.length : Int)))).heap.size = w.heap.size := by simp [World.setCell]
        have := concat_new2 (c' := c') (HS2 nq).out (HC2 nq).out HLM.out
        rwa [hsz] at this⟩
    have HSZ : ∀ {nq}, Aside0 (((w.drewN nq).setCell ⟨g, 0, none⟩ (.int .i64 (s + (m.length : Int)))).heap.size = w.heap.size) := fun {nq} => ⟨by simp [World.setCell]⟩
    clear hr hap hT hBl hB hg hl hglt e1 e2 h0 hc H
    have HS4 : ∀ {nq w4}, Below w.heap.size ((w.drewN nq).setCell ⟨g, 0, none⟩ (.int .i64 (s + (m.length : Int)))) w4 → Aside0 (Sc w4 g (s + (m.length : Int)) b A c l) := fun {nq w4} hb => ⟨(HS2 nq).out.below (by rw [HSZ.out]; exact hb)⟩
    have HN := Aside0.mk hn
    have hbl : b < 0 := by omega
    clear hbad
    generalize l.length = p at *
    generalize m.length = n at *
    go_enter Tryd.func23, Tryd.ntmps23
    go_wp2_with (first | go_quiet (fail) | (go_at_call 43; refine (CC nq).out.mono ?_; rintro e w4 ⟨A3, n3, c3, rfl, hn3, hc3, hr3, ha3, hb4⟩; have HN3 := Aside0.mk hn3; have HC3 := Aside0.mk hc3; have HR3 := Aside0.mk hr3; have HA3 := Aside0.mk ha3; have HB4 := Aside0.mk hb4; clear hn3 hc3 hr3 ha3 hb4) | (go_at_call 42; go_must (refine (look_at (HS4 (nq := nq) HB4.out).out _ A3 c3 (l ++ m) n3 HN3.out HR3.out HC3.out ?LP ?LT HG.out HAB.out).mono ?_); (case LP => intro x hx; have := (HA3.out x hx).1; have := HGL.out; omega); (case LT => exact HTB.out.keep ((HT2 nq).out.below.trans (HB4.out.mono HGL.out)) HG.out); rintro e w5 ⟨rfl, h5⟩))
    go_ret
    obtain ⟨⟨A2, c2, hs5, ha5⟩, ht5⟩ := h5.out
    refine ⟨rfl, ⟨A2, c2, hs5, fun x hx => ?_⟩, ?_⟩
    · obtain ⟨y, hy, e⟩ := ha5 x hx
      have := HA3.out y hy
      have hle := ht5.kept.1
      exact .inr (by omega)
    · exact ((HT2 nq).out.then_below (by rw [HSZ.out]; exact HB4.out) (by rw [HSZ.out]; exact HGL.out)).then_ ht5
end Go.Proofs.YtnaaimnmphcilaaDoor.Hand

namespace Go.Proofs.YtnaaimnmphcilaaDoor.Hand
open Go.RowKit Go.Proofs.YtnaaimnmphcilaaDoorW.PrintWords Go.Proofs.YtnaaimnmphcilaaDoorW.PrintLast Go.Proofs.YtnaaimnmphcilaaDoorW.PrintMore
set_option linter.unusedVariables false
set_option linter.unusedSimpArgs false

theorem C_keep' {w w' : World} {S : Nat → Prop} {A : Option Addr} {k : IntKind} {l : List Int} (h : Kd.C (Kd.int k) w A l.length l) (hk : Kept w w' S) (hA : l ≠ [] → ∀ x, A = some x → ¬ S x.block) : Kd.C (Kd.int k) w' A l.length l := by
  by_cases hl : l = []
  · subst hl; exact C_any_nil
  · exact C_keep h hk (hA hl)
theorem Sc.keep' {w w' : World} {S : Nat → Prop} {g : Nat} {s b : Int} {A : Option Addr} {c : Nat} {l : List Int} (h : Sc w g s b A c l) (hk : Kept w w' S) (hg : ¬ S g) (hA : l ≠ [] → ∀ x, A = some x → ¬ S x.block) : Sc w' g s b A c l :=
  ⟨blk_kept h.blk hk hg, C_keep' h.came hk hA, h.cap, h.apart⟩
theorem st_may (l : List Int) (hB : allB l = true) (hl : l.length ≤ 1099511627776) : mayI (l.length : Int) (stB l) (stP l) := by
  rcases st_cases hB with ⟨h1, h2, h3⟩ | ⟨k, h1, hk, ⟨h3, h4, h5⟩ | ⟨h3, h4, h5⟩⟩
  · rw [h2, h3]; exact ⟨by omega, by omega, by omega, by omega, fun h => absurd rfl h⟩
  · rw [h4, h5]; exact ⟨by omega, by omega, by omega, by omega, fun _ => ⟨h3, by rw [List.length_drop]; omega, rfl⟩⟩
  · rw [h4, h5]
    refine ⟨by omega, by omega, by omega, fun _ => ?_, fun h => absurd rfl h⟩
    have := faultI_valid hB
    omega
theorem stP_len (l : List Int) : (stP l).length ≤ 3 := lookP_len l
theorem feed_st {w : World} {g : Nat} {al : List Int} {A : Option Addr} {c : Nat} (H : Sc w g (al.length : Int) (stB al) A c (stP al)) (A' : Option Addr) (c' n : Nat) (m : List Int) (hn : n = m.length) (hr : Kd.C (Kd.int .u8) w A' m.length m) (hc : m.length ≤ c')
    (hap : ∀ x, A' = some x → x.block ≠ g) (hT : Tabs w) (hg : 2 ≤ g) (hBa : allB al = true) (hB : allB m = true) (hl : al.length + m.length ≤ 1099511627776) :
    Calls Tryd.prog 23 #[.pointer (some ⟨g, 0, none⟩), .slice A' n c'] w fun e w' => e = .returned (.int .i64 0) ∧ Aside0 (Fed2 w w' g ((al ++ m).length : Int) (stB (al ++ m)) A (stP (al ++ m))) := by
  subst hn
  have := feed_calls2 H A' c' m hr hc (fun _ x hx => hap x hx) hT hg (allB_lookP hBa) hB (by omega) (by have := stP_len al; omega) (by omega)
  have hst := st_feed al m hBa hB (by omega)
  rw [hst.1, hst.2, show (al.length : Int) + (m.length : Int) = ((al ++ m).length : Int) by rw [List.length_append]; omega] at this
  exact this.mono fun e w' h => ⟨h.1, ⟨h.2⟩⟩
theorem next_st (al : List Int) (A : Option Addr) (c : Nat) (A' : Option Addr) (c' : Nat) (m : List Int) (n n' : Nat) (hn : n = (stP al).length) (hn' : n' = m.length) (w : World) (hr : Kd.C (Kd.int .u8) w A (stP al).length (stP al)) (hr' : Kd.C (Kd.int .u8) w A' m.length m)
    (hBa : allB al = true) (hB : allB m = true) (hl : al.length + m.length ≤ 1099511627776) :
    Calls Tryd.prog 24 #[.agg #[.int .i64 (al.length : Int), .int .i64 (stB al), .slice A n c], .slice A' n' c'] w fun e w' => ∃ A2 n2 c2, e = .returned (.tuple #[.agg #[.int .i64 ((al ++ m).length : Int), .int .i64 (stB (al ++ m)), .slice A2 n2 c2], .int .i64 0]) ∧
      Aside0 (n2 = (stP (al ++ m)).length ∧ (stP (al ++ m)).length ≤ c2 ∧ Kd.C (Kd.int .u8) w' A2 (stP (al ++ m)).length (stP (al ++ m)) ∧ ∀ x, A2 = some x → w.heap.size ≤ x.block) ∧ Aside0 (Below w.heap.size w w') := by
  subst hn
  subst hn'
  have hm := st_may al hBa (by omega)
  have hlen := stP_len al
  have hst := st_feed al m hBa hB (by omega)
  have hs : (al.length : Int) + (m.length : Int) = ((al ++ m).length : Int) := by rw [List.length_append]; omega
  by_cases hb : stB al ≥ 0
  · have hp := may_bad hm hb
    have hf : stB (al ++ m) = stB al := by rw [← hst.1]; unfold feedB; rw [if_pos hb]
    have hq : stP (al ++ m) = [] := by rw [← hst.2, hp]; unfold feedP; rw [if_pos hb]
    rw [hf, hq, ← hs]
    refine (next_bad _ _ A c (stP al) A' c' m w hr hr' hlen (by omega) (by omega) hb).mono ?_
    rintro e w' ⟨rfl, hb⟩
    exact ⟨none, 0, 0, rfl, ⟨rfl, Nat.le_refl _, C_any_nil, fun x hx => by cases hx⟩, ⟨hb⟩⟩
  · have hb1 : stB al = -1 := by have := hm.2.2.1; omega
    have hle := (may_len hm).2
    have hgo := next_go (al.length : Int) A c (stP al) A' c' m w hr hr' hlen (by omega) hle (by omega) (allB_lookP hBa) hB
    rw [hb1] at hst ⊢
    rw [hst.1, hst.2, hs] at hgo
    refine hgo.mono ?_
    rintro e w' ⟨v, rfl, hv, hb⟩
    obtain ⟨A2, c2, rfl⟩ := Kd.R_slice hv
    exact ⟨A2, _, c2, rfl, ⟨rfl, (Kd.R_reads' hv).2.1, (Kd.R_reads' hv).2.2, fun x hx => by subst hx; exact Kd.R_base hv x.block rfl⟩, ⟨hb⟩⟩
end Go.Proofs.YtnaaimnmphcilaaDoor.Hand

namespace Go.Proofs.YtnaaimnmphcilaaDoor.Hand
open Go.RowKit Go.ChangeShapes Go.WideShapes Go.Deep Go.Proofs.YtnaaimnmphcilaaDoorW.PrintWords
set_option linter.unusedVariables false
set_option linter.unusedSimpArgs false

/-- One cell that reads at type t is a value of kind d that satisfies Q; B: a measure of readings, sz: of values. -/
def Opens {α : Type} (P : Program) (d : Kd α) (t : TypeId) (Q : α → Prop) (H : Type) (B : DataW H → Nat) (sz : α → Nat) : Prop :=
  ∀ (enc : TypeId × Value → H) (w : World) (base fuel : Nat) (v : Value) (x : DataW H × List MemPlace), DataW.trod enc P w base (fun _ => true) true fuel t [v] = some x → ∃ a : α, d.K w a [v] ∧ Q a ∧ sz a ≤ B x.1
theorem opens_int {P : Program} {k : IntKind} {t : TypeId} {H : Type} {B : DataW H → Nat} (ht : P.underlying t = some (.int k)) (hB : ∀ l, 1 ≤ B (.lit l)) : Opens P (Kd.int k) t (fun n => (Lit.int k n).wf = true) H B (fun _ => 1) := by
  intro enc w base fuel v x h
  obtain ⟨n, hc, rfl, hw⟩ := DataW.trod_int ht h
  exact ⟨n, hc, hw, hB _⟩
theorem opens_string {P : Program} {t : TypeId} {H : Type} {B : DataW H → Nat} (ht : P.underlying t = some .string) (hB : ∀ b, b.length + 1 ≤ B (.lit (.string b))) : Opens P Kd.string t (fun s => s.size ≤ maxLen) H B (fun s => s.size + 1) := by
  intro enc w base fuel v x h
  obtain ⟨s, hc, rfl, hw⟩ := DataW.trod_string ht h
  exact ⟨s, hc, hw, by have := hB s.data.toList; simpa using this⟩
theorem choose_list {α : Type} {p : Nat → α → Prop} : ∀ (n : Nat), (∀ i, i < n → ∃ a, p i a) → ∃ l : List α, l.length = n ∧ ∀ i a, l[i]? = some a → p i a
  | 0, _ => ⟨[], rfl, fun i a h => by simp at h⟩
  | n + 1, h => by
    obtain ⟨l, hl, hp⟩ := choose_list n (fun i hi => h i (by omega))
    obtain ⟨a, ha⟩ := h n (by omega)
    refine ⟨l ++ [a], by simp [hl], fun i b hb => ?_⟩
    by_cases hi : i < l.length
    · rw [List.getElem?_append_left hi] at hb
      exact hp i b hb
    · rw [List.getElem?_append_right (by omega)] at hb
      by_cases h0 : i = l.length
      · subst h0
        simp at hb
        subst hb
        rw [hl]; exact ha
      · rw [List.getElem?_eq_none (by simp; omega)] at hb
        cases hb
theorem sum_le {α β : Type} (f : α → Nat) (g : β → Nat) : ∀ (l : List α) (m : List β), l.length ≤ m.length → (∀ (i : Nat) a b, l[i]? = some a → m[i]? = some b → f a ≤ g b) → (l.map f).sum ≤ (m.map g).sum
  | [], _, _, _ => by simp
  | a :: l, [], h, _ => by simp at h
  | a :: l, b :: m, h, hp => by
    have h1 := hp 0 a b rfl rfl
    have h2 := sum_le f g l m (by simpa using h) (fun i x y hx hy => hp (i + 1) x y (by simpa using hx) (by simpa using hy))
    simp only [List.map_cons, List.sum_cons]
    omega
theorem opens_slice {α : Type} {P : Program} {d : Kd α} {t e : TypeId} {Q : α → Prop} {H : Type} {B : DataW H → Nat} {sz : α → Nat} (ht : P.underlying t = some (.slice e)) (hc : P.cellsOf e = 1) (hsz : d.sz = 1) (he : Opens P d e Q H B sz)
    (hB : ∀ a b, (a.map B).sum + 1 ≤ B (.slice a b)) (hN : 1 ≤ B .nil) : Opens P (Kd.slice e d) t (fun l => ∀ a ∈ l, Q a) H B (fun l => (l.map sz).sum + 1) := by
  intro enc w base fuel v x h
  rcases open_slice1 ht hc h with ⟨hv, rfl⟩ | ⟨a, len, cap, m, n, V, D, Pl, hv, hb, hl, hm, hmm, rfl, hx⟩
  · exact ⟨[], ⟨none, 0, hv, Nat.le_refl _, ⟨rfl, by simp, fun h => absurd h (Nat.lt_irrefl 0)⟩⟩, (fun a (ha : a ∈ []) => (by cases ha)), by simpa using hN⟩
  · simp only [if_true] at hmm
    subst hmm
    obtain ⟨l, hl1, hl2⟩ := choose_list (α := α) (p := fun i a' => d.K w a' [V i] ∧ Q a' ∧ sz a' ≤ B (D i)) len (fun i hi => he enc w base n (V i) (D i, Pl i) (hx i (by omega)).2)
    refine ⟨l, ⟨some a, m, by rw [hl1]; exact hv, by omega, ⟨rfl, by unfold maxLen at hm; omega, fun _ => ⟨a, rfl, fun i p hp => ?_⟩⟩⟩, fun p hp => ?_, ?_⟩
    · have hi := (List.getElem?_eq_some_iff.1 hp).1
      refine ⟨[V i], by rw [hsz]; rfl, (hl2 i p hp).1, fun j u hu => ?_⟩
      cases j with
      | zero =>
        simp at hu
        subst hu
        rw [hsz, Nat.mul_one, Nat.add_zero]
        exact (hx i (by omega)).1
      | succ j => simp at hu
    · obtain ⟨i, hi⟩ := List.getElem?_of_mem hp
      exact (hl2 i p hi).2.1
    · refine Nat.le_trans (Nat.add_le_add_right ?_ 1) (hB _ _)
      exact sum_le sz B l ((List.range len).map D) (by simp [hl1]) (fun i a' b' ha hb' => by
        have h1 := hl2 i a' ha
        have hi : i < len := by have := (List.getElem?_eq_some_iff.1 ha).1; omega
        simp [hi] at hb'
        subst hb'
        exact h1.2.2)
end Go.Proofs.YtnaaimnmphcilaaDoor.Hand

namespace Go.Proofs.YtnaaimnmphcilaaDoor.Hand
open Go.RowKit Go.Proofs.YtnaaimnmphcilaaDoorW.PrintWords Go.Proofs.YtnaaimnmphcilaaDoorW.PrintLast Go.Proofs.YtnaaimnmphcilaaDoorW.PrintMore
set_option linter.unusedVariables false
set_option linter.unusedSimpArgs false

def allOf (l : List (List Int)) (k : Nat) : List Int := (l.take k).flatten
theorem allOf_succ (l : List (List Int)) (k : Nat) (hk : k < l.length) : allOf l (k + 1) = allOf l k ++ QC.rd_L1 l k := by
  unfold allOf QC.rd_L1
  rw [List.take_add_one, Int.toNat_natCast, List.flatten_append]
  simp [hk, List.getD]
theorem allB_flatten : ∀ (l : List (List Int)), (∀ x ∈ l, allB x = true) → allB l.flatten = true
  | [], _ => rfl
  | x :: l, h => by
    rw [List.flatten_cons, allB_append, h x (by simp), allB_flatten l (fun y hy => h y (by simp [hy]))]; rfl
theorem allOf_B {l : List (List Int)} (h : ∀ x ∈ l, allB x = true) (k : Nat) : allB (allOf l k) = true := allB_flatten _ (fun x hx => h x (List.mem_of_mem_take hx))
theorem allOf_le (l : List (List Int)) (k : Nat) : (allOf l k).length ≤ l.flatten.length := by
  unfold allOf
  conv => rhs; rw [← List.take_append_drop k l, List.flatten_append, List.length_append]
  omega
theorem rd_mem {l : List (List Int)} {k : Nat} (hk : k < l.length) : QC.rd_L1 l k ∈ l := by
  unfold QC.rd_L1
  rw [Int.toNat_natCast]
  simp [List.getD, hk]

/-- What the loop of ScanFeeds keeps: the scan at g and the state in block X are behind the bytes al. -/
structure FdW (w W : World) (g X : Nat) (al : List Int) (A : Option Addr) (c : Nat) (A2 : Option Addr) (n2 c2 : Nat) : Prop where
  sc : Sc W g (al.length : Int) (stB al) A c (stP al)
  top : ∀ x, A = some x → X < x.block ∧ x.block < W.heap.size
  res : Res w W X #[.int .i64 (al.length : Int), .int .i64 (stB al), .slice A2 n2 c2]
  len : n2 = (stP al).length
  cap : (stP al).length ≤ c2
  row : Kd.C (Kd.int .u8) W A2 (stP al).length (stP al)
  ap : ∀ x, A2 = some x → X < x.block
theorem FdW.below {w W W' : World} {g X : Nat} {al : List Int} {A : Option Addr} {c : Nat} {A2 : Option Addr} {n2 c2 : Nat} (h : FdW w W g X al A c A2 n2 c2) (hb : Below W.heap.size W W') : FdW w W' g X al A c A2 n2 c2 :=
  ⟨h.sc.below hb, fun x hx => ⟨(h.top x hx).1, Nat.lt_of_lt_of_le (h.top x hx).2 hb.size⟩, h.res.then_ hb, h.len, h.cap, Kd.C_below h.row hb, h.ap⟩

theorem FdW.start {w w1 w2 : World} (h1 : Sc w1 w.heap.size 0 (-1) none 0 []) (hb1 : Below w.heap.size w w1) (hb2 : Below (w1.alloc (.cells #[.int .i64 0, .int .i64 (-1), .slice none 0 0] 42)).heap.size (w1.alloc (.cells #[.int .i64 0, .int .i64 (-1), .slice none 0 0] 42)) w2) :
    FdW w w2 w.heap.size w1.heap.size [] none 0 none 0 0 := by
  have hb0 : Below w.heap.size w (w1.alloc (.cells #[.int .i64 0, .int .i64 (-1), .slice none 0 0] 42)) := hb1.alloc hb1.size _
  exact ⟨(h1.two _).below hb2, fun _ h => (by cases h), ⟨hb0.trans (hb2.mono hb0.size), blk_below (heap_alloc_new w1 _) hb2⟩, rfl, Nat.le_refl _, C_any_nil, fun _ h => (by cases h)⟩
theorem inner_lt {l : List (List Int)} {k : Nat} (hk : k < l.length) : (QC.rd_L1 l k).length ≤ l.flatten.length := by
  have h1 := allOf_le l (k + 1)
  rw [allOf_succ l k hk, List.length_append] at h1
  omega

theorem conv_at {w : World} {A : Option Addr} {c n : Nat} {l : List Int} (h : Kd.C (Kd.int .u8) w A l.length l) (hn : l.length = n) : (convert 23 9 (.slice A n c)).run Tryd.prog w = .ok (.string (strOfNums l)) w := by
  subst hn
  exact Kd.C_string (P := Tryd.prog) (A := A) (c := c) Tryd.underlying23 Tryd.underlying5 Tryd.underlying9 h

theorem R_kept {α : Type} {d : Kd α} {e base : Nat} {ok : Nat → Prop} {w w' : World} {v : Value} {xs : List α} {S : Nat → Prop} (h : d.R e w base ok v xs) (hk : Kept w w' S) (hS : ∀ k, ok k → base ≤ k → ¬ S k) : d.R e w' base ok v xs :=
  Kd.R_mono (Kd.R_step (Kd.R_bound h) (fun k hk1 hk2 => hk.2 k hk2 (hS k hk1.1 hk1.2.1))) (fun _ hk => hk.1)

set_option maxHeartbeats 8000000 in
theorem feeds_small (A0 : Option Addr) (c0 : Nat) (l0 : List (List Int)) (w : World) (hr : Kd.C (Kd.slice 5 (Kd.int .u8)) w A0 l0.length l0) (hc : l0.length ≤ c0) (hB : ∀ x ∈ l0, allB x = true) (hn : l0.length ≤ 1048576) (hf : l0.flatten.length ≤ 1048576) (hT : Tabs w) :
    Calls Tryd.prog 6 #[.slice A0 l0.length c0] w fun e w' => e = .returned (.bool true) ∧ Below w.heap.size w w' := by
  have HR := Aside0.mk hr
  have HB0 := Aside0.mk hB
  have HF := Aside0.mk hf
  have HT := Aside0.mk hT
  have HT2 := Aside0.mk hT.two
  obtain ⟨L, hL⟩ : ∃ L, L = l0.length := ⟨_, rfl⟩
  have HL := Aside0.mk hL
  have HLN : Aside0 (L ≤ 1048576) := ⟨by omega⟩
  rw [← hL]
  clear hr hc hB hn hf hT hL
  have C0 : Aside0 (∀ W o, Sc W w.heap.size 0 (-1) none 0 [] → Calls Tryd.prog 22 #[.pointer (some ⟨w.heap.size, 0, none⟩), .agg #[.int .i64 0, .int .i64 (-1), .slice none 0 0]] (W.alloc o) fun e w' => e = .returned (.bool true) ∧ Below (W.alloc o).heap.size (W.alloc o) w') :=
    ⟨fun W o h => same_calls (h.two o) none 0 0 rfl C_any_nil (Nat.le_refl _) (by simp)⟩
  go_enter Tryd.func6, Tryd.ntmps6
  go_wp2_with (first | (go_at_call 21; (with_reducible refine (new_calls w).mono ?_); rintro e w1 ⟨rfl, hs, hb⟩; have HS := Aside0.mk hs; have HB := Aside0.mk hb; clear hs hb) | (go_at_call 22; (with_reducible refine (C0.out _ _ HS.out).mono ?_); rintro e w2 ⟨rfl, hb⟩; have HGX : Aside0 (w.heap.size < w1.heap.size) := ⟨HS.out.lt⟩; have HD := Aside0.mk (FdW.start HS.out HB.out hb); clear hb HS HB))
  obtain ⟨X, hX⟩ : ∃ X, w1.heap.size = X := ⟨_, rfl⟩
  rw [hX] at HD HGX ⊢
  clear hX C0
  go_loopg [5] L (fun gk i wr => ∃ (k : Nat) (A : Option Addr) (c : Nat) (A2 : Option Addr) (n2 c2 : Nat), Aside0 (gk + k = L) ∧ i = .int .i64 k ∧ Aside0 (FdW w wr w.heap.size X (allOf l0 k) A c A2 n2 c2))
  case atStart => exact ⟨0, none, 0, none, 0, 0, ⟨rfl⟩, rfl, HD⟩
  case round =>
    clear HD
    obtain ⟨k, A, c, A2, n2, c2, HK, rfl, HD⟩ := hrel
    by_cases hk : k < L
    · have hki : (k : Int) < (L : Int) := by omega
      have hki0 : (0 : Int) ≤ (k : Int) := by omega
      have hwk : wrap64 ((k : Int) + 1) = (k : Int) + 1 := by unfold wrap64; have := HLN.out; omega
      have hkl : k < l0.length := by rw [← HL.out]; exact hk
      have HSU := Aside0.mk (allOf_succ l0 k hkl)
      have HAB := Aside0.mk (allOf_B HB0.out k)
      have HMB := Aside0.mk (HB0.out _ (rd_mem hkl))
      have HAL : Aside0 ((allOf l0 k).length + (QC.rd_L1 l0 k).length ≤ 1099511627776) := ⟨by have h1 := allOf_le l0 (k + 1); rw [allOf_succ l0 k hkl, List.length_append] at h1; have := HF.out; omega⟩
      obtain ⟨ad, ta, tc, hA0, hcell, htc, hCt⟩ := QC.at_L1 HR.out (k : Int) hki0 (by rw [← HL.out]; exact hki)
      subst hA0
      rw [Int.toNat_natCast] at hcell
      obtain ⟨m, hm⟩ : ∃ m, QC.rd_L1 l0 k = m := ⟨_, rfl⟩
      rw [hm] at HSU HMB HAL hcell htc hCt
      obtain ⟨q, hq⟩ : ∃ q, m.length = q := ⟨_, rfl⟩
      have HQ := Aside0.mk hq
      rw [hq] at hcell
      have HCT := Aside0.mk hCt
      have HQL : Aside0 (q ≤ 1099511627776) := ⟨by have := HAL.out; omega⟩
      have HCELL := Aside0.mk hcell
      have hcello := pw_cell_below HD.out.res.below hcell
      clear hcell
      have HKL := Aside0.mk hk
      have HTB : ∀ {W}, Below w.heap.size w W → Tabs W := fun h => HT.out.below h
      have HTBB := Aside0.mk @HTB
      clear hkl hm hq hCt htc hk HTB
      generalize allOf l0 k = al at *
      obtain ⟨wo, hwo⟩ : ∃ wo, wo = wr := ⟨_, rfl⟩
      subst hwo
      go_wp2_with (first | ((with_reducible refine gate_dst (N := 24) rfl ?_); go_must (refine Kd.R_lit (Kd.int .u8) (w0 := wo) wo.heap.size 5 rfl (N := 24) rfl (xs := ([] : List Int)) (inner := []) (ok := fun _ => True) (okp := fun _ => True) (by go_simp) (Reps.none _ _) (fun _ hk => hk) trivial (Below.refl _ _) (Nat.le_refl _) (by simp) ?_); intro v1 w1 HO1 HB1 HG1 HAT1; have e0 := pw_cell_below HB1 hcello; have HCX := Kd.C_below (Kd.C_below HCT.out HD.out.res.below) HB1) | ((with_reducible refine gate_builtin (b := .append) (xs := #[.tmp 24, .tmp 28]) rfl ?_); at_builtin; go_must (refine Kd.R_append_rows (Kd.int .u8) (w0 := wo) wo.heap.size rfl (.tmp 24) (.tmp 28) 23 5 (.int .u8 0) 1 rfl Tryd.underlying23 info5 rfl (by decide) (by decide) v1 [] m ta q tc (fun _ => True) (fun _ => False) rfl rfl HO1 (by have := HCX; rw [HQ.out] at this; exact this) (fun _ _ h => h) (fun _ h => h.elim) (fun _ _ => trivial) HB1 HB1.size ?aL ?_); (case aL => have := HQL.out; simp; omega); intro v2 w2 HO2 HB2 HG2 HAT2; clear HO1 HB1 HG1 HAT1 e0 HCX; rw [List.nil_append] at HO2; obtain ⟨A3, c3, e3⟩ := Kd.R_slice HO2; rw [HQ.out] at e3; subst e3; have HIN := Aside0.mk HO2; have HBI := Aside0.mk HB2; clear HO2 HB2 HG2 HAT2))
      have HW2 : Aside0 (Below w.heap.size w w2.drew) := ⟨HD.out.res.below.trans ((below_drew HBI.out).mono HD.out.res.below.size)⟩
      have HA3 : Aside0 (∀ x, A3 = some x → wo.heap.size ≤ x.block) := ⟨fun x hx => by subst hx; exact Kd.R_base HIN.out x.block rfl⟩
      have HGW : Aside0 (w.heap.size < wo.heap.size ∧ X < wo.heap.size) := ⟨HD.out.sc.lt, HD.out.res.facts.1⟩
      have HC3 : Aside0 (Kd.C (Kd.int .u8) w2.drew A3 m.length m ∧ m.length ≤ c3) := ⟨Kd.C_drew (Kd.R_reads' HIN.out).2.2, by have h1 := (Kd.R_reads' HIN.out).1; have h2 := (Kd.R_reads' HIN.out).2.1; omega⟩
      have hc2 : w2.cell? (ad.add k) = some (.slice ta q tc) := pw_cell_below HBI.out hcello
      have HV1 := Aside0.mk (conv_at (c := c3) HC3.out.1 HQ.out)
      have HV2 := Aside0.mk (conv_at (c := tc) (Kd.C_below HCT.out HW2.out) HQ.out)
      clear hcello
      go_region_held3 (fun w' => w'.cell? (ad.add k) = some (.slice ta q tc) ∧ (convert 23 9 (.slice A3 q c3)).run Tryd.prog w' = .ok (.string (strOfNums m)) w' ∧ (convert 23 9 (.slice ta q tc)).run Tryd.prog w' = .ok (.string (strOfNums m)) w') (first | exact ⟨hc3, hcv1, hcv2⟩ | exact ⟨hc2, HV1.out, HV2.out⟩ | go_keep)
        (first | (go_at_call 23; (with_reducible refine (feed_st (HD.out.below (below_drew HBI.out)).sc A3 c3 q m HQ.out.symm HC3.out.1 HC3.out.2 (fun x hx => by have h1 := HA3.out x hx; have h2 := HGW.out.1; omega) (HTBB.out HW2.out) HT2.out HAB.out HMB.out HAL.out).mono ?_); rintro e w3 ⟨rfl, hf3⟩; have HF3 := hf3; have HW3 := Aside0.mk (HW2.out.trans hf3.out.turned.below); have hc3 := pw_cell_below HW3.out HCELL.out; have hcv2 := conv_at (c := tc) (Kd.C_below HCT.out HW3.out) HQ.out; have HCI := Aside0.mk (C_keep' HC3.out.1 hf3.out.turned.kept (fun _ x hx e => by have h1 := HA3.out x hx; have h2 := HGW.out.1; omega)); have hcv1 := conv_at (c := c3) HCI.out HQ.out; clear hf3))
      clear hcv1 hcv2 hc2 hc3 HV1 HV2
      obtain ⟨A4, c4, hs4, ha4⟩ := HF3.out.sc
      have HS4 := Aside0.mk hs4
      have HA4 := Aside0.mk ha4
      have HTU := Aside0.mk HF3.out.turned
      have HA3L : Aside0 (∀ x, A3 = some x → x.block < w2.heap.size) := ⟨fun x hx => by subst hx; exact Kd.R_lt HIN.out x.block rfl⟩
      have HI3 : Aside0 (∃ xs, Kd.R (Kd.int .u8) 5 w3 wo.heap.size (fun _ => True) (.slice A3 q c3) xs) := ⟨m, R_kept (Kd.R_drew HIN.out) HF3.out.turned.kept (fun z _ hz e => by have h2 := HGW.out.1; omega)⟩
      have HRW : Aside0 (Below wo.heap.size wo w2.drew) := ⟨below_drew HBI.out⟩
      clear hs4 ha4 HF3 HIN HBI
      go_wp2
      go_loopg [7] q (fun gk2 i wx => ∃ j : Nat, Aside0 (gk2 + j = q) ∧ i = .int .i64 j ∧ Aside0 (Kept w3 wx (fun z => ∃ y, A3 = some y ∧ z = y.block)) ∧ Aside0 (Below w.heap.size w wx) ∧ Aside0 (∃ xs, Kd.R (Kd.int .u8) 5 wx wo.heap.size (fun _ => True) (.slice A3 q c3) xs))
      case atStart => exact ⟨0, ⟨rfl⟩, rfl, ⟨Kept.refl _ _⟩, HW3, HI3⟩
      case round =>
        clear HI3
        obtain ⟨j, HJ, rfl, HKE, HW4, HI4⟩ := hrel
        by_cases hj : j < q
        · have hji : (j : Int) < (q : Int) := by omega
          have hji0 : (0 : Int) ≤ (j : Int) := by omega
          have hwj : wrap64 ((j : Int) + 1) = (j : Int) + 1 := by unfold wrap64; have := HQL.out; omega
          obtain ⟨xs, hxs⟩ := HI4.out
          obtain ⟨ay, cy, hv⟩ := Kd.R_slice1 hxs (by have := (Kd.R_reads' hxs).1; omega)
          injection hv with e1 e2 e3
          subst e1
          clear e2 e3
          obtain ⟨gy, rfl⟩ := Kd.R_head hxs
          obtain ⟨hcj, hfj⟩ := Kd.R_celln (enc := Value.int .u8) (h1 := fun _ => rfl) (0 : Int) hxs (j : Int) hji0 hji
          rw [Int.toNat_natCast] at hcj hfj
          have HXS := Aside0.mk hxs
          have HGY : Aside0 (w.heap.size ≤ gy) := ⟨by have h1 := Kd.R_base hxs gy rfl; have h2 := HGW.out.1; omega⟩
          obtain ⟨z, hz⟩ : ∃ z, rdOf (0 : Int) xs j = z := ⟨_, rfl⟩
          rw [hz] at hcj
          clear hxs hz HI4
          go_wp2
          go_roundg (q - j - 1)
          case measure => have := HJ.out; omega
          case rel => exact ⟨j + 1, ⟨by have := HJ.out; omega⟩, by simp; exact hwj, ⟨HKE.out.setCell (p := ⟨gy, j, none⟩) (.inl ⟨⟨gy, 0, none⟩, rfl, rfl⟩) _⟩, ⟨HW4.out.setCell (p := ⟨gy, j, none⟩) HGY.out _⟩, ⟨_, by have := Kd.R_putn (enc := Value.int .u8) (h1 := fun _ => rfl) HXS.out (j : Int) ((z + 1) % 256); rw [Int.toNat_natCast] at this; exact this⟩⟩
        · have hjq : j = q := by have := HJ.out; omega
          subst hjq
          go_wp2
          obtain ⟨w4, hw4⟩ : ∃ w4, w4 = wr := ⟨_, rfl⟩
          subst hw4
          have HN1 : Aside0 (∀ x, A3 = some x → wo.heap.size ≤ x.block ∧ x.block < w2.heap.size) := ⟨fun x hx => ⟨HA3.out x hx, HA3L.out x hx⟩⟩
          have HSC : Aside0 (Sc w4 w.heap.size ((al ++ m).length : Int) (stB (al ++ m)) A4 c4 (stP (al ++ m))) := ⟨HS4.out.keep' HKE.out (fun ⟨y, hy, e⟩ => by have h1 := (HN1.out y hy).1; have h2 := HGW.out.1; omega) (fun _ x hx ⟨y, hy, e⟩ => by
            have h1 := HN1.out y hy
            rcases HA4.out x hx with h3 | h3
            · have h4 := (HD.out.top x h3).2; omega
            · have h4 : w2.heap.size ≤ x.block := h3.1; omega)⟩
          have HTOP : Aside0 (∀ x, A4 = some x → X < x.block ∧ x.block < w4.heap.size) := ⟨fun x hx => by
            have h5 := HKE.out.1
            have h6 := HTU.out.kept.1
            have h7 : wo.heap.size ≤ w2.drew.heap.size := by have := HRW.out.size; exact this
            have h8 := HGW.out.2
            rcases HA4.out x hx with h3 | h3
            · have h4 := HD.out.top x h3; omega
            · have h4 : w2.heap.size ≤ x.block := h3.1; have h9 : wo.heap.size ≤ w2.heap.size := h7; omega⟩
          have HRS : Aside0 (Res w w4 X #[.int .i64 (al.length : Int), .int .i64 (stB al), .slice A2 n2 c2]) := ⟨⟨HW4.out, blk_kept (blk_kept (HD.out.res.then_ HRW.out).blk HTU.out.kept (fun e => by have := HGX.out; omega)) HKE.out (fun ⟨y, hy, e⟩ => by have h1 := (HN1.out y hy).1; have h2 := HGW.out.2; omega)⟩⟩
          have HRO : Aside0 (Kd.C (Kd.int .u8) w4 A2 (stP al).length (stP al)) := ⟨C_keep' (C_keep' (Kd.C_below HD.out.row HRW.out) HTU.out.kept (fun _ x hx e => by have h1 := HD.out.ap x hx; have h2 := HGX.out; omega)) HKE.out (fun hne x hx ⟨y, hy, e⟩ => by
            obtain ⟨b, off, h1, h2, _⟩ := view HD.out.row hne
            rw [h1] at hx
            injection hx with hx
            subst hx
            have h3 := (HN1.out y hy).1
            simp only at e
            omega)⟩
          obtain ⟨hx0, k0, k1, k2, f0, f1, f2⟩ := HRS.out.facts
          have hc4 : w4.cell? (ad.add k) = some (.slice ta j tc) := pw_cell_below HW4.out HCELL.out
          have HNX : Aside0 (n2 = (stP al).length) := ⟨HD.out.len⟩
          have HADX : Aside0 ((ad.add k).block ≠ X) := ⟨by have h1 := World.block_lt_of_cell? w _ HCELL.out; have := HGX.out; omega⟩
          clear HD HS4 HA4 HTU HI4 HKE HC3 HCI
          refine start_ (n := 10) (S := fun w' => w'.cell? ⟨X, 0, none⟩ = some (.int .i64 (al.length : Int)) ∧ w'.cell? ⟨X, 1, none⟩ = some (.int .i64 (stB al)) ∧ w'.cell? ⟨X, 2, none⟩ = some (.slice A2 n2 c2) ∧ w'.cell? (ad.add k) = some (.slice ta j tc)) (ds := [9]) #[false, false, false, false, false, false, false, false, false, false] (by kernel_rfl) rfl rfl ⟨k0, k1, k2, hc4⟩ (fun hHeld => ?_)
          refine pure_ (i := 1) (N := some 58) (v := ?_) (a' := ?_) #[false, true, false, false, false, false, false, false, false, false] rfl rfl (by kernel_rfl) (fun _ _ _ h => h) (Or.inl ⟨by rfl, ?_⟩) ?_ ?_
          rotate_left
          · intro w'
            go_simp
            with_reducible rfl
          rotate_left
          · simp only [Act.put, List.setIfInBounds_toArray, List.set_cons_zero, List.set_cons_succ, i64_w, i32_w]
            rfl
          refine pure_ (i := 2) (N := some 59) (v := ?_) (a' := ?_) #[false, true, true, false, false, false, false, false, false, false] rfl rfl (by kernel_rfl) (fun _ _ _ h => h) (Or.inl ⟨by rfl, ?_⟩) ?_ ?_
          rotate_left
          · intro w'
            go_simp
            with_reducible rfl
          rotate_left
          · simp only [Act.put, List.setIfInBounds_toArray, List.set_cons_zero, List.set_cons_succ, i64_w, i32_w]
            rfl
          refine pure_ (i := 3) (N := some 60) (v := ?_) (a' := ?_) #[false, true, true, true, false, false, false, false, false, false] rfl rfl (by kernel_rfl) (fun _ _ _ h => h) (Or.inl ⟨by rfl, ?_⟩) ?_ ?_
          rotate_left
          · intro w'
            go_simp
            with_reducible rfl
          rotate_left
          · simp only [Act.put, List.setIfInBounds_toArray, List.set_cons_zero, List.set_cons_succ, i64_w, i32_w]
            rfl
          refine take_ (i := 0) (N := some 57) (v := ?_) (a' := ?_) #[true, true, true, true, false, false, false, false, false, false] rfl rfl (by kernel_rfl) (fun _ _ _ h => h) (Or.inl ⟨by rfl, ?_⟩) hHeld ?_ ?_
          rotate_left
          · rintro w' ⟨s0, s1, s2, s3⟩
            go_simp
            with_reducible rfl
          rotate_left
          · simp only [Act.put, List.setIfInBounds_toArray, List.set_cons_zero, List.set_cons_succ, i64_w, i32_w]
            rfl
          refine take_ (i := 4) (N := some 61) (v := ?_) (a' := ?_) #[true, true, true, true, true, false, false, false, false, false] rfl rfl (by kernel_rfl) (fun _ _ _ h => h) (Or.inl ⟨by rfl, ?_⟩) hHeld ?_ ?_
          rotate_left
          · rintro w' ⟨s0, s1, s2, s3⟩
            go_simp
            with_reducible rfl
          rotate_left
          · simp only [Act.put, List.setIfInBounds_toArray, List.set_cons_zero, List.set_cons_succ, i64_w, i32_w]
            rfl
          refine one_ (i := 5) (N := some 62) #[true, true, true, true, true, true, false, false, false, false] rfl rfl (by kernel_rfl) (by decide) (fun K hK => ?_)
          refine goes_ Tryd.func24 (by kernel_rfl) rfl #[.agg #[.int .i64 (al.length : Int), .int .i64 (stB al), .slice A2 n2 c2], .slice ta j tc] (by rfl) rfl rfl (by (try simp only [List.map_toArray, List.map_cons, List.map_nil]); first | done | rfl) ?_
          refine (next_st al A2 c2 ta tc m n2 j HNX.out HQ.out.symm _ (Kd.C_drew HRO.out) (Kd.C_below HCT.out (below_drew HW4.out)) HAB.out HMB.out HAL.out).mono ?_
          rintro e w5 ⟨A5, n5, c5, rfl, HY5, HB5⟩
          refine ⟨_, rfl, ?_⟩
          have HB55 := Aside0.mk ((below_drew (Below.refl w4.heap.size w4)).trans HB5.out)
          have HRS5 := Aside0.mk (HRS.out.then_ HB55.out)
          obtain ⟨hx5, q0, q1, q2, r0, r1, r2⟩ := HRS5.out.facts
          have hc5 := pw_cell_below HB55.out hc4
          have HSC5 := Aside0.mk (HSC.out.below HB55.out)
          refine hK.out _ _ ⟨q0, q1, q2, hc5⟩ (fun hHeld => ?_)
          clear hK K
          refine norm_ (a' := ?_) ?_ ?_
          rotate_left
          · show Act.put _ (some 62) _ = _
            simp only [Act.put, List.setIfInBounds_toArray, List.set_cons_zero, List.set_cons_succ, i64_w, i32_w]
            rfl
          refine pure_ (i := 6) (N := some 56) (v := ?_) (a' := ?_) #[true, true, true, true, true, true, true, false, false, false] rfl rfl (by kernel_rfl) (fun _ _ _ h => h) (Or.inl ⟨by rfl, ?_⟩) ?_ ?_
          rotate_left
          · intro w'
            go_simp
            with_reducible rfl
          rotate_left
          · simp only [Act.put, List.setIfInBounds_toArray, List.set_cons_zero, List.set_cons_succ, i64_w, i32_w]
            rfl
          refine pure_ (i := 7) (N := some 63) (v := ?_) (a' := ?_) #[true, true, true, true, true, true, true, true, false, false] rfl rfl (by kernel_rfl) (fun _ _ _ h => h) (Or.inl ⟨by rfl, ?_⟩) ?_ ?_
          rotate_left
          · intro w'
            go_simp
            with_reducible rfl
          rotate_left
          · simp only [Act.put, List.setIfInBounds_toArray, List.set_cons_zero, List.set_cons_succ, i64_w, i32_w]
            rfl
          refine pure_ (i := 8) (N := some 64) (v := ?_) (a' := ?_) #[true, true, true, true, true, true, true, true, true, false] rfl rfl (by kernel_rfl) (fun _ _ _ h => h) (Or.inl ⟨by rfl, ?_⟩) ?_ ?_
          rotate_left
          · intro w'
            go_simp
            with_reducible rfl
          rotate_left
          · simp only [Act.put, List.setIfInBounds_toArray, List.set_cons_zero, List.set_cons_succ, i64_w, i32_w]
            rfl
          refine last_ (i := 9) (N := none) #[true, true, true, true, true, true, true, true, true, true] rfl rfl (by kernel_rfl) (by decide) (fun K hK => ?_)
          refine skip_ (w1 := ?_) (by rfl) rfl ?_ ?_
          rotate_left
          · go_simp
            rfl
          refine hK.out _ _ ?_
          clear hK K
          refine done_ (by kernel_rfl) ?_
          have HDN : Aside0 (FdW w (((w5.setCell ⟨X, 0, none⟩ (.int .i64 ((al ++ m).length : Int))).setCell ⟨X, 1, none⟩ (.int .i64 (stB (al ++ m)))).setCell ⟨X, 2, none⟩ (.slice A5 n5 c5)) w.heap.size X (al ++ m) A4 c4 A5 n5 c5) := ⟨by
            have hkp := (((Kept.refl w5 (· = X)).setCell (p := ⟨X, 0, none⟩) (.inl rfl) (.int .i64 ((al ++ m).length : Int))).setCell (p := ⟨X, 1, none⟩) (.inl rfl) (.int .i64 (stB (al ++ m)))).setCell (p := ⟨X, 2, none⟩) (.inl rfl) (.slice A5 n5 c5)
            have h55 := HB55.out.size
            have hX4 := HRS.out.facts.1
            have hwX : w.heap.size ≤ X := Nat.le_of_lt HGX.out
            have hA5 : ∀ x, A5 = some x → X < x.block := fun x hx => by have h1 : w4.heap.size ≤ x.block := HY5.out.2.2.2 x hx; omega
            exact ⟨HSC5.out.keep' hkp (fun e => by have h1 : w.heap.size = X := e; have := HGX.out; omega) (fun _ x hx e => by have h1 : x.block = X := e; have := (HTOP.out x hx).1; omega),
              fun x hx => ⟨(HTOP.out x hx).1, by have h1 := (HTOP.out x hx).2; have h2 := hkp.1; omega⟩,
              (((HRS5.out.set hwX 0 (.int .i64 ((al ++ m).length : Int))).set hwX 1 (.int .i64 (stB (al ++ m)))).set hwX 2 (.slice A5 n5 c5)),
              HY5.out.1, HY5.out.2.1, C_keep' HY5.out.2.2.1 hkp (fun _ x hx e => by have h1 : x.block = X := e; have := hA5 x hx; omega), hA5⟩⟩
          have hsum : (al.length : Int) + (m.length : Int) = ((al ++ m).length : Int) := by rw [List.length_append]; omega
          rw [hsum]
          clear hsum HY5 HSC5 HRS5 HTOP HB55 hc5 hc4 k0 k1 k2 f0 f1 f2 q0 q1 q2 r0 r1 r2 HRS HRO HSC
          generalize hal : al ++ m = al' at *
          have HALE := Aside0.mk hal
          clear hal
          generalize ((w5.setCell ⟨X, 0, none⟩ (.int .i64 (al'.length : Int))).setCell ⟨X, 1, none⟩ (.int .i64 (stB al'))).setCell ⟨X, 2, none⟩ (.slice A5 n5 c5) = w6 at *
          obtain ⟨hx6, k0, k1, k2, _, _, _⟩ := HDN.out.res.facts
          have HSL : Aside0 ((stP al').length ≤ 140737488355328) := ⟨by have := stP_len al'; omega⟩
          go_wp2_with (first | (go_at_call 22; (with_reducible refine (same_calls HDN.out.sc A5 c5 n5 HDN.out.len HDN.out.row HDN.out.cap HSL.out).mono ?_); rintro e w7 ⟨rfl, hb7⟩; replace HDN := Aside0.mk (HDN.out.below hb7); clear hb7 k0 k1 k2))
          go_roundg (L - k - 1)
          case measure => have := HK.out; have := HKL.out; omega
          case rel => exact ⟨k + 1, A4, c4, A5, n5, c5, ⟨by have := HK.out; have := HKL.out; omega⟩, by simp; exact hwk, ⟨by rw [HSU.out]; exact HDN.out⟩⟩
    · go_wp2_with (go_at_call 20; (with_reducible refine (awake_calls _ (HT.out.below HD.out.res.below)).mono ?_); rintro e wn ⟨rfl, hb⟩)
      go_ret
      exact ⟨rfl, HD.out.res.below.trans (hb.mono HD.out.res.below.size)⟩

theorem ones_sum (m : List Int) : (m.map fun _ => 1).sum = m.length := by
  induction m with
  | nil => rfl
  | cons x m ih => simp [ih]; omega
theorem sizes (l : List (List Int)) : l.length + l.flatten.length ≤ (l.map fun m => (m.map fun _ => 1).sum + 1).sum := by
  induction l with
  | nil => simp
  | cons x l ih =>
    rw [List.map_cons, List.sum_cons, List.flatten_cons, List.length_append, List.length_cons, ones_sum]
    omega
theorem feeds_walk (A0 : Option Addr) (c0 : Nat) (l0 : List (List Int)) (w : World) (hr : Kd.C (Kd.slice 5 (Kd.int .u8)) w A0 l0.length l0) (hc : l0.length ≤ c0) (hQ : ∀ m ∈ l0, ∀ x ∈ m, (Lit.int .u8 x).wf = true) (hs : (l0.map fun m => (m.map fun _ => 1).sum + 1).sum + 1 ≤ 1048576) (hT : Tabs w) :
    Calls Tryd.prog 6 #[.slice A0 l0.length c0] w fun e w' => e = .returned (.bool true) ∧ Below w.heap.size w w' := by
  have := sizes l0
  exact feeds_small A0 c0 l0 w hr hc (fun m hm => allB_wf (hQ m hm)) (by omega) (by omega) hT
end Go.Proofs.YtnaaimnmphcilaaDoor.Hand
