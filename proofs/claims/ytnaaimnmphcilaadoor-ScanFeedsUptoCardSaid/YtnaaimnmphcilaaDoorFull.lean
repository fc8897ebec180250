/- What utf8.FullRune answers at every slice of bytes that is not empty. -/
import Derived.Test.YtnaaimnmphcilaaDoorBase
import Derived.Deep.QuietTactic
import Derived.BigQuiet
namespace Go.Proofs.YtnaaimnmphcilaaDoor.Hand
open Go.RowKit Go.Lib Go.Proofs.YtnaaimnmphcilaaDoorW.PrintWords Go.Proofs.YtnaaimnmphcilaaDoorW.PrintLast Go.Proofs.YtnaaimnmphcilaaDoorW.PrintMore
set_option linter.unusedVariables false
set_option linter.unusedSimpArgs false

/-- utf8.FullRune by its tables: n bytes that begin with b0, b1, b2. -/
def fullN (n b0 b1 b2 : Nat) : Bool :=
  if firstT b0 % 8 ≤ n then true
  else if 1 < n ∧ (b1 < accLo (firstT b0 / 16) ∨ accHi (firstT b0 / 16) < b1) then true
  else if 2 < n ∧ (b2 < 128 ∨ 191 < b2) then true else false
def fullI (l : List Int) : Bool := fullN l.length (rd l 0).toNat (rd l 1).toNat (rd l 2).toNat
def utf8_FullRune.f (l : List Int) : Option Bool := if l ≠ [] ∧ allB (l.take 3) = true then some (fullI l) else none

set_option maxHeartbeats 4000000 in
set_option maxRecDepth 1000000 in
theorem full_walk (b off c n b0 b1 b2 : Nat) (w : World) (hT : Tabs w) (hn : 0 < n) (hmax : n ≤ 9223372036854775807) (l0 : b0 < 256)
    (hb : b < w.heap.size) (c0 : w.cell? ⟨b, off, none⟩ = some (.int .u8 b0)) (c1 : 1 < n → w.cell? ⟨b, off + 1, none⟩ = some (.int .u8 b1)) (c2 : 2 < n → w.cell? ⟨b, off + 2, none⟩ = some (.int .u8 b2)) (l1 : b1 < 256) (l2 : b2 < 256) :
    Calls Tryd.prog 36 #[.slice (some ⟨b, off, none⟩) n c] w fun e w' => e = .returned (.bool (fullN n b0 b1 b2)) ∧ Below w.heap.size w w' := by
  have hc0 := hT.out.1 b0 (by omega)
  have hnz : (0 : Int) < (n : Int) := by omega
  have hn0 : ((n : Int) == 0) = false := by simp; omega
  rcases Lib.firstT_cases b0 with hX | hX | hX | hX | hX | hX | hX | hX | hX
  · -- first[p0] = 240
    have hres : fullN n b0 b1 b2 = true := by unfold fullN; rw [hX]; simp
    rw [hres]
    rw [hX] at hc0
    clear hT hX hres c1 c2
    go_enter Tryd.func36, Tryd.ntmps36
    go_wp2
    all_goals (go_ret; exact ⟨rfl, Below.refl _ _⟩)
  · -- first[p0] = 241
    have hres : fullN n b0 b1 b2 = true := by unfold fullN; rw [hX]; simp; omega
    rw [hres]
    rw [hX] at hc0
    clear hT hX hres c1 c2
    have hge : (1 : Int) ≤ (n : Int) := by omega
    go_enter Tryd.func36, Tryd.ntmps36
    go_wp2
    all_goals (go_ret; exact ⟨rfl, Below.refl _ _⟩)
  · -- first[p0] = 2
    have ha0 := (hT.out.2 0 (by omega)).1
    have ha1 := (hT.out.2 0 (by omega)).2
    simp only [accLo, accHi, Nat.reduceMul, Nat.reduceAdd, Nat.reduceEqDiff, if_true, if_false] at ha0 ha1
    have hres : fullN n b0 b1 b2 = (decide (2 ≤ n) || decide (1 < n ∧ (b1 < 128 ∨ 191 < b1)) || decide (2 < n ∧ (b2 < 128 ∨ 191 < b2))) := by unfold fullN; rw [hX]; simp only [accLo, accHi, Nat.reduceMod, Nat.reduceDiv, Nat.reduceEqDiff, if_true, if_false]; by_cases h1 : 2 ≤ n <;> by_cases h2 : (1 < n ∧ (b1 < 128 ∨ 191 < b1)) <;> by_cases h3 : (2 < n ∧ (b2 < 128 ∨ 191 < b2)) <;> simp [h1, h2, h3]
    rw [hX] at hc0
    clear hT hX
    by_cases hfull : 2 ≤ n
    · have hge : (2 : Int) ≤ (n : Int) := by omega
      rw [hres, show decide (2 ≤ n) = true from decide_eq_true hfull, Bool.true_or, Bool.true_or]
      clear hres c1 c2
      go_enter Tryd.func36, Tryd.ntmps36
      go_wp2
      all_goals (go_ret; exact ⟨rfl, Below.refl _ _⟩)
    · obtain rfl : n = 1 := by omega
      clear hmax hn hnz hn0 hfull
      clear c1 c2
      rw [hres, show (decide (2 ≤ 1) || decide (1 < 1 ∧ (b1 < 128 ∨ 191 < b1)) || decide (2 < 1 ∧ (b2 < 128 ∨ 191 < b2))) = false from by simp; try omega]
      clear hres
      go_enter Tryd.func36, Tryd.ntmps36
      go_wp2
      go_quiet (fail)
      go_wp2
      go_ret
      exact ⟨rfl, by first | exact (Below.refl _ _).alloc (Nat.le_refl _) _ | exact pw_below_drewN ((Below.refl _ _).alloc (Nat.le_refl _) _) _⟩
  · -- first[p0] = 19
    have ha0 := (hT.out.2 1 (by omega)).1
    have ha1 := (hT.out.2 1 (by omega)).2
    simp only [accLo, accHi, Nat.reduceMul, Nat.reduceAdd, Nat.reduceEqDiff, if_true, if_false] at ha0 ha1
    have hres : fullN n b0 b1 b2 = (decide (3 ≤ n) || decide (1 < n ∧ (b1 < 160 ∨ 191 < b1)) || decide (2 < n ∧ (b2 < 128 ∨ 191 < b2))) := by unfold fullN; rw [hX]; simp only [accLo, accHi, Nat.reduceMod, Nat.reduceDiv, Nat.reduceEqDiff, if_true, if_false]; by_cases h1 : 3 ≤ n <;> by_cases h2 : (1 < n ∧ (b1 < 160 ∨ 191 < b1)) <;> by_cases h3 : (2 < n ∧ (b2 < 128 ∨ 191 < b2)) <;> simp [h1, h2, h3]
    rw [hX] at hc0
    clear hT hX
    by_cases hfull : 3 ≤ n
    · have hge : (3 : Int) ≤ (n : Int) := by omega
      rw [hres, show decide (3 ≤ n) = true from decide_eq_true hfull, Bool.true_or, Bool.true_or]
      clear hres c1 c2
      go_enter Tryd.func36, Tryd.ntmps36
      go_wp2
      all_goals (go_ret; exact ⟨rfl, Below.refl _ _⟩)
    by_cases hn1 : n = 1
    · subst hn1
      clear hmax hn hnz hn0 hfull
      clear c1 c2
      rw [hres, show (decide (3 ≤ 1) || decide (1 < 1 ∧ (b1 < 160 ∨ 191 < b1)) || decide (2 < 1 ∧ (b2 < 128 ∨ 191 < b2))) = false from by simp; try omega]
      clear hres
      go_enter Tryd.func36, Tryd.ntmps36
      go_wp2
      go_quiet (fail)
      go_wp2
      go_ret
      exact ⟨rfl, by first | exact (Below.refl _ _).alloc (Nat.le_refl _) _ | exact pw_below_drewN ((Below.refl _ _).alloc (Nat.le_refl _) _) _⟩
    · obtain rfl : n = 2 := by omega
      clear hmax hn hnz hn0 hfull
      have c1 := c1 (by omega)
      clear c2
      by_cases k1 : b1 < 160
      · have k1z : (b1 : Int) < 160 := by omega
        rw [hres, show (decide (3 ≤ 2) || decide (1 < 2 ∧ (b1 < 160 ∨ 191 < b1)) || decide (2 < 2 ∧ (b2 < 128 ∨ 191 < b2))) = true from by simp; try omega]
        clear hres
        go_enter Tryd.func36, Tryd.ntmps36
        go_wp2
        go_quiet (fail)
        go_wp2
        go_ret
        exact ⟨rfl, by first | exact (Below.refl _ _).alloc (Nat.le_refl _) _ | exact pw_below_drewN ((Below.refl _ _).alloc (Nat.le_refl _) _) _⟩
      have k1z : ¬ (b1 : Int) < 160 := by omega
      by_cases k2 : 191 < b1
      · have k2z : (191 : Int) < (b1 : Int) := by omega
        rw [hres, show (decide (3 ≤ 2) || decide (1 < 2 ∧ (b1 < 160 ∨ 191 < b1)) || decide (2 < 2 ∧ (b2 < 128 ∨ 191 < b2))) = true from by simp; try omega]
        clear hres
        go_enter Tryd.func36, Tryd.ntmps36
        go_wp2
        go_quiet (fail)
        go_wp2
        go_ret
        exact ⟨rfl, by first | exact (Below.refl _ _).alloc (Nat.le_refl _) _ | exact pw_below_drewN ((Below.refl _ _).alloc (Nat.le_refl _) _) _⟩
      have k2z : ¬ (191 : Int) < (b1 : Int) := by omega
      rw [hres, show (decide (3 ≤ 2) || decide (1 < 2 ∧ (b1 < 160 ∨ 191 < b1)) || decide (2 < 2 ∧ (b2 < 128 ∨ 191 < b2))) = false from by simp; try omega]
      clear hres
      go_enter Tryd.func36, Tryd.ntmps36
      go_wp2
      go_quiet (fail)
      go_wp2
      go_ret
      exact ⟨rfl, by first | exact (Below.refl _ _).alloc (Nat.le_refl _) _ | exact pw_below_drewN ((Below.refl _ _).alloc (Nat.le_refl _) _) _⟩
  · -- first[p0] = 3
    have ha0 := (hT.out.2 0 (by omega)).1
    have ha1 := (hT.out.2 0 (by omega)).2
    simp only [accLo, accHi, Nat.reduceMul, Nat.reduceAdd, Nat.reduceEqDiff, if_true, if_false] at ha0 ha1
    have hres : fullN n b0 b1 b2 = (decide (3 ≤ n) || decide (1 < n ∧ (b1 < 128 ∨ 191 < b1)) || decide (2 < n ∧ (b2 < 128 ∨ 191 < b2))) := by unfold fullN; rw [hX]; simp only [accLo, accHi, Nat.reduceMod, Nat.reduceDiv, Nat.reduceEqDiff, if_true, if_false]; by_cases h1 : 3 ≤ n <;> by_cases h2 : (1 < n ∧ (b1 < 128 ∨ 191 < b1)) <;> by_cases h3 : (2 < n ∧ (b2 < 128 ∨ 191 < b2)) <;> simp [h1, h2, h3]
    rw [hX] at hc0
    clear hT hX
    by_cases hfull : 3 ≤ n
    · have hge : (3 : Int) ≤ (n : Int) := by omega
      rw [hres, show decide (3 ≤ n) = true from decide_eq_true hfull, Bool.true_or, Bool.true_or]
      clear hres c1 c2
      go_enter Tryd.func36, Tryd.ntmps36
      go_wp2
      all_goals (go_ret; exact ⟨rfl, Below.refl _ _⟩)
    by_cases hn1 : n = 1
    · subst hn1
      clear hmax hn hnz hn0 hfull
      clear c1 c2
      rw [hres, show (decide (3 ≤ 1) || decide (1 < 1 ∧ (b1 < 128 ∨ 191 < b1)) || decide (2 < 1 ∧ (b2 < 128 ∨ 191 < b2))) = false from by simp; try omega]
      clear hres
      go_enter Tryd.func36, Tryd.ntmps36
      go_wp2
      go_quiet (fail)
      go_wp2
      go_ret
      exact ⟨rfl, by first | exact (Below.refl _ _).alloc (Nat.le_refl _) _ | exact pw_below_drewN ((Below.refl _ _).alloc (Nat.le_refl _) _) _⟩
    · obtain rfl : n = 2 := by omega
      clear hmax hn hnz hn0 hfull
      have c1 := c1 (by omega)
      clear c2
      by_cases k1 : b1 < 128
      · have k1z : (b1 : Int) < 128 := by omega
        rw [hres, show (decide (3 ≤ 2) || decide (1 < 2 ∧ (b1 < 128 ∨ 191 < b1)) || decide (2 < 2 ∧ (b2 < 128 ∨ 191 < b2))) = true from by simp; try omega]
        clear hres
        go_enter Tryd.func36, Tryd.ntmps36
        go_wp2
        go_quiet (fail)
        go_wp2
        go_ret
        exact ⟨rfl, by first | exact (Below.refl _ _).alloc (Nat.le_refl _) _ | exact pw_below_drewN ((Below.refl _ _).alloc (Nat.le_refl _) _) _⟩
      have k1z : ¬ (b1 : Int) < 128 := by omega
      by_cases k2 : 191 < b1
      · have k2z : (191 : Int) < (b1 : Int) := by omega
        rw [hres, show (decide (3 ≤ 2) || decide (1 < 2 ∧ (b1 < 128 ∨ 191 < b1)) || decide (2 < 2 ∧ (b2 < 128 ∨ 191 < b2))) = true from by simp; try omega]
        clear hres
        go_enter Tryd.func36, Tryd.ntmps36
        go_wp2
        go_quiet (fail)
        go_wp2
        go_ret
        exact ⟨rfl, by first | exact (Below.refl _ _).alloc (Nat.le_refl _) _ | exact pw_below_drewN ((Below.refl _ _).alloc (Nat.le_refl _) _) _⟩
      have k2z : ¬ (191 : Int) < (b1 : Int) := by omega
      rw [hres, show (decide (3 ≤ 2) || decide (1 < 2 ∧ (b1 < 128 ∨ 191 < b1)) || decide (2 < 2 ∧ (b2 < 128 ∨ 191 < b2))) = false from by simp; try omega]
      clear hres
      go_enter Tryd.func36, Tryd.ntmps36
      go_wp2
      go_quiet (fail)
      go_wp2
      go_ret
      exact ⟨rfl, by first | exact (Below.refl _ _).alloc (Nat.le_refl _) _ | exact pw_below_drewN ((Below.refl _ _).alloc (Nat.le_refl _) _) _⟩
  · -- first[p0] = 35
    have ha0 := (hT.out.2 2 (by omega)).1
    have ha1 := (hT.out.2 2 (by omega)).2
    simp only [accLo, accHi, Nat.reduceMul, Nat.reduceAdd, Nat.reduceEqDiff, if_true, if_false] at ha0 ha1
    have hres : fullN n b0 b1 b2 = (decide (3 ≤ n) || decide (1 < n ∧ (b1 < 128 ∨ 159 < b1)) || decide (2 < n ∧ (b2 < 128 ∨ 191 < b2))) := by unfold fullN; rw [hX]; simp only [accLo, accHi, Nat.reduceMod, Nat.reduceDiv, Nat.reduceEqDiff, if_true, if_false]; by_cases h1 : 3 ≤ n <;> by_cases h2 : (1 < n ∧ (b1 < 128 ∨ 159 < b1)) <;> by_cases h3 : (2 < n ∧ (b2 < 128 ∨ 191 < b2)) <;> simp [h1, h2, h3]
    rw [hX] at hc0
    clear hT hX
    by_cases hfull : 3 ≤ n
    · have hge : (3 : Int) ≤ (n : Int) := by omega
      rw [hres, show decide (3 ≤ n) = true from decide_eq_true hfull, Bool.true_or, Bool.true_or]
      clear hres c1 c2
      go_enter Tryd.func36, Tryd.ntmps36
      go_wp2
      all_goals (go_ret; exact ⟨rfl, Below.refl _ _⟩)
    by_cases hn1 : n = 1
    · subst hn1
      clear hmax hn hnz hn0 hfull
      clear c1 c2
      rw [hres, show (decide (3 ≤ 1) || decide (1 < 1 ∧ (b1 < 128 ∨ 159 < b1)) || decide (2 < 1 ∧ (b2 < 128 ∨ 191 < b2))) = false from by simp; try omega]
      clear hres
      go_enter Tryd.func36, Tryd.ntmps36
      go_wp2
      go_quiet (fail)
      go_wp2
      go_ret
      exact ⟨rfl, by first | exact (Below.refl _ _).alloc (Nat.le_refl _) _ | exact pw_below_drewN ((Below.refl _ _).alloc (Nat.le_refl _) _) _⟩
    · obtain rfl : n = 2 := by omega
      clear hmax hn hnz hn0 hfull
      have c1 := c1 (by omega)
      clear c2
      by_cases k1 : b1 < 128
      · have k1z : (b1 : Int) < 128 := by omega
        rw [hres, show (decide (3 ≤ 2) || decide (1 < 2 ∧ (b1 < 128 ∨ 159 < b1)) || decide (2 < 2 ∧ (b2 < 128 ∨ 191 < b2))) = true from by simp; try omega]
        clear hres
        go_enter Tryd.func36, Tryd.ntmps36
        go_wp2
        go_quiet (fail)
        go_wp2
        go_ret
        exact ⟨rfl, by first | exact (Below.refl _ _).alloc (Nat.le_refl _) _ | exact pw_below_drewN ((Below.refl _ _).alloc (Nat.le_refl _) _) _⟩
      have k1z : ¬ (b1 : Int) < 128 := by omega
      by_cases k2 : 159 < b1
      · have k2z : (159 : Int) < (b1 : Int) := by omega
        rw [hres, show (decide (3 ≤ 2) || decide (1 < 2 ∧ (b1 < 128 ∨ 159 < b1)) || decide (2 < 2 ∧ (b2 < 128 ∨ 191 < b2))) = true from by simp; try omega]
        clear hres
        go_enter Tryd.func36, Tryd.ntmps36
        go_wp2
        go_quiet (fail)
        go_wp2
        go_ret
        exact ⟨rfl, by first | exact (Below.refl _ _).alloc (Nat.le_refl _) _ | exact pw_below_drewN ((Below.refl _ _).alloc (Nat.le_refl _) _) _⟩
      have k2z : ¬ (159 : Int) < (b1 : Int) := by omega
      rw [hres, show (decide (3 ≤ 2) || decide (1 < 2 ∧ (b1 < 128 ∨ 159 < b1)) || decide (2 < 2 ∧ (b2 < 128 ∨ 191 < b2))) = false from by simp; try omega]
      clear hres
      go_enter Tryd.func36, Tryd.ntmps36
      go_wp2
      go_quiet (fail)
      go_wp2
      go_ret
      exact ⟨rfl, by first | exact (Below.refl _ _).alloc (Nat.le_refl _) _ | exact pw_below_drewN ((Below.refl _ _).alloc (Nat.le_refl _) _) _⟩
  · -- first[p0] = 52
    have ha0 := (hT.out.2 3 (by omega)).1
    have ha1 := (hT.out.2 3 (by omega)).2
    simp only [accLo, accHi, Nat.reduceMul, Nat.reduceAdd, Nat.reduceEqDiff, if_true, if_false] at ha0 ha1
    have hres : fullN n b0 b1 b2 = (decide (4 ≤ n) || decide (1 < n ∧ (b1 < 144 ∨ 191 < b1)) || decide (2 < n ∧ (b2 < 128 ∨ 191 < b2))) := by unfold fullN; rw [hX]; simp only [accLo, accHi, Nat.reduceMod, Nat.reduceDiv, Nat.reduceEqDiff, if_true, if_false]; by_cases h1 : 4 ≤ n <;> by_cases h2 : (1 < n ∧ (b1 < 144 ∨ 191 < b1)) <;> by_cases h3 : (2 < n ∧ (b2 < 128 ∨ 191 < b2)) <;> simp [h1, h2, h3]
    rw [hX] at hc0
    clear hT hX
    by_cases hfull : 4 ≤ n
    · have hge : (4 : Int) ≤ (n : Int) := by omega
      rw [hres, show decide (4 ≤ n) = true from decide_eq_true hfull, Bool.true_or, Bool.true_or]
      clear hres c1 c2
      go_enter Tryd.func36, Tryd.ntmps36
      go_wp2
      all_goals (go_ret; exact ⟨rfl, Below.refl _ _⟩)
    by_cases hn1 : n = 1
    · subst hn1
      clear hmax hn hnz hn0 hfull
      clear c1 c2
      rw [hres, show (decide (4 ≤ 1) || decide (1 < 1 ∧ (b1 < 144 ∨ 191 < b1)) || decide (2 < 1 ∧ (b2 < 128 ∨ 191 < b2))) = false from by simp; try omega]
      clear hres
      go_enter Tryd.func36, Tryd.ntmps36
      go_wp2
      go_quiet (fail)
      go_wp2
      go_ret
      exact ⟨rfl, by first | exact (Below.refl _ _).alloc (Nat.le_refl _) _ | exact pw_below_drewN ((Below.refl _ _).alloc (Nat.le_refl _) _) _⟩
    by_cases hn2 : n = 2
    · subst hn2
      clear hmax hn hnz hn0 hfull
      have c1 := c1 (by omega)
      clear c2
      by_cases k1 : b1 < 144
      · have k1z : (b1 : Int) < 144 := by omega
        rw [hres, show (decide (4 ≤ 2) || decide (1 < 2 ∧ (b1 < 144 ∨ 191 < b1)) || decide (2 < 2 ∧ (b2 < 128 ∨ 191 < b2))) = true from by simp; try omega]
        clear hres
        go_enter Tryd.func36, Tryd.ntmps36
        go_wp2
        go_quiet (fail)
        go_wp2
        go_ret
        exact ⟨rfl, by first | exact (Below.refl _ _).alloc (Nat.le_refl _) _ | exact pw_below_drewN ((Below.refl _ _).alloc (Nat.le_refl _) _) _⟩
      have k1z : ¬ (b1 : Int) < 144 := by omega
      by_cases k2 : 191 < b1
      · have k2z : (191 : Int) < (b1 : Int) := by omega
        rw [hres, show (decide (4 ≤ 2) || decide (1 < 2 ∧ (b1 < 144 ∨ 191 < b1)) || decide (2 < 2 ∧ (b2 < 128 ∨ 191 < b2))) = true from by simp; try omega]
        clear hres
        go_enter Tryd.func36, Tryd.ntmps36
        go_wp2
        go_quiet (fail)
        go_wp2
        go_ret
        exact ⟨rfl, by first | exact (Below.refl _ _).alloc (Nat.le_refl _) _ | exact pw_below_drewN ((Below.refl _ _).alloc (Nat.le_refl _) _) _⟩
      have k2z : ¬ (191 : Int) < (b1 : Int) := by omega
      rw [hres, show (decide (4 ≤ 2) || decide (1 < 2 ∧ (b1 < 144 ∨ 191 < b1)) || decide (2 < 2 ∧ (b2 < 128 ∨ 191 < b2))) = false from by simp; try omega]
      clear hres
      go_enter Tryd.func36, Tryd.ntmps36
      go_wp2
      go_quiet (fail)
      go_wp2
      go_ret
      exact ⟨rfl, by first | exact (Below.refl _ _).alloc (Nat.le_refl _) _ | exact pw_below_drewN ((Below.refl _ _).alloc (Nat.le_refl _) _) _⟩
    · obtain rfl : n = 3 := by omega
      clear hmax hn hnz hn0 hfull
      have c1 := c1 (by omega)
      have c2 := c2 (by omega)
      by_cases k1 : b1 < 144
      · have k1z : (b1 : Int) < 144 := by omega
        rw [hres, show (decide (4 ≤ 3) || decide (1 < 3 ∧ (b1 < 144 ∨ 191 < b1)) || decide (2 < 3 ∧ (b2 < 128 ∨ 191 < b2))) = true from by simp; try omega]
        clear hres
        go_enter Tryd.func36, Tryd.ntmps36
        go_wp2
        go_quiet (fail)
        go_wp2
        go_ret
        exact ⟨rfl, by first | exact (Below.refl _ _).alloc (Nat.le_refl _) _ | exact pw_below_drewN ((Below.refl _ _).alloc (Nat.le_refl _) _) _⟩
      have k1z : ¬ (b1 : Int) < 144 := by omega
      by_cases k2 : 191 < b1
      · have k2z : (191 : Int) < (b1 : Int) := by omega
        rw [hres, show (decide (4 ≤ 3) || decide (1 < 3 ∧ (b1 < 144 ∨ 191 < b1)) || decide (2 < 3 ∧ (b2 < 128 ∨ 191 < b2))) = true from by simp; try omega]
        clear hres
        go_enter Tryd.func36, Tryd.ntmps36
        go_wp2
        go_quiet (fail)
        go_wp2
        go_ret
        exact ⟨rfl, by first | exact (Below.refl _ _).alloc (Nat.le_refl _) _ | exact pw_below_drewN ((Below.refl _ _).alloc (Nat.le_refl _) _) _⟩
      have k2z : ¬ (191 : Int) < (b1 : Int) := by omega
      by_cases k3 : b2 < 128
      · have k3z : (b2 : Int) < 128 := by omega
        rw [hres, show (decide (4 ≤ 3) || decide (1 < 3 ∧ (b1 < 144 ∨ 191 < b1)) || decide (2 < 3 ∧ (b2 < 128 ∨ 191 < b2))) = true from by simp; try omega]
        clear hres
        go_enter Tryd.func36, Tryd.ntmps36
        go_wp2
        go_quiet (fail)
        go_wp2
        go_ret
        exact ⟨rfl, by first | exact (Below.refl _ _).alloc (Nat.le_refl _) _ | exact pw_below_drewN ((Below.refl _ _).alloc (Nat.le_refl _) _) _⟩
      have k3z : ¬ (b2 : Int) < 128 := by omega
      by_cases k4 : 191 < b2
      · have k4z : (191 : Int) < (b2 : Int) := by omega
        rw [hres, show (decide (4 ≤ 3) || decide (1 < 3 ∧ (b1 < 144 ∨ 191 < b1)) || decide (2 < 3 ∧ (b2 < 128 ∨ 191 < b2))) = true from by simp; try omega]
        clear hres
        go_enter Tryd.func36, Tryd.ntmps36
        go_wp2
        go_quiet (fail)
        go_wp2
        go_ret
        exact ⟨rfl, by first | exact (Below.refl _ _).alloc (Nat.le_refl _) _ | exact pw_below_drewN ((Below.refl _ _).alloc (Nat.le_refl _) _) _⟩
      have k4z : ¬ (191 : Int) < (b2 : Int) := by omega
      rw [hres, show (decide (4 ≤ 3) || decide (1 < 3 ∧ (b1 < 144 ∨ 191 < b1)) || decide (2 < 3 ∧ (b2 < 128 ∨ 191 < b2))) = false from by simp; try omega]
      clear hres
      go_enter Tryd.func36, Tryd.ntmps36
      go_wp2
      go_quiet (fail)
      go_wp2
      go_ret
      exact ⟨rfl, by first | exact (Below.refl _ _).alloc (Nat.le_refl _) _ | exact pw_below_drewN ((Below.refl _ _).alloc (Nat.le_refl _) _) _⟩
  · -- first[p0] = 4
    have ha0 := (hT.out.2 0 (by omega)).1
    have ha1 := (hT.out.2 0 (by omega)).2
    simp only [accLo, accHi, Nat.reduceMul, Nat.reduceAdd, Nat.reduceEqDiff, if_true, if_false] at ha0 ha1
    have hres : fullN n b0 b1 b2 = (decide (4 ≤ n) || decide (1 < n ∧ (b1 < 128 ∨ 191 < b1)) || decide (2 < n ∧ (b2 < 128 ∨ 191 < b2))) := by unfold fullN; rw [hX]; simp only [accLo, accHi, Nat.reduceMod, Nat.reduceDiv, Nat.reduceEqDiff, if_true, if_false]; by_cases h1 : 4 ≤ n <;> by_cases h2 : (1 < n ∧ (b1 < 128 ∨ 191 < b1)) <;> by_cases h3 : (2 < n ∧ (b2 < 128 ∨ 191 < b2)) <;> simp [h1, h2, h3]
    rw [hX] at hc0
    clear hT hX
    by_cases hfull : 4 ≤ n
    · have hge : (4 : Int) ≤ (n : Int) := by omega
      rw [hres, show decide (4 ≤ n) = true from decide_eq_true hfull, Bool.true_or, Bool.true_or]
      clear hres c1 c2
      go_enter Tryd.func36, Tryd.ntmps36
      go_wp2
      all_goals (go_ret; exact ⟨rfl, Below.refl _ _⟩)
    by_cases hn1 : n = 1
    · subst hn1
      clear hmax hn hnz hn0 hfull
      clear c1 c2
      rw [hres, show (decide (4 ≤ 1) || decide (1 < 1 ∧ (b1 < 128 ∨ 191 < b1)) || decide (2 < 1 ∧ (b2 < 128 ∨ 191 < b2))) = false from by simp; try omega]
      clear hres
      go_enter Tryd.func36, Tryd.ntmps36
      go_wp2
      go_quiet (fail)
      go_wp2
      go_ret
      exact ⟨rfl, by first | exact (Below.refl _ _).alloc (Nat.le_refl _) _ | exact pw_below_drewN ((Below.refl _ _).alloc (Nat.le_refl _) _) _⟩
    by_cases hn2 : n = 2
    · subst hn2
      clear hmax hn hnz hn0 hfull
      have c1 := c1 (by omega)
      clear c2
      by_cases k1 : b1 < 128
      · have k1z : (b1 : Int) < 128 := by omega
        rw [hres, show (decide (4 ≤ 2) || decide (1 < 2 ∧ (b1 < 128 ∨ 191 < b1)) || decide (2 < 2 ∧ (b2 < 128 ∨ 191 < b2))) = true from by simp; try omega]
        clear hres
        go_enter Tryd.func36, Tryd.ntmps36
        go_wp2
        go_quiet (fail)
        go_wp2
        go_ret
        exact ⟨rfl, by first | exact (Below.refl _ _).alloc (Nat.le_refl _) _ | exact pw_below_drewN ((Below.refl _ _).alloc (Nat.le_refl _) _) _⟩
      have k1z : ¬ (b1 : Int) < 128 := by omega
      by_cases k2 : 191 < b1
      · have k2z : (191 : Int) < (b1 : Int) := by omega
        rw [hres, show (decide (4 ≤ 2) || decide (1 < 2 ∧ (b1 < 128 ∨ 191 < b1)) || decide (2 < 2 ∧ (b2 < 128 ∨ 191 < b2))) = true from by simp; try omega]
        clear hres
        go_enter Tryd.func36, Tryd.ntmps36
        go_wp2
        go_quiet (fail)
        go_wp2
        go_ret
        exact ⟨rfl, by first | exact (Below.refl _ _).alloc (Nat.le_refl _) _ | exact pw_below_drewN ((Below.refl _ _).alloc (Nat.le_refl _) _) _⟩
      have k2z : ¬ (191 : Int) < (b1 : Int) := by omega
      rw [hres, show (decide (4 ≤ 2) || decide (1 < 2 ∧ (b1 < 128 ∨ 191 < b1)) || decide (2 < 2 ∧ (b2 < 128 ∨ 191 < b2))) = false from by simp; try omega]
      clear hres
      go_enter Tryd.func36, Tryd.ntmps36
      go_wp2
      go_quiet (fail)
      go_wp2
      go_ret
      exact ⟨rfl, by first | exact (Below.refl _ _).alloc (Nat.le_refl _) _ | exact pw_below_drewN ((Below.refl _ _).alloc (Nat.le_refl _) _) _⟩
    · obtain rfl : n = 3 := by omega
      clear hmax hn hnz hn0 hfull
      have c1 := c1 (by omega)
      have c2 := c2 (by omega)
      by_cases k1 : b1 < 128
      · have k1z : (b1 : Int) < 128 := by omega
        rw [hres, show (decide (4 ≤ 3) || decide (1 < 3 ∧ (b1 < 128 ∨ 191 < b1)) || decide (2 < 3 ∧ (b2 < 128 ∨ 191 < b2))) = true from by simp; try omega]
        clear hres
        go_enter Tryd.func36, Tryd.ntmps36
        go_wp2
        go_quiet (fail)
        go_wp2
        go_ret
        exact ⟨rfl, by first | exact (Below.refl _ _).alloc (Nat.le_refl _) _ | exact pw_below_drewN ((Below.refl _ _).alloc (Nat.le_refl _) _) _⟩
      have k1z : ¬ (b1 : Int) < 128 := by omega
      by_cases k2 : 191 < b1
      · have k2z : (191 : Int) < (b1 : Int) := by omega
        rw [hres, show (decide (4 ≤ 3) || decide (1 < 3 ∧ (b1 < 128 ∨ 191 < b1)) || decide (2 < 3 ∧ (b2 < 128 ∨ 191 < b2))) = true from by simp; try omega]
        clear hres
        go_enter Tryd.func36, Tryd.ntmps36
        go_wp2
        go_quiet (fail)
        go_wp2
        go_ret
        exact ⟨rfl, by first | exact (Below.refl _ _).alloc (Nat.le_refl _) _ | exact pw_below_drewN ((Below.refl _ _).alloc (Nat.le_refl _) _) _⟩
      have k2z : ¬ (191 : Int) < (b1 : Int) := by omega
      by_cases k3 : b2 < 128
      · have k3z : (b2 : Int) < 128 := by omega
        rw [hres, show (decide (4 ≤ 3) || decide (1 < 3 ∧ (b1 < 128 ∨ 191 < b1)) || decide (2 < 3 ∧ (b2 < 128 ∨ 191 < b2))) = true from by simp; try omega]
        clear hres
        go_enter Tryd.func36, Tryd.ntmps36
        go_wp2
        go_quiet (fail)
        go_wp2
        go_ret
        exact ⟨rfl, by first | exact (Below.refl _ _).alloc (Nat.le_refl _) _ | exact pw_below_drewN ((Below.refl _ _).alloc (Nat.le_refl _) _) _⟩
      have k3z : ¬ (b2 : Int) < 128 := by omega
      by_cases k4 : 191 < b2
      · have k4z : (191 : Int) < (b2 : Int) := by omega
        rw [hres, show (decide (4 ≤ 3) || decide (1 < 3 ∧ (b1 < 128 ∨ 191 < b1)) || decide (2 < 3 ∧ (b2 < 128 ∨ 191 < b2))) = true from by simp; try omega]
        clear hres
        go_enter Tryd.func36, Tryd.ntmps36
        go_wp2
        go_quiet (fail)
        go_wp2
        go_ret
        exact ⟨rfl, by first | exact (Below.refl _ _).alloc (Nat.le_refl _) _ | exact pw_below_drewN ((Below.refl _ _).alloc (Nat.le_refl _) _) _⟩
      have k4z : ¬ (191 : Int) < (b2 : Int) := by omega
      rw [hres, show (decide (4 ≤ 3) || decide (1 < 3 ∧ (b1 < 128 ∨ 191 < b1)) || decide (2 < 3 ∧ (b2 < 128 ∨ 191 < b2))) = false from by simp; try omega]
      clear hres
      go_enter Tryd.func36, Tryd.ntmps36
      go_wp2
      go_quiet (fail)
      go_wp2
      go_ret
      exact ⟨rfl, by first | exact (Below.refl _ _).alloc (Nat.le_refl _) _ | exact pw_below_drewN ((Below.refl _ _).alloc (Nat.le_refl _) _) _⟩
  · -- first[p0] = 68
    have ha0 := (hT.out.2 4 (by omega)).1
    have ha1 := (hT.out.2 4 (by omega)).2
    simp only [accLo, accHi, Nat.reduceMul, Nat.reduceAdd, Nat.reduceEqDiff, if_true, if_false] at ha0 ha1
    have hres : fullN n b0 b1 b2 = (decide (4 ≤ n) || decide (1 < n ∧ (b1 < 128 ∨ 143 < b1)) || decide (2 < n ∧ (b2 < 128 ∨ 191 < b2))) := by unfold fullN; rw [hX]; simp only [accLo, accHi, Nat.reduceMod, Nat.reduceDiv, Nat.reduceEqDiff, if_true, if_false]; by_cases h1 : 4 ≤ n <;> by_cases h2 : (1 < n ∧ (b1 < 128 ∨ 143 < b1)) <;> by_cases h3 : (2 < n ∧ (b2 < 128 ∨ 191 < b2)) <;> simp [h1, h2, h3]
    rw [hX] at hc0
    clear hT hX
    by_cases hfull : 4 ≤ n
    · have hge : (4 : Int) ≤ (n : Int) := by omega
      rw [hres, show decide (4 ≤ n) = true from decide_eq_true hfull, Bool.true_or, Bool.true_or]
      clear hres c1 c2
      go_enter Tryd.func36, Tryd.ntmps36
      go_wp2
      all_goals (go_ret; exact ⟨rfl, Below.refl _ _⟩)
    by_cases hn1 : n = 1
    · subst hn1
      clear hmax hn hnz hn0 hfull
      clear c1 c2
      rw [hres, show (decide (4 ≤ 1) || decide (1 < 1 ∧ (b1 < 128 ∨ 143 < b1)) || decide (2 < 1 ∧ (b2 < 128 ∨ 191 < b2))) = false from by simp; try omega]
      clear hres
      go_enter Tryd.func36, Tryd.ntmps36
      go_wp2
      go_quiet (fail)
      go_wp2
      go_ret
      exact ⟨rfl, by first | exact (Below.refl _ _).alloc (Nat.le_refl _) _ | exact pw_below_drewN ((Below.refl _ _).alloc (Nat.le_refl _) _) _⟩
    by_cases hn2 : n = 2
    · subst hn2
      clear hmax hn hnz hn0 hfull
      have c1 := c1 (by omega)
      clear c2
      by_cases k1 : b1 < 128
      · have k1z : (b1 : Int) < 128 := by omega
        rw [hres, show (decide (4 ≤ 2) || decide (1 < 2 ∧ (b1 < 128 ∨ 143 < b1)) || decide (2 < 2 ∧ (b2 < 128 ∨ 191 < b2))) = true from by simp; try omega]
        clear hres
        go_enter Tryd.func36, Tryd.ntmps36
        go_wp2
        go_quiet (fail)
        go_wp2
        go_ret
        exact ⟨rfl, by first | exact (Below.refl _ _).alloc (Nat.le_refl _) _ | exact pw_below_drewN ((Below.refl _ _).alloc (Nat.le_refl _) _) _⟩
      have k1z : ¬ (b1 : Int) < 128 := by omega
      by_cases k2 : 143 < b1
      · have k2z : (143 : Int) < (b1 : Int) := by omega
        rw [hres, show (decide (4 ≤ 2) || decide (1 < 2 ∧ (b1 < 128 ∨ 143 < b1)) || decide (2 < 2 ∧ (b2 < 128 ∨ 191 < b2))) = true from by simp; try omega]
        clear hres
        go_enter Tryd.func36, Tryd.ntmps36
        go_wp2
        go_quiet (fail)
        go_wp2
        go_ret
        exact ⟨rfl, by first | exact (Below.refl _ _).alloc (Nat.le_refl _) _ | exact pw_below_drewN ((Below.refl _ _).alloc (Nat.le_refl _) _) _⟩
      have k2z : ¬ (143 : Int) < (b1 : Int) := by omega
      rw [hres, show (decide (4 ≤ 2) || decide (1 < 2 ∧ (b1 < 128 ∨ 143 < b1)) || decide (2 < 2 ∧ (b2 < 128 ∨ 191 < b2))) = false from by simp; try omega]
      clear hres
      go_enter Tryd.func36, Tryd.ntmps36
      go_wp2
      go_quiet (fail)
      go_wp2
      go_ret
      exact ⟨rfl, by first | exact (Below.refl _ _).alloc (Nat.le_refl _) _ | exact pw_below_drewN ((Below.refl _ _).alloc (Nat.le_refl _) _) _⟩
    · obtain rfl : n = 3 := by omega
      clear hmax hn hnz hn0 hfull
      have c1 := c1 (by omega)
      have c2 := c2 (by omega)
      by_cases k1 : b1 < 128
      · have k1z : (b1 : Int) < 128 := by omega
        rw [hres, show (decide (4 ≤ 3) || decide (1 < 3 ∧ (b1 < 128 ∨ 143 < b1)) || decide (2 < 3 ∧ (b2 < 128 ∨ 191 < b2))) = true from by simp; try omega]
        clear hres
        go_enter Tryd.func36, Tryd.ntmps36
        go_wp2
        go_quiet (fail)
        go_wp2
        go_ret
        exact ⟨rfl, by first | exact (Below.refl _ _).alloc (Nat.le_refl _) _ | exact pw_below_drewN ((Below.refl _ _).alloc (Nat.le_refl _) _) _⟩
      have k1z : ¬ (b1 : Int) < 128 := by omega
      by_cases k2 : 143 < b1
      · have k2z : (143 : Int) < (b1 : Int) := by omega
        rw [hres, show (decide (4 ≤ 3) || decide (1 < 3 ∧ (b1 < 128 ∨ 143 < b1)) || decide (2 < 3 ∧ (b2 < 128 ∨ 191 < b2))) = true from by simp; try omega]
        clear hres
        go_enter Tryd.func36, Tryd.ntmps36
        go_wp2
        go_quiet (fail)
        go_wp2
        go_ret
        exact ⟨rfl, by first | exact (Below.refl _ _).alloc (Nat.le_refl _) _ | exact pw_below_drewN ((Below.refl _ _).alloc (Nat.le_refl _) _) _⟩
      have k2z : ¬ (143 : Int) < (b1 : Int) := by omega
      by_cases k3 : b2 < 128
      · have k3z : (b2 : Int) < 128 := by omega
        rw [hres, show (decide (4 ≤ 3) || decide (1 < 3 ∧ (b1 < 128 ∨ 143 < b1)) || decide (2 < 3 ∧ (b2 < 128 ∨ 191 < b2))) = true from by simp; try omega]
        clear hres
        go_enter Tryd.func36, Tryd.ntmps36
        go_wp2
        go_quiet (fail)
        go_wp2
        go_ret
        exact ⟨rfl, by first | exact (Below.refl _ _).alloc (Nat.le_refl _) _ | exact pw_below_drewN ((Below.refl _ _).alloc (Nat.le_refl _) _) _⟩
      have k3z : ¬ (b2 : Int) < 128 := by omega
      by_cases k4 : 191 < b2
      · have k4z : (191 : Int) < (b2 : Int) := by omega
        rw [hres, show (decide (4 ≤ 3) || decide (1 < 3 ∧ (b1 < 128 ∨ 143 < b1)) || decide (2 < 3 ∧ (b2 < 128 ∨ 191 < b2))) = true from by simp; try omega]
        clear hres
        go_enter Tryd.func36, Tryd.ntmps36
        go_wp2
        go_quiet (fail)
        go_wp2
        go_ret
        exact ⟨rfl, by first | exact (Below.refl _ _).alloc (Nat.le_refl _) _ | exact pw_below_drewN ((Below.refl _ _).alloc (Nat.le_refl _) _) _⟩
      have k4z : ¬ (191 : Int) < (b2 : Int) := by omega
      rw [hres, show (decide (4 ≤ 3) || decide (1 < 3 ∧ (b1 < 128 ∨ 143 < b1)) || decide (2 < 3 ∧ (b2 < 128 ∨ 191 < b2))) = false from by simp; try omega]
      clear hres
      go_enter Tryd.func36, Tryd.ntmps36
      go_wp2
      go_quiet (fail)
      go_wp2
      go_ret
      exact ⟨rfl, by first | exact (Below.refl _ _).alloc (Nat.le_refl _) _ | exact pw_below_drewN ((Below.refl _ _).alloc (Nat.le_refl _) _) _⟩
end Go.Proofs.YtnaaimnmphcilaaDoor.Hand
