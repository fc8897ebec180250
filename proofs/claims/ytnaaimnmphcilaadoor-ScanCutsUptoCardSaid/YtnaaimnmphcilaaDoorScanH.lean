/- Scans over slices that were there ahead of the call; ScanStays. -/
import Derived.Test.YtnaaimnmphcilaaDoorScanG
namespace Go.Proofs.YtnaaimnmphcilaaDoor.Hand
open Go.RowKit Go.Proofs.YtnaaimnmphcilaaDoorW.PrintWords Go.Proofs.YtnaaimnmphcilaaDoorW.PrintLast Go.Proofs.YtnaaimnmphcilaaDoorW.PrintMore
set_option linter.unusedVariables false
set_option linter.unusedSimpArgs false

theorem C_any_nil {w : World} {A : Option Addr} {k : IntKind} : Kd.C (Kd.int k) w A ([] : List Int).length [] := ⟨rfl, by simp, fun h => absurd h (Nat.lt_irrefl 0)⟩

/-- A slice of bytes whose cells lie below block N. -/
structure Inp (N : Nat) (w : World) (A : Option Addr) (l : List Int) : Prop where
  c : Kd.C (Kd.int .u8) w A l.length l
  lt : l ≠ [] → ∀ x, A = some x → x.block < N
theorem Inp.below {N : Nat} {w w' : World} {A : Option Addr} {l : List Int} (h : Inp N w A l) (hb : Below N w w') : Inp N w' A l := by
  refine ⟨?_, h.lt⟩
  by_cases hl : l = []
  · subst hl; exact C_any_nil
  · refine ⟨h.c.1, h.c.2.1, fun hn => ?_⟩
    obtain ⟨ad, e, hc⟩ := h.c.2.2 hn
    refine ⟨ad, e, fun j p hj => ?_⟩
    obtain ⟨c, h1, h2, h3⟩ := hc j p hj
    exact ⟨c, h1, h2, fun i u hu => (hb.cell (p := ad.add _) (by rw [add_block]; exact h.lt hl ad e)).trans (h3 i u hu)⟩
theorem Inp.of {w : World} {A : Option Addr} {l : List Int} (h : Kd.C (Kd.int .u8) w A l.length l) : Inp w.heap.size w A l :=
  ⟨h, fun hl x hx => by obtain ⟨b, off, e, hb, _⟩ := view h hl; rw [e] at hx; injection hx with hx; subst hx; exact hb⟩

theorem feed_inp {w : World} {g : Nat} {s b : Int} {A : Option Addr} {c : Nat} {l : List Int} (H : Sc w g s b A c l) {N : Nat} (hN : N ≤ g) (A' : Option Addr) (c' : Nat) (m : List Int) (n : Nat) (hn : n = m.length) (hi : Inp N w A' m) (hc : m.length ≤ c')
    (hT : Tabs w) (hg : 2 ≤ g) (hBl : allB l = true) (hB : allB m = true) (h0 : 0 ≤ s) (hl : l.length ≤ 140737488355) (h1 : s + (m.length : Int) ≤ 1099511627776) :
    Calls Tryd.prog 23 #[.pointer (some ⟨g, 0, none⟩), .slice A' n c'] w fun e w' => e = .returned (.int .i64 0) ∧ Aside0 (Fed w w' g (s + (m.length : Int)) (feedB s b l m) A (feedP b l m)) := by
  subst hn
  exact (feed_calls H A' c' m hi.c hc (fun hm x hx => by have := hi.lt hm x hx; omega) hT hg hBl hB h0 hl h1).mono fun e w' h => ⟨h.1, ⟨h.2⟩⟩
end Go.Proofs.YtnaaimnmphcilaaDoor.Hand
