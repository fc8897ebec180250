/- The calls of CodeBack and CodeCuts: they return true. -/
import Derived.Test.YtnaaimnmphcilaaDoorPureCuts
namespace Go.Proofs.YtnaaimnmphcilaaDoor.PureA
open Go.RowKit Go.Proofs.YtnaaimnmphcilaaDoor.Hand Go.Proofs.YtnaaimnmphcilaaDoor.QA Go.Proofs.YtnaaimnmphcilaaDoorW.PrintWords Go.Proofs.YtnaaimnmphcilaaDoorW.PrintLast

theorem cuts_walk (A0 : Option Addr) (c0 : Nat) (l0 : List Int) (a1 : Int) (w : World) (hr : ReadsInt w .u32 A0 l0.length l0) (hc : l0.length ≤ c0) (h0 : ∀ x ∈ l0, (Lit.int .u32 x).wf = true) (n0 : l0.length * 4 ≤ 140737488351232) (ha : (Lit.int .u16 a1).wf = true) (hT : Tabs w) :
    Calls Tryd.prog 4 #[.slice A0 l0.length c0, .int .u16 a1] w fun e w' => e = .returned (.bool true) ∧ Below w.heap.size w w' := by
  obtain ⟨k, h⟩ := cuts_pure l0 a1 h0 n0 ha
  exact gessolaw01_CodeCuts.calls k A0 c0 l0 a1 true w (Kd.C_of_reads (d := (0 : Int)) (h1 := fun _ => rfl) hr) hc hT h
theorem back_walk (A0 : Option Addr) (c0 : Nat) (l0 : List Int) (A1 : Option Addr) (c1 : Nat) (l1 : List Int) (w : World) (hr : ReadsInt w .u32 A0 l0.length l0) (hc : l0.length ≤ c0) (h0 : ∀ x ∈ l0, (Lit.int .u32 x).wf = true) (n0 : l0.length ≤ 1048576)
    (hr1 : ReadsInt w .u8 A1 l1.length l1) (hc1 : l1.length ≤ c1) (h1 : ∀ x ∈ l1, (Lit.int .u8 x).wf = true) (n1 : l1.length ≤ 1048576) (hT : Tabs w) :
    Calls Tryd.prog 3 #[.slice A0 l0.length c0, .slice A1 l1.length c1] w fun e w' => e = .returned (.bool true) ∧ Below w.heap.size w w' := by
  obtain ⟨k, h⟩ := back_pure l0 l1 h0 n0 h1 n1
  exact gessolaw01_CodeBack.calls k A0 c0 l0 A1 c1 l1 true w (Kd.C_of_reads (d := (0 : Int)) (h1 := fun _ => rfl) hr) hc (Kd.C_of_reads (d := (0 : Int)) (h1 := fun _ => rfl) hr1) hc1 hT h
end Go.Proofs.YtnaaimnmphcilaaDoor.PureA
