/- The call of CodeCodes: it returns true. -/
import Derived.Test.YtnaaimnmphcilaaDoorPureCodes
namespace Go.Proofs.YtnaaimnmphcilaaDoor.PureA
open Go.RowKit Go.Proofs.YtnaaimnmphcilaaDoor.Hand Go.Proofs.YtnaaimnmphcilaaDoor.QA Go.Proofs.YtnaaimnmphcilaaDoorW.PrintWords Go.Proofs.YtnaaimnmphcilaaDoorW.PrintLast

theorem codes_walk (A0 : Option Addr) (c0 : Nat) (l0 : List Int) (w : World) (hr : ReadsInt w .u8 A0 l0.length l0) (hc : l0.length ≤ c0) (h0 : ∀ x ∈ l0, (Lit.int .u8 x).wf = true) (n0 : l0.length ≤ 1048576) (hT : Tabs w) :
    Calls Tryd.prog 9 #[.slice A0 l0.length c0] w fun e w' => e = .returned (.bool true) ∧ Below w.heap.size w w' := by
  obtain ⟨k, h⟩ := codes_pure l0 h0 n0
  exact gessolaw01_CodeCodes.calls k A0 c0 l0 true w (Kd.C_of_reads (d := (0 : Int)) (h1 := fun _ => rfl) hr) hc hT h
end Go.Proofs.YtnaaimnmphcilaaDoor.PureA
