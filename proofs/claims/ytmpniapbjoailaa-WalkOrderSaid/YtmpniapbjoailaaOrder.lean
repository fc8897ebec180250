/- Law WalkOrder of package walk: the walk. -/
import Derived.Test.YtmpniapbjoailaaOrderA
import Derived.Test.YtmpniapbjoailaaOrderB
import Derived.Test.YtmpniapbjoailaaOrderC
import Derived.Test.YtmpniapbjoailaaOrderD
namespace Go.Proofs.Ytmpniapbjoailaa.Hand
open Go.RowKit Go.Proofs.YtmpniapbjoailaaW.PrintWords Go.Proofs.YtmpniapbjoailaaW.PrintLast Go.Proofs.YtmpniapbjoailaaW.PrintMore
set_option linter.unusedVariables false
set_option linter.unusedSimpArgs false

theorem order_walk (A0 : Option Addr) (c0 n0 : Nat) (l0 : List ByteArray) (A1 : Option Addr) (c1 n1 : Nat) (l1 : List ByteArray) (A2 : Option Addr) (c2 n2 : Nat) (l2 : List ByteArray) (hn0 : n0 = l0.length) (hn1 : n1 = l1.length) (hn2 : n2 = l2.length) (w : World)
    (hr0 : Kd.C Kd.string w A0 l0.length l0) (hc0 : l0.length ≤ c0) (hr1 : Kd.C Kd.string w A1 l1.length l1) (hc1 : l1.length ≤ c1) (hr2 : Kd.C Kd.string w A2 l2.length l2) (hc2 : l2.length ≤ c2) :
    Calls Try.prog 6 #[.slice A0 n0 c0, .slice A1 n1 c1, .slice A2 n2 c2] w fun e w' => e = .returned (.bool true) ∧ Below w.heap.size w w' := by
  cases hx : lt false l0 l1 with
  | true =>
    cases hu : lt true l0 l1 with
    | true => exact order_walkA A0 c0 n0 l0 A1 c1 n1 l1 A2 c2 n2 l2 hn0 hn1 hn2 w hr0 hc0 hr1 hc1 hr2 hc2 hx hu
    | false => exact order_walkB A0 c0 n0 l0 A1 c1 n1 l1 A2 c2 n2 l2 hn0 hn1 hn2 w hr0 hc0 hr1 hc1 hr2 hc2 hx hu
  | false =>
    cases hu : lt true l0 l1 with
    | true => exact order_walkC A0 c0 n0 l0 A1 c1 n1 l1 A2 c2 n2 l2 hn0 hn1 hn2 w hr0 hc0 hr1 hc1 hr2 hc2 hx hu
    | false => exact order_walkD A0 c0 n0 l0 A1 c1 n1 l1 A2 c2 n2 l2 hn0 hn1 hn2 w hr0 hc0 hr1 hc1 hr2 hc2 hx hu
end Go.Proofs.Ytmpniapbjoailaa.Hand
