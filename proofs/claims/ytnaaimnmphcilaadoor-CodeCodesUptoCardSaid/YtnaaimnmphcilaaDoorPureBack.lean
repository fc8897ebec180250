/- The plain side of CodeBack and CodeCuts. -/
import Derived.Test.YtnaaimnmphcilaaDoorPureA
namespace Go.Proofs.YtnaaimnmphcilaaDoor.PureA
open Go.RowKit Go.Proofs.YtnaaimnmphcilaaDoor.Hand Go.Proofs.YtnaaimnmphcilaaDoor.QA Go.Proofs.YtnaaimnmphcilaaDoorW.PrintWords Go.Proofs.YtnaaimnmphcilaaDoorW.PrintLast
set_option linter.unusedVariables false
set_option linter.unusedSimpArgs false

theorem wf_u8 {x : Int} (h : (Lit.int .u8 x).wf = true) : 0 ≤ x ∧ x < 256 := by
  simp [Lit.wf, IntKind.min, IntKind.max, IntKind.signed, IntKind.bits] at h
  omega
theorem wf_u32 {x : Int} (h : (Lit.int .u32 x).wf = true) : 0 ≤ x ∧ x < 4294967296 := by
  simp [Lit.wf, IntKind.min, IntKind.max, IntKind.signed, IntKind.bits] at h
  omega
theorem wf_u16 {x : Int} (h : (Lit.int .u16 x).wf = true) : 0 ≤ x ∧ x < 65536 := by
  simp [Lit.wf, IntKind.min, IntKind.max, IntKind.signed, IntKind.bits] at h
  omega
theorem allB_wf {l : List Int} (h : ∀ x ∈ l, (Lit.int .u8 x).wf = true) : allB l = true := by
  unfold allB
  rw [List.all_eq_true]
  intro x hx
  have := wf_u8 (h x hx)
  simpa [isB] using this

theorem back_j0 (l1 : List Int) (k : Nat) (hk : l1.length + 20 ≤ k) (hB : allB l1 = true) (hl : l1.length ≤ 1048576) : gessolaw01_CodeBack.j0 (k + 1) l1 false = some true := by
  have hrl : validI l1 = true → (runesI l1).length ≤ l1.length := runes_len hB
  have hc := codes_f hB (fun h => by have := hrl h; omega)
  have haw := awake_f k (by omega)
  have hf := fault_f l1 k (by omega) hB (by omega)
  rw [gessolaw01_CodeBack.j0, if_neg (by simp), hc, Option.bind_some]
  by_cases hv : validI l1 = true
  · rw [if_pos hv]
    have hr := runes_lay hB hv
    have hrl := hrl hv
    have hb := bytes_f (runesI l1) k (by omega) (by omega) (fun x hx => by have := hr.1 x hx; unfold Pt at this; omega)
    rw [if_pos hr.1, hr.2] at hb
    simp only [hb, Option.bind_some, if_true, haw]
  · rw [if_neg hv]
    have hb := bytes_f [] k (by simp; omega) (by simp) (fun x hx => by cases hx)
    rw [if_pos (show AllPt [] from fun _ h => by cases h)] at hb
    have hge : faultI l1 ≥ 0 := by rcases faultI_valid hB with h | h; exact absurd h.1 hv; exact h.2.1
    simp only [hb, Option.bind_some, hf, haw, hge, List.length_nil]
    simp

theorem back_pure (l0 l1 : List Int) (h0 : ∀ x ∈ l0, (Lit.int .u32 x).wf = true) (n0 : l0.length ≤ 1048576) (h1 : ∀ x ∈ l1, (Lit.int .u8 x).wf = true) (n1 : l1.length ≤ 1048576) : ∃ k, gessolaw01_CodeBack.f k l0 l1 = some true := by
  refine ⟨20000000, ?_⟩
  have hB := allB_wf h1
  have hj := back_j0 l1 19999999 (by omega) hB n1
  have hb := bytes_f l0 20000000 (by omega) (by omega) (fun x hx => (wf_u32 (h0 x hx)).1)
  unfold gessolaw01_CodeBack.f
  rw [hb, Option.bind_some]
  by_cases hp : AllPt l0
  · rw [if_pos hp]
    obtain ⟨hv, hr⟩ := lay_valid l0 hp
    have hBl := allB_layI l0
    have hll := layI_len l0
    have hc := codes_f hBl (fun _ => by rw [hr]; omega)
    rw [if_pos hv, hr] at hc
    have hs := same_f l0 20000000 (by omega) (by omega)
    have hf := fault_f (layI l0) 20000000 (by omega) hBl (by omega)
    have hft : faultI (layI l0) = -1 := by rcases faultI_valid hBl with h | h; exact h.2; rw [hv] at h; exact absurd h.1 (by simp)
    rw [hft] at hf
    simp only [hc, Option.bind_some, if_true, hs, hf, hj]
  · rw [if_neg hp]
    have hc := codes_f (l := []) rfl (fun _ => by simp [runesI, runesL])
    rw [if_pos validI_nil] at hc
    simp only [hc, Option.bind_some]
    simp [hj]
end Go.Proofs.YtnaaimnmphcilaaDoor.PureA
