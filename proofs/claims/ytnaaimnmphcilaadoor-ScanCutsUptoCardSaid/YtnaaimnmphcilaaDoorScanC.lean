/- slices.Concat of two slices of bytes. -/
import Derived.Test.YtnaaimnmphcilaaDoorScanB
namespace Go.Proofs.YtnaaimnmphcilaaDoor.Hand
open Go.RowKit Go.Proofs.YtnaaimnmphcilaaDoorW.PrintWords Go.Proofs.YtnaaimnmphcilaaDoorW.PrintLast Go.Proofs.YtnaaimnmphcilaaDoorW.PrintMore
set_option linter.unusedVariables false
set_option linter.unusedSimpArgs false

set_option maxHeartbeats 2000000 in
theorem concat_calls (hh : Nat) (A : Option Addr) (c : Nat) (l : List Int) (A' : Option Addr) (c' : Nat) (m : List Int) (w : World) (h0 : w.cell? ⟨hh, 0, none⟩ = some (.slice A l.length c)) (h1 : w.cell? ⟨hh, 1, none⟩ = some (.slice A' m.length c'))
    (hr : Kd.C (Kd.int .u8) w A l.length l) (hr' : Kd.C (Kd.int .u8) w A' m.length m) (hl : l.length + m.length ≤ 140737488355328) :
    Calls Tryd.prog 43 #[.slice (some ⟨hh, 0, none⟩) 2 2] w fun e w' => ∃ v, e = .returned v ∧ Kd.R (Kd.int .u8) 5 w' w.heap.size (fun _ => True) v (l ++ m) ∧ Below w.heap.size w w' := by
  have cG := fun W => grow_calls (l.length + m.length) hl W
  have HR := Aside0.mk hr
  have HR' := Aside0.mk hr'
  have HL := Aside0.mk hl
  have H0 := Aside0.mk h0
  have H1 := Aside0.mk h1
  clear hr hr' h0 h1
  have e1 : wrap64 (0 + (l.length : Int)) = (l.length : Int) := by unfold wrap64; omega
  have e2 : wrap64 ((l.length : Int) + (m.length : Int)) = ((l.length + m.length : Nat) : Int) := by unfold wrap64; omega
  have e3 : ¬ (l.length : Int) < 0 := by omega
  have e4 : ¬ ((l.length + m.length : Nat) : Int) < 0 := by omega
  have E1 := Aside0.mk e1
  have E2 := Aside0.mk e2
  clear e1 e2 hl
  obtain ⟨p, hp⟩ : ∃ p, l.length = p := ⟨_, rfl⟩
  obtain ⟨q, hq⟩ : ∃ q, m.length = q := ⟨_, rfl⟩
  rw [hp, hq] at e4
  rw [hp] at e3
  have HP := Aside0.mk hp
  have HQ := Aside0.mk hq
  have H0' : w.cell? ⟨hh, 0, none⟩ = some (.slice A p c) := by rw [← hp]; exact H0.out
  have H1' : w.cell? ⟨hh, 1, none⟩ = some (.slice A' q c') := by rw [← hq]; exact H1.out
  have G1 : wrap64 (p : Int) = (p : Int) := by have := E1.out; rw [hp] at this; simpa using this
  have G2 : wrap64 ((p : Int) + (q : Int)) = ((p : Int) + (q : Int)) := by have := E2.out; rw [hp, hq] at this; rw [this]; omega
  have hpos : ¬ ((p : Int) + (q : Int)) < 0 := by omega
  have cG' : ∀ W, Calls Tryd.prog 53 #[.slice none 0 0, .int .i64 ((p : Int) + (q : Int))] W fun e w' => ∃ v, e = .returned v ∧ Kd.R (Kd.int .u8) 5 w' W.heap.size (fun _ => True) v [] ∧ Below W.heap.size W w' := fun W => by
    have := cG W
    rw [hp, hq, show ((p + q : Nat) : Int) = (p : Int) + (q : Int) by omega] at this
    exact this
  have CG := Aside0.mk cG'
  clear hp hq cG cG'
  go_enter Tryd.func43, Tryd.ntmps43
  go_wp2
  go_loopg [3, 11] 2 (fun k z i wx => w = wx ∧ ((k = 2 ∧ i = .int .i64 0 ∧ z = .int .i64 0) ∨ (k = 1 ∧ i = .int .i64 1 ∧ z = .int .i64 p) ∨ (k = 0 ∧ i = .int .i64 2 ∧ z = .int .i64 ((p : Int) + (q : Int)))))
  case atStart => exact ⟨rfl, .inl ⟨rfl, rfl, rfl⟩⟩
  case round =>
    obtain ⟨rfl, ⟨rfl, rfl, rfl⟩ | ⟨rfl, rfl, rfl⟩ | ⟨rfl, rfl, rfl⟩⟩ := hrel
    · go_wp2
      go_roundg 1
      case measure => omega
      case rel => exact ⟨rfl, .inr (.inl ⟨rfl, rfl, by simp [G1]⟩)⟩
    · go_wp2
      go_roundg 0
      case measure => omega
      case rel => exact ⟨rfl, .inr (.inr ⟨rfl, rfl, by simp [G2]⟩)⟩
    · go_wp2_with (go_at_call 53; refine (CG.out _).mono ?_; rintro e w1 ⟨v, rfl, HO, HB1⟩; have HO' := Aside0.mk HO; have HB1' := Aside0.mk HB1)
      clear HO HB1
      go_loopg [6, 27] 2 (fun k v i wx => Aside0 (Below w.heap.size w wx) ∧ ((k = 2 ∧ i = .int .i64 0 ∧ Aside0 (Kd.R (Kd.int .u8) 5 wx w.heap.size (fun _ => True) v [])) ∨ (k = 1 ∧ i = .int .i64 1 ∧ Aside0 (Kd.R (Kd.int .u8) 5 wx w.heap.size (fun _ => True) v l)) ∨ (k = 0 ∧ i = .int .i64 2 ∧ Aside0 (Kd.R (Kd.int .u8) 5 wx w.heap.size (fun _ => True) v (l ++ m)))))
      case atStart => exact ⟨HB1', .inl ⟨rfl, rfl, HO'⟩⟩
      case round =>
        obtain ⟨HB, ⟨rfl, rfl, HO⟩ | ⟨rfl, rfl, HO⟩ | ⟨rfl, rfl, HO⟩⟩ := hrel
        · have k0 := pw_cell_below HB.out H0'
          have k1 := pw_cell_below HB.out H1'
          have HRA : ReadsRow ((Kd.int .u8).K wr) (Kd.int .u8).sz wr A p l := by have := Kd.C_below HR.out HB.out; rw [HP.out] at this; exact this
          go_wp2_with (first | ((with_reducible refine gate_builtin (b := .append) (xs := #[.tmp 31, .tmp 32]) rfl ?_); at_builtin; go_must (refine Kd.R_append_rows (Kd.int .u8) (w0 := w) w.heap.size rfl (.tmp 31) (.tmp 32) 23 5 (.int .u8 0) 1 rfl Tryd.underlying23 info5 rfl (by decide) (by decide) u6 [] l A p c (fun _ => True) (fun _ => False) rfl rfl HO.out HRA (fun _ _ h => h) (fun _ h => h.elim) (fun _ _ => trivial) HB.out HB.out.size ?aL ?_); (case aL => have := HL.out; have := HP.out; have := HQ.out; simp; omega); intro v2 w2 HO2 HB2 HG2 HAT2; (try rw [List.nil_append] at HO2); replace HO2 := Aside0.mk HO2; replace HB2 := Aside0.mk HB2; clear HO HB HG2 HAT2))
          go_roundg 1
          case measure => omega
          case rel => exact ⟨HB2, .inr (.inl ⟨rfl, rfl, HO2⟩)⟩
        · have k0 := pw_cell_below HB.out H0'
          have k1 := pw_cell_below HB.out H1'
          have HRA : ReadsRow ((Kd.int .u8).K wr) (Kd.int .u8).sz wr A' q m := by have := Kd.C_below HR'.out HB.out; rw [HQ.out] at this; exact this
          go_wp2_with (first | ((with_reducible refine gate_builtin (b := .append) (xs := #[.tmp 31, .tmp 32]) rfl ?_); at_builtin; go_must (refine Kd.R_append_rows (Kd.int .u8) (w0 := w) w.heap.size rfl (.tmp 31) (.tmp 32) 23 5 (.int .u8 0) 1 rfl Tryd.underlying23 info5 rfl (by decide) (by decide) u6 l m A' q c' (fun _ => True) (fun _ => False) rfl rfl HO.out HRA (fun _ _ h => h) (fun _ h => h.elim) (fun _ _ => trivial) HB.out HB.out.size ?aL ?_); (case aL => have := HL.out; have := HP.out; have := HQ.out; simp; omega); intro v2 w2 HO2 HB2 HG2 HAT2; (try rw [List.nil_append] at HO2); replace HO2 := Aside0.mk HO2; replace HB2 := Aside0.mk HB2; clear HO HB HG2 HAT2))
          go_roundg 0
          case measure => omega
          case rel => exact ⟨HB2, .inr (.inr ⟨rfl, rfl, HO2⟩)⟩
        · go_wp2
          go_ret
          exact ⟨_, rfl, HO.out, HB.out⟩
end Go.Proofs.YtnaaimnmphcilaaDoor.Hand
