/- Package walk: Queue.Len and Pop. -/
import Derived.Test.YtmpniapbjoailaaWalkG
namespace Go.Proofs.Ytmpniapbjoailaa.Hand
open Go.RowKit Go.Proofs.YtmpniapbjoailaaW.PrintWords Go.Proofs.YtmpniapbjoailaaW.PrintLast Go.Proofs.YtmpniapbjoailaaW.PrintMore
set_option linter.unusedVariables false
set_option linter.unusedSimpArgs false

theorem qlen_m {w : World} {g : Nat} {deep : Bool} {base : Nat} {ok : Nat → Prop} {v : Value} {cs : List (List ByteArray)} (H : QU w g deep base ok v cs) :
    Calls Try.prog 22 #[.pointer (some ⟨g, 0, none⟩)] w fun e w' => e = .returned (.int .i64 (cs.length : Int)) ∧ w = w' := by
  have C1 := Aside0.mk (len_m H.1)
  clear H
  generalize cs.length = n at *
  go_enter Try.func22, Try.ntmps22
  go_wp2_with (first | (go_at_call 33; (with_reducible refine C1.out.mono ?_); rintro e w1 ⟨rfl, rfl⟩) | fail)
  go_ret
  exact ⟨rfl, rfl⟩
theorem qlen_nil (w : World) : Calls Try.prog 22 #[.pointer none] w fun e w' => e = .returned (.int .i64 0) ∧ w = w' := by
  go_enter Try.func22, Try.ntmps22
  go_wp2
  go_ret
  exact ⟨rfl, rfl⟩
theorem qpush_nil (w : World) (x : Value) : Calls Try.prog 17 #[.pointer none, x] w fun e w' => e = .returned (.tuple #[]) ∧ w = w' := by
  go_enter Try.func17, Try.ntmps17
  go_wp2
  exact bodyPost_end (v := .tuple #[]) (by simp [results, Try.results17, go_sem]) rfl ⟨rfl, rfl⟩
theorem qpop_nil (w : World) : Calls Try.prog 19 #[.pointer none] w fun e w' => e = .returned (.tuple #[.slice none 0 0, .bool false]) ∧ w = w' := by
  have C1 := Aside0.mk (qlen_nil w)
  go_enter Try.func19, Try.ntmps19
  go_wp2_with (first | (go_at_call 22; (with_reducible refine C1.out.mono ?_); rintro e w1 ⟨rfl, rfl⟩) | fail)
  refine bodyPost_ret (v := .tuple #[.slice none 0 0, .bool false]) (by simp [results, Try.results19, go_sem]) rfl ⟨rfl, rfl⟩
theorem qpop_empty {w : World} {g : Nat} {deep : Bool} {base : Nat} {ok : Nat → Prop} {v : Value} (H : QU w g deep base ok v []) : Calls Try.prog 19 #[.pointer (some ⟨g, 0, none⟩)] w fun e w' => e = .returned (.tuple #[.slice none 0 0, .bool false]) ∧ w = w' := by
  have C1 := Aside0.mk (qlen_m H)
  clear H
  rw [show (([] : List (List ByteArray)).length : Int) = 0 from rfl] at C1
  go_enter Try.func19, Try.ntmps19
  go_wp2_with (first | (go_at_call 22; (with_reducible refine C1.out.mono ?_); rintro e w1 ⟨rfl, rfl⟩) | fail)
  refine bodyPost_ret (v := .tuple #[.slice none 0 0, .bool false]) (by simp [results, Try.results19, go_sem]) rfl ⟨rfl, rfl⟩
set_option maxHeartbeats 4000000 in
theorem qpop_m {w : World} {g : Nat} {deep : Bool} {base : Nat} {ok : Nat → Prop} {v : Value} {cs : List (List ByteArray)} (H : QU w g deep base ok v cs) (hne : 0 < cs.length) (hl : ∀ y ∈ cs, y.length < 1000000000) (hsm : cs.length < 1000000000) (hbs : base ≤ w.heap.size) (hbg : base ≤ g) :
    Calls Try.prog 19 #[.pointer (some ⟨g, 0, none⟩)] w fun e w' => ∃ A c p, e = .returned (.tuple #[.slice A p.length c, .bool true]) ∧ Aside0 (∃ okp v' cs', (∀ k, okp k → ok k ∧ k ≠ g ∧ v.ownBlock ≠ some k) ∧ Kd.R Kd.string 9 w' base okp (.slice A p.length c) p ∧ v'.ownBlock = v.ownBlock ∧ QU w' g deep base ok v' cs' ∧ (p :: cs').Perm cs ∧ ∀ y ∈ cs', lt deep y p = false) ∧ Aside0 (Fr w w' g v) ∧ Aside0 (Below base w w') := by
  have C1 := Aside0.mk (qlen_m H)
  have C2 : Aside0 (Calls Try.prog 32 #[.iface 53 (.pointer (some ⟨g, 0, none⟩))] w fun e w' => ∃ A c p, e = .returned (.iface 22 (.slice A p.length c)) ∧ Aside0 (∃ okp v' cs', (∀ k, okp k → ok k ∧ k ≠ g ∧ v.ownBlock ≠ some k) ∧ Kd.R Kd.string 9 w' base okp (.slice A p.length c) p ∧ v'.ownBlock = v.ownBlock ∧ QU w' g deep base ok v' cs' ∧ (p :: cs').Perm cs ∧ ∀ y ∈ cs', lt deep y p = false) ∧ Aside0 (Fr w w' g v) ∧ Aside0 (Below base w w')) :=
    ⟨(hpop_m H.1 H.2 hne (fun y hy => by have := hl y hy; omega) hsm hbs hbg).mono (by
      rintro e w1 ⟨x, rfl, ⟨p, okp, v', cs', h1, h2, h3, h4, h5, h6, h7⟩, hf, hb⟩
      obtain ⟨A, c, rfl⟩ := Kd.R_slice h2
      exact ⟨A, c, p, rfl, ⟨okp, v', cs', fun k hk => h1 k hk, h2, h3, ⟨h4, h6⟩, h5, h7⟩, hf, hb⟩)⟩
  have hn1 : ¬ ((cs.length : Int) = 0) := by omega
  have hn2 : ((cs.length : Int) == 0) = false := by simpa using hn1
  clear H hl hsm hbs hbg hne
  generalize hn : cs.length = n at C1 hn1 hn2
  clear hn
  have hta : ∀ (W : World) A n c, Sem.run Try.prog (Instr.typeAssert (.iface 22 (.slice A n c)) 20 22 false) W = .ok (.slice A n c) W := fun W A n c => by rfl
  go_enter Try.func19, Try.ntmps19
  go_wp2_with (first | (go_at_call 22; (with_reducible refine C1.out.mono ?_); rintro e w1 ⟨rfl, rfl⟩) | (go_at_call 32; (with_reducible refine C2.out.mono ?_); rintro e w1 ⟨A, c, p, rfl, hq, hf, hb⟩) | fail)
  refine bodyPost_ret (v := .tuple #[.slice A p.length c, .bool true]) (by simp [results, Try.results19, go_sem]) rfl ⟨A, c, p, rfl, hq, hf, hb⟩
end Go.Proofs.Ytmpniapbjoailaa.Hand
