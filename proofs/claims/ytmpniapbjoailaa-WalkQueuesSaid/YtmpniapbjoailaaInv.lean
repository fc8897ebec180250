/- Package walk: the heap's methods behind its interface; container/heap.up. -/
import Derived.Test.YtmpniapbjoailaaWalkD
namespace Go.Proofs.Ytmpniapbjoailaa.Hand
open Go.RowKit Go.Proofs.YtmpniapbjoailaaW.PrintWords Go.Proofs.YtmpniapbjoailaaW.PrintLast Go.Proofs.YtmpniapbjoailaaW.PrintMore
set_option linter.unusedVariables false
set_option linter.unusedSimpArgs false
theorem meth_push (W : World) (a : Addr) : (method 193 53 (.pointer (some a)) "Push").run Try.prog W = .ok (63, .pointer (some a)) W := by rfl
theorem meth_pop (W : World) (a : Addr) : (method 193 53 (.pointer (some a)) "Pop").run Try.prog W = .ok (62, .pointer (some a)) W := by rfl
theorem meth_less (W : World) (a : Addr) : (method 193 53 (.pointer (some a)) "Less").run Try.prog W = .ok (61, .pointer (some a)) W := by rfl
theorem meth_swap (W : World) (a : Addr) : (method 193 53 (.pointer (some a)) "Swap").run Try.prog W = .ok (64, .pointer (some a)) W := by rfl
theorem meth_len (W : World) (a : Addr) : (method 193 53 (.pointer (some a)) "Len").run Try.prog W = .ok (33, .pointer (some a)) W := by rfl
theorem less_m {w : World} {g : Nat} {deep : Bool} {base : Nat} {ok : Nat → Prop} {v : Value} {cs : List (List ByteArray)} (H : Qu w g deep base ok v cs) (i j : Nat) (hi : i < cs.length) (hj : j < cs.length) (hl : ∀ x ∈ cs, x.length ≤ 9223372036854775806) :
    Calls Try.prog 61 #[.pointer (some ⟨g, 0, none⟩), .int .i64 i, .int .i64 j] w fun e w' => e = .returned (.bool (lt deep (cs.getD i []) (cs.getD j []))) ∧ Below w.heap.size w w' := by
  cases deep
  · exact less_m9 H i j hi hj hl
  · exact less_m11 H i j hi hj hl

set_option maxHeartbeats 4000000 in
theorem up_m {w : World} {g : Nat} {deep : Bool} {base : Nat} {ok : Nat → Prop} {v : Value} {cs : List (List ByteArray)} (H : Qu w g deep base ok v cs) (j : Nat) (hj : j < cs.length) (hU : UpI (lt deep) [] cs cs.length j) (hl : ∀ x ∈ cs, x.length ≤ 9223372036854775806) (hbs : base ≤ w.heap.size) :
    Calls Try.prog 38 #[.iface 53 (.pointer (some ⟨g, 0, none⟩)), .int .i64 j] w fun e w' => e = .returned (.tuple #[]) ∧ Aside0 (∃ cs', Qu w' g deep base ok v cs' ∧ cs'.Perm cs ∧ Hp (lt deep) [] cs' cs'.length) ∧ Aside0 (Fr w w' g v) ∧ Aside0 (Below base w w') := by
  have R0 : Aside0 (Qu w g deep base ok v cs ∧ cs.Perm cs ∧ UpI (lt deep) [] cs cs.length j) := ⟨H, List.Perm.refl _, hU⟩
  have HL := Aside0.mk hl
  have HJ := Aside0.mk hj
  have HBS := Aside0.mk hbs
  clear H hU hl hj hbs
  have m1 := meth_less
  have m2 := meth_swap
  go_enter Try.func38, Try.ntmps38
  go_wp2
  go_loopg [1] (j + 1) (fun gk s1 wr => ∃ (k : Nat) (ds : List (List ByteArray)), s1 = .int .i64 (k : Int) ∧ Aside0 (gk = k + 1) ∧ Aside0 (k < cs.length) ∧ Aside0 (Qu wr g deep base ok v ds ∧ ds.Perm cs ∧ UpI (lt deep) [] ds cs.length k) ∧ Aside0 (Fr w wr g v) ∧ Aside0 (Below base w wr))
  case atStart => exact ⟨j, cs, rfl, ⟨rfl⟩, HJ, R0, ⟨Fr.refl⟩, ⟨Below.refl _ _⟩⟩
  case round =>
    obtain ⟨k, ds, rfl, HG, HK, HR, HF, HB⟩ := hrel
    by_cases h0 : k = 0
    · subst h0
      rw [show (((0 : Nat) : Int)) = 0 from rfl]
      go_wp2
      obtain ⟨r1, r2, r3⟩ := HR.out
      refine bodyPost_end (v := .tuple #[]) (by simp [results, Try.results38, go_sem]) rfl ⟨rfl, ⟨ds, r1, r2, ?_⟩, HF, HB⟩
      rw [r2.length_eq]
      exact up_stop r3 (.inl rfl)
    · have r0 := HR.out
      have hlen := r0.2.1.length_eq
      have hk := HK.out
      have hik : par k < k := by unfold par; omega
      have hl' : ∀ x ∈ ds, x.length ≤ 9223372036854775806 := fun x hx => HL.out x (r0.2.1.mem_iff.1 hx)
      have hmax : ds.length ≤ 9223372036854775807 := by obtain ⟨_, _, _, _, h, _⟩ := r0.1.form k (by omega); exact h
      have CL : Aside0 (Calls Try.prog 61 #[.pointer (some ⟨g, 0, none⟩), .int .i64 (k : Int), .int .i64 (par k : Int)] wr fun e w' => e = .returned (.bool (lt deep (ds.getD k []) (ds.getD (par k) []))) ∧ Below wr.heap.size wr w') := ⟨less_m r0.1 k (par k) (by omega) (by omega) hl'⟩
      have CS : Aside0 (∀ w1, Below wr.heap.size wr w1 → Calls Try.prog 64 #[.pointer (some ⟨g, 0, none⟩), .int .i64 (par k : Int), .int .i64 (k : Int)] w1 fun e w' => e = .returned (.tuple #[]) ∧ Aside0 (Qu w' g deep base ok v (sw [] ds (par k) k)) ∧ Aside0 (Fr w1 w' g v) ∧ Aside0 (Below base w1 w')) := ⟨fun w1 hw => swap_m (r0.1.below hw) (par k) k (by omega) (by omega)⟩
      have HSU : Aside0 (lt deep (ds.getD k []) (ds.getD (par k) []) = true → UpI (lt deep) [] (sw [] ds (par k) k) cs.length (par k)) := ⟨fun h => up_step (lt_sto deep) (by omega) r0.2.2 (by omega) hk h⟩
      have HSP : Aside0 ((sw [] ds (par k) k).Perm cs) := ⟨(sw_perm (by omega) (by omega)).trans r0.2.1⟩
      have HST : Aside0 (lt deep (ds.getD k []) (ds.getD (par k) []) = false → Hp (lt deep) [] ds ds.length) := ⟨fun h => by rw [hlen]; exact up_stop r0.2.2 (.inr h)⟩
      have hq : Int.tdiv ((k : Int) - 1) 2 = (par k : Int) := by rw [show par k = (k - 1) / 2 from rfl, Int.tdiv_eq_ediv_of_nonneg (by omega)]; omega
      have HIK := Aside0.mk hik
      generalize hi : par k = i at *
      have e1 : wrap64 ((k : Int) - 1) = (k : Int) - 1 := by unfold wrap64; omega
      have e2 : wrap64 (i : Int) = (i : Int) := by unfold wrap64; omega
      have e3 : IntKind.i64.wrap ((k : Int) - 1) = (k : Int) - 1 := by rw [i64_w, e1]
      have e4 : IntKind.i64.wrap (i : Int) = (i : Int) := by rw [i64_w, e2]
      have e5 : ¬ (i : Int) = (k : Int) := by omega
      have HD : Aside0 (Below base wr wr) := ⟨Below.refl _ _⟩
      clear r0 hlen hk hl' hmax hi hik
      have e6 : ((i : Int) == (k : Int)) = false := by simpa using e5
      have HBB : Aside0 (∀ w1, Below wr.heap.size wr w1 → Below base w w1) := ⟨fun w1 hb => HB.out.trans (hb.mono (Nat.le_trans HBS.out HB.out.size))⟩
      generalize lt deep (ds.getD k []) (ds.getD i []) = r at *
      cases r
      · go_wp2_with (first | (go_at_call 61; (with_reducible refine CL.out.mono ?_); rintro e w1 ⟨rfl, hb⟩; have HB1 := Aside0.mk hb; clear hb) | fail)
        refine bodyPost_end (v := .tuple #[]) (by simp [results, Try.results38, go_sem]) rfl ⟨rfl, ⟨ds, HR.out.1.below HB1.out, HR.out.2.1, HST.out (by first | trivial | rfl)⟩, ⟨Kept.below HF.out HB1.out⟩, ⟨HBB.out _ HB1.out⟩⟩
      · go_wp2_with (first | (go_at_call 61; (with_reducible refine CL.out.mono ?_); rintro e w1 ⟨rfl, hb⟩; have HB1 := Aside0.mk hb; clear hb) | (go_at_call 64; (with_reducible refine (CS.out w1 HB1.out).mono ?_); rintro e w2 ⟨rfl, HQ2, HF2, HB2⟩) | fail)
        go_roundg (i + 1)
        case measure => have := HIK.out; have := HG.out; omega
        case rel => exact ⟨i, sw [] ds i k, rfl, ⟨rfl⟩, ⟨Nat.lt_trans HIK.out HK.out⟩, ⟨HQ2.out, HSP.out, HSU.out (by first | trivial | rfl)⟩, ⟨Fr.trans (Kept.below HF.out HB1.out) At.refl HF2.out⟩, ⟨(HBB.out _ HB1.out).trans HB2.out⟩⟩
end Go.Proofs.Ytmpniapbjoailaa.Hand
