/- Package walk: container/heap.down. -/
import Derived.Test.YtmpniapbjoailaaInv
namespace Go.Proofs.Ytmpniapbjoailaa.Hand
open Go.RowKit Go.Proofs.YtmpniapbjoailaaW.PrintWords Go.Proofs.YtmpniapbjoailaaW.PrintLast Go.Proofs.YtmpniapbjoailaaW.PrintMore
set_option linter.unusedVariables false
set_option linter.unusedSimpArgs false

def IsB (e : Ending) : Prop := ∃ b, e = .returned (.bool b)
theorem isB_mk {e : Ending} (b : Bool) (h : e = .returned (.bool b)) : IsB e := ⟨b, h⟩
set_option maxHeartbeats 8000000 in
theorem down_m {w : World} {g : Nat} {deep : Bool} {base : Nat} {ok : Nat → Prop} {v : Value} {cs : List (List ByteArray)} (H : Qu w g deep base ok v cs) (n : Nat) (hn : n ≤ cs.length) (hD : DnI (lt deep) [] cs n 0) (hl : ∀ x ∈ cs, x.length ≤ 9223372036854775806) (hsm : cs.length < 1000000000) (hbs : base ≤ w.heap.size) :
    Calls Try.prog 39 #[.iface 53 (.pointer (some ⟨g, 0, none⟩)), .int .i64 0, .int .i64 n] w fun e w' => IsB e ∧ Aside0 (∃ cs', Qu w' g deep base ok v cs' ∧ cs'.Perm cs ∧ Hp (lt deep) [] cs' n ∧ ∀ q, n ≤ q → cs'.getD q [] = cs.getD q []) ∧ Aside0 (Fr w w' g v) ∧ Aside0 (Below base w w') := by
  have R0 : Aside0 (Qu w g deep base ok v cs ∧ DnI (lt deep) [] cs n 0) := ⟨H, hD⟩
  have HL := Aside0.mk hl
  have HN := Aside0.mk hn
  have HSM := Aside0.mk hsm
  have HBS := Aside0.mk hbs
  clear H hD hl hn hsm hbs
  have m1 := meth_less
  have m2 := meth_swap
  go_enter Try.func39, Try.ntmps39
  go_wp2
  go_loopg [7] (n + 1) (fun gk s7 wr => ∃ (k : Nat) (ds : List (List ByteArray)), s7 = .int .i64 (k : Int) ∧ Aside0 (k = 0 ∧ gk = n + 1 ∨ k < n ∧ gk + k = n) ∧ Aside0 (Qu wr g deep base ok v ds ∧ ds.Perm cs ∧ DnI (lt deep) [] ds n k ∧ ∀ q, n ≤ q → ds.getD q [] = cs.getD q []) ∧ Aside0 (Fr w wr g v) ∧ Aside0 (Below base w wr))
  case atStart => exact ⟨0, cs, rfl, ⟨.inl ⟨rfl, rfl⟩⟩, ⟨R0.out.1, List.Perm.refl _, R0.out.2, fun _ _ => rfl⟩, ⟨Fr.refl⟩, ⟨Below.refl _ _⟩⟩
  case round =>
    obtain ⟨k, ds, rfl, HG, HR, HF, HB⟩ := hrel
    have HLN : Aside0 (n ≤ ds.length) := ⟨by rw [HR.out.2.1.length_eq]; exact HN.out⟩
    have HLL : Aside0 (∀ x ∈ ds, x.length ≤ 9223372036854775806) := ⟨fun x hx => HL.out x (HR.out.2.1.mem_iff.1 hx)⟩
    have HBB : Aside0 (∀ w1, Below wr.heap.size wr w1 → Below base w w1) := ⟨fun w1 hb => HB.out.trans (hb.mono (Nat.le_trans HBS.out HB.out.size))⟩
    have hk : k ≤ n := by rcases HG.out with ⟨h, _⟩ | ⟨h, _⟩ <;> omega
    have hsm := HSM.out
    have hln := HN.out
    have e1 : IntKind.i64.wrap (2 * (k : Int)) = 2 * (k : Int) := by rw [i64_w]; unfold wrap64; omega
    have e1' : wrap64 (2 * (k : Int)) = 2 * (k : Int) := by unfold wrap64; omega
    obtain ⟨a, ha⟩ : ∃ a, a = 2 * k + 1 := ⟨_, rfl⟩
    obtain ⟨b, hb⟩ : ∃ b, b = 2 * k + 2 := ⟨_, rfl⟩
    have e2 : IntKind.i64.wrap (2 * (k : Int) + 1) = (a : Int) := by rw [i64_w]; unfold wrap64; omega
    have e2' : wrap64 (2 * (k : Int) + 1) = (a : Int) := by unfold wrap64; omega
    have e3 : IntKind.i64.wrap ((a : Int) + 1) = (b : Int) := by rw [i64_w]; unfold wrap64; omega
    have e3' : wrap64 ((a : Int) + 1) = (b : Int) := by unfold wrap64; omega
    have e4 : (0 : Int) ≤ (a : Int) := by omega
    have e5 : ¬ ((a : Int) < 0) := by omega
    by_cases h1 : n ≤ a
    · have f1 : (n : Int) ≤ (a : Int) := by omega
      have HX : Aside0 (Hp (lt deep) [] ds n) := ⟨dn_none HR.out.2.2.1 (by omega)⟩
      clear hk hsm hln ha hb
      go_wp2_with fail
      go_ret
      exact ⟨isB_mk _ rfl, ⟨ds, HR.out.1, HR.out.2.1, HX.out, HR.out.2.2.2⟩, HF, HB⟩
    · have f1 : ¬ (n : Int) ≤ (a : Int) := by omega
      have f2 : (a : Int) < (n : Int) := by omega
      by_cases h2 : b < n
      · have g1 : (b : Int) < (n : Int) := by omega
        have CL1 : Aside0 (Calls Try.prog 61 #[.pointer (some ⟨g, 0, none⟩), .int .i64 (b : Int), .int .i64 (a : Int)] wr fun e w' => e = .returned (.bool (lt deep (ds.getD b []) (ds.getD a []))) ∧ Below wr.heap.size wr w') := ⟨less_m HR.out.1 b a (by have := HLN.out; omega) (by have := HLN.out; omega) HLL.out⟩
        have HC1 : Aside0 (lt deep (ds.getD b []) (ds.getD a []) = false → Least (lt deep) [] ds n k a) := ⟨fun h => by subst ha; subst hb; exact least_left (lt_sto deep) (by omega) (.inr h)⟩
        have HC2 : Aside0 (lt deep (ds.getD b []) (ds.getD a []) = true → Least (lt deep) [] ds n k b) := ⟨fun h => by subst ha; subst hb; exact least_right (lt_sto deep) (by omega) h⟩
        generalize lt deep (ds.getD b []) (ds.getD a []) = r1 at CL1 HC1 HC2
        have HLT : Aside0 (k < a ∧ k < n) := ⟨by omega, by omega⟩
        have HLT2 : Aside0 (k < b ∧ k < n) := ⟨by omega, by omega⟩
        cases r1
        · have hleast := HC1.out rfl
          clear hk hsm hln ha hb HC1 HC2
          have HLE : Aside0 (Least (lt deep) [] ds n k a) := ⟨hleast⟩
          clear hleast
          have CL2 : Aside0 (∀ w1, Below wr.heap.size wr w1 → Calls Try.prog 61 #[.pointer (some ⟨g, 0, none⟩), .int .i64 (a : Int), .int .i64 (k : Int)] w1 fun e w' => e = .returned (.bool (lt deep (ds.getD a []) (ds.getD k []))) ∧ Below w1.heap.size w1 w') := ⟨fun w1 hw => less_m (HR.out.1.below hw) a k (by have := HLE.out.2.1; have := HLN.out; omega) (by have := HLE.out.2.1; have := HLN.out; have := HLT.out.2; omega) HLL.out⟩
          have CS : Aside0 (∀ w2, Below wr.heap.size wr w2 → Calls Try.prog 64 #[.pointer (some ⟨g, 0, none⟩), .int .i64 (k : Int), .int .i64 (a : Int)] w2 fun e w' => e = .returned (.tuple #[]) ∧ Aside0 (Qu w' g deep base ok v (sw [] ds k a)) ∧ Aside0 (Fr w2 w' g v) ∧ Aside0 (Below base w2 w')) := ⟨fun w2 hw => swap_m (HR.out.1.below hw) k a (by have := HLE.out.2.1; have := HLN.out; have := HLT.out.2; omega) (by have := HLE.out.2.1; have := HLN.out; omega)⟩
          have HST : Aside0 (lt deep (ds.getD a []) (ds.getD k []) = false → Hp (lt deep) [] ds n) := ⟨fun h => dn_stop (lt_sto deep) HR.out.2.2.1 HLE.out h⟩
          have HSD : Aside0 (lt deep (ds.getD a []) (ds.getD k []) = true → DnI (lt deep) [] (sw [] ds k a) n a) := ⟨fun h => dn_step (lt_sto deep) (by have := HLN.out; omega) HR.out.2.2.1 HLE.out h⟩
          generalize lt deep (ds.getD a []) (ds.getD k []) = r at *
          cases r
          · go_wp2_with (first | (first | (go_at_call 61; (with_reducible refine (CL2.out w1 HB1.out).mono ?_); rintro e w2 ⟨rfl, hb2⟩; have HB2 : Aside0 (Below wr.heap.size wr w2) := ⟨below_step HB1.out hb2⟩; clear hb2) | (go_at_call 61; (with_reducible refine CL1.out.mono ?_); rintro e w1 ⟨rfl, hb1⟩; have HB1 := Aside0.mk hb1; clear hb1)) | (go_at_call 64; (with_reducible refine (CS.out w2 HB2.out).mono ?_); rintro e w3 ⟨rfl, HQ3, HF3, HB3⟩) | fail)
            go_ret
            exact ⟨isB_mk _ rfl, ⟨ds, HR.out.1.below HB2.out, HR.out.2.1, HST.out (by first | trivial | rfl), HR.out.2.2.2⟩, ⟨Kept.below HF.out HB2.out⟩, ⟨HBB.out _ HB2.out⟩⟩
          · go_wp2_with (first | (first | (go_at_call 61; (with_reducible refine (CL2.out w1 HB1.out).mono ?_); rintro e w2 ⟨rfl, hb2⟩; have HB2 : Aside0 (Below wr.heap.size wr w2) := ⟨below_step HB1.out hb2⟩; clear hb2) | (go_at_call 61; (with_reducible refine CL1.out.mono ?_); rintro e w1 ⟨rfl, hb1⟩; have HB1 := Aside0.mk hb1; clear hb1)) | (go_at_call 64; (with_reducible refine (CS.out w2 HB2.out).mono ?_); rintro e w3 ⟨rfl, HQ3, HF3, HB3⟩) | fail)
            go_roundg (n - a)
            case measure => have := HLT.out.1; have := HLE.out.2.1; have := HG.out; omega
            case rel => exact ⟨a, sw [] ds k a, rfl, ⟨by have := HLE.out.2.1; omega⟩, ⟨HQ3.out, (sw_perm (by have := HLE.out.2.1; have := HLN.out; have := HLT.out.2; omega) (by have := HLE.out.2.1; have := HLN.out; omega)).trans HR.out.2.1, HSD.out (by first | trivial | rfl), fun q hq => by rw [sw_get (by have := HLE.out.2.1; have := HLN.out; have := HLT.out.2; omega) (by have := HLE.out.2.1; have := HLN.out; omega), if_neg (by have := HLE.out.2.1; omega), if_neg (by have := HLE.out.2.1; have := HLT.out.2; omega)]; exact HR.out.2.2.2 q hq⟩, ⟨Fr.trans (Kept.below HF.out HB2.out) At.refl HF3.out⟩, ⟨(HBB.out _ HB2.out).trans HB3.out⟩⟩
        · have hleast := HC2.out rfl
          have HLT := HLT2
          clear hk hsm hln ha hb HC1 HC2
          have HLE : Aside0 (Least (lt deep) [] ds n k b) := ⟨hleast⟩
          clear hleast
          have CL2 : Aside0 (∀ w1, Below wr.heap.size wr w1 → Calls Try.prog 61 #[.pointer (some ⟨g, 0, none⟩), .int .i64 (b : Int), .int .i64 (k : Int)] w1 fun e w' => e = .returned (.bool (lt deep (ds.getD b []) (ds.getD k []))) ∧ Below w1.heap.size w1 w') := ⟨fun w1 hw => less_m (HR.out.1.below hw) b k (by have := HLE.out.2.1; have := HLN.out; omega) (by have := HLE.out.2.1; have := HLN.out; have := HLT.out.2; omega) HLL.out⟩
          have CS : Aside0 (∀ w2, Below wr.heap.size wr w2 → Calls Try.prog 64 #[.pointer (some ⟨g, 0, none⟩), .int .i64 (k : Int), .int .i64 (b : Int)] w2 fun e w' => e = .returned (.tuple #[]) ∧ Aside0 (Qu w' g deep base ok v (sw [] ds k b)) ∧ Aside0 (Fr w2 w' g v) ∧ Aside0 (Below base w2 w')) := ⟨fun w2 hw => swap_m (HR.out.1.below hw) k b (by have := HLE.out.2.1; have := HLN.out; have := HLT.out.2; omega) (by have := HLE.out.2.1; have := HLN.out; omega)⟩
          have HST : Aside0 (lt deep (ds.getD b []) (ds.getD k []) = false → Hp (lt deep) [] ds n) := ⟨fun h => dn_stop (lt_sto deep) HR.out.2.2.1 HLE.out h⟩
          have HSD : Aside0 (lt deep (ds.getD b []) (ds.getD k []) = true → DnI (lt deep) [] (sw [] ds k b) n b) := ⟨fun h => dn_step (lt_sto deep) (by have := HLN.out; omega) HR.out.2.2.1 HLE.out h⟩
          generalize lt deep (ds.getD b []) (ds.getD k []) = r at *
          cases r
          · go_wp2_with (first | (first | (go_at_call 61; (with_reducible refine (CL2.out w1 HB1.out).mono ?_); rintro e w2 ⟨rfl, hb2⟩; have HB2 : Aside0 (Below wr.heap.size wr w2) := ⟨below_step HB1.out hb2⟩; clear hb2) | (go_at_call 61; (with_reducible refine CL1.out.mono ?_); rintro e w1 ⟨rfl, hb1⟩; have HB1 := Aside0.mk hb1; clear hb1)) | (go_at_call 64; (with_reducible refine (CS.out w2 HB2.out).mono ?_); rintro e w3 ⟨rfl, HQ3, HF3, HB3⟩) | fail)
            go_ret
            exact ⟨isB_mk _ rfl, ⟨ds, HR.out.1.below HB2.out, HR.out.2.1, HST.out (by first | trivial | rfl), HR.out.2.2.2⟩, ⟨Kept.below HF.out HB2.out⟩, ⟨HBB.out _ HB2.out⟩⟩
          · go_wp2_with (first | (first | (go_at_call 61; (with_reducible refine (CL2.out w1 HB1.out).mono ?_); rintro e w2 ⟨rfl, hb2⟩; have HB2 : Aside0 (Below wr.heap.size wr w2) := ⟨below_step HB1.out hb2⟩; clear hb2) | (go_at_call 61; (with_reducible refine CL1.out.mono ?_); rintro e w1 ⟨rfl, hb1⟩; have HB1 := Aside0.mk hb1; clear hb1)) | (go_at_call 64; (with_reducible refine (CS.out w2 HB2.out).mono ?_); rintro e w3 ⟨rfl, HQ3, HF3, HB3⟩) | fail)
            go_roundg (n - b)
            case measure => have := HLT.out.1; have := HLE.out.2.1; have := HG.out; omega
            case rel => exact ⟨b, sw [] ds k b, rfl, ⟨by have := HLE.out.2.1; omega⟩, ⟨HQ3.out, (sw_perm (by have := HLE.out.2.1; have := HLN.out; have := HLT.out.2; omega) (by have := HLE.out.2.1; have := HLN.out; omega)).trans HR.out.2.1, HSD.out (by first | trivial | rfl), fun q hq => by rw [sw_get (by have := HLE.out.2.1; have := HLN.out; have := HLT.out.2; omega) (by have := HLE.out.2.1; have := HLN.out; omega), if_neg (by have := HLE.out.2.1; omega), if_neg (by have := HLE.out.2.1; have := HLT.out.2; omega)]; exact HR.out.2.2.2 q hq⟩, ⟨Fr.trans (Kept.below HF.out HB2.out) At.refl HF3.out⟩, ⟨(HBB.out _ HB2.out).trans HB3.out⟩⟩
      · have g1 : ¬ (b : Int) < (n : Int) := by omega
        have g2 : (n : Int) ≤ (b : Int) := by omega
        have hleast : Least (lt deep) [] ds n k a := by subst ha; subst hb; exact least_left (lt_sto deep) (by omega) (.inl (by omega))
        have HLT : Aside0 (k < a ∧ k < n) := ⟨by omega, by omega⟩
        clear hk hsm hln ha hb
        have HLE : Aside0 (Least (lt deep) [] ds n k a) := ⟨hleast⟩
        clear hleast
        have CL2 : Aside0 (∀ w1, Below wr.heap.size wr w1 → Calls Try.prog 61 #[.pointer (some ⟨g, 0, none⟩), .int .i64 (a : Int), .int .i64 (k : Int)] w1 fun e w' => e = .returned (.bool (lt deep (ds.getD a []) (ds.getD k []))) ∧ Below w1.heap.size w1 w') := ⟨fun w1 hw => less_m (HR.out.1.below hw) a k (by have := HLE.out.2.1; have := HLN.out; omega) (by have := HLE.out.2.1; have := HLN.out; have := HLT.out.2; omega) HLL.out⟩
        have CS : Aside0 (∀ w2, Below wr.heap.size wr w2 → Calls Try.prog 64 #[.pointer (some ⟨g, 0, none⟩), .int .i64 (k : Int), .int .i64 (a : Int)] w2 fun e w' => e = .returned (.tuple #[]) ∧ Aside0 (Qu w' g deep base ok v (sw [] ds k a)) ∧ Aside0 (Fr w2 w' g v) ∧ Aside0 (Below base w2 w')) := ⟨fun w2 hw => swap_m (HR.out.1.below hw) k a (by have := HLE.out.2.1; have := HLN.out; have := HLT.out.2; omega) (by have := HLE.out.2.1; have := HLN.out; omega)⟩
        have HST : Aside0 (lt deep (ds.getD a []) (ds.getD k []) = false → Hp (lt deep) [] ds n) := ⟨fun h => dn_stop (lt_sto deep) HR.out.2.2.1 HLE.out h⟩
        have HSD : Aside0 (lt deep (ds.getD a []) (ds.getD k []) = true → DnI (lt deep) [] (sw [] ds k a) n a) := ⟨fun h => dn_step (lt_sto deep) (by have := HLN.out; omega) HR.out.2.2.1 HLE.out h⟩
        generalize lt deep (ds.getD a []) (ds.getD k []) = r at *
        cases r
        · go_wp2_with (first | (go_at_call 61; (with_reducible refine (CL2.out wr (Below.refl _ _)).mono ?_); rintro e w2 ⟨rfl, hb2⟩; have HB2 : Aside0 (Below wr.heap.size wr w2) := ⟨hb2⟩; clear hb2) | (go_at_call 64; (with_reducible refine (CS.out w2 HB2.out).mono ?_); rintro e w3 ⟨rfl, HQ3, HF3, HB3⟩) | fail)
          go_ret
          exact ⟨isB_mk _ rfl, ⟨ds, HR.out.1.below HB2.out, HR.out.2.1, HST.out (by first | trivial | rfl), HR.out.2.2.2⟩, ⟨Kept.below HF.out HB2.out⟩, ⟨HBB.out _ HB2.out⟩⟩
        · go_wp2_with (first | (go_at_call 61; (with_reducible refine (CL2.out wr (Below.refl _ _)).mono ?_); rintro e w2 ⟨rfl, hb2⟩; have HB2 : Aside0 (Below wr.heap.size wr w2) := ⟨hb2⟩; clear hb2) | (go_at_call 64; (with_reducible refine (CS.out w2 HB2.out).mono ?_); rintro e w3 ⟨rfl, HQ3, HF3, HB3⟩) | fail)
          go_roundg (n - a)
          case measure => have := HLT.out.1; have := HLE.out.2.1; have := HG.out; omega
          case rel => exact ⟨a, sw [] ds k a, rfl, ⟨by have := HLE.out.2.1; omega⟩, ⟨HQ3.out, (sw_perm (by have := HLE.out.2.1; have := HLN.out; have := HLT.out.2; omega) (by have := HLE.out.2.1; have := HLN.out; omega)).trans HR.out.2.1, HSD.out (by first | trivial | rfl), fun q hq => by rw [sw_get (by have := HLE.out.2.1; have := HLN.out; have := HLT.out.2; omega) (by have := HLE.out.2.1; have := HLN.out; omega), if_neg (by have := HLE.out.2.1; omega), if_neg (by have := HLE.out.2.1; have := HLT.out.2; omega)]; exact HR.out.2.2.2 q hq⟩, ⟨Fr.trans (Kept.below HF.out HB2.out) At.refl HF3.out⟩, ⟨(HBB.out _ HB2.out).trans HB3.out⟩⟩
end Go.Proofs.Ytmpniapbjoailaa.Hand
