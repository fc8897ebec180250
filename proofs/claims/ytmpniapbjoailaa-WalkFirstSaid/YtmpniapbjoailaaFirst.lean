/- Law WalkFirst of package walk: the walk. -/
import Derived.Test.YtmpniapbjoailaaLight
namespace Go.Proofs.Ytmpniapbjoailaa.Hand
open Go.RowKit Go.Proofs.YtmpniapbjoailaaW.PrintWords Go.Proofs.YtmpniapbjoailaaW.PrintLast Go.Proofs.YtmpniapbjoailaaW.PrintMore
set_option linter.unusedVariables false
set_option linter.unusedSimpArgs false

set_option maxHeartbeats 40000000 in
theorem first_walk (deep : Bool) (A : Option Addr) (c n : Nat) (ps : List (List ByteArray)) (hn : n = ps.length) (w : World) (hr : Kd.C dP w A ps.length ps) (hc : ps.length ≤ c) :
    Calls Try.prog 7 #[.bool deep, .slice A n c] w fun e w' => e = .returned (.bool true) ∧ Below w.heap.size w w' := by
  have C8 := Aside0.mk awake_m
  have CL := Aside0.mk (light_m A c n ps hn w hr hc)
  cases hlt : lightOf ps with
  | false =>
    rw [hlt] at CL
    clear hlt hr hc hn
    go_enter Try.func7, Try.ntmps7
    go_wp2_with (first | (go_at_call 15; (with_reducible refine CL.out.mono ?_); rintro e w1 ⟨rfl, hb⟩; have HB1 := Aside0.mk hb; clear hb) | (go_at_call 8; (with_reducible refine (C8.out _).mono ?_); rintro e w2 ⟨rfl, hb⟩; have HB2 := Aside0.mk hb; clear hb) | fail)
    go_ret
    exact ⟨rfl, below_step HB1.out HB2.out⟩
  | true =>
    rw [hlt] at CL
    obtain ⟨h200, hlen⟩ := light_true hlt
    by_cases h100 : (100 : Int) < (n : Int)
    · clear hlt hr hc hn h200 hlen
      go_enter Try.func7, Try.ntmps7
      go_wp2_with (first | (go_at_call 15; (with_reducible refine CL.out.mono ?_); rintro e w1 ⟨rfl, hb⟩; have HB1 := Aside0.mk hb; clear hb) | (go_at_call 8; (with_reducible refine (C8.out _).mono ?_); rintro e w2 ⟨rfl, hb⟩; have HB2 := Aside0.mk hb; clear hb) | fail)
      go_ret
      exact ⟨rfl, below_step HB1.out HB2.out⟩
    have HR := Aside0.mk hr
    have HL := Aside0.mk hlen
    have HN := Aside0.mk hn
    have HNS : Aside0 (n ≤ 100) := ⟨by omega⟩
    have CN := Aside0.mk (new_calls deep)
    have hn9 : n < 100000000 := by omega
    clear hlt hr hc hn h200 hlen
    go_enter Try.func7, Try.ntmps7
    go_wp2_with (first | (go_at_call 15; (with_reducible refine CL.out.mono ?_); rintro e w1 ⟨rfl, hb⟩; have HB1 := Aside0.mk hb; clear hb) | (go_at_call 16; (with_reducible refine (CN.out w1).mono ?_); rintro e w2 ⟨rfl, hw1⟩; have HW1 := Aside0.mk hw1; clear hw1) | fail)
    have HR1 := Aside0.mk (Kd.C_below HR.out HB1.out)
    go_loopg [6] n (fun gk s6 wr => ∃ (k : Nat) (v : Value) (ds : List (List ByteArray)), s6 = .int .i64 (k : Int) ∧ Aside0 (gk + k = n) ∧ Aside0 (QU wr w1.heap.size deep w1.heap.size (fun k => k ≠ w1.heap.size) v ds) ∧ Aside0 (ds.Perm (ps.take k)) ∧ Aside0 (Below w1.heap.size w1 wr))
    case atStart => exact ⟨0, _, _, rfl, ⟨rfl⟩, ⟨by rw [HW1.out]; exact QU.start w1 deep⟩, ⟨List.Perm.refl _⟩, ⟨by rw [HW1.out]; exact below_alloc (Below.refl _ _) _⟩⟩
    case round =>
      obtain ⟨k, v, ds, rfl, HG, HQ, HP, HB⟩ := hrel
      by_cases hk : (k : Int) < (n : Int)
      · have hk0 : (0 : Int) ≤ (k : Int) := by omega
        have hkp : k < ps.length := by have := HN.out; omega
        obtain ⟨ad, A1, c1, e1, hx, hl1, hC⟩ := QA.at_L2 (Kd.C_below HR1.out HB.out) (k : Int) hk0 (by have := HN.out; omega)
        cases e1
        rw [Int.toNat_natCast] at hx
        have HM : Aside0 (∀ y ∈ ds ++ [QA.rd_L2 ps (k : Int)], y.length < 1000000000) := ⟨fun y hy => by
          have h1 : y ∈ ps.take k ++ [QA.rd_L2 ps (k : Int)] := (List.Perm.append_right _ HP.out).mem_iff.1 hy
          rw [rd_take hkp] at h1
          have := HL.out y (List.mem_of_mem_take h1)
          omega⟩
        have CP := Aside0.mk (qpush_m HQ.out A1 c1 _ (QA.rd_L2 ps (k : Int)) rfl hC hl1 HM.out (by have h1 := HP.out.length_eq; have := HNS.out; have := HN.out; simp at h1; omega) HB.out.size (Nat.le_refl _))
        have HTK : Aside0 (ps.take k ++ [QA.rd_L2 ps (k : Int)] = ps.take (k + 1)) := ⟨rd_take hkp⟩
        generalize (QA.rd_L2 ps (k : Int)).length = m1 at *
        have e3 : IntKind.i64.wrap ((k : Int) + 1) = ((k + 1 : Nat) : Int) := by rw [i64_w]; unfold wrap64; omega
        have e3' : wrap64 ((k : Int) + 1) = ((k + 1 : Nat) : Int) := by unfold wrap64; omega
        have HK : Aside0 (k < n) := ⟨by omega⟩
        clear hl1 hC hkp
        go_wp2_with (first | (go_at_call 17; (with_reducible refine CP.out.mono ?_); rintro e w4 ⟨rfl, hq2, hf2, hb2⟩) | fail)
        go_roundg (n - (k + 1))
        case measure => have := HG.out; have := HK.out; omega
        case rel =>
          obtain ⟨v', cs', ha, hq, hp⟩ := hq2.out
          exact ⟨k + 1, v', cs', by first | rfl | (simp; done), ⟨by have := HK.out; omega⟩, ⟨hq.1.free, hq.2⟩, ⟨hp.trans (by rw [← HTK.out]; exact List.Perm.append_right _ HP.out)⟩, ⟨HB.out.trans hb2.out⟩⟩
      · have hk2 : ¬ (k : Int) < (n : Int) := hk
        have HPS : Aside0 (ds.Perm ps) := ⟨by have h1 := HP.out; rwa [List.take_of_length_le (by have := HN.out; omega)] at h1⟩
        go_wp2_with fail
        go_loopg [7, 8] n (fun gk s7 s8 wx => ∃ (k2 : Nat) (v2 : Value) (es : List (List ByteArray)) (last : List ByteArray) (AL : Option Addr) (cL : Nat), s8 = .int .i64 (k2 : Int) ∧ s7 = .slice AL last.length cL ∧ Aside0 (gk + k2 = n) ∧ Aside0 (es.length + k2 = n) ∧ Aside0 (QU wx w1.heap.size deep w1.heap.size (fun k => k ≠ w1.heap.size) v2 es) ∧ Aside0 (v2.ownBlock = v.ownBlock) ∧ Aside0 (Kd.R Kd.string 9 wx w1.heap.size (fun k => k ≠ w1.heap.size ∧ v.ownBlock ≠ some k) (.slice AL last.length cL) last) ∧ Aside0 (last.length ≤ 1000 ∧ (0 < k2 → ∀ y ∈ es, lt deep y last = false)) ∧ Aside0 (∀ y ∈ es, y ∈ ps) ∧ Aside0 (Below w1.heap.size w1 wx))
        case atStart => exact ⟨0, v, ds, [], none, 0, rfl, rfl, ⟨rfl⟩, ⟨by have h1 := HPS.out.length_eq; have h2 := HN.out; omega⟩, HQ, ⟨rfl⟩, ⟨Kd.R_nil _ _ _ _ _⟩, ⟨by simp, fun h => absurd h (Nat.lt_irrefl 0)⟩, ⟨fun y hy => HPS.out.mem_iff.1 hy⟩, HB⟩
        case round => as_aux_lemma =>
          obtain ⟨k2, v2, es, last, AL, cL, rfl, rfl, HG2, HE2, HQ2, HV2, HR2, HL2, HP2, HB2⟩ := hrel
          by_cases hk3 : (k2 : Int) < (n : Int)
          · have hne : 0 < es.length := by have := HE2.out; omega
            have HNE := Aside0.mk hne
            have CP := Aside0.mk (qpop_m HQ2.out hne (fun y hy => by have := HL.out y (HP2.out y hy); omega) (by have := HE2.out; have := HNS.out; omega) HB2.out.size (Nat.le_refl _))
            have hs1 : IntKind.i64.wrap ((n : Int) - 1) = (n : Int) - 1 := by rw [i64_w]; unfold wrap64; omega
            obtain ⟨m9, hm9⟩ : ∃ m, m + 1 = es.length := ⟨es.length - 1, by omega⟩
            have hs2 : IntKind.i64.wrap ((n : Int) - 1 - (k2 : Int)) = (m9 : Int) := by rw [i64_w]; have h2 := HE2.out; unfold wrap64; omega
            have hs1' : wrap64 ((n : Int) - 1) = (n : Int) - 1 := by rw [← i64_w]; exact hs1
            have hs2' : wrap64 ((n : Int) - 1 - (k2 : Int)) = (m9 : Int) := by rw [← i64_w]; exact hs2
            have HM9 := Aside0.mk hm9
            have e3 : IntKind.i64.wrap ((k2 : Int) + 1) = ((k2 + 1 : Nat) : Int) := by rw [i64_w]; unfold wrap64; omega
            have e3' : wrap64 ((k2 : Int) + 1) = ((k2 + 1 : Nat) : Int) := by unfold wrap64; omega
            have HK3 : Aside0 (k2 < n) := ⟨Int.ofNat_lt.mp hk3⟩
            clear hne hm9
            by_cases h00 : k2 = 0
            · have HZ := Aside0.mk h00
              have hz : ¬ (0 : Int) < (k2 : Int) := by omega
              clear h00
              go_wp2_with (first | (go_at_call 19; (with_reducible refine CP.out.mono ?_); rintro e w3 ⟨A3, c3, p, rfl, ⟨okp, v3, es', p1, p2, p3, p4, p5, p6⟩, hf, hb⟩; have HPR : Aside0 (Kd.R Kd.string 9 w3 w1.heap.size (fun k => k ≠ w1.heap.size ∧ v.ownBlock ≠ some k) (.slice A3 p.length c3) p) := ⟨Kd.R_mono p2 (fun k hk => ⟨(p1 k hk).2.1, fun e => (p1 k hk).2.2 (by rw [HV2.out]; exact e)⟩)⟩; have HRL : Aside0 (Kd.R Kd.string 9 w3 w1.heap.size (fun k => k ≠ w1.heap.size ∧ v.ownBlock ≠ some k) (.slice AL last.length cL) last) := ⟨Kd.R_step HR2.out (fun k hk hlt => hf.out.2 k hlt (fun hh => hh.elim (fun hh => hk.1 hh) (fun hh => hk.2 (by rw [← HV2.out]; exact hh))))⟩; have HV3 := Aside0.mk p3; have HQ3 := Aside0.mk p4; have HP3 := Aside0.mk p5; have HM6 := Aside0.mk p6; have HW3 : Aside0 (Below w1.heap.size w1 w3) := ⟨HB2.out.trans hb.out⟩; have HPM : Aside0 (p ∈ es) := ⟨p5.mem_iff.1 (List.mem_cons_self ..)⟩; have HPL : Aside0 (p.length ≤ 1000) := ⟨HL.out p (HP2.out p HPM.out)⟩; have CLN : Aside0 (Calls Try.prog 22 #[.pointer (some ⟨w1.heap.size, 0, none⟩)] w3 fun e w' => e = .returned (.int .i64 (m9 : Int)) ∧ w3 = w') := ⟨by have h := qlen_m p4; have h2 := p5.length_eq; have h3 := HM9.out; rw [List.length_cons] at h2; rw [show es'.length = m9 from by omega] at h; exact h⟩; clear p1 p2 p3 p4 p5 p6 hf hb) | (go_at_call 22; (with_reducible refine CLN.out.mono ?_); rintro e w4 ⟨rfl, rfl⟩) | fail)
              have HZW : Aside0 (Below w3.heap.size w3 w3) := ⟨Below.refl _ _⟩
              go_roundg (n - (k2 + 1))
              case measure => have := HG2.out; have := HK3.out; omega
              case rel =>
                have h5 := HP3.out.length_eq
                rw [List.length_cons] at h5
                exact ⟨k2 + 1, v3, es', p, A3, c3, by first | rfl | (simp; done), rfl, ⟨by have := HK3.out; omega⟩, ⟨by have := HE2.out; omega⟩, ⟨HQ3.out.below HZW.out⟩, ⟨HV3.out.trans HV2.out⟩, ⟨Kd.R_below HPR.out HZW.out⟩, ⟨HPL.out, fun _ => HM6.out⟩, ⟨fun y hy => HP2.out y (HP3.out.mem_iff.1 (List.mem_cons_of_mem _ hy))⟩, ⟨below_step HW3.out HZW.out⟩⟩
            · have HZ := Aside0.mk h00
              have hz : (0 : Int) < (k2 : Int) := by omega
              clear h00
              cases deep
              · as_aux_lemma =>
                go_wp2_with (first | (go_at_call 19; (with_reducible refine CP.out.mono ?_); rintro e w3 ⟨A3, c3, p, rfl, ⟨okp, v3, es', p1, p2, p3, p4, p5, p6⟩, hf, hb⟩; have HPR : Aside0 (Kd.R Kd.string 9 w3 w1.heap.size (fun k => k ≠ w1.heap.size ∧ v.ownBlock ≠ some k) (.slice A3 p.length c3) p) := ⟨Kd.R_mono p2 (fun k hk => ⟨(p1 k hk).2.1, fun e => (p1 k hk).2.2 (by rw [HV2.out]; exact e)⟩)⟩; have HRL : Aside0 (Kd.R Kd.string 9 w3 w1.heap.size (fun k => k ≠ w1.heap.size ∧ v.ownBlock ≠ some k) (.slice AL last.length cL) last) := ⟨Kd.R_step HR2.out (fun k hk hlt => hf.out.2 k hlt (fun hh => hh.elim (fun hh => hk.1 hh) (fun hh => hk.2 (by rw [← HV2.out]; exact hh))))⟩; have HV3 := Aside0.mk p3; have HQ3 := Aside0.mk p4; have HP3 := Aside0.mk p5; have HM6 := Aside0.mk p6; have HW3 : Aside0 (Below w1.heap.size w1 w3) := ⟨HB2.out.trans hb.out⟩; have HPM : Aside0 (p ∈ es) := ⟨p5.mem_iff.1 (List.mem_cons_self ..)⟩; have HPL : Aside0 (p.length ≤ 1000) := ⟨HL.out p (HP2.out p HPM.out)⟩; have CLN : Aside0 (Calls Try.prog 22 #[.pointer (some ⟨w1.heap.size, 0, none⟩)] w3 fun e w' => e = .returned (.int .i64 (m9 : Int)) ∧ w3 = w') := ⟨by have h := qlen_m p4; have h2 := p5.length_eq; have h3 := HM9.out; rw [List.length_cons] at h2; rw [show es'.length = m9 from by omega] at h; exact h⟩; have CC : Aside0 (Calls Try.prog 9 #[.slice A3 p.length c3, .slice AL last.length cL] w3 fun e w' => e = .returned (.bool false) ∧ Below w3.heap.size w3 w') := ⟨by have h := lt_calls false A3 c3 p.length p AL cL last.length last rfl rfl w3 (Kd.R_reads' HPR.out).2.2 (Kd.R_reads' HPR.out).2.1 (Kd.R_reads' HRL.out).2.2 (Kd.R_reads' HRL.out).2.1 (by have := HPL.out; omega); rw [HL2.out.2 (by have := HZ.out; omega) p HPM.out] at h; exact h.mono (fun e w' h => ⟨h.1, h.2.below⟩)⟩; clear p1 p2 p3 p4 p5 p6 hf hb) | (go_at_call 22; (with_reducible refine CLN.out.mono ?_); rintro e w4 ⟨rfl, rfl⟩) | (go_at_call 9; (with_reducible refine CC.out.mono ?_); rintro e w5 ⟨rfl, hb⟩; have HZW := Aside0.mk hb; clear hb) | fail)
                go_roundg (n - (k2 + 1))
                case measure => have := HG2.out; have := HK3.out; omega
                case rel =>
                  have h5 := HP3.out.length_eq
                  rw [List.length_cons] at h5
                  exact ⟨k2 + 1, v3, es', p, A3, c3, by first | rfl | (simp; done), rfl, ⟨by have := HK3.out; omega⟩, ⟨by have := HE2.out; omega⟩, ⟨HQ3.out.below HZW.out⟩, ⟨HV3.out.trans HV2.out⟩, ⟨Kd.R_below HPR.out HZW.out⟩, ⟨HPL.out, fun _ => HM6.out⟩, ⟨fun y hy => HP2.out y (HP3.out.mem_iff.1 (List.mem_cons_of_mem _ hy))⟩, ⟨below_step HW3.out HZW.out⟩⟩
              · as_aux_lemma =>
                go_wp2_with (first | (go_at_call 19; (with_reducible refine CP.out.mono ?_); rintro e w3 ⟨A3, c3, p, rfl, ⟨okp, v3, es', p1, p2, p3, p4, p5, p6⟩, hf, hb⟩; have HPR : Aside0 (Kd.R Kd.string 9 w3 w1.heap.size (fun k => k ≠ w1.heap.size ∧ v.ownBlock ≠ some k) (.slice A3 p.length c3) p) := ⟨Kd.R_mono p2 (fun k hk => ⟨(p1 k hk).2.1, fun e => (p1 k hk).2.2 (by rw [HV2.out]; exact e)⟩)⟩; have HRL : Aside0 (Kd.R Kd.string 9 w3 w1.heap.size (fun k => k ≠ w1.heap.size ∧ v.ownBlock ≠ some k) (.slice AL last.length cL) last) := ⟨Kd.R_step HR2.out (fun k hk hlt => hf.out.2 k hlt (fun hh => hh.elim (fun hh => hk.1 hh) (fun hh => hk.2 (by rw [← HV2.out]; exact hh))))⟩; have HV3 := Aside0.mk p3; have HQ3 := Aside0.mk p4; have HP3 := Aside0.mk p5; have HM6 := Aside0.mk p6; have HW3 : Aside0 (Below w1.heap.size w1 w3) := ⟨HB2.out.trans hb.out⟩; have HPM : Aside0 (p ∈ es) := ⟨p5.mem_iff.1 (List.mem_cons_self ..)⟩; have HPL : Aside0 (p.length ≤ 1000) := ⟨HL.out p (HP2.out p HPM.out)⟩; have CLN : Aside0 (Calls Try.prog 22 #[.pointer (some ⟨w1.heap.size, 0, none⟩)] w3 fun e w' => e = .returned (.int .i64 (m9 : Int)) ∧ w3 = w') := ⟨by have h := qlen_m p4; have h2 := p5.length_eq; have h3 := HM9.out; rw [List.length_cons] at h2; rw [show es'.length = m9 from by omega] at h; exact h⟩; have CC : Aside0 (Calls Try.prog 11 #[.slice A3 p.length c3, .slice AL last.length cL] w3 fun e w' => e = .returned (.bool false) ∧ Below w3.heap.size w3 w') := ⟨by have h := lt_calls true A3 c3 p.length p AL cL last.length last rfl rfl w3 (Kd.R_reads' HPR.out).2.2 (Kd.R_reads' HPR.out).2.1 (Kd.R_reads' HRL.out).2.2 (Kd.R_reads' HRL.out).2.1 (by have := HPL.out; omega); rw [HL2.out.2 (by have := HZ.out; omega) p HPM.out] at h; exact h.mono (fun e w' h => ⟨h.1, h.2.below⟩)⟩; clear p1 p2 p3 p4 p5 p6 hf hb) | (go_at_call 22; (with_reducible refine CLN.out.mono ?_); rintro e w4 ⟨rfl, rfl⟩) | (go_at_call 11; (with_reducible refine CC.out.mono ?_); rintro e w5 ⟨rfl, hb⟩; have HZW := Aside0.mk hb; clear hb) | fail)
                go_roundg (n - (k2 + 1))
                case measure => have := HG2.out; have := HK3.out; omega
                case rel =>
                  have h5 := HP3.out.length_eq
                  rw [List.length_cons] at h5
                  exact ⟨k2 + 1, v3, es', p, A3, c3, by first | rfl | (simp; done), rfl, ⟨by have := HK3.out; omega⟩, ⟨by have := HE2.out; omega⟩, ⟨HQ3.out.below HZW.out⟩, ⟨HV3.out.trans HV2.out⟩, ⟨Kd.R_below HPR.out HZW.out⟩, ⟨HPL.out, fun _ => HM6.out⟩, ⟨fun y hy => HP2.out y (HP3.out.mem_iff.1 (List.mem_cons_of_mem _ hy))⟩, ⟨below_step HW3.out HZW.out⟩⟩
          · have hk4 : ¬ (k2 : Int) < (n : Int) := hk3
            have he : es = [] := List.length_eq_zero_iff.1 (by have := HE2.out; omega)
            subst he
            have CE := Aside0.mk (qpop_empty HQ2.out)
            go_wp2_with (first | (go_at_call 19; (with_reducible refine CE.out.mono ?_); rintro e w4 ⟨rfl, rfl⟩) | (go_at_call 8; (with_reducible refine (C8.out _).mono ?_); rintro e w5 ⟨rfl, hb⟩; have HB5 := Aside0.mk hb; clear hb) | fail)
            go_ret
            exact ⟨rfl, below_step (below_step HB1.out HB2.out) HB5.out⟩
end Go.Proofs.Ytmpniapbjoailaa.Hand
