/- What utf8.Valid answers at every slice of bytes: whether no step of the decoder fails. -/
import Derived.Test.YtnaaimnmphcilaaDoorValid
namespace Go.Proofs.YtnaaimnmphcilaaDoor.Hand
open Go.RowKit Go.Proofs.YtnaaimnmphcilaaDoorW.PrintWords Go.Proofs.YtnaaimnmphcilaaDoorW.PrintLast Go.Proofs.YtnaaimnmphcilaaDoorW.PrintMore
set_option linter.unusedVariables false
set_option linter.unusedSimpArgs false

set_option maxHeartbeats 16000000 in
set_option maxRecDepth 1000000 in
theorem valid_calls (b o c : Nat) (t : ByteArray) (w : World) (hc : Cells w b o t) (hb : b < w.heap.size) (hs : t.size ≤ 9223372036854775807) (hcap : t.size ≤ c) (hT : Tabs w) :
    Calls Tryd.prog 33 #[.slice (some ⟨b, o, none⟩) t.size c] w fun e w' => e = .returned (.bool (Lib.validD t.data.toList)) ∧ Below w.heap.size w w' := by
  obtain ⟨ANS, hANS⟩ : ∃ ANS, Lib.validD t.data.toList = ANS := ⟨_, rfl⟩
  rw [hANS]
  have HCAP : (t.size : Int) ≤ (c : Int) := by omega
  go_enter Tryd.func33, Tryd.ntmps33
  go_wp2
  go_loopg [0] (t.size + 1) (fun gk s0 wx => Below w.heap.size w wx ∧ ∃ (o' : Nat) (t' : ByteArray), s0 = .slice (some ⟨b, o', none⟩) t'.size t'.size ∧ Cells w b o' t' ∧ Lib.validD t'.data.toList = ANS ∧ t'.size < gk ∧ t'.size ≤ 9223372036854775807)
  case atStart => exact ⟨Below.refl _ _, o, t, rfl, hc, hANS, by omega, hs⟩
  case round =>
    clear hANS hc HCAP hcap hs
    obtain ⟨hbw, o, t, rfl, hc, hv, hg, hts⟩ := hrel
    have hTr : Tabs wr := hT.below hbw
    by_cases h0 : 0 < t.size
    · obtain ⟨g', rfl⟩ : ∃ g', gk = g' + 1 := ⟨gk - 1, by omega⟩
      have h0z : (0 : Int) < (t.size : Int) := by omega
      have hcr : Cells wr b o t := hc.below hbw hb
      obtain ⟨x0, hx0⟩ : ∃ x0, t.get! 0 = x0 := ⟨_, rfl⟩
      have hs0 : wr.cell? ⟨b, o, none⟩ = some (.int .u8 x0.toNat) := by have := hcr 0 h0; rwa [hx0] at this
      have hx0lt : x0.toNat < 256 := x0.toNat_lt
      by_cases hasc : x0.toNat < 128
      · as_aux_lemma => -- a byte below 128: the fast path
        have hascz : (x0.toNat : Int) < 128 := by omega
        have a1 : Lib.Asc t 1 := Lib.asc_one t h0 (by rw [hx0]; exact hasc)
        obtain ⟨o1, t1, hcut1, hc1, z1, ht1⟩ := cut_tail w b o 1 t hc (by omega) 1 rfl
        have v1 : Lib.validD t1.data.toList = ANS := by rw [← ht1, Lib.valid_skip t 1 a1]; exact hv
        clear hTr hT hv a1 hcr
        by_cases c8 : 8 < t1.size
        · have c8z : (8 : Int) < (t1.size : Int) := by omega
          obtain ⟨o2, t2, hcut2, hc2, z2, ht2⟩ := cut_tail w b o1 8 t1 hc1 (by omega) 8 rfl
          obtain ⟨A1, hA1⟩ : ∃ x, Lib.leNat [t1.get! 0, t1.get! 1, t1.get! 2, t1.get! 3, t1.get! 4, t1.get! 5, t1.get! 6, t1.get! 7] = x := ⟨_, rfl⟩
          have lA1 : A1 < 18446744073709551616 := hA1 ▸ Lib.word_lt t1
          have cW1 : ∀ W : World, W.heap = wr.heap → Calls Tryd.prog 48 #[.slice (some ⟨b, o1, none⟩) t1.size t1.size] W fun e w' => e = .returned (.int .u64 A1) ∧ ∃ q, w' = W.drewN q := fun W hW => by rw [← hA1]; exact word_calls b o1 _ t1 W ((hc1.below hbw hb).heap hW) (by omega)
          have kA1 := Lib.word_asc t1 (by omega)
          rw [hA1] at kA1
          have hand1 : bits .and .u64 (A1 : Int) 9259542123273814144 = ((A1 &&& 9259542123273814144 : Nat) : Int) := u64_and_nat A1 9259542123273814144 lA1 (by omega)
          obtain ⟨Z1, hZ1⟩ : ∃ Z1, A1 &&& 9259542123273814144 = Z1 := ⟨_, rfl⟩
          rw [hZ1] at hand1 kA1
          by_cases hz1 : Z1 = 0
          · have hz1b : ((Z1 : Int) == 0) = true := by simp [hz1]
            have a8 : Lib.Asc t1 8 := kA1.1 hz1
            have v2 : Lib.validD t2.data.toList = ANS := by rw [← ht2, Lib.valid_skip t1 8 a8]; exact v1
            clear kA1 a8 v1
            go_wp2_with (go_at_call 48; go_must (refine (cW1 _ rfl).mono ?_; rintro e W1 ⟨rfl, q1, rfl⟩))
            have hb1 : Below w.heap.size w (wr.drewN q1) := pw_below_drewN hbw q1
            generalize wr.drewN q1 = wq at hb1 ⊢
            clear cW1 hbw hcut1 hcut2
            by_cases c16 : 16 < t2.size
            · have c16z : (16 : Int) < (t2.size : Int) := by omega
              obtain ⟨o2b, t2b, hcut2b, hc2b, z2b, ht2b⟩ := cut_tail w b o2 8 t2 hc2 (by omega) 8 rfl
              obtain ⟨o3, t3, hcut3, hc3, z3, ht3⟩ := cut_tail w b o2 16 t2 hc2 (by omega) 16 rfl
              obtain ⟨A2, hA2⟩ : ∃ x, Lib.leNat [t2.get! 0, t2.get! 1, t2.get! 2, t2.get! 3, t2.get! 4, t2.get! 5, t2.get! 6, t2.get! 7] = x := ⟨_, rfl⟩
              have lA2 : A2 < 18446744073709551616 := hA2 ▸ Lib.word_lt t2
              have cW2 : ∀ n : Nat, Calls Tryd.prog 48 #[.slice (some ⟨b, o2, none⟩) t2.size t2.size] (wq.drewN n) fun e w' => e = .returned (.int .u64 A2) ∧ ∃ q, w' = (wq.drewN n).drewN q := fun n => by rw [← hA2]; exact word_calls b o2 _ t2 (wq.drewN n) ((hc2.below hb1 hb).heap rfl) (by omega)
              have kA2 := Lib.word_asc t2 (by omega)
              rw [hA2] at kA2
              obtain ⟨A3, hA3⟩ : ∃ x, Lib.leNat [t2b.get! 0, t2b.get! 1, t2b.get! 2, t2b.get! 3, t2b.get! 4, t2b.get! 5, t2b.get! 6, t2b.get! 7] = x := ⟨_, rfl⟩
              have lA3 : A3 < 18446744073709551616 := hA3 ▸ Lib.word_lt t2b
              have cW3 : ∀ n : Nat, Calls Tryd.prog 48 #[.slice (some ⟨b, o2b, none⟩) t2b.size t2b.size] (wq.drewN n) fun e w' => e = .returned (.int .u64 A3) ∧ ∃ q, w' = (wq.drewN n).drewN q := fun n => by rw [← hA3]; exact word_calls b o2b _ t2b (wq.drewN n) ((hc2b.below hb1 hb).heap rfl) (by omega)
              have kA3 := Lib.word_asc t2b (by omega)
              rw [hA3] at kA3
              have hor2 : bits .or .u64 (A2 : Int) (A3 : Int) = ((A2 ||| A3 : Nat) : Int) := u64_or_nat A2 A3 lA2 lA3
              have lor2 : A2 ||| A3 < 18446744073709551616 := Nat.or_lt_two_pow (n := 64) lA2 lA3
              have hand2 : bits .and .u64 ((A2 ||| A3 : Nat) : Int) 9259542123273814144 = (((A2 ||| A3) &&& 9259542123273814144 : Nat) : Int) := u64_and_nat _ 9259542123273814144 lor2 (by omega)
              have k2 : (A2 ||| A3) &&& 9259542123273814144 = 0 → Lib.Asc t2 16 := fun h0' => by
                obtain ⟨e1, e2⟩ := (Lib.or_mask A2 A3 _).1 h0'
                exact Lib.asc_add t2 8 8 (kA2.1 e1) (by rw [ht2b]; exact kA3.1 e2)
              obtain ⟨O2, hO2⟩ : ∃ O2, A2 ||| A3 = O2 := ⟨_, rfl⟩
              rw [hO2] at hor2 hand2 k2
              obtain ⟨Z2, hZ2⟩ : ∃ Z2, O2 &&& 9259542123273814144 = Z2 := ⟨_, rfl⟩
              rw [hZ2] at hand2 k2
              clear kA2 kA3 lor2 hO2 hZ2
              by_cases hz2 : Z2 = 0
              · have hz2b : ((Z2 : Int) == 0) = true := by simp [hz2]
                have a16 := k2 hz2
                have v3 : Lib.validD t3.data.toList = ANS := by rw [← ht3, Lib.valid_skip t2 16 a16]; exact v2
                clear k2 a16 v2
                go_quiet ((first | (go_at_call 48; with_reducible refine Calls.quiet_of (cW2 _)) | (go_at_call 48; with_reducible refine Calls.quiet_of (cW3 _))))
                have hb2 : Below w.heap.size w (wq.drewN nq) := pw_below_drewN hb1 nq
                generalize wq.drewN nq = wq2 at hb2 ⊢
                clear cW2 cW3 hb1 hcut2b
                go_wp2
                go_loopg [0] (t3.size + 1) (fun g2 s0 wx => Below w.heap.size w wx ∧ ∃ (o' : Nat) (u : ByteArray), s0 = .slice (some ⟨b, o', none⟩) u.size u.size ∧ Cells w b o' u ∧ Lib.validD u.data.toList = ANS ∧ u.size < g2 ∧ u.size ≤ t3.size)
                case atStart => exact ⟨hb2, o3, t3, rfl, hc3, v3, by omega, Nat.le_refl _⟩
                case round => as_aux_lemma =>
                  clear hcut3
                  obtain ⟨hbu, ou, u, rfl, hcu, vu, hgu, hut⟩ := hrel
                  by_cases c32 : 32 < u.size
                  · obtain ⟨g3, rfl⟩ : ∃ g3, gk = g3 + 1 := ⟨gk - 1, by omega⟩
                    have c32z : (32 : Int) < (u.size : Int) := by omega
                    obtain ⟨oub, ub, hcutb, hcub, zub, hub⟩ := cut_tail w b ou 8 u hcu (by omega) 8 rfl
                    obtain ⟨ouc, uc, hcutc, hcuc, zuc, huc⟩ := cut_tail w b ou 16 u hcu (by omega) 16 rfl
                    obtain ⟨oud, ud, hcutd, hcud, zud, hud⟩ := cut_tail w b ou 24 u hcu (by omega) 24 rfl
                    obtain ⟨oue, ue, hcute, hcue, zue, hue⟩ := cut_tail w b ou 32 u hcu (by omega) 32 rfl
                    obtain ⟨A4, hA4⟩ : ∃ x, Lib.leNat [u.get! 0, u.get! 1, u.get! 2, u.get! 3, u.get! 4, u.get! 5, u.get! 6, u.get! 7] = x := ⟨_, rfl⟩
                    have lA4 : A4 < 18446744073709551616 := hA4 ▸ Lib.word_lt u
                    have cW4 : ∀ n : Nat, Calls Tryd.prog 48 #[.slice (some ⟨b, ou, none⟩) u.size u.size] (wr.drewN n) fun e w' => e = .returned (.int .u64 A4) ∧ ∃ q, w' = (wr.drewN n).drewN q := fun n => by rw [← hA4]; exact word_calls b ou _ u (wr.drewN n) ((hcu.below hbu hb).heap rfl) (by omega)
                    have kA4 := Lib.word_asc u (by omega)
                    rw [hA4] at kA4
                    obtain ⟨A5, hA5⟩ : ∃ x, Lib.leNat [ub.get! 0, ub.get! 1, ub.get! 2, ub.get! 3, ub.get! 4, ub.get! 5, ub.get! 6, ub.get! 7] = x := ⟨_, rfl⟩
                    have lA5 : A5 < 18446744073709551616 := hA5 ▸ Lib.word_lt ub
                    have cW5 : ∀ n : Nat, Calls Tryd.prog 48 #[.slice (some ⟨b, oub, none⟩) ub.size ub.size] (wr.drewN n) fun e w' => e = .returned (.int .u64 A5) ∧ ∃ q, w' = (wr.drewN n).drewN q := fun n => by rw [← hA5]; exact word_calls b oub _ ub (wr.drewN n) ((hcub.below hbu hb).heap rfl) (by omega)
                    have kA5 := Lib.word_asc ub (by omega)
                    rw [hA5] at kA5
                    obtain ⟨A6, hA6⟩ : ∃ x, Lib.leNat [uc.get! 0, uc.get! 1, uc.get! 2, uc.get! 3, uc.get! 4, uc.get! 5, uc.get! 6, uc.get! 7] = x := ⟨_, rfl⟩
                    have lA6 : A6 < 18446744073709551616 := hA6 ▸ Lib.word_lt uc
                    have cW6 : ∀ n : Nat, Calls Tryd.prog 48 #[.slice (some ⟨b, ouc, none⟩) uc.size uc.size] (wr.drewN n) fun e w' => e = .returned (.int .u64 A6) ∧ ∃ q, w' = (wr.drewN n).drewN q := fun n => by rw [← hA6]; exact word_calls b ouc _ uc (wr.drewN n) ((hcuc.below hbu hb).heap rfl) (by omega)
                    have kA6 := Lib.word_asc uc (by omega)
                    rw [hA6] at kA6
                    obtain ⟨A7, hA7⟩ : ∃ x, Lib.leNat [ud.get! 0, ud.get! 1, ud.get! 2, ud.get! 3, ud.get! 4, ud.get! 5, ud.get! 6, ud.get! 7] = x := ⟨_, rfl⟩
                    have lA7 : A7 < 18446744073709551616 := hA7 ▸ Lib.word_lt ud
                    have cW7 : ∀ n : Nat, Calls Tryd.prog 48 #[.slice (some ⟨b, oud, none⟩) ud.size ud.size] (wr.drewN n) fun e w' => e = .returned (.int .u64 A7) ∧ ∃ q, w' = (wr.drewN n).drewN q := fun n => by rw [← hA7]; exact word_calls b oud _ ud (wr.drewN n) ((hcud.below hbu hb).heap rfl) (by omega)
                    have kA7 := Lib.word_asc ud (by omega)
                    rw [hA7] at kA7
                    have ho1 : bits .or .u64 (A4 : Int) (A5 : Int) = ((A4 ||| A5 : Nat) : Int) := u64_or_nat A4 A5 lA4 lA5
                    have ho2 : bits .or .u64 (A6 : Int) (A7 : Int) = ((A6 ||| A7 : Nat) : Int) := u64_or_nat A6 A7 lA6 lA7
                    have lo1 : A4 ||| A5 < 18446744073709551616 := Nat.or_lt_two_pow (n := 64) lA4 lA5
                    have lo2 : A6 ||| A7 < 18446744073709551616 := Nat.or_lt_two_pow (n := 64) lA6 lA7
                    have ho3 : bits .or .u64 ((A4 ||| A5 : Nat) : Int) ((A6 ||| A7 : Nat) : Int) = (((A4 ||| A5) ||| (A6 ||| A7) : Nat) : Int) := u64_or_nat _ _ lo1 lo2
                    have lo3 : (A4 ||| A5) ||| (A6 ||| A7) < 18446744073709551616 := Nat.or_lt_two_pow (n := 64) lo1 lo2
                    have hand3 : bits .and .u64 (((A4 ||| A5) ||| (A6 ||| A7) : Nat) : Int) 9259542123273814144 = ((((A4 ||| A5) ||| (A6 ||| A7)) &&& 9259542123273814144 : Nat) : Int) := u64_and_nat _ 9259542123273814144 lo3 (by omega)
                    have k3 : ((A4 ||| A5) ||| (A6 ||| A7)) &&& 9259542123273814144 = 0 → Lib.Asc u 32 := fun h0' => by
                      obtain ⟨e01, e23⟩ := (Lib.or_mask _ _ _).1 h0'
                      obtain ⟨e0, e1⟩ := (Lib.or_mask _ _ _).1 e01
                      obtain ⟨e2, e3⟩ := (Lib.or_mask _ _ _).1 e23
                      have s16 : Lib.Asc u 16 := Lib.asc_add u 8 8 (kA4.1 e0) (by rw [hub]; exact kA5.1 e1)
                      have s24 : Lib.Asc u 24 := Lib.asc_add u 16 8 s16 (by rw [huc]; exact kA6.1 e2)
                      exact Lib.asc_add u 24 8 s24 (by rw [hud]; exact kA7.1 e3)
                    obtain ⟨P1, hP1⟩ : ∃ P1, A4 ||| A5 = P1 := ⟨_, rfl⟩
                    obtain ⟨P2, hP2⟩ : ∃ P2, A6 ||| A7 = P2 := ⟨_, rfl⟩
                    rw [hP1, hP2] at ho3 hand3 k3
                    rw [hP1] at ho1
                    rw [hP2] at ho2
                    obtain ⟨P3, hP3⟩ : ∃ P3, P1 ||| P2 = P3 := ⟨_, rfl⟩
                    rw [hP3] at ho3 hand3 k3
                    obtain ⟨Z3, hZ3⟩ : ∃ Z3, P3 &&& 9259542123273814144 = Z3 := ⟨_, rfl⟩
                    rw [hZ3] at hand3 k3
                    clear kA4 kA5 kA6 kA7 lo1 lo2 lo3 hP1 hP2 hP3 hZ3
                    by_cases hz3 : Z3 = 0
                    · have hz3b : ((Z3 : Int) == 0) = true := by simp [hz3]
                      have a32 := k3 hz3
                      have vu2 : Lib.validD ue.data.toList = ANS := by rw [← hue, Lib.valid_skip u 32 a32]; exact vu
                      go_wp2_with fail
                      go_quiet ((first | (go_at_call 48; with_reducible refine Calls.quiet_of (cW4 _)) | (go_at_call 48; with_reducible refine Calls.quiet_of (cW5 _)) | (go_at_call 48; with_reducible refine Calls.quiet_of (cW6 _)) | (go_at_call 48; with_reducible refine Calls.quiet_of (cW7 _))))
                      clear cW4 cW5 cW6 cW7 hcutb hcutc hcutd
                      go_wp2
                      go_roundg g3
                      case measure => omega
                      case rel => exact ⟨pw_below_drewN hbu nq, oue, ue, rfl, hcue, vu2, by omega, by omega⟩
                    · have hz3b : ((Z3 : Int) == 0) = false := by simp; omega
                      go_wp2_with fail
                      go_quiet ((first | (go_at_call 48; with_reducible refine Calls.quiet_of (cW4 _)) | (go_at_call 48; with_reducible refine Calls.quiet_of (cW5 _)) | (go_at_call 48; with_reducible refine Calls.quiet_of (cW6 _)) | (go_at_call 48; with_reducible refine Calls.quiet_of (cW7 _))))
                      clear cW4 cW5 cW6 cW7 hcutb hcutc hcutd hcute
                      go_wp2
                      go_roundg g'
                      case measure => omega
                      case rel => exact ⟨pw_below_drewN hbu nq, ou, u, rfl, hcu, vu, by omega, by omega⟩
                  · have c32z : ¬ ((32 : Int) < (u.size : Int)) := by omega
                    have c32b : decide ((32 : Int) < (u.size : Int)) = false := decide_eq_false c32z
                    go_wp2_with fail
                    go_quiet (fail)
                    go_wp2
                    go_roundg g'
                    case measure => omega
                    case rel => exact ⟨pw_below_drewN hbu nq, ou, u, rfl, hcu, vu, by omega, by omega⟩
              · have hz2b : ((Z2 : Int) == 0) = false := by simp; omega
                go_quiet ((first | (go_at_call 48; with_reducible refine Calls.quiet_of (cW2 _)) | (go_at_call 48; with_reducible refine Calls.quiet_of (cW3 _))))
                go_wp2
                go_roundg g'
                case measure => omega
                case rel => exact ⟨pw_below_drewN hb1 nq, o2, t2, rfl, hc2, v2, by omega, by omega⟩
            · have c16z : ¬ ((16 : Int) < (t2.size : Int)) := by omega
              have c16b : decide ((16 : Int) < (t2.size : Int)) = false := decide_eq_false c16z
              go_quiet (fail)
              go_wp2
              go_roundg g'
              case measure => omega
              case rel => exact ⟨pw_below_drewN hb1 nq, o2, t2, rfl, hc2, v2, by omega, by omega⟩
          · have hz1b : ((Z1 : Int) == 0) = false := by simp; omega
            go_wp2_with (go_at_call 48; go_must (refine (cW1 _ rfl).mono ?_; rintro e W1 ⟨rfl, q1, rfl⟩))
            go_roundg g'
            case measure => omega
            case rel => exact ⟨pw_below_drewN hbw q1, o1, t1, rfl, hc1, v1, by omega, by omega⟩
        · have c8z : ¬ ((8 : Int) < (t1.size : Int)) := by omega
          go_wp2
          go_roundg g'
          case measure => omega
          case rel => exact ⟨hbw, o1, t1, rfl, hc1, v1, by omega, by omega⟩
      · -- a lead byte from 128 on
        have hge : 128 ≤ x0.toNat := by omega
        have hascz : ¬ ((x0.toNat : Int) < 128) := by omega
        obtain ⟨x1, hx1⟩ : ∃ x1, t.get! 1 = x1 := ⟨_, rfl⟩
        obtain ⟨x2, hx2⟩ : ∃ x2, t.get! 2 = x2 := ⟨_, rfl⟩
        obtain ⟨x3, hx3⟩ : ∃ x3, t.get! 3 = x3 := ⟨_, rfl⟩
        have l1 := x1.toNat_lt; have l2 := x2.toNat_lt; have l3 := x3.toNat_lt
        have p1 : 1 < t.size → wr.cell? ⟨b, o + 1, none⟩ = some (.int .u8 x1.toNat) := fun h => by have := hcr 1 h; rwa [hx1] at this
        have p2 : 2 < t.size → wr.cell? ⟨b, o + 2, none⟩ = some (.int .u8 x2.toNat) := fun h => by have := hcr 2 h; rwa [hx2] at this
        have p3 : 3 < t.size → wr.cell? ⟨b, o + 3, none⟩ = some (.int .u8 x3.toNat) := fun h => by have := hcr 3 h; rwa [hx3] at this
        have hne : t.data.toList ≠ [] := fun h => by rw [Lib.size_eq, h] at h0; simp at h0
        have hlead := Lib.validD_lead t.data.toList hne (by rw [Lib.getD_get!', hx0]; exact hge)
        rw [Lib.getD_get!', Lib.getD_get!', Lib.getD_get!', Lib.getD_get!', hx0, hx1, hx2, hx3, ← Lib.size_eq, hv] at hlead
        have hc0 := hTr.out.1 x0.toNat hx0lt
        have hXlt : Lib.firstT x0.toNat < 256 := by rcases Lib.firstT_cases x0.toNat with h | h | h | h | h | h | h | h | h <;> omega
        obtain ⟨X, hX⟩ : ∃ X, Lib.firstT x0.toNat = X := ⟨_, rfl⟩
        rw [hX] at hc0 hXlt hlead
        have h7 := and7 ⟨X, hXlt⟩
        simp only at h7
        have ha0 : wr.cell? ⟨1, X / 16 * 2, none⟩ = some (.int .u8 (Lib.accLo (X / 16))) := by rw [Nat.mul_comm]; exact (hTr.out.2 (X / 16) (by omega)).1
        have ha1 : wr.cell? ⟨1, X / 16 * 2 + 1, none⟩ = some (.int .u8 (Lib.accHi (X / 16))) := by rw [Nat.mul_comm]; exact (hTr.out.2 (X / 16) (by omega)).2
        obtain ⟨LO, hLO⟩ : ∃ LO, Lib.accLo (X / 16) = LO := ⟨_, rfl⟩
        obtain ⟨HI, hHI⟩ : ∃ HI, Lib.accHi (X / 16) = HI := ⟨_, rfl⟩
        rw [hLO] at ha0 hlead
        rw [hHI] at ha1 hlead
        obtain ⟨SZ, hSZ⟩ : ∃ SZ, X % 8 = SZ := ⟨_, rfl⟩
        rw [hSZ] at hlead
        have hbr : b < wr.heap.size := Nat.lt_of_lt_of_le hb hbw.size
        have hX16 : X / 16 < 16 := by omega
        clear hTr hT hX hv hLO hHI hne hx0 hx1 hx2 hx3 hcr
        by_cases s2 : SZ = 2
        · subst s2
          have hSZz : (X : Int) % 8 = 2 := by omega
          simp only [Lib.checkN, Nat.reduceEqDiff, if_true, if_false] at hlead
          go_upto_region 18 with fail
          go_cut [103] from 85 to 103 (fun c wx => c = .bool (decide (t.size < 2 ∨ x1.toNat < LO ∨ HI < x1.toNat)) ∧ Below w.heap.size w wx)
          case first => as_aux_lemma =>
            by_cases q0 : t.size < 2
            · have q0z : (t.size : Int) < 2 := by omega
              clear p1 p2 p3
              go_quiet (fail)
              go_wp2
              go_meet
              exact ⟨congrArg Value.bool (decide_eq_true (p := t.size < 2 ∨ x1.toNat < LO ∨ HI < x1.toNat) (by omega)).symm, pw_below_drewN (hbw.alloc hbw.size _) _⟩
            have q0z : ¬ ((t.size : Int) < 2) := by omega
            have p1 := p1 (by omega)
            have hz1 : (1 : Int) < (t.size : Int) := by omega
            clear p2 p3
            by_cases q1 : x1.toNat < LO
            · have q1z : (x1.toNat : Int) < (LO : Int) := by omega
              go_quiet (fail)
              go_wp2
              go_meet
              exact ⟨congrArg Value.bool (decide_eq_true (p := t.size < 2 ∨ x1.toNat < LO ∨ HI < x1.toNat) (by omega)).symm, pw_below_drewN (hbw.alloc hbw.size _) _⟩
            have q1z : ¬ ((x1.toNat : Int) < (LO : Int)) := by omega
            by_cases q2 : HI < x1.toNat
            · have q2z : (HI : Int) < (x1.toNat : Int) := by omega
              go_quiet (fail)
              go_wp2
              go_meet
              exact ⟨congrArg Value.bool (decide_eq_true (p := t.size < 2 ∨ x1.toNat < LO ∨ HI < x1.toNat) (by omega)).symm, pw_below_drewN (hbw.alloc hbw.size _) _⟩
            have q2z : ¬ ((HI : Int) < (x1.toNat : Int)) := by omega
            go_quiet (fail)
            go_wp2
            go_meet
            exact ⟨congrArg Value.bool (decide_eq_false (p := t.size < 2 ∨ x1.toNat < LO ∨ HI < x1.toNat) (by omega)).symm, pw_below_drewN (hbw.alloc hbw.size _) _⟩
          case rest => as_aux_lemma =>
            obtain ⟨rfl, hbc⟩ := hcut
            by_cases hbad : t.size < 2 ∨ x1.toNat < LO ∨ HI < x1.toNat
            · have hbd : decide (t.size < 2 ∨ x1.toNat < LO ∨ HI < x1.toNat) = true := decide_eq_true hbad
              rw [if_pos hbad] at hlead
              go_wp2
              all_goals (go_ret; exact ⟨by first | rfl | rw [hlead], hbc⟩)
            · have hbd : decide (t.size < 2 ∨ x1.toNat < LO ∨ HI < x1.toNat) = false := decide_eq_false hbad
              rw [if_neg hbad] at hlead
              obtain ⟨o1, t1, hcut1, hc1, z1, ht1⟩ := cut_tail w b o 2 t hc (by omega) 2 rfl
              have v1 : Lib.validD t1.data.toList = ANS := by rw [← ht1, Lib.ext_list]; exact hlead.symm
              clear hlead
              go_wp2
              go_roundg g'
              case measure => omega
              case rel => exact ⟨hbc, o1, t1, rfl, hc1, v1, by omega, by omega⟩
        by_cases s3 : SZ = 3
        · subst s3
          have hSZz : (X : Int) % 8 = 3 := by omega
          simp only [Lib.checkN, Nat.reduceEqDiff, if_true, if_false] at hlead
          go_upto_region 22 with fail
          go_cut [138] from 108 to 138 (fun c wx => c = .bool (decide (t.size < 3 ∨ x1.toNat < LO ∨ HI < x1.toNat ∨ x2.toNat < 128 ∨ 191 < x2.toNat)) ∧ Below w.heap.size w wx)
          case first => as_aux_lemma =>
            by_cases q0 : t.size < 3
            · have q0z : (t.size : Int) < 3 := by omega
              clear p1 p2 p3
              go_quiet (fail)
              go_wp2
              go_meet
              exact ⟨congrArg Value.bool (decide_eq_true (p := t.size < 3 ∨ x1.toNat < LO ∨ HI < x1.toNat ∨ x2.toNat < 128 ∨ 191 < x2.toNat) (by omega)).symm, pw_below_drewN (hbw.alloc hbw.size _) _⟩
            have q0z : ¬ ((t.size : Int) < 3) := by omega
            have p1 := p1 (by omega)
            have hz1 : (1 : Int) < (t.size : Int) := by omega
            have p2 := p2 (by omega)
            have hz2 : (2 : Int) < (t.size : Int) := by omega
            clear p3
            by_cases q1 : x1.toNat < LO
            · have q1z : (x1.toNat : Int) < (LO : Int) := by omega
              go_quiet (fail)
              go_wp2
              go_meet
              exact ⟨congrArg Value.bool (decide_eq_true (p := t.size < 3 ∨ x1.toNat < LO ∨ HI < x1.toNat ∨ x2.toNat < 128 ∨ 191 < x2.toNat) (by omega)).symm, pw_below_drewN (hbw.alloc hbw.size _) _⟩
            have q1z : ¬ ((x1.toNat : Int) < (LO : Int)) := by omega
            by_cases q2 : HI < x1.toNat
            · have q2z : (HI : Int) < (x1.toNat : Int) := by omega
              go_quiet (fail)
              go_wp2
              go_meet
              exact ⟨congrArg Value.bool (decide_eq_true (p := t.size < 3 ∨ x1.toNat < LO ∨ HI < x1.toNat ∨ x2.toNat < 128 ∨ 191 < x2.toNat) (by omega)).symm, pw_below_drewN (hbw.alloc hbw.size _) _⟩
            have q2z : ¬ ((HI : Int) < (x1.toNat : Int)) := by omega
            by_cases q3 : x2.toNat < 128
            · have q3z : (x2.toNat : Int) < 128 := by omega
              go_quiet (fail)
              go_wp2
              go_meet
              exact ⟨congrArg Value.bool (decide_eq_true (p := t.size < 3 ∨ x1.toNat < LO ∨ HI < x1.toNat ∨ x2.toNat < 128 ∨ 191 < x2.toNat) (by omega)).symm, pw_below_drewN (hbw.alloc hbw.size _) _⟩
            have q3z : ¬ ((x2.toNat : Int) < 128) := by omega
            by_cases q4 : 191 < x2.toNat
            · have q4z : (191 : Int) < (x2.toNat : Int) := by omega
              go_quiet (fail)
              go_wp2
              go_meet
              exact ⟨congrArg Value.bool (decide_eq_true (p := t.size < 3 ∨ x1.toNat < LO ∨ HI < x1.toNat ∨ x2.toNat < 128 ∨ 191 < x2.toNat) (by omega)).symm, pw_below_drewN (hbw.alloc hbw.size _) _⟩
            have q4z : ¬ ((191 : Int) < (x2.toNat : Int)) := by omega
            go_quiet (fail)
            go_wp2
            go_meet
            exact ⟨congrArg Value.bool (decide_eq_false (p := t.size < 3 ∨ x1.toNat < LO ∨ HI < x1.toNat ∨ x2.toNat < 128 ∨ 191 < x2.toNat) (by omega)).symm, pw_below_drewN (hbw.alloc hbw.size _) _⟩
          case rest => as_aux_lemma =>
            obtain ⟨rfl, hbc⟩ := hcut
            by_cases hbad : t.size < 3 ∨ x1.toNat < LO ∨ HI < x1.toNat ∨ x2.toNat < 128 ∨ 191 < x2.toNat
            · have hbd : decide (t.size < 3 ∨ x1.toNat < LO ∨ HI < x1.toNat ∨ x2.toNat < 128 ∨ 191 < x2.toNat) = true := decide_eq_true hbad
              rw [if_pos hbad] at hlead
              go_wp2
              all_goals (go_ret; exact ⟨by first | rfl | rw [hlead], hbc⟩)
            · have hbd : decide (t.size < 3 ∨ x1.toNat < LO ∨ HI < x1.toNat ∨ x2.toNat < 128 ∨ 191 < x2.toNat) = false := decide_eq_false hbad
              rw [if_neg hbad] at hlead
              obtain ⟨o1, t1, hcut1, hc1, z1, ht1⟩ := cut_tail w b o 3 t hc (by omega) 3 rfl
              have v1 : Lib.validD t1.data.toList = ANS := by rw [← ht1, Lib.ext_list]; exact hlead.symm
              clear hlead
              go_wp2
              go_roundg g'
              case measure => omega
              case rel => exact ⟨hbc, o1, t1, rfl, hc1, v1, by omega, by omega⟩
        by_cases s4 : SZ = 4
        · subst s4
          have hSZz : (X : Int) % 8 = 4 := by omega
          simp only [Lib.checkN, Nat.reduceEqDiff, if_true, if_false] at hlead
          go_upto_region 26 with fail
          go_cut [185] from 143 to 185 (fun c wx => c = .bool (decide (t.size < 4 ∨ x1.toNat < LO ∨ HI < x1.toNat ∨ x2.toNat < 128 ∨ 191 < x2.toNat ∨ x3.toNat < 128 ∨ 191 < x3.toNat)) ∧ Below w.heap.size w wx)
          case first => as_aux_lemma =>
            by_cases q0 : t.size < 4
            · have q0z : (t.size : Int) < 4 := by omega
              clear p1 p2 p3
              go_quiet (fail)
              go_wp2
              go_meet
              exact ⟨congrArg Value.bool (decide_eq_true (p := t.size < 4 ∨ x1.toNat < LO ∨ HI < x1.toNat ∨ x2.toNat < 128 ∨ 191 < x2.toNat ∨ x3.toNat < 128 ∨ 191 < x3.toNat) (by omega)).symm, pw_below_drewN (hbw.alloc hbw.size _) _⟩
            have q0z : ¬ ((t.size : Int) < 4) := by omega
            have p1 := p1 (by omega)
            have hz1 : (1 : Int) < (t.size : Int) := by omega
            have p2 := p2 (by omega)
            have hz2 : (2 : Int) < (t.size : Int) := by omega
            have p3 := p3 (by omega)
            have hz3 : (3 : Int) < (t.size : Int) := by omega
            by_cases q1 : x1.toNat < LO
            · have q1z : (x1.toNat : Int) < (LO : Int) := by omega
              go_quiet (fail)
              go_wp2
              go_meet
              exact ⟨congrArg Value.bool (decide_eq_true (p := t.size < 4 ∨ x1.toNat < LO ∨ HI < x1.toNat ∨ x2.toNat < 128 ∨ 191 < x2.toNat ∨ x3.toNat < 128 ∨ 191 < x3.toNat) (by omega)).symm, pw_below_drewN (hbw.alloc hbw.size _) _⟩
            have q1z : ¬ ((x1.toNat : Int) < (LO : Int)) := by omega
            by_cases q2 : HI < x1.toNat
            · have q2z : (HI : Int) < (x1.toNat : Int) := by omega
              go_quiet (fail)
              go_wp2
              go_meet
              exact ⟨congrArg Value.bool (decide_eq_true (p := t.size < 4 ∨ x1.toNat < LO ∨ HI < x1.toNat ∨ x2.toNat < 128 ∨ 191 < x2.toNat ∨ x3.toNat < 128 ∨ 191 < x3.toNat) (by omega)).symm, pw_below_drewN (hbw.alloc hbw.size _) _⟩
            have q2z : ¬ ((HI : Int) < (x1.toNat : Int)) := by omega
            by_cases q3 : x2.toNat < 128
            · have q3z : (x2.toNat : Int) < 128 := by omega
              go_quiet (fail)
              go_wp2
              go_meet
              exact ⟨congrArg Value.bool (decide_eq_true (p := t.size < 4 ∨ x1.toNat < LO ∨ HI < x1.toNat ∨ x2.toNat < 128 ∨ 191 < x2.toNat ∨ x3.toNat < 128 ∨ 191 < x3.toNat) (by omega)).symm, pw_below_drewN (hbw.alloc hbw.size _) _⟩
            have q3z : ¬ ((x2.toNat : Int) < 128) := by omega
            by_cases q4 : 191 < x2.toNat
            · have q4z : (191 : Int) < (x2.toNat : Int) := by omega
              go_quiet (fail)
              go_wp2
              go_meet
              exact ⟨congrArg Value.bool (decide_eq_true (p := t.size < 4 ∨ x1.toNat < LO ∨ HI < x1.toNat ∨ x2.toNat < 128 ∨ 191 < x2.toNat ∨ x3.toNat < 128 ∨ 191 < x3.toNat) (by omega)).symm, pw_below_drewN (hbw.alloc hbw.size _) _⟩
            have q4z : ¬ ((191 : Int) < (x2.toNat : Int)) := by omega
            by_cases q5 : x3.toNat < 128
            · have q5z : (x3.toNat : Int) < 128 := by omega
              go_quiet (fail)
              go_wp2
              go_meet
              exact ⟨congrArg Value.bool (decide_eq_true (p := t.size < 4 ∨ x1.toNat < LO ∨ HI < x1.toNat ∨ x2.toNat < 128 ∨ 191 < x2.toNat ∨ x3.toNat < 128 ∨ 191 < x3.toNat) (by omega)).symm, pw_below_drewN (hbw.alloc hbw.size _) _⟩
            have q5z : ¬ ((x3.toNat : Int) < 128) := by omega
            by_cases q6 : 191 < x3.toNat
            · have q6z : (191 : Int) < (x3.toNat : Int) := by omega
              go_quiet (fail)
              go_wp2
              go_meet
              exact ⟨congrArg Value.bool (decide_eq_true (p := t.size < 4 ∨ x1.toNat < LO ∨ HI < x1.toNat ∨ x2.toNat < 128 ∨ 191 < x2.toNat ∨ x3.toNat < 128 ∨ 191 < x3.toNat) (by omega)).symm, pw_below_drewN (hbw.alloc hbw.size _) _⟩
            have q6z : ¬ ((191 : Int) < (x3.toNat : Int)) := by omega
            go_quiet (fail)
            go_wp2
            go_meet
            exact ⟨congrArg Value.bool (decide_eq_false (p := t.size < 4 ∨ x1.toNat < LO ∨ HI < x1.toNat ∨ x2.toNat < 128 ∨ 191 < x2.toNat ∨ x3.toNat < 128 ∨ 191 < x3.toNat) (by omega)).symm, pw_below_drewN (hbw.alloc hbw.size _) _⟩
          case rest => as_aux_lemma =>
            obtain ⟨rfl, hbc⟩ := hcut
            by_cases hbad : t.size < 4 ∨ x1.toNat < LO ∨ HI < x1.toNat ∨ x2.toNat < 128 ∨ 191 < x2.toNat ∨ x3.toNat < 128 ∨ 191 < x3.toNat
            · have hbd : decide (t.size < 4 ∨ x1.toNat < LO ∨ HI < x1.toNat ∨ x2.toNat < 128 ∨ 191 < x2.toNat ∨ x3.toNat < 128 ∨ 191 < x3.toNat) = true := decide_eq_true hbad
              rw [if_pos hbad] at hlead
              go_wp2
              all_goals (go_ret; exact ⟨by first | rfl | rw [hlead], hbc⟩)
            · have hbd : decide (t.size < 4 ∨ x1.toNat < LO ∨ HI < x1.toNat ∨ x2.toNat < 128 ∨ 191 < x2.toNat ∨ x3.toNat < 128 ∨ 191 < x3.toNat) = false := decide_eq_false hbad
              rw [if_neg hbad] at hlead
              obtain ⟨o1, t1, hcut1, hc1, z1, ht1⟩ := cut_tail w b o 4 t hc (by omega) 4 rfl
              have v1 : Lib.validD t1.data.toList = ANS := by rw [← ht1, Lib.ext_list]; exact hlead.symm
              clear hlead
              go_wp2
              go_roundg g'
              case measure => omega
              case rel => exact ⟨hbc, o1, t1, rfl, hc1, v1, by omega, by omega⟩
        have hno : Lib.checkN t.size x1.toNat x2.toNat x3.toNat SZ LO HI = none := by unfold Lib.checkN; simp [s2, s3, s4]
        rw [hno] at hlead
        have e2 : ((SZ : Int) == 2) = false := by simp; omega
        have e3 : ((SZ : Int) == 3) = false := by simp; omega
        have e4 : ((SZ : Int) == 4) = false := by simp; omega
        have hSZz : (X : Int) % 8 = (SZ : Int) := by omega
        clear p1 p2 p3
        go_wp2
        all_goals (go_ret; exact ⟨by first | rfl | rw [hlead], by first | exact hbw.alloc hbw.size _ | exact hbw⟩)
    · have h0z : ¬ ((0 : Int) < (t.size : Int)) := by omega
      have ht0 : t.data.toList = [] := List.eq_nil_of_length_eq_zero (by rw [← Lib.size_eq]; omega)
      rw [ht0] at hv
      have hvt : ANS = true := by rw [← hv]; rfl
      subst hvt
      clear hv
      go_wp2
      go_ret
      exact ⟨rfl, hbw⟩
end Go.Proofs.YtnaaimnmphcilaaDoor.Hand
