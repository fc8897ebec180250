/- Law WalkSorts of package walk: the walk. -/
import Derived.Test.YtmpniapbjoailaaWrite
import Derived.Test.YtmpniapbjoailaaLight
namespace Go.Proofs.Ytmpniapbjoailaa.Hand
open Go.RowKit Go.Proofs.YtmpniapbjoailaaW.PrintWords Go.Proofs.YtmpniapbjoailaaW.PrintLast Go.Proofs.YtmpniapbjoailaaW.PrintMore
set_option linter.unusedVariables false
set_option linter.unusedSimpArgs false

theorem same_C (ps : List (List ByteArray)) (h200 : ps.length ≤ 200) (hlen : ∀ x ∈ ps, x.length ≤ 1000) (n : Nat) (hn : n = ps.length) (W : World) (A1 A2 : Option Addr) (c1 c2 : Nat) (h1 : Kd.C dP W A1 n ps) (h2 : n ≤ c1) (h3 : Kd.C dP W A2 n ps) (h4 : n ≤ c2) :
    Calls Try.prog 25 #[.slice A1 n c1, .slice A2 n c2] W fun e w' => e = .returned (.bool true) ∧ Below W.heap.size W w' := by
  subst hn
  refine (QA.gessoref15_Same.calls (ps.length + 1002) A1 c1 ps A2 c2 ps true W h1 h2 h3 h4 ?_).mono (fun e w' h => ⟨h.1, h.2.below⟩)
  rw [same15_f _ ps ps (by omega) 1000 hlen (by omega) (Nat.le_refl _)]
  simp
theorem refsorted_m (A : Option Addr) (c n : Nat) (ps : List (List ByteArray)) (hn : n = ps.length) (deep : Bool) (w : World) (hr : Kd.C dP w A ps.length ps) (hc : ps.length ≤ c) (h200 : ps.length ≤ 200) (hlen : ∀ x ∈ ps, x.length ≤ 1000) :
    Calls Try.prog 24 #[.slice A n c, .bool deep] w fun e w' => ∃ A' c', e = .returned (.slice A' n c') ∧ Aside0 (Kd.C dP w' A' n (insAll deep ps []) ∧ n ≤ c') ∧ Aside0 (Below w.heap.size w w') := by
  subst hn
  have hL : (insAll deep ps []).length = ps.length := (insAll_sortedOf deep ps).1.length_eq
  refine (QA.gessoref15_Sorted.calls (2 * ps.length + 2 * 1000 + 5) A c ps deep _ w hr hc (refsorted_f _ deep ps 1000 (by omega) hlen (by omega) (Nat.le_refl _))).mono ?_
  rintro e w' ⟨v, rfl, hN, hb⟩
  obtain ⟨A', c', rfl, h1, h2⟩ := Kd.N_reads hN
  rw [hL] at h1 h2 ⊢
  exact ⟨A', c', rfl, ⟨h2, h1⟩, ⟨hb⟩⟩

set_option maxHeartbeats 40000000 in
theorem sorts_walk (A : Option Addr) (c n : Nat) (deep : Bool) (ps : List (List ByteArray)) (hn : n = ps.length) (w : World) (hr : Kd.C dP w A ps.length ps) (hc : ps.length ≤ c) :
    Calls Try.prog 5 #[.slice A n c, .bool deep] w fun e w' => e = .returned (.bool true) ∧ Below w.heap.size w w' := by
  have C8 := Aside0.mk awake_m
  have CL := Aside0.mk (light_m A c n ps hn w hr hc)
  cases hlt : lightOf ps with
  | false =>
    rw [hlt] at CL
    clear hlt hr hc hn
    go_enter Try.func5, Try.ntmps5
    go_wp2_with (first | (go_at_call 15; (with_reducible refine CL.out.mono ?_); rintro e w1 ⟨rfl, hb⟩; have HB1 := Aside0.mk hb; clear hb) | (go_at_call 8; (with_reducible refine (C8.out _).mono ?_); rintro e w2 ⟨rfl, hb⟩; have HB2 := Aside0.mk hb; clear hb) | fail)
    go_ret
    exact ⟨rfl, below_step HB1.out HB2.out⟩
  | true =>
    rw [hlt] at CL
    obtain ⟨h200, hlen⟩ := light_true hlt
    have HR := Aside0.mk hr
    have HC : Aside0 (n ≤ c) := ⟨by omega⟩
    have HLN := Aside0.mk hlen
    have HN := Aside0.mk hn
    have H200 : Aside0 (n ≤ 200) := ⟨by omega⟩
    obtain ⟨L, hL⟩ : ∃ L, L = insAll deep ps [] := ⟨_, rfl⟩
    have hLp : L.Perm ps := by rw [hL]; exact (insAll_sortedOf deep ps).1
    have HLL : Aside0 (n = L.length) := ⟨by rw [hn]; exact hLp.length_eq.symm⟩
    have HLM : Aside0 (∀ x ∈ L, x.length ≤ 1000) := ⟨fun x hx => hlen x (hLp.mem_iff.1 hx)⟩
    have CS : Aside0 (∀ W, Below w.heap.size w W → Calls Try.prog 23 #[.slice A n c, .bool deep] W fun e w' => ∃ A' c', e = .returned (.slice A' n c') ∧ Aside0 (Kd.R dP 22 w' W.heap.size (fun _ => True) (.slice A' n c') L) ∧ Aside0 (Below W.heap.size W w')) := ⟨fun W hW => (sorted_m A c n ps hn deep W (Kd.C_below hr hW) (fun y hy => by have := hlen y hy; omega) (by omega)).mono (by
      rintro e w' ⟨A', c', out, rfl, hs, hR, hb⟩
      have ho := sortedOf_eq hs.out
      rw [← hL] at ho
      subst ho
      rw [← HLL.out] at hR ⊢
      exact ⟨A', c', rfl, hR, hb⟩)⟩
    have CR : Aside0 (∀ W, Below w.heap.size w W → Calls Try.prog 24 #[.slice A n c, .bool deep] W fun e w' => ∃ A' c', e = .returned (.slice A' n c') ∧ Aside0 (Kd.C dP w' A' n L ∧ n ≤ c') ∧ Aside0 (Below W.heap.size W w')) := ⟨fun W hW => by rw [hL]; exact refsorted_m A c n ps hn deep W (Kd.C_below hr hW) hc h200 hlen⟩
    have CM : Aside0 (∀ W A1 c1 A2 c2, Kd.C dP W A1 n L → n ≤ c1 → Kd.C dP W A2 n L → n ≤ c2 → Calls Try.prog 25 #[.slice A1 n c1, .slice A2 n c2] W fun e w' => e = .returned (.bool true) ∧ Below W.heap.size W w') := ⟨fun W A1 c1 A2 c2 => same_C L (by rw [← HLL.out]; exact H200.out) HLM.out n HLL.out W A1 A2 c1 c2⟩
    have CM2 : Aside0 (∀ W A1 c1 A2 c2, Kd.C dP W A1 n ps → n ≤ c1 → Kd.C dP W A2 n ps → n ≤ c2 → Calls Try.prog 25 #[.slice A1 n c1, .slice A2 n c2] W fun e w' => e = .returned (.bool true) ∧ Below W.heap.size W w') := ⟨fun W A1 c1 A2 c2 => same_C ps h200 hlen n hn W A1 A2 c1 c2⟩
    have hn9 : n < 100000000 := by omega
    clear hlt hr hc hn h200 hlen hL hLp
    go_enter Try.func5, Try.ntmps5
    go_wp2_with (first | (go_at_call 15; (with_reducible refine CL.out.mono ?_); rintro e w1 ⟨rfl, hb⟩; have HB1 := Aside0.mk hb; clear hb) | (go_at_call 23; (with_reducible refine (CS.out w1 HB1.out).mono ?_); rintro e w2 ⟨AS, cS, rfl, hRS, hb⟩; have HB2 := Aside0.mk hb.out; clear hb) | (go_at_call 24; (with_reducible refine (CR.out w2 (below_step HB1.out HB2.out)).mono ?_); rintro e w3 ⟨AR, cR, rfl, hRR, hb⟩; have HB3 := Aside0.mk hb.out; clear hb) | (go_at_call 25; (with_reducible refine (CM.out w3 AS cS AR cR (by have h := Kd.R_reads' (Kd.R_below hRS.out HB3.out); rw [HLL.out]; exact h.2.2) (Kd.R_reads' hRS.out).2.1 hRR.out.1 hRR.out.2).mono ?_); rintro e w4 ⟨rfl, hb⟩; have HB4 := Aside0.mk hb; clear hb) | fail)
    have HBw : Aside0 (Below w.heap.size w w4) := ⟨below_step (below_step (below_step HB1.out HB2.out) HB3.out) HB4.out⟩
    have HRS : Aside0 (Kd.R dP 22 w4 w1.heap.size (fun q => w1.heap.size ≤ q ∧ q < w4.heap.size) (.slice AS n cS) L) := ⟨Kd.R_mono (Kd.R_bound (Kd.R_below (Kd.R_below hRS.out HB3.out) HB4.out)) (fun k hk => ⟨hk.2.1, hk.2.2.1⟩)⟩
    clear CL CS CR CM hRS hRR HB3 HB4
    go_loopg [8, 9] n (fun gk s8 s9 wr => ∃ (k : Nat) (AI : Option Addr) (cI : Nat), s9 = .int .i64 (k : Int) ∧ s8 = .slice AI k cI ∧ Aside0 (gk + k = n) ∧ Aside0 (Kd.R dP 22 wr w4.heap.size (fun q => w4.heap.size ≤ q) (.slice AI k cI) (ps.take k)) ∧ Aside0 (Below w4.heap.size w4 wr))
    case atStart => exact ⟨0, none, 0, rfl, rfl, ⟨rfl⟩, ⟨Kd.R_nil _ _ _ _ _⟩, ⟨Below.refl _ _⟩⟩
    case round => as_aux_lemma =>
      obtain ⟨k, AI, cI, rfl, rfl, HG, HI, HB⟩ := hrel
      by_cases hk : (k : Int) < (n : Int)
      · have hk0 : (0 : Int) ≤ (k : Int) := by omega
        have hkp : k < ps.length := by have := HN.out; omega
        obtain ⟨ad, A1, c1, e1, hx, hl1, hC⟩ := QA.at_L2 (Kd.C_below HR.out (HBw.out.trans (HB.out.mono HBw.out.size))) (k : Int) hk0 (by have := HN.out; omega)
        cases e1
        rw [Int.toNat_natCast] at hx
        obtain ⟨m1, hm1⟩ : ∃ m, (QA.rd_L2 ps (k : Int)).length = m := ⟨_, rfl⟩
        have hm2 : m1 ≤ 1000 := by rw [← hm1]; exact HLN.out _ (rd2_mem hkp)
        rw [hm1] at hx hl1
        have HM1 := Aside0.mk hm1
        have HM2 := Aside0.mk hm2
        have HC1 := Aside0.mk hC
        have HTK : Aside0 (ps.take k ++ [QA.rd_L2 ps (k : Int)] = ps.take (k + 1)) := ⟨rd_take hkp⟩
        have HTL : Aside0 ((ps.take k).length = k) := ⟨by rw [List.length_take]; omega⟩
        have e3 : IntKind.i64.wrap ((k : Int) + 1) = ((k + 1 : Nat) : Int) := by rw [i64_w]; unfold wrap64; omega
        have e3' : wrap64 ((k : Int) + 1) = ((k + 1 : Nat) : Int) := by unfold wrap64; omega
        have HK : Aside0 (k < n) := ⟨by omega⟩
        clear hl1 hC hkp hm1 hm2
        go_wp2_with (first | ((with_reducible refine gate_dst (N := 35) rfl ?_); refine Kd.R_lit Kd.string _ 9 ?hg (N := 35) ?hd (xs := ([] : List ByteArray)) (inner := []) (ok := fun _ => True) (okp := fun _ => True) ?hr ?hp (fun _ hk => hk) trivial (Below.refl _ _) (Nat.le_refl _) (by simp) ?_; (case hd => rfl); (case hg => rfl); (case hr => first | (go_simp; done) | (go_simp; rfl)); (case hp => exact (Reps.none _ _)); intro v35 w6 ho hb hg_ hnew_; have HO35 := Aside0.mk ho; have HB35 := Aside0.mk hb; have hx6 := (hb.cell (World.block_lt_of_cell? _ _ hx)).trans hx; clear hg_ hnew_ ho hb) | ((with_reducible refine gate_builtin (b := .append) (xs := #[.tmp 35, .tmp 39]) rfl ?_); at_builtin; refine Kd.R_append_rows Kd.string (w0 := wr) wr.heap.size rfl (.tmp 35) (.tmp 39) 22 9 (.string ⟨#[]⟩) 16 rfl Try.underlying22 QA.info9 rfl (by decide) (by omega) v35 ([] : List ByteArray) (QA.rd_L2 ps (k : Int)) _ _ _ (fun q => wr.heap.size ≤ q) (fun _ => False) rfl rfl ?aO ?aR (fun _ _ h => h) (fun _ h => h.elim) ?aF ?aB ?aS ?aL ?_; (case aR => rw [← HM1.out]; exact Kd.C_below HC1.out HB35.out); (case aB => exact HB35.out); (case aF => exact (fun k_ hk => Nat.le_trans HB35.out.size hk)); (case aO => exact Kd.R_mono (Kd.R_bound HO35.out) (fun _ hk => hk.2.1)); (case aS => exact HB35.out.size); (case aL => have := HM2.out; simp; omega); intro v40 w7 ho hb hg hat; rw [List.nil_append] at ho; obtain ⟨A4, c4, e4⟩ := Kd.R_slice ho; rw [HM1.out] at e4; subst e4; have HO40 := Aside0.mk ho; have HB40 := Aside0.mk hb; clear ho hb hg hat) | ((with_reducible refine gate_builtin (b := .append) (xs := #[.tmp 34, .tmp 41]) rfl ?_); at_builtin; refine Kd.R_append dP (w0 := w4) (W := w7) w4.heap.size rfl (.tmp 34) (.tmp 41) 26 22 (.slice none 0 0) 24 rfl Try.underlying26 QA.info22 rfl (by decide) (by decide) (.slice AI k cI) (ps.take k) (QA.rd_L2 ps (k : Int)) [.slice A4 m1 c4] (fun q => w4.heap.size ≤ q) (fun q => wr.heap.size ≤ q) rfl rfl ⟨_, rfl, Kd.R_lower HO40.out HB.out.size⟩ (fun q hq => ⟨Nat.le_trans HB.out.size hq, fun e => by have h1 := (Kd.R_bound HI.out).1 q e.symm; have h2 := h1.2.2.1; omega⟩) (fun q hq => Nat.le_trans (Nat.le_trans HB.out.size HB40.out.size) hq) (Kd.R_below HI.out HB40.out) (below_step HB.out HB40.out) (Nat.le_trans HB.out.size HB40.out.size) (by have := HTL.out; have := H200.out; have := HK.out; omega) ?_; intro v42 w8 ho hb hg hat; rw [HTK.out] at ho; have HO42 := Aside0.mk ho; have HB42 := Aside0.mk hb; clear ho hb hg hat) | fail)
        go_roundg (n - (k + 1))
        case measure => have := HG.out; have := HK.out; omega
        case rel =>
          obtain ⟨A9, c9, e9⟩ := Kd.R_slice HO42.out
          have hl9 : (ps.take (k + 1)).length = k + 1 := by rw [List.length_take]; have := HN.out; have := HK.out; omega
          rw [hl9] at e9
          subst e9
          exact ⟨k + 1, A9, c9, by first | rfl | (simp; done), rfl, ⟨by have := HK.out; omega⟩, HO42, HB42⟩
      · have hk2 : ¬ (k : Int) < (n : Int) := hk
        have hkn : k = n := by have := HG.out; omega
        subst hkn
        have HI0 : Aside0 (Kd.R dP 22 wr w4.heap.size (fun q => w4.heap.size ≤ q) (.slice AI k cI) ps) := ⟨by have h := HI.out; rwa [HN.out, List.take_length, ← HN.out] at h⟩
        have HRS5 : Aside0 (Kd.R dP 22 wr w1.heap.size (fun q => w1.heap.size ≤ q ∧ q < w4.heap.size) (.slice AS k cS) L) := ⟨Kd.R_below HRS.out HB.out⟩
        have HBw5 : Aside0 (Below w.heap.size w wr) := ⟨HBw.out.trans (HB.out.mono HBw.out.size)⟩
        have HW1 : Aside0 (w.heap.size ≤ w1.heap.size) := ⟨HB1.out.size⟩
        have HB5 := HB
        clear HI HRS HB HBw hk
        rename World => w5
        go_wp2_with fail
        go_loopg [10] k (fun gk s10 wx => ∃ (j : Nat), s10 = .int .i64 (j : Int) ∧ Aside0 (gk + j = k) ∧ Aside0 (Wr w1.heap.size w4.heap.size w5 wx))
        case atStart => exact ⟨0, rfl, ⟨rfl⟩, ⟨Wr.refl _ _ _⟩⟩
        case round => as_aux_lemma =>
          rename World => wx
          obtain ⟨j, rfl, HG2, HX⟩ := hrel
          by_cases hj : (j : Int) < (k : Int)
          · have hjl : j < L.length := by rw [← HLL.out]; omega
            have hS := HRS5.out
            obtain ⟨adS, cS2, eS⟩ := Kd.R_slice1 hS (by omega)
            injection eS with eS1 eS2 eS3
            subst eS1
            obtain ⟨gr, rfl⟩ := Kd.R_head hS
            obtain ⟨cells22, hb22⟩ := row_blk hS
            obtain ⟨A1, c1, hx, hl1, hE⟩ := row_elem hS j hjl
            obtain ⟨m1, hm1⟩ : ∃ m, (L.getD j []).length = m := ⟨_, rfl⟩
            have hm2 : m1 ≤ 1000 := by rw [← hm1]; exact HLM.out _ (getD_mem hjl)
            rw [hm1] at hx hl1 hE
            have HX0 := Aside0.mk hx
            have HB22 := Aside0.mk hb22
            have HE := Aside0.mk hE
            have HM2 := Aside0.mk hm2
            have hj0 : (0 : Int) ≤ (j : Int) := by omega
            have hjk : (j : Int) < (k : Int) := hj
            have e3 : IntKind.i64.wrap ((j : Int) + 1) = ((j + 1 : Nat) : Int) := by rw [i64_w]; unfold wrap64; omega
            have e3' : wrap64 ((j : Int) + 1) = ((j + 1 : Nat) : Int) := by unfold wrap64; omega
            have HJ : Aside0 (j < k) := ⟨Int.ofNat_lt.mp hjk⟩
            clear hS eS2 eS3 hb22 hx hE hm1 hm2 hjl hl1 hj
            go_wp2_with fail
            go_loopg [11] m1 (fun gk s11 wy => ∃ (q : Nat), s11 = .int .i64 (q : Int) ∧ Aside0 (gk + q = m1) ∧ Aside0 (Wr w1.heap.size w4.heap.size w5 wy))
            case atStart => exact ⟨0, rfl, ⟨rfl⟩, HX⟩
            case round => as_aux_lemma =>
              rename World => wy
              obtain ⟨q, rfl, HG3, HY⟩ := hrel
              have hxy : wy.cell? ⟨gr, j, none⟩ = some (.slice A1 m1 c1) := (HY.out.cell HB22.out (by decide)).trans HX0.out
              by_cases hq : (q : Int) < (m1 : Int)
              · obtain ⟨gi, cells, e1, hbase, hok, hblk, hle⟩ := HE.out (by omega)
                subst e1
                obtain ⟨⟨y, hy⟩, hf⟩ := HY.out.spot hblk hle (k := q) (by omega)
                have HS : Aside0 (Wr w1.heap.size w4.heap.size w5 (wy.setCell ⟨gi, q, none⟩ (.string ⟨#[63]⟩))) := ⟨HY.out.set hbase hok.2 hblk q _⟩
                have hq0 : (0 : Int) ≤ (q : Int) := by omega
                have e4 : IntKind.i64.wrap ((q : Int) + 1) = ((q + 1 : Nat) : Int) := by rw [i64_w]; have := HM2.out; unfold wrap64; omega
                have e4' : wrap64 ((q : Int) + 1) = ((q + 1 : Nat) : Int) := by have := HM2.out; unfold wrap64; omega
                have HQ : Aside0 (q < m1) := ⟨Int.ofNat_lt.mp hq⟩
                clear hbase hok hblk hle
                clear CM2 C8 HR HLN HLM HN H200 HLL HRS5 HI0 HBw5 HW1 HB5 HX HX0 HB22 HE HY
                as_aux_lemma =>
                go_wp2_with fail
                go_roundg (m1 - (q + 1))
                case measure => have := HG3.out; have := HQ.out; omega
                case rel => exact ⟨q + 1, by first | rfl | (simp; done), ⟨by have := HQ.out; omega⟩, HS⟩
              · have hq2 : ¬ (q : Int) < (m1 : Int) := hq
                as_aux_lemma =>
                go_wp2_with fail
                go_roundg (k - (j + 1))
                case measure => have := HG2.out; have := HJ.out; omega
                case rel => exact ⟨j + 1, by first | rfl | (simp; done), ⟨by have := HJ.out; omega⟩, HY⟩
          · have hj2 : ¬ (j : Int) < (k : Int) := hj
            have HIx : Aside0 (∀ W, Below wx.heap.size wx W → Kd.C dP W AI k ps ∧ k ≤ cI) := ⟨fun W hW => by
              have h := Kd.R_reads' (Kd.R_below (Kd.R_step HI0.out (fun q hq _ => HX.out.far hq)) hW)
              exact ⟨by rw [HN.out]; exact h.2.2, h.2.1⟩⟩
            have HBx : Aside0 (Below w.heap.size w wx) := ⟨HBw5.out.trans (HX.out.below.mono HW1.out)⟩
            have HCI : Aside0 (k ≤ cI) := ⟨(Kd.R_reads' HI0.out).2.1⟩
            have HAx : Aside0 (∀ o, Below wx.heap.size wx (wx.alloc o)) := ⟨fun o => below_alloc (Below.refl _ _) o⟩
            have HLx : Aside0 (∀ o, Kd.C dP (wx.alloc o) A k ps) := ⟨fun o => by
              have h := Kd.C_below HR.out (HBx.out.trans ((HAx.out o).mono HBx.out.size))
              rw [← HN.out] at h
              exact h⟩
            have CPU := Aside0.mk qpush_nil
            have CPO := Aside0.mk qpop_nil
            have CLE := Aside0.mk qlen_nil
            go_wp2_with (first | (go_at_call 17; (with_reducible refine (CPU.out _ _).mono ?_); rintro e w6 ⟨rfl, rfl⟩) | (go_at_call 19; (with_reducible refine (CPO.out _).mono ?_); rintro e w7 ⟨rfl, rfl⟩) | (go_at_call 25; (with_reducible refine (CM2.out _ AI cI A c (HIx.out _ (HAx.out _)).1 HCI.out (HLx.out _) HC.out).mono ?_); rintro e w8 ⟨rfl, hb⟩; have HB8 := Aside0.mk hb; clear hb) | (go_at_call 22; (with_reducible refine (CLE.out _).mono ?_); rintro e w9 ⟨rfl, rfl⟩) | (go_at_call 8; (with_reducible refine (C8.out _).mono ?_); rintro e w10 ⟨rfl, hb⟩; have HB10 := Aside0.mk hb; clear hb) | fail)
            go_ret
            exact ⟨rfl, below_step (below_step (below_step HBx.out (HAx.out _)) HB8.out) HB10.out⟩
end Go.Proofs.Ytmpniapbjoailaa.Hand
