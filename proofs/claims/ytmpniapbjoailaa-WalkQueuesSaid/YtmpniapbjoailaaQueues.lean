/- Law WalkQueues of package walk: the walk. -/
import Derived.Test.YtmpniapbjoailaaPushR
namespace Go.Proofs.Ytmpniapbjoailaa.Hand
open Go.RowKit Go.Proofs.YtmpniapbjoailaaW.PrintWords Go.Proofs.YtmpniapbjoailaaW.PrintLast Go.Proofs.YtmpniapbjoailaaW.PrintMore
set_option linter.unusedVariables false
set_option linter.unusedSimpArgs false

set_option maxHeartbeats 40000000 in
set_option maxRecDepth 100000 in
theorem queues_walk (deep : Bool) (A : Option Addr) (c n : Nat) (ps : List (List ByteArray)) (AP : Option Addr) (cP nP : Nat) (pops : List Bool) (hn : n = ps.length) (hnP : nP = pops.length) (w : World) (hr : Kd.C dP w A ps.length ps) (hc : ps.length ≤ c) (hrP : Kd.C Kd.bool w AP pops.length pops) :
    Calls Try.prog 4 #[.bool deep, .slice A n c, .slice AP nP cP] w fun e w' => e = .returned (.bool true) ∧ Below w.heap.size w w' := by
  have C8 := Aside0.mk awake_m
  have CL := Aside0.mk (light_m A c n ps hn w hr hc)
  cases hlt : lightOf ps with
  | false =>
    rw [hlt] at CL
    clear hlt hr hc hn hrP hnP
    go_enter Try.func4, Try.ntmps4
    go_wp2_with (first | (go_at_call 15; (with_reducible refine CL.out.mono ?_); rintro e w1 ⟨rfl, hb⟩; have HB1 := Aside0.mk hb; clear hb) | (go_at_call 8; (with_reducible refine (C8.out _).mono ?_); rintro e w2 ⟨rfl, hb⟩; have HB2 := Aside0.mk hb; clear hb) | fail)
    go_ret
    exact ⟨rfl, below_step HB1.out HB2.out⟩
  | true =>
    rw [hlt] at CL
    obtain ⟨h200, hlen⟩ := light_true hlt
    have HR := Aside0.mk hr
    have HRP := Aside0.mk hrP
    have HLN := Aside0.mk hlen
    have HN := Aside0.mk hn
    have HNP := Aside0.mk hnP
    have H200 : Aside0 (n ≤ 200) := ⟨by omega⟩
    have CN := Aside0.mk (new_calls deep)
    have hn9 : n < 100000000 := by omega
    clear hlt hr hc hn h200 hlen hrP hnP
    go_enter Try.func4, Try.ntmps4
    go_wp2_with (first | (go_at_call 15; (with_reducible refine CL.out.mono ?_); rintro e w1 ⟨rfl, hb⟩; have HB1 := Aside0.mk hb; clear hb) | (go_at_call 16; (with_reducible refine (CN.out w1).mono ?_); rintro e w2 ⟨rfl, rfl⟩) | fail)
    clear CL CN
    go_loopg [9] n (fun gk s9 wr => ∃ (k : Nat) (v : Value) (cs R : List (List ByteArray)) (AR : Option Addr) (nR cR : Nat), s9 = .int .i64 (k : Int) ∧ Aside0 (gk + k = n) ∧ Aside0 (Sc wr w1.heap.size deep v cs R AR nR cR) ∧ Aside0 (nR ≤ k ∧ ∀ y ∈ R, y.length ≤ 1000) ∧ Aside0 (Below w1.heap.size w1 wr))
    case atStart => exact ⟨0, _, [], [], none, 0, 0, rfl, ⟨rfl⟩, ⟨Sc.start w1 deep⟩, ⟨by simp⟩, ⟨below_alloc (below_alloc (Below.refl _ _) _) _⟩⟩
    case round => as_aux_lemma =>
      rename World => w0
      obtain ⟨k, v, cs, R, AR, nR, cR, rfl, HG, HS, HRB, HB⟩ := hrel
      have HBw : Aside0 (Below w.heap.size w w0) := ⟨HB1.out.trans (HB.out.mono HB1.out.size)⟩
      by_cases hk : (k : Int) < (n : Int)
      · as_aux_lemma =>
        have hk0 : (0 : Int) ≤ (k : Int) := by omega
        have hkp : k < ps.length := by have := HN.out; omega
        obtain ⟨ad, A1, c1, e1, hxw, hl1, hC⟩ := QA.at_L2 HR.out (k : Int) hk0 (by have := HN.out; omega)
        cases e1
        rw [Int.toNat_natCast] at hxw
        obtain ⟨x, hx0⟩ : ∃ x, QA.rd_L2 ps (k : Int) = x := ⟨_, rfl⟩
        rw [hx0] at hxw hl1 hC
        obtain ⟨m1, hm1⟩ : ∃ m, x.length = m := ⟨_, rfl⟩
        have hm2 : m1 ≤ 1000 := by rw [← hm1, ← hx0]; exact HLN.out _ (rd2_mem hkp)
        rw [hm1] at hxw hl1 hC
        have HX : Aside0 (∀ W, Below w.heap.size w W → W.cell? (ad.add k) = some (.slice A1 m1 c1) ∧ Kd.C Kd.string W A1 m1 x) := ⟨fun W hW => ⟨(hW.cell (World.block_lt_of_cell? _ _ hxw)).trans hxw, Kd.C_below hC hW⟩⟩
        have hx := (HX.out w0 HBw.out).1
        have HC1 := Aside0.mk (HX.out w0 HBw.out).2
        have HM1 := Aside0.mk hm1
        have HM2 := Aside0.mk hm2
        have HL1 := Aside0.mk hl1
        have C17 : Aside0 (∀ W Ai ci, Below w0.heap.size w0 W → Kd.R Kd.string 9 W w0.heap.size (fun q => w0.heap.size ≤ q) (.slice Ai m1 ci) x → Calls Try.prog 17 #[.pointer (some ⟨w1.heap.size, 0, none⟩), .slice Ai m1 ci] W fun e w' => e = .returned (.tuple #[]) ∧ Aside0 (∃ v' cs', At W v v' ∧ QU w' w1.heap.size deep w1.heap.size (fun q => ((q ≠ w1.heap.size ∧ q ≠ w1.heap.size + 1) ∧ q < w0.heap.size) ∨ W.heap.size ≤ q) v' cs' ∧ cs'.Perm (cs ++ [x])) ∧ Aside0 (Fr W w' w1.heap.size v) ∧ Aside0 (Below w1.heap.size W w')) := ⟨fun W Ai ci hW hRi => by
          have h := Kd.R_reads' hRi
          have hlc := HS.out.len
          have hkb := HRB.out.1
          have hsz := HB.out.size
          have hsz2 := hW.size
          have h200 := H200.out
          refine qpush_m (HS.out.tight hW) Ai ci m1 x hm1.symm h.2.2 (by rw [hm1]; exact h.2.1) (fun y hy => ?_) (by omega) (by omega) (Nat.le_refl _)
          rcases List.mem_append.1 hy with hy | hy
          · have := HRB.out.2 y (HS.out.p.mem_iff.1 hy)
            omega
          · rw [List.mem_singleton] at hy
            subst hy
            omega⟩
        have e3 : IntKind.i64.wrap ((k : Int) + 1) = ((k + 1 : Nat) : Int) := by rw [i64_w]; unfold wrap64; omega
        have e3' : wrap64 ((k : Int) + 1) = ((k + 1 : Nat) : Int) := by unfold wrap64; omega
        have HK : Aside0 (k < n) := ⟨Int.ofNat_lt.mp hk⟩
        clear hl1 hC hkp hm1 hm2 hxw hx0
        go_wp2_with (first | ((with_reducible refine gate_dst (N := 39) rfl ?_); refine Kd.R_lit Kd.string _ 9 ?hg (N := 39) ?hd (xs := ([] : List ByteArray)) (inner := []) (ok := fun _ => True) (okp := fun _ => True) ?hr ?hp (fun _ hk => hk) trivial (Below.refl _ _) (Nat.le_refl _) (by simp) ?_; (case hd => rfl); (case hg => rfl); (case hr => first | (go_simp; done) | (go_simp; rfl)); (case hp => exact (Reps.none _ _)); intro v39 w6 ho hb hg_ hnew_; have HO39 := Aside0.mk ho; have HB39 := Aside0.mk hb; have hx6 := (hb.cell (World.block_lt_of_cell? _ _ hx)).trans hx; clear hg_ hnew_ ho hb) | ((with_reducible refine gate_builtin (b := .append) (xs := #[.tmp 39, .tmp 43]) rfl ?_); at_builtin; refine Kd.R_append_rows Kd.string (w0 := w0) w0.heap.size rfl (.tmp 39) (.tmp 43) 22 9 (.string ⟨#[]⟩) 16 rfl Try.underlying22 QA.info9 rfl (by decide) (by omega) v39 ([] : List ByteArray) x _ _ _ (fun q => w0.heap.size ≤ q) (fun _ => False) rfl rfl ?aO ?aR (fun _ _ h => h) (fun _ h => h.elim) ?aF ?aB ?aS ?aL ?_; (case aR => exact Kd.C_below HC1.out HB39.out); (case aB => exact HB39.out); (case aF => exact (fun k_ hk => Nat.le_trans HB39.out.size hk)); (case aO => exact Kd.R_mono (Kd.R_bound HO39.out) (fun _ hk => hk.2.1)); (case aS => exact HB39.out.size); (case aL => have := HM2.out; simp; omega); intro v44 w7 ho hb hg hat; rw [List.nil_append] at ho; obtain ⟨A4, c4, e4⟩ := Kd.R_slice ho; rw [HM1.out] at e4; subst e4; have HO44 := Aside0.mk ho; have HB44 := Aside0.mk hb; clear ho hb hg hat) | (go_at_call 17; (with_reducible refine (C17.out w7 A4 c4 HB44.out HO44.out).mono ?_); rintro e w8 ⟨rfl, hq8, hf8, hb8⟩) | fail)
        obtain ⟨v', cs', hat, hq, hp⟩ := hq8.out
        have V8 := HS.out.tightV HB44.out hf8.out
        have HAT := Aside0.mk hat
        have HPM := Aside0.mk hp
        have HQ9 : Aside0 (QU w8.drew w1.heap.size deep w1.heap.size (fun q => ((q ≠ w1.heap.size ∧ q ≠ w1.heap.size + 1) ∧ q < w0.heap.size) ∨ w7.heap.size ≤ q) v' cs') := ⟨hq.below (below_drew (Below.refl _ _))⟩
        have HV9 : Aside0 (Kd.V dP 22 w8.drew 0 (fun q => (q ≠ w1.heap.size ∧ q ≠ w1.heap.size + 1 ∧ v.ownBlock ≠ some q) ∧ q < w0.heap.size) (.slice AR nR cR) R) := ⟨Kd.V_drew V8.1⟩
        have HK9 : Aside0 (w8.drew.heap[w1.heap.size + 1]? = some (.cells #[.bool deep, .slice AR nR cR] 32 (0, 0))) := ⟨V8.2⟩
        have HF9 : Aside0 (Fr w7 w8.drew w1.heap.size v) := ⟨Kept.drew hf8.out⟩
        have HB9 : Aside0 (Below w1.heap.size w1 w8.drew) := ⟨((HB.out.trans (HB44.out.mono HB.out.size)).trans hb8.out).drew⟩
        have HB9w : Aside0 (Below w.heap.size w w8.drew) := ⟨HB1.out.trans (HB9.out.mono HB1.out.size)⟩
        have CPu := Aside0.mk (rpush_m deep _ AR nR cR R x A1 m1 c1 w8.drew HV9.out (HX.out _ HB9w.out).2 HM1.out HL1.out (by have := HS.out.len; have := HRB.out.1; have := H200.out; have := HK.out; omega) HRB.out.2 HM2.out (nR + 1) rfl)
        obtain ⟨n1, hn1⟩ : ∃ n1, nR + 1 = n1 := ⟨_, rfl⟩
        rw [hn1] at CPu
        have HN1 := Aside0.mk hn1
        clear hq8 hf8 hb8 hat hq hp V8 hx hn1 C17 HO39 HB39 hx6
        refine start_ (n := 7) (S := fun w' => w'.cell? ⟨w1.heap.size + 1, 0, none⟩ = some (.bool deep) ∧ w'.cell? ⟨w1.heap.size + 1, 1, none⟩ = some (.slice AR nR cR) ∧ w'.cell? (ad.add k) = some (.slice A1 m1 c1)) (ds := [6]) #[false, false, false, false, false, false, false] (by kernel_rfl) rfl rfl ⟨(blk_cell HK9.out 0).trans rfl, (blk_cell HK9.out 1).trans rfl, (HX.out _ HB9w.out).1⟩ (fun hHeld => ?_)
        generalize w8.drew = w9 at HQ9 HV9 HK9 HF9 HB9 HB9w CPu hHeld ⊢
        refine pure_ (i := 1) (N := some 49) (v := ?_) (a' := ?_) #[false, true, false, false, false, false, false] rfl rfl (by kernel_rfl) (fun _ _ _ h => h) (Or.inl ⟨by rfl, ?_⟩) ?_ ?_
        rotate_left
        · intro w'
          go_simp
          with_reducible rfl
        rotate_left
        · simp only [Act.put, List.setIfInBounds_toArray, List.set_cons_zero, List.set_cons_succ, i64_w, i32_w]
          rfl
        refine pure_ (i := 2) (N := some 50) (v := ?_) (a' := ?_) #[false, true, true, false, false, false, false] rfl rfl (by kernel_rfl) (fun _ _ _ h => h) (Or.inl ⟨by rfl, ?_⟩) ?_ ?_
        rotate_left
        · intro w'
          go_simp
          with_reducible rfl
        rotate_left
        · simp only [Act.put, List.setIfInBounds_toArray, List.set_cons_zero, List.set_cons_succ, i64_w, i32_w]
          rfl
        refine pure_ (i := 3) (N := some 51) (v := ?_) (a' := ?_) #[false, true, true, true, false, false, false] rfl rfl (by kernel_rfl) (fun _ _ _ h => h) (Or.inl ⟨by rfl, ?_⟩) ?_ ?_
        rotate_left
        · intro w'
          go_simp
          with_reducible rfl
        rotate_left
        · simp only [Act.put, List.setIfInBounds_toArray, List.set_cons_zero, List.set_cons_succ, i64_w, i32_w]
          rfl
        refine take_ (i := 0) (N := some 48) (v := ?_) (a' := ?_) #[true, true, true, true, false, false, false] rfl rfl (by kernel_rfl) (fun _ _ _ h => h) (Or.inl ⟨by rfl, ?_⟩) hHeld ?_ ?_
        rotate_left
        · rintro w' ⟨s0, s1, s2⟩
          go_simp
          with_reducible rfl
        rotate_left
        · simp only [Act.put, List.setIfInBounds_toArray, List.set_cons_zero, List.set_cons_succ, i64_w, i32_w]
          rfl
        refine take_ (i := 4) (N := some 52) (v := ?_) (a' := ?_) #[true, true, true, true, true, false, false] rfl rfl (by kernel_rfl) (fun _ _ _ h => h) (Or.inl ⟨by rfl, ?_⟩) hHeld ?_ ?_
        rotate_left
        · rintro w' ⟨s0, s1, s2⟩
          go_simp
          with_reducible rfl
        rotate_left
        · simp only [Act.put, List.setIfInBounds_toArray, List.set_cons_zero, List.set_cons_succ, i64_w, i32_w]
          rfl
        refine one_ (i := 5) (N := some 53) #[true, true, true, true, true, true, false] rfl rfl (by kernel_rfl) (by decide) (fun K hK => ?_)
        refine goes_ Try.func18 (by kernel_rfl) rfl #[.agg #[.bool deep, .slice AR nR cR], .slice A1 m1 c1] (by rfl) rfl rfl (by (try simp only [List.map_toArray, List.map_cons, List.map_nil]); first | done | rfl) ?_
        with_reducible refine CPu.out.mono ?_
        rintro e w10 ⟨AN, cN, rfl, hN, hb10⟩
        refine ⟨_, rfl, ?_⟩
        have HN10 := hN
        have HB10 := hb10
        have HK10 := Aside0.mk (blk_below HK9.out hb10.out)
        have HB10w : Aside0 (Below w.heap.size w w10) := ⟨HB9w.out.trans (hb10.out.mono HB9w.out.size)⟩
        clear hN hb10
        refine hK.out _ _ ⟨(blk_cell HK10.out 0).trans rfl, (blk_cell HK10.out 1).trans rfl, (HX.out _ HB10w.out).1⟩ (fun hHeld => ?_)
        clear hK K
        refine norm_ (a' := ?_) ?_ ?_
        rotate_left
        · show Act.put _ (some 53) _ = _
          simp only [Act.put, List.setIfInBounds_toArray, List.set_cons_zero, List.set_cons_succ, i64_w, i32_w]
          rfl
        have hs11 : w10.cell? ⟨w1.heap.size + 1, 0, none⟩ = some (.bool deep) := (blk_cell HK10.out 0).trans rfl
        have hfs11 := blk_frozen HK10.out 0
        have hs13 : w10.cell? ⟨w1.heap.size + 1, 1, none⟩ = some (.slice AR nR cR) := (blk_cell HK10.out 1).trans rfl
        have hfs13 := blk_frozen HK10.out 1
        refine last_ (i := 6) (N := none) #[true, true, true, true, true, true, true] rfl rfl (by kernel_rfl) (by decide) (fun K hK => ?_)
        refine skip_ (w1 := ?_) (by rfl) rfl ?_ ?_
        rotate_left
        · go_simp
          rfl
        refine hK.out _ _ ?_
        clear hK K
        refine done_ (by kernel_rfl) ?_
        have HIN : Aside0 (Kd.R Kd.string 9 ((w10.setCell ⟨w1.heap.size + 1, 0, none⟩ (.bool deep)).setCell ⟨w1.heap.size + 1, 1, none⟩ (.slice AN n1 cN)) w0.heap.size (fun q => w0.heap.size ≤ q ∧ q < w7.heap.size) (.slice A4 m1 c4) x) := ⟨by
          have hgl := HS.out.glt
          have h1 := Kd.R_mono (Kd.R_bound HO44.out) (ok' := fun q => w0.heap.size ≤ q ∧ q < w7.heap.size) (fun q hq => ⟨hq.1, hq.2.2.1⟩)
          have h2 := Kd.R_below (Kd.R_kept h1 HF9.out (fun q hq hS => hS.elim (fun e => by omega) (fun e => by have := HS.out.q.1.old e; omega))) HB10.out
          exact Kd.R_far (p := ⟨w1.heap.size + 1, 1, none⟩) (Kd.R_far (p := ⟨w1.heap.size + 1, 0, none⟩) h2 (fun q hq => show q ≠ w1.heap.size + 1 by omega) _) (fun q hq => show q ≠ w1.heap.size + 1 by omega) _⟩
        have HB11 : Aside0 (Below w1.heap.size w1 ((w10.setCell ⟨w1.heap.size + 1, 0, none⟩ (.bool deep)).setCell ⟨w1.heap.size + 1, 1, none⟩ (.slice AN n1 cN))) := ⟨((HB9.out.trans (HB10.out.mono HB9.out.size)).setCell (p := ⟨w1.heap.size + 1, 0, none⟩) (Nat.le_succ _) _).setCell (p := ⟨w1.heap.size + 1, 1, none⟩) (Nat.le_succ _) _⟩
        have HPU : Aside0 (∀ W, Wr w0.heap.size w7.heap.size ((w10.setCell ⟨w1.heap.size + 1, 0, none⟩ (.bool deep)).setCell ⟨w1.heap.size + 1, 1, none⟩ (.slice AN n1 cN)) W → Sc W w1.heap.size deep v' cs' (ins deep R x) AN n1 cN ∧ Below w1.heap.size w1 W) := ⟨fun W hW => ⟨HS.out.push HB44.out HAT.out HQ9.out HPM.out HF9.out HN10.out HB10.out hW, HB11.out.trans (hW.below.mono HB.out.size)⟩⟩
        have HRB1 : Aside0 (n1 ≤ k + 1 ∧ ∀ y ∈ ins deep R x, y.length ≤ 1000) := ⟨⟨by have h1 := HN1.out; have h2 := HRB.out.1; omega, fun y hy => by
          rcases List.mem_cons.1 ((ins_perm deep x R).mem_iff.1 hy) with rfl | hy
          · have h1 := HM1.out; have h2 := HM2.out; omega
          · exact HRB.out.2 y hy⟩⟩
        obtain ⟨x1, R1, hR1⟩ : ∃ x1 R1, ins deep R x = x1 :: R1 := by
          have h1 := ins_length deep x R
          cases hh : ins deep R x with
          | nil => rw [hh] at h1; simp at h1
          | cons x1 R1 => exact ⟨x1, R1, rfl⟩
        rw [hR1] at HPU HRB1
        clear HX HC1 HL1 HS HRB HQ9 HV9 HK9 HF9 HB9 HB9w CPu HN10 HB10 HK10 HB10w HO44 HB44 hs11 hs13 hfs11 hfs13 hHeld HAT HPM hR1
        go_wp2_with fail
        go_loopg [11] m1 (fun gk s11 wy => ∃ (q : Nat), s11 = .int .i64 (q : Int) ∧ Aside0 (gk + q = m1) ∧ Aside0 (Wr w0.heap.size w7.heap.size ((w10.setCell ⟨w1.heap.size + 1, 0, none⟩ (.bool deep)).setCell ⟨w1.heap.size + 1, 1, none⟩ (.slice AN n1 cN)) wy))
        case atStart => exact ⟨0, rfl, ⟨rfl⟩, ⟨Wr.refl _ _ _⟩⟩
        case round => as_aux_lemma =>
          rename World => wy
          obtain ⟨q, rfl, HG3, HY⟩ := hrel
          by_cases hq : (q : Int) < (m1 : Int)
          · obtain ⟨gi, cells, e1, hbase, hok, hblk, hle⟩ := own_row HIN.out (by omega)
            subst e1
            obtain ⟨⟨y, hy⟩, hf⟩ := HY.out.spot hblk hle (k := q) (by omega)
            have HS3 : Aside0 (Wr w0.heap.size w7.heap.size ((w10.setCell ⟨w1.heap.size + 1, 0, none⟩ (.bool deep)).setCell ⟨w1.heap.size + 1, 1, none⟩ (.slice AN n1 cN)) (wy.setCell ⟨gi, q, none⟩ (.string ⟨#[63]⟩))) := ⟨HY.out.set hok.1 hok.2 hblk q _⟩
            have hq0 : (0 : Int) ≤ (q : Int) := by omega
            have e4 : IntKind.i64.wrap ((q : Int) + 1) = ((q + 1 : Nat) : Int) := by rw [i64_w]; have := HM2.out; unfold wrap64; omega
            have e4' : wrap64 ((q : Int) + 1) = ((q + 1 : Nat) : Int) := by have := HM2.out; unfold wrap64; omega
            have HQ : Aside0 (q < m1) := ⟨Int.ofNat_lt.mp hq⟩
            clear hbase hok hblk hle HY HIN HPU HB11 HRB1
            as_aux_lemma =>
            go_wp2_with fail
            go_roundg (m1 - (q + 1))
            case measure => have := HG3.out; have := HQ.out; omega
            case rel => exact ⟨q + 1, by first | rfl | (simp; done), ⟨by have := HQ.out; omega⟩, HS3⟩
          · have hq2 : ¬ (q : Int) < (m1 : Int) := hq
            have HSC := Aside0.mk (HPU.out wy HY.out).1
            have HBY := Aside0.mk (HPU.out wy HY.out).2
            clear HPU HY HIN HB11 hq
            have HKN : Aside0 (k < n) := HK
            by_cases hpi : (k : Int) < (nP : Int)
            · obtain ⟨adp, eP, hcP⟩ := Kd.at_bool HRP.out (k : Int) hk0 (by have := HNP.out; omega)
              subst eP
              rw [Int.toNat_natCast] at hcP
              have hcy : wy.cell? (adp.add k) = some (.bool (rdOf false pops (k : Int))) := ((HB1.out.trans (HBY.out.mono HB1.out.size)).cell (World.block_lt_of_cell? _ _ hcP)).trans hcP
              clear hcP
              cases hpb : rdOf false pops (k : Int) with
              | true =>
                rw [hpb] at hcy
                clear hpb
                as_aux_lemma =>
                obtain ⟨ad9, hA0⟩ := some_V HSC.out.r
                subst hA0
                have hln := HSC.out.len
                rw [List.length_cons] at hln
                obtain ⟨n2, hn2⟩ : ∃ n2, n1 = n2 + 1 := ⟨n1 - 1, by omega⟩
                obtain ⟨c2, hc2⟩ : ∃ c2, cN = c2 + 1 := ⟨cN - 1, by omega⟩
                obtain ⟨A9, hA9⟩ : ∃ A9, (if cN = 1 then some ad9 else some (ad9.add 1)) = A9 := ⟨_, rfl⟩
                obtain ⟨m9, hm9⟩ : ∃ m, x1.length = m := ⟨_, rfl⟩
                have HN2 := Aside0.mk hn2
                have HC2 := Aside0.mk hc2
                have HA9 := Aside0.mk hA9
                have HM9 := Aside0.mk hm9
                have HXM : Aside0 (x1.length ≤ 1000) := ⟨HRB1.out.2 x1 (List.mem_cons_self ..)⟩
                have C19 := Aside0.mk (HSC.out.qpop HRB1.out.2 (by have := HRB1.out.1; have := H200.out; omega) m9 hm9)
                obtain ⟨ks0, ks1, ks2, ks3⟩ := HSC.out.cells
                clear hn2 hc2 hA9 hm9 hln
                go_wp2_with (first | (go_at_call 19; (with_reducible refine C19.out.mono ?_); rintro e wp ⟨Ap, cp, rfl, hq, hf, hb⟩; have HQp := hq; have HFp := hf; have HBp := hb; have CP20 := Aside0.mk (rpop_v deep ((HSC.out.kept hf.out).1) A9 HA9.out n2 c2 HN2.out HC2.out m9 HM9.out); obtain ⟨kp0, kp1, kf0, kf1⟩ := spots (HSC.out.kept hf.out).2 (Below.refl wp.heap.size wp); clear hq hf hb) | (go_at_call 20; (with_reducible refine CP20.out.mono ?_); rintro e wq ⟨Aq, cq, rfl, hF, hb2⟩; have HBq := hb2; have CS21 : Aside0 (∀ o, Calls Try.prog 21 #[.slice Ap m9 cp, .slice Aq m9 cq] (((wq.alloc o).setCell ⟨w1.heap.size + 1, 0, none⟩ (.bool deep)).setCell ⟨w1.heap.size + 1, 1, none⟩ (.slice A9 n2 c2)) fun e w' => e = .returned (.bool true) ∧ Aside0 (∃ v' cs', Sc w' w1.heap.size deep v' cs' R1 A9 n2 c2) ∧ Aside0 (Below w1.heap.size wy w')) := ⟨fun o => HSC.out.both HXM.out HM9.out HN2.out HC2.out HA9.out HQp.out HFp.out HBp.out hF.out (below_alloc hb2.out o)⟩; obtain ⟨kq0, kq1, kg0, kg1⟩ := spots (HSC.out.kept HFp.out).2 hb2.out; have kall := fun o => spots (HSC.out.kept HFp.out).2 (below_alloc hb2.out o); have ka0 := fun o => (kall o).1; have ka1 := fun o => (kall o).2.1; have ka2 := fun o => (kall o).2.2.1; have ka3 := fun o => (kall o).2.2.2; clear kall hF hb2) | (go_at_call 21; (with_reducible refine (CS21.out _).mono ?_); rintro e w4 ⟨rfl, hs4, hb4⟩) | fail)
                obtain ⟨v9, cs9, hS9⟩ := hs4.out
                have HS9 := Aside0.mk hS9
                have HB9 := Aside0.mk (HBY.out.trans hb4.out)
                clear hS9 hs4 hb4 kp0 kp1 kf0 kf1 kq0 kq1 kg0 kg1 ka0 ka1 ka2 ka3 ks0 ks1 ks2 ks3
                have C22 : Aside0 (∀ m, Calls Try.prog 22 #[.pointer (some ⟨w1.heap.size, 0, none⟩)] (w4.drewN m) fun e w' => e = .returned (.int .i64 (n2 : Int)) ∧ w' = w4.drewN m) := ⟨fun m => by
                  have h := qlen_m (HS9.out.below (pw_below_drewN (Below.refl _ _) m)).q
                  rw [← HS9.out.len.2.1] at h
                  exact h.mono (fun e w' h => ⟨h.1, h.2.symm⟩)⟩
                obtain ⟨ky0, ky1, kz0, kz1⟩ := HS9.out.cells
                go_quiet (first | (go_at_call 22; exact Calls.quiet_of_same (C22.out _)) | fail)
                go_wp2_with fail
                go_roundg (n - (k + 1))
                case measure => have := HG.out; have := HK.out; omega
                case rel => exact ⟨k + 1, _, _, _, _, _, _, by first | rfl | (simp; done), ⟨by have := HK.out; omega⟩, ⟨HS9.out.below (pw_below_drewN (Below.refl _ _) _)⟩, ⟨by have := HRB1.out.1; have := HN2.out; omega, fun y hy => HRB1.out.2 y (List.mem_cons_of_mem _ hy)⟩, ⟨below_step HB9.out (pw_below_drewN (Below.refl _ _) _)⟩⟩
              | false =>
                rw [hpb] at hcy
                clear hpb
                as_aux_lemma =>
                have C22 : Aside0 (∀ m, Calls Try.prog 22 #[.pointer (some ⟨w1.heap.size, 0, none⟩)] (wy.drewN m) fun e w' => e = .returned (.int .i64 (n1 : Int)) ∧ w' = wy.drewN m) := ⟨fun m => by
                  have h := qlen_m (HSC.out.below (pw_below_drewN (Below.refl _ _) m)).q
                  rw [← HSC.out.len.2.1] at h
                  exact h.mono (fun e w' h => ⟨h.1, h.2.symm⟩)⟩
                obtain ⟨ky0, ky1, kz0, kz1⟩ := HSC.out.cells
                go_wp2_with fail
                go_quiet (first | (go_at_call 22; exact Calls.quiet_of_same (C22.out _)) | fail)
                go_wp2_with fail
                go_roundg (n - (k + 1))
                case measure => have := HG.out; have := HK.out; omega
                case rel => exact ⟨k + 1, _, _, _, _, _, _, by first | rfl | (simp; done), ⟨by have := HK.out; omega⟩, ⟨HSC.out.below (pw_below_drewN (Below.refl _ _) _)⟩, HRB1, ⟨below_step HBY.out (pw_below_drewN (Below.refl _ _) _)⟩⟩
            · have hpi2 : ¬ (k : Int) < (nP : Int) := hpi
              as_aux_lemma =>
              have C22 : Aside0 (∀ m, Calls Try.prog 22 #[.pointer (some ⟨w1.heap.size, 0, none⟩)] (wy.drewN m) fun e w' => e = .returned (.int .i64 (n1 : Int)) ∧ w' = wy.drewN m) := ⟨fun m => by
                have h := qlen_m (HSC.out.below (pw_below_drewN (Below.refl _ _) m)).q
                rw [← HSC.out.len.2.1] at h
                exact h.mono (fun e w' h => ⟨h.1, h.2.symm⟩)⟩
              obtain ⟨ky0, ky1, kz0, kz1⟩ := HSC.out.cells
              go_wp2_with fail
              go_quiet (first | (go_at_call 22; exact Calls.quiet_of_same (C22.out _)) | fail)
              go_wp2_with fail
              go_roundg (n - (k + 1))
              case measure => have := HG.out; have := HK.out; omega
              case rel => exact ⟨k + 1, _, _, _, _, _, _, by first | rfl | (simp; done), ⟨by have := HK.out; omega⟩, ⟨HSC.out.below (pw_below_drewN (Below.refl _ _) _)⟩, HRB1, ⟨below_step HBY.out (pw_below_drewN (Below.refl _ _) _)⟩⟩
      · as_aux_lemma =>
        have hk2 : ¬ (k : Int) < (n : Int) := hk
        go_wp2_with fail
        go_loopg [17] (n + 1) (fun gk s17 wr => ∃ (j : Nat) (v : Value) (cs R : List (List ByteArray)) (AR : Option Addr) (nR cR : Nat), s17 = .int .i64 (j : Int) ∧ Aside0 (gk + j = n + 1) ∧ Aside0 (Sc wr w1.heap.size deep v cs R AR nR cR) ∧ Aside0 (nR ≤ n - j ∧ ∀ y ∈ R, y.length ≤ 1000) ∧ Aside0 (Below w1.heap.size w1 wr))
        case atStart => exact ⟨0, v, cs, R, AR, nR, cR, rfl, ⟨rfl⟩, HS, ⟨by have := HRB.out.1; have := HG.out; omega, HRB.out.2⟩, HB⟩
        case round => as_aux_lemma =>
          rename World => wy
          clear HS HRB HB HBw HG hk
          obtain ⟨j, v2, cs2, R2, A2, n5, c5, rfl, HG2, HS2, HR2, HB2⟩ := hrel
          by_cases hj : (j : Int) ≤ (n : Int)
          · have hj0 : (0 : Int) ≤ (j : Int) := by omega
            have hjk : (j : Int) ≤ (n : Int) := hj
            have e3 : IntKind.i64.wrap ((j : Int) + 1) = ((j + 1 : Nat) : Int) := by rw [i64_w]; unfold wrap64; omega
            have e3' : wrap64 ((j : Int) + 1) = ((j + 1 : Nat) : Int) := by unfold wrap64; omega
            have HJ : Aside0 (j ≤ n) := ⟨Int.ofNat_le.mp hj⟩
            clear hj
            cases R2 with
            | nil =>
              as_aux_lemma =>
              have hn5 : n5 = 0 := HS2.out.len.1
              subst hn5
              have hcs : cs2 = [] := HS2.out.p.eq_nil
              subst hcs
              have C19 := Aside0.mk (qpop_empty HS2.out.q)
              have C20 := Aside0.mk (rpop_none deep A2 c5)
              obtain ⟨ks0, ks1, ks2, ks3⟩ := HS2.out.cells
              go_wp2_with (first | (go_at_call 19; (with_reducible refine C19.out.mono ?_); rintro e wp ⟨rfl, hw⟩; subst hw) | (go_at_call 20; (with_reducible refine (C20.out _).mono ?_); rintro e wq ⟨rfl, hb2⟩; have HBq := Aside0.mk hb2; have CS21 : Aside0 (∀ o, Calls Try.prog 21 #[.slice none 0 0, .slice none 0 0] (((wq.alloc o).setCell ⟨w1.heap.size + 1, 0, none⟩ (.bool deep)).setCell ⟨w1.heap.size + 1, 1, none⟩ (.slice A2 0 c5)) fun e w' => e = .returned (.bool true) ∧ Aside0 (Sc w' w1.heap.size deep v2 [] [] A2 0 c5) ∧ Aside0 (Below w1.heap.size wy w')) := ⟨fun o => HS2.out.nils (below_alloc hb2 o)⟩; obtain ⟨kq0, kq1, kg0, kg1⟩ := spots HS2.out.b hb2; have kall := fun o => spots HS2.out.b (below_alloc hb2 o); have ka0 := fun o => (kall o).1; have ka1 := fun o => (kall o).2.1; have ka2 := fun o => (kall o).2.2.1; have ka3 := fun o => (kall o).2.2.2; clear kall hb2) | (go_at_call 21; (with_reducible refine (CS21.out _).mono ?_); rintro e w4 ⟨rfl, hs4, hb4⟩) | fail)
              go_roundg (n + 1 - (j + 1))
              case measure => have := HG2.out; have := HJ.out; omega
              case rel => exact ⟨j + 1, _, _, _, _, _, _, by first | rfl | (simp; done), ⟨by have := HJ.out; omega⟩, hs4, ⟨Nat.zero_le _, HR2.out.2⟩, ⟨HB2.out.trans hb4.out⟩⟩
            | cons x1 R1 =>
              as_aux_lemma =>
              obtain ⟨ad9, hA0⟩ := some_V HS2.out.r
              subst hA0
              have hln := HS2.out.len
              rw [List.length_cons] at hln
              obtain ⟨n2, hn2⟩ : ∃ n2, n5 = n2 + 1 := ⟨n5 - 1, by omega⟩
              obtain ⟨c2, hc2⟩ : ∃ c2, c5 = c2 + 1 := ⟨c5 - 1, by omega⟩
              obtain ⟨A9, hA9⟩ : ∃ A9, (if c5 = 1 then some ad9 else some (ad9.add 1)) = A9 := ⟨_, rfl⟩
              obtain ⟨m9, hm9⟩ : ∃ m, x1.length = m := ⟨_, rfl⟩
              have HN2 := Aside0.mk hn2
              have HC2 := Aside0.mk hc2
              have HA9 := Aside0.mk hA9
              have HM9 := Aside0.mk hm9
              have HXM : Aside0 (x1.length ≤ 1000) := ⟨HR2.out.2 x1 (List.mem_cons_self ..)⟩
              have C19 := Aside0.mk (HS2.out.qpop HR2.out.2 (by have := HR2.out.1; have := H200.out; omega) m9 hm9)
              obtain ⟨ks0, ks1, ks2, ks3⟩ := HS2.out.cells
              clear hn2 hc2 hA9 hm9 hln
              go_wp2_with (first | (go_at_call 19; (with_reducible refine C19.out.mono ?_); rintro e wp ⟨Ap, cp, rfl, hq, hf, hb⟩; have HQp := hq; have HFp := hf; have HBp := hb; have CP20 := Aside0.mk (rpop_v deep ((HS2.out.kept hf.out).1) A9 HA9.out n2 c2 HN2.out HC2.out m9 HM9.out); obtain ⟨kp0, kp1, kf0, kf1⟩ := spots (HS2.out.kept hf.out).2 (Below.refl wp.heap.size wp); clear hq hf hb) | (go_at_call 20; (with_reducible refine CP20.out.mono ?_); rintro e wq ⟨Aq, cq, rfl, hF, hb2⟩; have HBq := hb2; have CS21 : Aside0 (∀ o, Calls Try.prog 21 #[.slice Ap m9 cp, .slice Aq m9 cq] (((wq.alloc o).setCell ⟨w1.heap.size + 1, 0, none⟩ (.bool deep)).setCell ⟨w1.heap.size + 1, 1, none⟩ (.slice A9 n2 c2)) fun e w' => e = .returned (.bool true) ∧ Aside0 (∃ v' cs', Sc w' w1.heap.size deep v' cs' R1 A9 n2 c2) ∧ Aside0 (Below w1.heap.size wy w')) := ⟨fun o => HS2.out.both HXM.out HM9.out HN2.out HC2.out HA9.out HQp.out HFp.out HBp.out hF.out (below_alloc hb2.out o)⟩; obtain ⟨kq0, kq1, kg0, kg1⟩ := spots (HS2.out.kept HFp.out).2 hb2.out; have kall := fun o => spots (HS2.out.kept HFp.out).2 (below_alloc hb2.out o); have ka0 := fun o => (kall o).1; have ka1 := fun o => (kall o).2.1; have ka2 := fun o => (kall o).2.2.1; have ka3 := fun o => (kall o).2.2.2; clear kall hF hb2) | (go_at_call 21; (with_reducible refine (CS21.out _).mono ?_); rintro e w4 ⟨rfl, hs4, hb4⟩) | fail)
              obtain ⟨v9, cs9, hS9⟩ := hs4.out
              go_roundg (n + 1 - (j + 1))
              case measure => have := HG2.out; have := HJ.out; omega
              case rel => exact ⟨j + 1, _, _, _, _, _, _, by first | rfl | (simp; done), ⟨by have := HJ.out; omega⟩, ⟨hS9⟩, ⟨by have := HR2.out.1; have := HN2.out; omega, fun y hy => HR2.out.2 y (List.mem_cons_of_mem _ hy)⟩, ⟨HB2.out.trans hb4.out⟩⟩
          · as_aux_lemma =>
            have hj2 : ¬ (j : Int) ≤ (n : Int) := hj
            have hj3 : (n : Int) < (j : Int) := by omega
            have C22 : Aside0 (Calls Try.prog 22 #[.pointer (some ⟨w1.heap.size, 0, none⟩)] wy fun e w' => e = .returned (.int .i64 0) ∧ wy = w') := ⟨by
              have h := qlen_m HS2.out.q
              rw [← HS2.out.len.2.1] at h
              have h0 := HR2.out.1
              rw [show n5 = 0 by omega] at h
              exact h⟩
            go_wp2_with (first | (go_at_call 22; (with_reducible refine C22.out.mono ?_); rintro e w6 ⟨rfl, hw⟩; subst hw) | (go_at_call 8; (with_reducible refine (C8.out _).mono ?_); rintro e w7 ⟨rfl, hb⟩; have HB7 := Aside0.mk hb; clear hb) | fail)
            go_ret
            exact ⟨rfl, below_step (HB1.out.trans (HB2.out.mono HB1.out.size)) HB7.out⟩
end Go.Proofs.Ytmpniapbjoailaa.Hand
