/- Package walk: Sorted. -/
import Derived.Test.YtmpniapbjoailaaWalkH
namespace Go.Proofs.Ytmpniapbjoailaa.Hand
open Go.RowKit Go.Proofs.YtmpniapbjoailaaW.PrintWords Go.Proofs.YtmpniapbjoailaaW.PrintLast Go.Proofs.YtmpniapbjoailaaW.PrintMore
set_option linter.unusedVariables false
set_option linter.unusedSimpArgs false

theorem QU.start (w : World) (deep : Bool) : QU (w.alloc (.cells #[.slice none 0 0, fnV deep] 51)) w.heap.size deep w.heap.size (fun k => k ≠ w.heap.size) (.slice none 0 0) [] :=
  ⟨⟨blk_new _ _, Kd.R_nil _ _ _ _ _, fun _ hk => hk⟩, hp_nil⟩
theorem rd_take {ps : List (List ByteArray)} {k : Nat} (hk : k < ps.length) : ps.take k ++ [QA.rd_L2 ps (k : Int)] = ps.take (k + 1) := by
  rw [List.take_add_one]
  simp [QA.rd_L2, List.getD, hk]
/-- What a sorted list is. -/
def SortedOf (deep : Bool) (ps out : List (List ByteArray)) : Prop := out.Perm ps ∧ out.Pairwise (fun x y => lt deep y x = false)
set_option maxHeartbeats 8000000 in
theorem sorted_m (A : Option Addr) (c n : Nat) (ps : List (List ByteArray)) (hn : n = ps.length) (deep : Bool) (w : World) (hr : Kd.C dP w A ps.length ps) (hl : ∀ y ∈ ps, y.length < 1000000000) (hsm : ps.length < 100000000) :
    Calls Try.prog 23 #[.slice A n c, .bool deep] w fun e w' => ∃ A' c' out, e = .returned (.slice A' out.length c') ∧ Aside0 (SortedOf deep ps out) ∧ Aside0 (Kd.R dP 22 w' w.heap.size (fun _ => True) (.slice A' out.length c') out) ∧ Aside0 (Below w.heap.size w w') := by
  have HR := Aside0.mk hr
  have HL := Aside0.mk hl
  have HSM := Aside0.mk hsm
  have HN := Aside0.mk hn
  have CN := Aside0.mk (new_calls deep w)
  have hn9 : n < 100000000 := by omega
  clear hr hl hsm hn
  go_enter Try.func23, Try.ntmps23
  go_wp2_with (first | (go_at_call 16; (with_reducible refine CN.out.mono ?_); rintro e w1 ⟨rfl, hw1⟩; have HW1 := Aside0.mk hw1; clear hw1) | fail)
  go_loopg [15] n (fun gk s15 wr => ∃ (k : Nat) (v : Value) (ds : List (List ByteArray)), s15 = .int .i64 (k : Int) ∧ Aside0 (gk + k = n) ∧ Aside0 (QU wr w.heap.size deep w.heap.size (fun k => k ≠ w.heap.size) v ds) ∧ Aside0 (ds.Perm (ps.take k)) ∧ Aside0 (Below w.heap.size w wr))
  case atStart => exact ⟨0, _, _, rfl, ⟨rfl⟩, ⟨by rw [HW1.out]; exact QU.start w deep⟩, ⟨List.Perm.refl _⟩, ⟨by rw [HW1.out]; exact below_alloc (Below.refl _ _) _⟩⟩
  case round =>
    obtain ⟨k, v, ds, rfl, HG, HQ, HP, HB⟩ := hrel
    by_cases hk : (k : Int) < (n : Int)
    · have hk0 : (0 : Int) ≤ (k : Int) := by omega
      have hkp : k < ps.length := by have := HN.out; omega
      obtain ⟨ad, A1, c1, e1, hx, hl1, hC⟩ := QA.at_L2 (Kd.C_below HR.out HB.out) (k : Int) hk0 (by have := HN.out; omega)
      cases e1
      rw [Int.toNat_natCast] at hx
      have HM : Aside0 (∀ y ∈ ds ++ [QA.rd_L2 ps (k : Int)], y.length < 1000000000) := ⟨fun y hy => HL.out y (by
        have h1 : y ∈ ps.take k ++ [QA.rd_L2 ps (k : Int)] := (List.Perm.append_right _ HP.out).mem_iff.1 hy
        rw [rd_take hkp] at h1
        exact List.mem_of_mem_take h1)⟩
      have CP := Aside0.mk (qpush_m HQ.out A1 c1 _ (QA.rd_L2 ps (k : Int)) rfl hC hl1 HM.out (by have h1 := HP.out.length_eq; have := HSM.out; simp at h1; omega) HB.out.size (Nat.le_refl _))
      have HTK : Aside0 (ps.take k ++ [QA.rd_L2 ps (k : Int)] = ps.take (k + 1)) := ⟨rd_take hkp⟩
      generalize (QA.rd_L2 ps (k : Int)).length = m1 at *
      have e3 : IntKind.i64.wrap ((k : Int) + 1) = ((k + 1 : Nat) : Int) := by rw [i64_w]; unfold wrap64; omega
      have e3' : wrap64 ((k : Int) + 1) = ((k + 1 : Nat) : Int) := by unfold wrap64; omega
      have HK : Aside0 (k < n) := ⟨by omega⟩
      clear hl1 hC hkp
      go_wp2_with (first | (go_at_call 17; (with_reducible refine CP.out.mono ?_); rintro e w2 ⟨rfl, hq2, hf2, hb2⟩) | fail)
      go_roundg (n - (k + 1))
      case measure => have := HG.out; have := HK.out; omega
      case rel =>
        obtain ⟨v', cs', ha, hq, hp⟩ := hq2.out
        exact ⟨k + 1, v', cs', by first | rfl | (simp; done), ⟨by have := HK.out; omega⟩, ⟨hq.1.free, hq.2⟩, ⟨hp.trans (by rw [← HTK.out]; exact List.Perm.append_right _ HP.out)⟩, ⟨HB.out.trans hb2.out⟩⟩
    · have hk2 : ¬ (k : Int) < (n : Int) := hk
      have HPS : Aside0 (ds.Perm ps) := ⟨by have h1 := HP.out; rwa [List.take_of_length_le (by have := HN.out; omega)] at h1⟩
      have HW : Aside0 (∃ N, N = wr.heap.size) := ⟨_, rfl⟩
      obtain ⟨N, hN⟩ := HW.out
      have hq0 : Qu wr w.heap.size deep w.heap.size (fun k => k ≠ w.heap.size ∧ k < N) v ds := ⟨HQ.out.1.blk, Kd.R_mono (Kd.R_bound HQ.out.1.row) (fun k hk => ⟨hk.1, by rw [hN]; exact hk.2.2.1⟩), fun k hk => hk.1⟩
      have HQ0 : Aside0 (QU wr w.heap.size deep w.heap.size (fun k => k ≠ w.heap.size ∧ k < N) v ds) := ⟨hq0, HQ.out.2⟩
      have HN0 : Aside0 (N = wr.heap.size) := ⟨hN⟩
      have HV0 : Aside0 (∀ k, v.ownBlock = some k → k < N) := ⟨fun k hk => by rw [hN]; exact HQ.out.1.old hk⟩
      clear hq0 hN HW HQ
      go_wp2_with fail
      go_loopg [8] ds.length (fun gk s8 wx => ∃ (v2 : Value) (es out : List (List ByteArray)) (A2 : Option Addr) (c2 : Nat), s8 = .slice A2 out.length c2 ∧ Aside0 (gk = es.length) ∧ Aside0 (QU wx w.heap.size deep w.heap.size (fun k => k ≠ w.heap.size ∧ k < N) v2 es) ∧ Aside0 (v2.ownBlock = v.ownBlock) ∧ Aside0 (Kd.R dP 22 wx w.heap.size (fun k => k ≠ w.heap.size ∧ v.ownBlock ≠ some k) (.slice A2 out.length c2) out) ∧ Aside0 (∀ k, (Value.slice A2 out.length c2).ownBlock = some k → N ≤ k) ∧ Aside0 ((out ++ es).Perm ps ∧ out.Pairwise (fun x y => lt deep y x = false) ∧ ∀ x ∈ out, ∀ y ∈ es, lt deep y x = false) ∧ Aside0 (N ≤ wx.heap.size ∧ Below w.heap.size w wx))
      case atStart => exact ⟨v, ds, [], none, 0, rfl, ⟨rfl⟩, HQ0, ⟨rfl⟩, ⟨Kd.R_nil _ _ _ _ _⟩, ⟨fun k hk => by simp [Value.ownBlock] at hk⟩, ⟨by simpa using HPS.out, List.Pairwise.nil, fun x hx => by simp at hx⟩, ⟨by rw [HN0.out]; exact Nat.le_refl _, HB.out⟩⟩
      case round =>
        obtain ⟨v2, es, out, A2, c2, rfl, HG2, HQ2, HV2, HO2, HX2, HP2, HB2⟩ := hrel
        have C1 := Aside0.mk (qlen_m HQ2.out)
        cases es with
        | nil =>
          rw [show (([] : List (List ByteArray)).length : Int) = 0 from rfl] at C1
          go_wp2_with (first | (go_at_call 22; (with_reducible refine C1.out.mono ?_); rintro e w2 ⟨rfl, rfl⟩) | fail)
          go_ret
          exact ⟨A2, c2, out, rfl, ⟨by have h := HP2.out.1; rwa [List.append_nil] at h, HP2.out.2.1⟩, ⟨Kd.R_mono HO2.out (fun _ _ => trivial)⟩, ⟨HB2.out.2⟩⟩
        | cons y es =>
          have HME : Aside0 (∀ z ∈ y :: es, z.length < 1000000000) := ⟨fun z hz => HL.out z (HP2.out.1.mem_iff.1 (List.mem_append_right _ hz))⟩
          have HLE : Aside0 (out.length + (y :: es).length = ps.length) := ⟨by have := HP2.out.1.length_eq; rwa [List.length_append] at this⟩
          have CP := Aside0.mk (qpop_m HQ2.out (by simp) HME.out (by have := HLE.out; have := HSM.out; omega) (Nat.le_trans (Nat.le_refl _) HB2.out.2.size) (Nat.le_refl _))
          have hp1 : (0 : Int) < ((y :: es).length : Int) := by simp
          have HEL : Aside0 (∃ q, q = (y :: es).length) := ⟨_, rfl⟩
          obtain ⟨q, hq⟩ := HEL.out
          rw [← hq] at C1 hp1
          have HQQ := Aside0.mk hq
          clear hq HEL
          have HLO : Aside0 ((out.length + 1) * 24 ≤ 140737488355328) := ⟨by have h1 := HLE.out; have h2 := HSM.out; rw [List.length_cons] at h1; omega⟩
          go_wp2_with (first | (go_at_call 22; (with_reducible refine C1.out.mono ?_); rintro e w2 ⟨rfl, rfl⟩) | (go_at_call 19; (with_reducible refine CP.out.mono ?_); rintro e w3 ⟨A3, c3, p, rfl, ⟨okp, v3, es', h1, h2, h3, h4, h5, h6⟩, hf, hb⟩; have HO3 : Aside0 (Kd.R dP 22 w3 w.heap.size (fun k => k ≠ w.heap.size ∧ v.ownBlock ≠ some k) (.slice A2 out.length c2) out) := ⟨Kd.R_step HO2.out (fun k hk hlt => hf.out.2 k hlt (fun hh => hh.elim (fun hh => hk.1 hh) (fun hh => hk.2 (by rw [← HV2.out]; exact hh))))⟩; have HM3 : Aside0 (dP.M w3 w.heap.size okp p [.slice A3 p.length c3]) := ⟨⟨_, rfl, h2⟩⟩; have HAP3 : Aside0 (∀ k, okp k → (k ≠ w.heap.size ∧ v.ownBlock ≠ some k) ∧ some k ≠ (Value.slice A2 out.length c2).ownBlock) := ⟨fun k hk => ⟨⟨(h1 k hk).2.1, fun e => (h1 k hk).2.2 (by rw [HV2.out]; exact e)⟩, fun e => by have e1 := HX2.out k e.symm; have e2 := (h1 k hk).1.2; omega⟩⟩; have HSZ3 : Aside0 (N ≤ w3.heap.size ∧ w.heap.size ≤ w3.heap.size) := ⟨Nat.le_trans HB2.out.1 hf.out.1, Nat.le_trans HB2.out.2.size hb.out.size⟩; have HV3 := Aside0.mk h3; have HQ3 := Aside0.mk h4; have HP3 := Aside0.mk h5; have HM6 := Aside0.mk h6; have HB3 : Aside0 (Below w.heap.size w w3) := ⟨HB2.out.2.trans hb.out⟩; have HF3 : Aside0 (∀ k, w3.heap.size ≤ k → k ≠ w.heap.size ∧ v.ownBlock ≠ some k) := ⟨fun k hk => ⟨by have h7 := HQ3.out.1.lt; omega, fun e => by have e1 := HV0.out k e; have e2 := HB2.out.1; have e3 := hf.out.1; omega⟩⟩; clear h1 h2 h3 h4 h5 h6 hf hb) | ((with_reducible refine gate_builtin (b := .append) (xs := #[.tmp 31, .tmp 33]) rfl ?_); at_builtin; refine Kd.R_append dP (w0 := w3) (W := w3) w.heap.size rfl (.tmp 31) (.tmp 33) 26 22 (.slice none 0 0) 24 rfl Try.underlying26 QA.info22 rfl (by decide) (by decide) (.slice A2 out.length c2) out p [.slice A3 p.length c3] (fun k => k ≠ w.heap.size ∧ v.ownBlock ≠ some k) okp rfl rfl HM3.out HAP3.out HF3.out HO3.out (Below.refl _ _) HSZ3.out.2 HLO.out ?_; intro v4 w4 ho4 hb4 hg4 hat4; have HO4 := Aside0.mk ho4; have HB4 := Aside0.mk hb4; have HG4 := Aside0.mk hg4; have HAT4 := Aside0.mk hat4; clear ho4 hb4 hg4 hat4) | fail)
          go_roundg es'.length
          case measure => have h1 := HG2.out; have h2 := HP3.out.length_eq; rw [List.length_cons] at h2; omega
          case rel =>
            have h2 := HSZ3.out
            have hX : ∀ k, v4.ownBlock = some k → N ≤ k := fun k hk => by
              rcases HAT4.out with h | ⟨b, hb, hb2⟩
              · exact HX2.out k (by rw [← h]; exact hk)
              · rw [hk] at hb; injection hb with hb; omega
            have hne : ∀ k, k < N → some k ≠ (Value.slice A2 out.length c2).ownBlock := fun k hk e => by have := HX2.out k e.symm; omega
            obtain ⟨A4, c4, rfl⟩ := Kd.R_slice HO4.out
            have hq := HQ3.out
            have hgN : w.heap.size < N := by rw [HN0.out]; exact HQ0.out.1.lt
            obtain ⟨p1, p2, p3⟩ := HP2.out
            have hmem : ∀ z, z ∈ p :: es' → z ∈ y :: es := fun z hz => HP3.out.mem_iff.1 hz
            refine ⟨v3, es', out ++ [p], A4, c4, rfl, ⟨rfl⟩, ⟨⟨blk_grown hq.1.blk HG4.out (hne _ hgN), Kd.R_step hq.1.row (fun k hk hlt => HG4.out.block k hlt (hne k hk.2)), hq.1.ap⟩, hq.2⟩, ⟨HV3.out.trans HV2.out⟩, HO4, ⟨hX⟩, ⟨?_, ?_, ?_⟩, ⟨Nat.le_trans h2.1 HB4.out.size, HB3.out.trans HB4.out⟩⟩
            · rw [List.append_assoc]
              exact (List.Perm.append_left _ HP3.out).trans p1
            · refine List.pairwise_append.2 ⟨p2, List.pairwise_singleton _ _, fun a ha b hb => ?_⟩
              rw [List.mem_singleton] at hb
              subst hb
              exact p3 a ha b (hmem b (List.mem_cons_self ..))
            · intro x hx z hz
              rcases List.mem_append.1 hx with hx | hx
              · exact p3 x hx z (hmem z (List.mem_cons_of_mem _ hz))
              · rw [List.mem_singleton] at hx
                subst hx
                exact HM6.out z hz
end Go.Proofs.Ytmpniapbjoailaa.Hand
