/- The call of ScanCuts: it returns true. -/
import Derived.Test.YtnaaimnmphcilaaDoorScanR
import Derived.Test.YtnaaimnmphcilaaDoorScanBytes
namespace Go.Proofs.YtnaaimnmphcilaaDoor.Hand
open Go.RowKit Go.Proofs.YtnaaimnmphcilaaDoorW.PrintWords Go.Proofs.YtnaaimnmphcilaaDoorW.PrintLast Go.Proofs.YtnaaimnmphcilaaDoorW.PrintMore
set_option linter.unusedVariables false
set_option linter.unusedSimpArgs false

theorem Sc.keep' {w w' : World} {S : Nat → Prop} {g : Nat} {s b : Int} {A : Option Addr} {c : Nat} {l : List Int} (h : Sc w g s b A c l) (hk : Kept w w' S) (hg : ¬ S g) (hA : l ≠ [] → ∀ x, A = some x → ¬ S x.block) : Sc w' g s b A c l := by
  refine ⟨blk_kept h.blk hk hg, ?_, h.cap, h.apart⟩
  by_cases hl : l = []
  · subst hl; exact C_any_nil
  · exact C_keep h.came hk (hA hl)
theorem Sc.pend_lt {w : World} {g : Nat} {s b : Int} {A : Option Addr} {c : Nat} {l : List Int} (h : Sc w g s b A c l) (hl : l ≠ []) : ∀ x, A = some x → x.block < w.heap.size := by
  intro x hx
  obtain ⟨b, off, e, hb, _⟩ := view h.came hl
  rw [e] at hx; injection hx with hx; subst hx; exact hb

theorem cut23h (A : Option Addr) (n c j : Nat) (hj : j ≤ n) (hn : n ≤ c) :
    ∃ A2 : Option Addr, (∀ W : World, (Instr.slice 23 (.slice A n c) none (some (.int .i64 (j : Int))) none).run Tryd.prog W = .ok (.slice A2 j c) W) ∧
      (∀ x, A2 = some x → ∃ y, A = some y ∧ x.block = y.block) ∧
      ∀ (w : World) (l : List Int), l.length = n → Kd.C (Kd.int .u8) w A l.length l → Kd.C (Kd.int .u8) w A2 (l.take j).length (l.take j) := by
  refine ⟨if c = 0 then A else A.map (·.add 0), fun W => ?_, fun x hx => ?_, fun w l hl h => ?_⟩
  · obtain ⟨i0, hi0, hz0, hz1, hz2⟩ := info_parts info5
    have hel : Tryd.prog.elem 23 = 5 := by simp [Program.elem, Tryd.underlying23]
    have hu : Tryd.prog.underlying 23 = some (.slice (Tryd.prog.elem 23)) := by rw [hel]; exact Tryd.underlying23
    rw [run_slice_h W 23 A n c hu .i64 (j : Int) (by omega) (by omega), hel]
    simp [sizeOf, typeInfo, hi0, hz1, sliced, Result.andThen]
  · split at hx
    · exact ⟨x, hx, rfl⟩
    · cases A with
      | none => simp at hx
      | some y =>
        simp only [Option.map_some, Option.some.injEq] at hx
        exact ⟨y, rfl, by rw [← hx, add_block]⟩
  · have e : (if c = 0 then A else A.map (·.add 0)) = A := by
      split
      · rfl
      · cases A with
        | none => rfl
        | some y => simp [Addr.add]
    rw [e]
    exact Kd.C_take h (by omega)

theorem st_may (l : List Int) (hl : allB l = true) (hlen : l.length ≤ 1099511627776) : mayI (l.length : Int) (stB l) (stP l) := by
  have hf := faultI_valid hl
  unfold mayI stB stP lookP
  rcases hf with ⟨hv, hf⟩ | ⟨hv, h0, h1⟩
  · rw [hf]; simp; omega
  · have hn : ¬ faultI l < 0 := by omega
    rw [if_neg hn, if_neg hn]
    by_cases ho : openI (l.drop (faultI l).toNat) = true
    · rw [if_pos ho, if_pos ho]
      refine ⟨by omega, by omega, by omega, by omega, fun _ => ⟨ho, ?_, rfl⟩⟩
      rw [List.length_drop]; omega
    · rw [if_neg ho, if_neg ho]
      exact ⟨by omega, by omega, by omega, by omega, fun h => absurd rfl h⟩

theorem conv_new3 {w : World} {A : Option Addr} {c : Nat} {l : List Int} (h : Kd.C (Kd.int .u8) w A l.length l) (o1 o2 o3 : Obj) :
    (convert 23 9 (.slice A l.length c)).run Tryd.prog (((w.alloc o1).alloc o2).alloc o3) = .ok (.string (strOfNums l)) (((w.alloc o1).alloc o2).alloc o3) := by
  have h1 := (Below.refl w.heap.size w).alloc (Nat.le_refl _) o1
  have h2 := h1.alloc h1.size o2
  exact Kd.C_string (P := Tryd.prog) (A := A) (c := c) Tryd.underlying23 Tryd.underlying5 Tryd.underlying9 (Kd.C_below h (h2.alloc h2.size o3))
theorem below_three {w W w' : World} {o1 o2 o3 : Obj} (h : Below w.heap.size w W) (hb : Below (((W.alloc o1).alloc o2).alloc o3).heap.size (((W.alloc o1).alloc o2).alloc o3) w') : Below w.heap.size w w' := by
  have h1 := h.alloc h.size o1
  have h2 := h1.alloc h1.size o2
  have h3 := h2.alloc h2.size o3
  exact h3.trans (hb.mono h3.size)
theorem feed_rest {w : World} {g k : Nat} {A : Option Addr} {c : Nat} {l : List Int} (hk : k ≤ l.length) (H : Sc w g k (stB (l.take k)) A c (stP (l.take k))) {N : Nat} (hN : N ≤ g) (A' : Option Addr) (c' n : Nat) (hn : n = (l.drop k).length) (hi : Inp N w A' (l.drop k)) (hc : (l.drop k).length ≤ c')
    (hT : Tabs w) (hg : 2 ≤ g) (hB : allB l = true) (hl : l.length ≤ 1099511627776) :
    Calls Tryd.prog 23 #[.pointer (some ⟨g, 0, none⟩), .slice A' n c'] w fun e w' => e = .returned (.int .i64 0) ∧ Aside0 (Fed w w' g (l.length : Int) (stB l) A (stP l)) := by
  have hd : (l.drop k).length = l.length - k := List.length_drop
  have hst := st_feed (l.take k) (l.drop k) (allB_take hB k) (allB_drop hB k) (by rw [List.length_take, hd]; omega)
  rw [List.take_append_drop, List.length_take, Nat.min_eq_left hk] at hst
  have := feed_inp H hN A' c' (l.drop k) n hn hi hc hT hg (allB_lookP (allB_take hB k)) (allB_drop hB k) (by omega) (by have := lookP_len (l.take k); unfold stP; omega) (by rw [hd]; omega)
  rw [hst.1, hst.2, hd, show (k : Int) + ((l.length - k : Nat) : Int) = (l.length : Int) by omega] at this
  exact this

set_option maxHeartbeats 8000000 in
set_option maxRecDepth 100000 in
theorem cuts_calls (A0 : Option Addr) (c0 : Nat) (l0 : List Int) (a1 : Int) (w : World) (hr0 : Kd.C (Kd.int .u8) w A0 l0.length l0) (hc0 : l0.length ≤ c0) (hB0 : allB l0 = true) (hn0 : l0.length ≤ 1048576) (ha0 : 0 ≤ a1) (ha1 : a1 < 65536) (hT : Tabs w) :
    Calls Tryd.prog 11 #[.slice A0 l0.length c0, .int .u16 a1] w fun e w' => e = .returned (.bool true) ∧ Below w.heap.size w w' := by
  have hg2 := hT.two
  have HI0 := Aside0.mk (Inp.of hr0)
  have HT := Aside0.mk hT
  have HC0 := Aside0.mk hc0
  have HB0 := Aside0.mk hB0
  have HL := Aside0.mk hn0
  obtain ⟨n0, hn0'⟩ : ∃ n, n = l0.length := ⟨_, rfl⟩
  have N0 := Aside0.mk hn0'
  have hw1 : wrap64 ((n0 : Int) + 1) = (n0 : Int) + 1 := by unfold wrap64; omega
  have hw0 : wrap64 a1 = a1 := by unfold wrap64; omega
  have hnz : ((n0 : Int) + 1 == 0) = false := beq_eq_false_iff_ne.2 (by omega)
  have hmod : a1.tmod ((n0 : Int) + 1) = a1 % ((n0 : Int) + 1) := Int.tmod_eq_emod_of_nonneg ha0
  have hm0 := Int.emod_nonneg a1 (show (n0 : Int) + 1 ≠ 0 by omega)
  have hm1 := Int.emod_lt_of_pos a1 (show (0 : Int) < (n0 : Int) + 1 by omega)
  obtain ⟨k, hk⟩ : ∃ k : Nat, a1 % ((n0 : Int) + 1) = (k : Int) := ⟨(a1 % ((n0 : Int) + 1)).toNat, by omega⟩
  have hkn : k ≤ n0 := by omega
  rw [hk] at hmod
  rw [← hn0']
  have hcl : n0 ≤ c0 := by rw [hn0']; exact hc0
  obtain ⟨A2, hcut2, hAb2, hC2⟩ := cut23h A0 n0 c0 k hkn hcl
  obtain ⟨A3, hcut3, hAb3, hC3⟩ := cut23 A0 n0 c0 k hkn
  have htl : (l0.take k).length = k := by rw [List.length_take]; omega
  have hdl : (l0.drop k).length = n0 - k := by rw [List.length_drop]; omega
  have HI2 : Aside0 (∀ {W}, Aside0 (Below w.heap.size w W) → Inp w.heap.size W A2 (l0.take k)) := ⟨fun hb => by
    refine ⟨hC2 _ l0 hn0'.symm (HI0.out.below hb.out).c, fun hne x hx => ?_⟩
    obtain ⟨y, hy, e⟩ := hAb2 x hx
    rw [e]
    exact HI0.out.lt (fun h => hne (by rw [h]; simp)) y hy⟩
  have HI3 : Aside0 (∀ {W}, Aside0 (Below w.heap.size w W) → Inp w.heap.size W A3 (l0.drop k)) := ⟨fun hb => by
    refine ⟨hC3 _ l0 hn0'.symm hcl (HI0.out.below hb.out).c, fun hne x hx => ?_⟩
    obtain ⟨y, hy, e⟩ := hAb3 x hx
    rw [e]
    exact HI0.out.lt (fun h => hne (by rw [h]; simp)) y hy⟩
  have HF1 : ∀ {W}, Aside0 (Sc W w.heap.size 0 (-1) none 0 []) → Aside0 (Below w.heap.size w W) → Calls Tryd.prog 23 #[.pointer (some ⟨w.heap.size, 0, none⟩), .slice A0 n0 c0] W fun e w' => e = .returned (.int .i64 0) ∧ Aside0 (Fed W w' w.heap.size (n0 : Int) (stB l0) none (stP l0)) :=
    fun h1 h2 => feed_whole h1.out (Nat.le_refl _) A0 c0 n0 l0 N0.out (HI0.out.below h2.out) HC0.out (HT.out.below h2.out) hg2 HB0.out (by have := HL.out; omega)
  have HF2 : ∀ {W T}, w.heap.size < T → Aside0 (Sc W T 0 (-1) none 0 []) → Aside0 (Below w.heap.size w W) → Calls Tryd.prog 23 #[.pointer (some ⟨T, 0, none⟩), .slice A2 k c0] W fun e w' => e = .returned (.int .i64 0) ∧ Aside0 (Fed W w' T (k : Int) (stB (l0.take k)) none (stP (l0.take k))) :=
    fun hT h1 h2 => feed_whole h1.out (Nat.le_of_lt hT) A2 c0 k (l0.take k) htl.symm (HI2.out h2) (by rw [htl]; omega) (HT.out.below h2.out) (by omega) (allB_take HB0.out k) (by rw [htl]; have := HL.out; omega)
  have HF3 : ∀ {W g A c}, w.heap.size < g → Aside0 (Sc W g k (stB (l0.take k)) A c (stP (l0.take k))) → Aside0 (Below w.heap.size w W) → Calls Tryd.prog 23 #[.pointer (some ⟨g, 0, none⟩), .slice A3 (n0 - k) (c0 - k)] W fun e w' => e = .returned (.int .i64 0) ∧ Aside0 (Fed W w' g (n0 : Int) (stB l0) A (stP l0)) :=
    fun hT h1 h2 => by
      have := feed_rest (by omega) h1.out (Nat.le_of_lt hT) A3 (c0 - k) (n0 - k) hdl.symm (HI3.out h2) (by rw [hdl]; omega) (HT.out.below h2.out) (by omega) HB0.out (by have := HL.out; omega)
      rwa [← hn0'] at this
  have HMAY : Aside0 (mayI (k : Int) (stB (l0.take k)) (stP (l0.take k))) := ⟨by have := st_may (l0.take k) (allB_take HB0.out k) (by rw [htl]; have := HL.out; omega); rwa [htl] at this⟩
  have HPA : Aside0 ((stP (l0.take k)).length ≤ 140737488355328) := ⟨by have := lookP_len (l0.take k); unfold stP; omega⟩
  have HPP : Aside0 ((stP l0).length ≤ 140737488355328) := ⟨by have := lookP_len l0; unfold stP; omega⟩
  have HBA : Aside0 (allB (stP (l0.take k)) = true) := ⟨allB_lookP (allB_take HB0.out k)⟩
  have HE : Aside0 (endI (n0 : Int) (stB l0) (stP l0) = faultI l0) := ⟨by rw [N0.out]; exact st_end l0 HB0.out (by have := HL.out; omega)⟩
  have hki : (k : Int) ≤ (n0 : Int) := by omega
  have hki0 : (0 : Int) ≤ (k : Int) := by omega
  clear hr0 hc0 hB0 hn0 hT hn0' hm0 hm1 hk hcl hAb2 hAb3 hC2 hC3 htl hdl
  generalize stB (l0.take k) = ba at *
  generalize stP (l0.take k) = pa at *
  generalize stB l0 = bb at *
  generalize stP l0 = pp at *
  go_enter Tryd.func11, Tryd.ntmps11
  go_wp2_with (first | (go_at_call 21; first | (with_reducible refine (new_calls w).mono ?_; rintro e w1 ⟨rfl, hs, hb⟩; have HS := Aside0.mk hs; have HB := Aside0.mk hb; clear hs hb) | (with_reducible refine (new_calls w1).mono ?_; rintro e w2 ⟨rfl, hs, hb⟩; have HLT := Aside0.mk HS.out.lt; have hLT := HS.out.lt; replace HS := Aside0.mk (HS.out.below hb); have HTT := Aside0.mk hs; replace HB := Aside0.mk (HB.out.trans (hb.mono HB.out.size)); clear hs hb)) | (go_at_call 23; first | (with_reducible refine (HF1 HS HB).mono ?_; rintro e w3 ⟨rfl, h⟩; obtain ⟨A4, c4, hs4, ha4⟩ := h.out.sc; have HAS : Aside0 (∀ x, A4 = some x → ¬ x.block = w1.heap.size) := ⟨fun x hx => by rcases ha4 x hx with h1 | h1; cases h1; have := HTT.out.lt; omega⟩; replace HTT := Aside0.mk (HTT.out.keep h.out.turned.kept (fun e => absurd e (by have := HLT.out; omega)) (fun _ h => by cases h)); replace HB := Aside0.mk (HB.out.trans h.out.turned.below); replace HS := Aside0.mk hs4; clear h hs4 ha4) | (with_reducible refine (HF2 HLT.out HTT HB).mono ?_; rintro e w4 ⟨rfl, h⟩; obtain ⟨A5, c5, hs5, ha5⟩ := h.out.sc; replace HS := Aside0.mk (HS.out.keep h.out.turned.kept (fun e => absurd e (by have := HLT.out; omega)) (fun x hx => HAS.out x hx)); replace HTT := Aside0.mk hs5; replace HB := Aside0.mk (HB.out.trans (h.out.turned.below.mono (Nat.le_of_lt HLT.out))); clear h hs5 ha5) | (with_reducible refine (HF3 HNG.out HU HB).mono ?_; rintro e w7 ⟨rfl, h⟩; obtain ⟨A7, c7, hs7, ha7⟩ := h.out.sc; have HAU : Aside0 (∀ x, A7 = some x → ¬ x.block = w1.heap.size) := ⟨fun x hx => by rcases ha7 x hx with h1 | h1; have := HA6.out x h1; omega; have := HTT.out.lt; omega⟩; replace HS := Aside0.mk (HS.out.keep' h.out.turned.kept (fun e => absurd e (by have := HNG.out; omega)) HSG.out); replace HTT := Aside0.mk (HTT.out.keep' h.out.turned.kept (fun e => absurd e (by have := HTG.out; omega)) HTA.out); replace HB := Aside0.mk (HB.out.trans (h.out.turned.below.mono (Nat.le_of_lt HNG.out))); replace HU := Aside0.mk hs7; clear h hs7 ha7) | (with_reducible refine (HF3 HLT.out HTT HB).mono ?_; rintro e w8 ⟨rfl, h⟩; obtain ⟨A8, c8, hs8, ha8⟩ := h.out.sc; replace HS := Aside0.mk (HS.out.keep h.out.turned.kept (fun e => absurd e (by have := HLT.out; omega)) (fun x hx => HAS.out x hx)); replace HU := Aside0.mk (HU.out.keep h.out.turned.kept (fun e => absurd e (by have := HTG.out; omega)) (fun x hx => HAU.out x hx)); replace HTT := Aside0.mk hs8; replace HB := Aside0.mk (HB.out.trans (h.out.turned.below.mono (Nat.le_of_lt HLT.out))); clear h hs8 ha8)) | (go_at_call 27; first | (with_reducible refine (scan_state HTT.out HPA.out).mono ?_; rintro e w5 ⟨v, rfl, hr5, hb⟩; obtain ⟨A9, c9, rfl⟩ := Kd.R_slice hr5; have HC9 := Aside0.mk (Kd.R_reads' hr5).2.2; have HD9 := Aside0.mk (Kd.R_reads' hr5).2.1; replace HTT := Aside0.mk (HTT.out.below hb); replace HS := Aside0.mk (HS.out.below hb); replace HB := Aside0.mk (HB.out.trans (hb.mono HB.out.size)); clear hb hr5) | (with_reducible refine (scan_state HS.out HPP.out).mono ?_; rintro e wa ⟨v, rfl, hr, hb⟩; obtain ⟨Aa, ca, rfl⟩ := Kd.R_slice hr; have HCa := Aside0.mk (Kd.R_reads' hr).2.2; replace HTT := Aside0.mk (HTT.out.below hb); replace HU := Aside0.mk (HU.out.below hb); replace HS := Aside0.mk (HS.out.below hb); replace HB := Aside0.mk (HB.out.trans (hb.mono HB.out.size)); clear hb hr) | (with_reducible refine (scan_state HTT.out HPP.out).mono ?_; rintro e wb ⟨v, rfl, hr, hb⟩; obtain ⟨Ab, cb, rfl⟩ := Kd.R_slice hr; have HCb := Aside0.mk (Kd.R_reads' hr).2.2; replace HCa := Aside0.mk (Kd.C_below HCa.out hb); replace HU := Aside0.mk (HU.out.below hb); replace HS := Aside0.mk (HS.out.below hb); replace HB := Aside0.mk (HB.out.trans (hb.mono HB.out.size)); clear hb hr) | (with_reducible refine (scan_state HU.out HPP.out).mono ?_; rintro e wc ⟨v, rfl, hr, hb⟩; obtain ⟨Ac, cc, rfl⟩ := Kd.R_slice hr; have HCc := Aside0.mk (Kd.R_reads' hr).2.2; replace HCa := Aside0.mk (Kd.C_below HCa.out hb); replace HCb := Aside0.mk (Kd.C_below HCb.out hb); have hcva := conv_new3 (c := ca) HCa.out; have hcvb := conv_new3 (c := cb) HCb.out; have hcvc := conv_new3 (c := cc) HCc.out; replace HS := Aside0.mk (HS.out.below hb); replace HB := Aside0.mk (HB.out.trans (hb.mono HB.out.size)); clear hb hr)) | (go_at_call 26; with_reducible refine (scan_end (((HS.out.two _).two _).two _)).mono ?_; rintro e wd ⟨rfl, hb⟩; rw [HE.out]; replace HB := Aside0.mk (below_three HB.out hb); clear hb) | (go_at_call 15; with_reducible refine (fault_at A0 c0 l0 n0 N0.out _ (HI0.out.below HB.out).c HC0.out (HT.out.below HB.out) HB0.out).mono ?_; rintro e wn ⟨rfl, hb⟩; replace HB := Aside0.mk (HB.out.trans (hb.mono HB.out.size)); clear hb) | (go_at_call 20; with_reducible refine (awake_calls _ (HT.out.below HB.out)).mono ?_; rintro e wn ⟨rfl, hb⟩; replace HB := Aside0.mk (HB.out.trans (hb.mono HB.out.size)); clear hb) | (go_at_call 29; with_reducible refine (from_yes k ba A9 c9 pa _ HC9.out HD9.out (HT.out.below HB.out) HBA.out HMAY.out).mono ?_; rintro e w6 ⟨g, A6, c6, rfl, hs6, hg6, ha6, hb⟩; have HNG : Aside0 (w.heap.size < g) := ⟨by have := HS.out.lt; omega⟩; have HTG : Aside0 (w1.heap.size < g) := ⟨by have := HTT.out.lt; omega⟩; have HSG : Aside0 (pp ≠ [] → ∀ x, A4 = some x → ¬ x.block = g) := ⟨fun hne x hx => by have := HS.out.pend_lt hne x hx; omega⟩; have HTA : Aside0 (pa ≠ [] → ∀ x, A5 = some x → ¬ x.block = g) := ⟨fun hne x hx => by have := HTT.out.pend_lt hne x hx; omega⟩; have HA6 : Aside0 (∀ x, A6 = some x → w1.heap.size < x.block) := ⟨fun x hx => by have := ha6 x hx; have := HTT.out.lt; omega⟩; replace HTT := Aside0.mk (HTT.out.below hb); replace HS := Aside0.mk (HS.out.below hb); replace HB := Aside0.mk (HB.out.trans (hb.mono HB.out.size)); have HU := Aside0.mk hs6; clear hb hs6 ha6 hg6))
  go_ret
  exact ⟨rfl, HB.out⟩
theorem wf_16 {x : Int} (h : (Lit.int .u16 x).wf = true) : 0 ≤ x ∧ x < 65536 := by
  simp [Lit.wf, IntKind.min, IntKind.max, IntKind.signed, IntKind.bits] at h
  omega
theorem cuts_walk (A0 : Option Addr) (c0 : Nat) (l0 : List Int) (a1 : Int) (w : World) (hr0 : ReadsInt w .u8 A0 l0.length l0) (hc0 : l0.length ≤ c0) (h0 : ∀ x ∈ l0, (Lit.int .u8 x).wf = true) (n0 : l0.length ≤ 1048576) (ha : (Lit.int .u16 a1).wf = true) (hT : Tabs w) :
    Calls Tryd.prog 11 #[.slice A0 l0.length c0, .int .u16 a1] w fun e w' => e = .returned (.bool true) ∧ Below w.heap.size w w' :=
  cuts_calls A0 c0 l0 a1 w (C_of_ints hr0) hc0 (allB_wf h0) n0 (wf_16 ha).1 (wf_16 ha).2 hT
end Go.Proofs.YtnaaimnmphcilaaDoor.Hand
