/- The call of ScanBytes: it returns true. -/
import Derived.Test.YtnaaimnmphcilaaDoorScanQ
namespace Go.Proofs.YtnaaimnmphcilaaDoor.Hand
open Go.RowKit Go.Proofs.YtnaaimnmphcilaaDoorW.PrintWords Go.Proofs.YtnaaimnmphcilaaDoorW.PrintLast Go.Proofs.YtnaaimnmphcilaaDoorW.PrintMore
set_option linter.unusedVariables false
set_option linter.unusedSimpArgs false

theorem cut23b (A : Option Addr) (n c i j : Nat) (hi : i ≤ j) (hj : j ≤ n) (hn : n ≤ c) :
    ∃ A2 : Option Addr, (∀ W : World, (Instr.slice 23 (.slice A n c) (some (.int .i64 (i : Int))) (some (.int .i64 (j : Int))) none).run Tryd.prog W = .ok (.slice A2 (j - i) (c - i)) W) ∧
      (∀ x, A2 = some x → ∃ y, A = some y ∧ x.block = y.block) ∧
      ∀ (w : World) (l : List Int), l.length = n → Kd.C (Kd.int .u8) w A l.length l → Kd.C (Kd.int .u8) w A2 ((l.drop i).take (j - i)).length ((l.drop i).take (j - i)) := by
  refine ⟨if c = i then A else A.map (·.add i), fun W => ?_, fun x hx => ?_, fun w l hl h => ?_⟩
  · obtain ⟨i0, hi0, hz0, hz1, hz2⟩ := info_parts info5
    have hel : Tryd.prog.elem 23 = 5 := by simp [Program.elem, Tryd.underlying23]
    have hu : Tryd.prog.underlying 23 = some (.slice (Tryd.prog.elem 23)) := by rw [hel]; exact Tryd.underlying23
    rw [run_slice_lh W 23 A n c hu .i64 .i64 (i : Int) (j : Int) (Int.natCast_nonneg _) (by omega) (by omega), hel]
    simp [sizeOf, typeInfo, hi0, hz1, sliced, Result.andThen]
  · split at hx
    · exact ⟨x, hx, rfl⟩
    · cases A with
      | none => simp at hx
      | some y =>
        simp only [Option.map_some, Option.some.injEq] at hx
        exact ⟨y, rfl, by rw [← hx, add_block]⟩
  · have := Kd.C_drop (c := c) h (m := i) (by omega) (by omega)
    have h2 : Kd.C (Kd.int .u8) w (if c = i then A else A.map (·.add i)) (l.drop i).length (l.drop i) := by simpa [Kd.int, Kd.scalar] using this
    exact Kd.C_take h2 (by rw [List.length_drop]; omega)

theorem take_next (l : List Int) (k : Nat) (hk : k < l.length) : (l.drop k).take 1 = [l[k]] := by
  rw [List.drop_eq_getElem_cons hk]; rfl

theorem take_succ (l : List Int) (k : Nat) (hk : k < l.length) : l.take k ++ (l.drop k).take 1 = l.take (k + 1) := by
  rw [List.take_add]

theorem feed_whole {w : World} {g : Nat} (H : Sc w g 0 (-1) none 0 []) {N : Nat} (hN : N ≤ g) (A' : Option Addr) (c' n : Nat) (l : List Int) (hn : n = l.length) (hi : Inp N w A' l) (hc : l.length ≤ c') (hT : Tabs w) (hg : 2 ≤ g) (hB : allB l = true) (hl : l.length ≤ 1099511627776) :
    Calls Tryd.prog 23 #[.pointer (some ⟨g, 0, none⟩), .slice A' n c'] w fun e w' => e = .returned (.int .i64 0) ∧ Aside0 (Fed w w' g (n : Int) (stB l) none (stP l)) := by
  have := feed_inp H hN A' c' l n hn hi hc hT hg rfl hB (Int.le_refl 0) (by decide) (by omega)
  rw [feed0B hB (by omega), feed0P, Int.zero_add, ← hn] at this
  exact this

theorem conv_new {w : World} {A : Option Addr} {c : Nat} {l : List Int} (h : Kd.C (Kd.int .u8) w A l.length l) (o1 o2 : Obj) :
    (convert 23 9 (.slice A l.length c)).run Tryd.prog ((w.alloc o1).alloc o2) = .ok (.string (strOfNums l)) ((w.alloc o1).alloc o2) := by
  have h1 := (Below.refl w.heap.size w).alloc (Nat.le_refl _) o1
  exact Kd.C_string (P := Tryd.prog) (A := A) (c := c) Tryd.underlying23 Tryd.underlying5 Tryd.underlying9 (Kd.C_below h (h1.alloc h1.size o2))

theorem below_two {w W w' : World} {o1 o2 : Obj} (h : Below w.heap.size w W) (hb : Below ((W.alloc o1).alloc o2).heap.size ((W.alloc o1).alloc o2) w') : Below w.heap.size w w' := by
  have h1 := h.alloc h.size o1
  have h2 := h1.alloc h1.size o2
  exact h2.trans (hb.mono h2.size)

/-- One more byte. -/
theorem byte_fed (l : List Int) (hB : allB l = true) (k : Nat) (hk : k < l.length) (hl : l.length ≤ 9223372036854775807) :
    feedB (k : Int) (stB (l.take k)) (stP (l.take k)) ((l.drop k).take 1) = stB (l.take (k + 1)) ∧ feedP (stB (l.take k)) (stP (l.take k)) ((l.drop k).take 1) = stP (l.take (k + 1)) := by
  have := st_feed (l.take k) ((l.drop k).take 1) (allB_take hB k) (allB_take (allB_drop hB k) 1) (by rw [List.length_take, List.length_take, List.length_drop]; omega)
  rw [take_succ l k hk, List.length_take, Nat.min_eq_left (by omega)] at this
  exact this
theorem feed_byte {w : World} {g : Nat} {k : Nat} {A : Option Addr} {c : Nat} {l : List Int} (hk : k < l.length) (H : Sc w g k (stB (l.take k)) A c (stP (l.take k))) {N : Nat} (hN : N ≤ g) (A' : Option Addr) (c' n : Nat) (hn : n = 1) (hi : Inp N w A' ((l.drop k).take 1)) (hc : 1 ≤ c')
    (hT : Tabs w) (hg : 2 ≤ g) (hB : allB l = true) (hl : l.length ≤ 2000) :
    Calls Tryd.prog 23 #[.pointer (some ⟨g, 0, none⟩), .slice A' n c'] w fun e w' => e = .returned (.int .i64 0) ∧ Aside0 (Fed w w' g ((k : Int) + 1) (stB (l.take (k + 1))) A (stP (l.take (k + 1)))) := by
  have hlen : ((l.drop k).take 1).length = 1 := by rw [take_next l k hk]; rfl
  have := feed_inp H hN A' c' ((l.drop k).take 1) n (by rw [hlen]; exact hn) hi (by rw [hlen]; exact hc) hT hg (allB_lookP (allB_take hB k)) (allB_take (allB_drop hB k) 1) (by omega) (by have := lookP_len (l.take k); unfold stP; omega) (by rw [hlen]; omega)
  rw [(byte_fed l hB k hk (by omega)).1, (byte_fed l hB k hk (by omega)).2, hlen] at this
  exact this

set_option maxHeartbeats 4000000 in
set_option maxRecDepth 100000 in
theorem bytes_small (A0 : Option Addr) (c0 : Nat) (l0 : List Int) (w : World) (hr0 : Kd.C (Kd.int .u8) w A0 l0.length l0) (hc0 : l0.length ≤ c0) (hB0 : allB l0 = true) (hn0 : l0.length ≤ 2000) (hT : Tabs w) :
    Calls Tryd.prog 8 #[.slice A0 l0.length c0] w fun e w' => e = .returned (.bool true) ∧ Below w.heap.size w w' := by
  have hg2 := hT.two
  have HI0 := Aside0.mk (Inp.of hr0)
  have HT := Aside0.mk hT
  have HC0 := Aside0.mk hc0
  have HB0 := Aside0.mk hB0
  have HL := Aside0.mk hn0
  have hnn : ¬ (l0.length : Int) > 2000 := by omega
  obtain ⟨n0, hn0'⟩ : ∃ n, n = l0.length := ⟨_, rfl⟩
  have N0 := Aside0.mk hn0'
  rw [← hn0'] at hnn
  rw [← hn0']
  clear hr0 hc0 hB0 hn0 hT hn0'
  go_enter Tryd.func8, Tryd.ntmps8
  go_wp2_with (first | (go_at_call 21; first | (with_reducible refine (new_calls w).mono ?_; rintro e w1 ⟨rfl, hs, hb⟩; have HS := Aside0.mk hs; have HB := Aside0.mk hb; clear hs hb) | (with_reducible refine (new_calls w1).mono ?_; rintro e w2 ⟨rfl, hs, hb⟩; have HLT := Aside0.mk HS.out.lt; replace HS := Aside0.mk (HS.out.below hb); have HTT := Aside0.mk hs; replace HB := Aside0.mk (HB.out.trans (hb.mono HB.out.size)); clear hs hb)))
  generalize w1.heap.size = T at *
  have hTN : w.heap.size < T := HLT.out
  go_loopg [5] n0 (fun gk i wr => ∃ (k : Nat) (A : Option Addr) (c : Nat), Aside0 (gk + k = n0) ∧ i = .int .i64 k ∧ Aside0 (Sc wr w.heap.size k (stB (l0.take k)) A c (stP (l0.take k))) ∧ Aside0 (∀ x, A = some x → T < x.block) ∧ Aside0 (Sc wr T 0 (-1) none 0 []) ∧ Aside0 (Below w.heap.size w wr))
  case atStart => exact ⟨0, none, 0, ⟨by omega⟩, rfl, ⟨HS.out⟩, ⟨fun x hx => by cases hx⟩, ⟨HTT.out⟩, ⟨HB.out⟩⟩
  case round =>
    clear HS HTT HB
    obtain ⟨k, A, c, HK, rfl, HS, HA, HTT, HB⟩ := hrel
    by_cases hk : k < n0
    · have hkl : k < l0.length := by rw [← N0.out]; exact hk
      have hcl : n0 ≤ c0 := by rw [N0.out]; exact HC0.out
      obtain ⟨A2, hcut, hAb, hC⟩ := cut23b A0 n0 c0 k (k + 1) (by omega) hk hcl
      have HI2 : Aside0 (Inp w.heap.size wr A2 ((l0.drop k).take 1)) := ⟨by
        have := hC wr l0 N0.out.symm (HI0.out.below HB.out).c
        rw [show k + 1 - k = 1 by omega] at this
        refine ⟨this, fun _ x hx => ?_⟩
        obtain ⟨y, hy, e⟩ := hAb x hx
        rw [e]
        exact HI0.out.lt (fun h => by rw [h] at hkl; simp at hkl) y hy⟩
      have hcut' : ∀ W : World, (Instr.slice 23 (.slice A0 n0 c0) (some (.int .i64 (k : Int))) (some (.int .i64 ((k : Int) + 1))) none).run Tryd.prog W = .ok (.slice A2 1 (c0 - k)) W := fun W => by
        have := hcut W
        rw [show k + 1 - k = 1 by omega, show ((k + 1 : Nat) : Int) = (k : Int) + 1 by omega] at this
        exact this
      have HCK : Aside0 (1 ≤ c0 - k) := ⟨by omega⟩
      have HKL := Aside0.mk hkl
      have hw : wrap64 ((k : Int) + 1) = (k : Int) + 1 := by unfold wrap64; omega
      have hpl := lookP_len (l0.take (k + 1))
      have hki : (k : Int) < (n0 : Int) := by omega
      have HMX : Aside0 (∀ x, A = some x → T < x.block) := HA
      have HFB : ∀ {W}, Aside0 (Sc W w.heap.size k (stB (l0.take k)) A c (stP (l0.take k))) → Aside0 (Inp w.heap.size W A2 ((l0.drop k).take 1)) → Aside0 (Tabs W) → Calls Tryd.prog 23 #[.pointer (some ⟨w.heap.size, 0, none⟩), .slice A2 1 (c0 - k)] W fun e w' => e = .returned (.int .i64 0) ∧ Aside0 (Fed W w' w.heap.size ((k : Int) + 1) (stB (l0.take (k + 1))) A (stP (l0.take (k + 1)))) :=
        fun h1 h2 h3 => feed_byte HKL.out h1.out (Nat.le_refl _) A2 (c0 - k) 1 rfl h2.out HCK.out h3.out hg2 HB0.out HL.out
      have HPP : Aside0 ((stP (l0.take (k + 1))).length ≤ 140737488355328) := ⟨by unfold stP; omega⟩
      have hpi : ¬ ((stP (l0.take (k + 1))).length : Int) > 3 := by unfold stP; omega
      clear hcut hAb hC hkl hcl hpl
      generalize hbb : stB (l0.take (k + 1)) = bb at *
      generalize hpp : stP (l0.take (k + 1)) = pp at *
      have HPE := Aside0.mk hpp
      have HBE := Aside0.mk hbb
      clear hpp hbb
      have HNT : Aside0 (w.heap.size ≠ T) := ⟨by omega⟩
      have HGK : Aside0 (k < n0) := ⟨hk⟩
      go_wp2_with (first | (go_at_call 23; with_reducible refine (HFB HS HI2 ⟨HT.out.below HB.out⟩).mono ?_; rintro e w2 ⟨rfl, h⟩; obtain ⟨A4, c4, hs4, ha4⟩ := h.out.sc; have HA4 : Aside0 (∀ x, A4 = some x → T < x.block) := ⟨fun x hx => by rcases ha4 x hx with h1 | h1; exact HMX.out x h1; exact Nat.lt_of_lt_of_le HTT.out.lt h1⟩; replace HTT := Aside0.mk (HTT.out.keep h.out.turned.kept (fun e => absurd e.symm HNT.out) (fun _ h => by cases h)); replace HB := Aside0.mk (HB.out.trans h.out.turned.below); replace HS := Aside0.mk hs4; clear h hs4 ha4) | (go_at_call 27; with_reducible refine (scan_state HS.out HPP.out).mono ?_; rintro e wn ⟨v, rfl, hr5, hb⟩; obtain ⟨A5, c5, rfl⟩ := Kd.R_slice hr5; obtain ⟨hfd0, hfd1, hfd2⟩ := field49 ((k : Int) + 1) bb A5 pp.length c5 wn; replace HTT := Aside0.mk (HTT.out.below hb); replace HS := Aside0.mk (HS.out.below hb); replace HB := Aside0.mk (HB.out.trans (hb.mono HB.out.size)); clear hb hr5))
      go_roundg (gk - 1)
      case measure => have := HK.out; have := HGK.out; omega
      case rel => exact ⟨k + 1, A4, c4, ⟨by have := HK.out; have := HGK.out; omega⟩, by simp, ⟨by rw [HPE.out, HBE.out, show ((k + 1 : Nat) : Int) = (k : Int) + 1 by omega]; exact HS.out⟩, HA4, HTT, HB⟩
    · have hkn : k = n0 := by have := HK.out; omega
      subst hkn
      have htk : l0.take k = l0 := by rw [N0.out]; exact List.take_length
      rw [htk] at HS
      have HFT : ∀ {W}, Aside0 (Sc W T 0 (-1) none 0 []) → Aside0 (Below w.heap.size w W) → Calls Tryd.prog 23 #[.pointer (some ⟨T, 0, none⟩), .slice A0 k c0] W fun e w' => e = .returned (.int .i64 0) ∧ Aside0 (Fed W w' T (k : Int) (stB l0) none (stP l0)) :=
        fun h1 h2 => feed_whole h1.out (Nat.le_of_lt hTN) A0 c0 k l0 N0.out (HI0.out.below h2.out) HC0.out (HT.out.below h2.out) (by omega) HB0.out (by have := HL.out; omega)
      have HPP : Aside0 ((stP l0).length ≤ 140737488355328) := ⟨by have := lookP_len l0; unfold stP; omega⟩
      have HE : Aside0 (endI (k : Int) (stB l0) (stP l0) = faultI l0) := ⟨by rw [N0.out]; exact st_end l0 HB0.out (by have := HL.out; omega)⟩
      have HNT : Aside0 (w.heap.size ≠ T) := ⟨by omega⟩
      have HAT : Aside0 (∀ x, A = some x → ¬ x.block = T) := ⟨fun x hx => by have := HA.out x hx; omega⟩
      clear htk
      generalize stB l0 = bb at *
      generalize stP l0 = pp at *
      go_wp2_with (first | (go_at_call 23; with_reducible refine (HFT HTT HB).mono ?_; rintro e w2 ⟨rfl, h⟩; obtain ⟨A4, c4, hs4, ha4⟩ := h.out.sc; replace HS := Aside0.mk (HS.out.keep h.out.turned.kept (fun e => absurd e HNT.out) (fun x hx => HAT.out x hx)); replace HTT := Aside0.mk hs4; replace HB := Aside0.mk (HB.out.trans (h.out.turned.below.mono (Nat.le_of_lt HLT.out))); clear h hs4 ha4) | (go_at_call 27; first | (with_reducible refine (scan_state HS.out HPP.out).mono ?_; rintro e w5 ⟨v, rfl, hr5, hb⟩; obtain ⟨A5, c5, rfl⟩ := Kd.R_slice hr5; have HC5 := Aside0.mk (Kd.R_reads' hr5).2.2; replace HTT := Aside0.mk (HTT.out.below hb); replace HS := Aside0.mk (HS.out.below hb); replace HB := Aside0.mk (HB.out.trans (hb.mono HB.out.size)); clear hb hr5) | (with_reducible refine (scan_state HTT.out HPP.out).mono ?_; rintro e w6 ⟨v, rfl, hr6, hb⟩; obtain ⟨A6, c6, rfl⟩ := Kd.R_slice hr6; have HC6 := Aside0.mk (Kd.R_reads' hr6).2.2; replace HC5 := Aside0.mk (Kd.C_below HC5.out hb); have hcv5 := conv_new (c := c5) HC5.out; have hcv6 := conv_new (c := c6) HC6.out; replace HTT := Aside0.mk (HTT.out.below hb); replace HS := Aside0.mk (HS.out.below hb); replace HB := Aside0.mk (HB.out.trans (hb.mono HB.out.size)); clear hb hr6)) | (go_at_call 26; with_reducible refine (scan_end ((HS.out.two _).two _)).mono ?_; rintro e w7 ⟨rfl, hb⟩; rw [HE.out]; replace HB := Aside0.mk (below_two HB.out hb); clear hb) | (go_at_call 15; with_reducible refine (fault_at A0 c0 l0 k N0.out _ (HI0.out.below HB.out).c HC0.out (HT.out.below HB.out) HB0.out).mono ?_; rintro e wn ⟨rfl, hb⟩; replace HB := Aside0.mk (HB.out.trans (hb.mono HB.out.size)); clear hb) | (go_at_call 20; with_reducible refine (awake_calls _ (HT.out.below HB.out)).mono ?_; rintro e wn ⟨rfl, hb⟩; replace HB := Aside0.mk (HB.out.trans (hb.mono HB.out.size)); clear hb))
      go_ret
      exact ⟨rfl, HB.out⟩

set_option maxHeartbeats 1000000 in
theorem bytes_great (A0 : Option Addr) (c0 n : Nat) (w : World) (hn : (n : Int) > 2000) (hT : Tabs w) :
    Calls Tryd.prog 8 #[.slice A0 n c0] w fun e w' => e = .returned (.bool true) ∧ Below w.heap.size w w' := by
  have HT := Aside0.mk hT
  clear hT
  go_enter Tryd.func8, Tryd.ntmps8
  go_wp2_with (go_at_call 20; with_reducible refine (awake_calls _ HT.out).mono ?_; rintro e wn ⟨rfl, hb⟩)
  go_ret
  exact ⟨rfl, hb⟩
theorem bytes_walk (A0 : Option Addr) (c0 : Nat) (l0 : List Int) (w : World) (hr0 : ReadsInt w .u8 A0 l0.length l0) (hc0 : l0.length ≤ c0) (h0 : ∀ x ∈ l0, (Lit.int .u8 x).wf = true) (hT : Tabs w) :
    Calls Tryd.prog 8 #[.slice A0 l0.length c0] w fun e w' => e = .returned (.bool true) ∧ Below w.heap.size w w' := by
  by_cases h : l0.length ≤ 2000
  · exact bytes_small A0 c0 l0 w (C_of_ints hr0) hc0 (allB_wf h0) h hT
  · exact bytes_great A0 c0 l0.length w (by omega) hT
end Go.Proofs.YtnaaimnmphcilaaDoor.Hand
