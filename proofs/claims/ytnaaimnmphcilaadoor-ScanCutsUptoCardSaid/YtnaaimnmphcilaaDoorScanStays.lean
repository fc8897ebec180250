/- The call of ScanStays: it returns true. -/
import Derived.Test.YtnaaimnmphcilaaDoorScanH
namespace Go.Proofs.YtnaaimnmphcilaaDoor.Hand
open Go.RowKit Go.Proofs.YtnaaimnmphcilaaDoorW.PrintWords Go.Proofs.YtnaaimnmphcilaaDoorW.PrintLast Go.Proofs.YtnaaimnmphcilaaDoorW.PrintMore
set_option linter.unusedVariables false
set_option linter.unusedSimpArgs false

def stB (l : List Int) : Int := if faultI l < 0 then -1 else if openI (l.drop (faultI l).toNat) = true then -1 else faultI l
def stP (l : List Int) : List Int := lookP l
theorem feed0B {l : List Int} (hB : allB l = true) (hl : l.length ≤ 9223372036854775807) : feedB 0 (-1) [] l = stB l := by
  unfold feedB stB lookB
  rw [if_neg (by decide), List.nil_append]
  split
  · rfl
  · split
    · rfl
    · rcases faultI_valid hB with h | h
      · omega
      · unfold wrap64; simp; omega
theorem feed0P (l : List Int) : feedP (-1) [] l = stP l := by
  unfold feedP stP
  rw [if_neg (by decide), List.nil_append]
theorem st_bad {l : List Int} (h : stB l ≥ 0) : stB l = faultI l ∧ stP l = [] := by
  unfold stP lookP
  unfold stB at *
  split at h
  · omega
  · rename_i h1
    split at h
    · omega
    · rename_i h2
      rw [if_neg h1, if_neg h2, if_neg h1, if_neg h2]
      exact ⟨rfl, rfl⟩
theorem allB_lookP {l : List Int} (h : allB l = true) : allB (lookP l) = true := by
  unfold lookP
  split
  · rfl
  · split
    · exact allB_drop h _
    · rfl
theorem lookP_len (l : List Int) : (lookP l).length ≤ 3 := by
  unfold lookP
  split
  · simp
  · split
    · rename_i h
      unfold openI at h
      simp only [Bool.and_eq_true, decide_eq_true_eq] at h
      omega
    · simp
theorem endI_bad {s b : Int} {l : List Int} (h : b ≥ 0) : endI s b l = b := by unfold endI; rw [if_neg (by omega)]

theorem feed_nil_new (v : Value) (W : World) (o : Obj) : Calls Tryd.prog 23 #[.pointer none, v] (W.alloc o) fun e w' => e = .returned (.int .i64 1) ∧ Below W.heap.size W w' ∧ w'.heap[W.heap.size]? = some o := by
  have hb := (Below.refl W.heap.size W).alloc (Nat.le_refl _) o
  refine (feed_nil v (W.alloc o)).mono ?_
  rintro e w' ⟨rfl, h⟩
  exact ⟨rfl, below_then hb hb.size h, blk_below (heap_alloc_new W o) h⟩
theorem fault_at (A : Option Addr) (c : Nat) (l : List Int) (n : Nat) (hn : n = l.length) (w : World) (hr : Kd.C (Kd.int .u8) w A l.length l) (hc : l.length ≤ c) (hT : Tabs w) (hB : allB l = true) :
    Calls Tryd.prog 15 #[.slice A n c] w fun e w' => e = .returned (.int .i64 (faultI l)) ∧ Below w.heap.size w w' := by
  subst hn
  exact ScanF.fault_calls A c l w hr hc hT hB

set_option maxHeartbeats 4000000 in
set_option maxRecDepth 100000 in
theorem stays_calls (A0 : Option Addr) (c0 : Nat) (l0 : List Int) (A1 : Option Addr) (c1 : Nat) (l1 : List Int) (w : World) (hr0 : Kd.C (Kd.int .u8) w A0 l0.length l0) (hc0 : l0.length ≤ c0) (hr1 : Kd.C (Kd.int .u8) w A1 l1.length l1) (hc1 : l1.length ≤ c1)
    (hB0 : allB l0 = true) (hB1 : allB l1 = true) (hn0 : l0.length ≤ 1048576) (hn1 : l1.length ≤ 1048576) (hT : Tabs w) :
    Calls Tryd.prog 7 #[.slice A0 l0.length c0, .slice A1 l1.length c1] w fun e w' => e = .returned (.bool true) ∧ Below w.heap.size w w' := by
  have cN := new_calls w
  have hg2 := hT.two
  have HI0 := Aside0.mk (Inp.of hr0)
  have HI1 := Aside0.mk (Inp.of hr1)
  have HT := Aside0.mk hT
  have HC0 := Aside0.mk hc0
  have HC1 := Aside0.mk hc1
  have HB0 := Aside0.mk hB0
  have HB1 := Aside0.mk hB1
  obtain ⟨f, hf⟩ : ∃ f, stB l0 = f := ⟨_, rfl⟩
  obtain ⟨p, hp⟩ : ∃ p, stP l0 = p := ⟨_, rfl⟩
  have E1 : Aside0 (feedB 0 (-1) [] l0 = f) := ⟨by rw [feed0B hB0 (by omega), hf]⟩
  have E2 : Aside0 (feedP (-1) [] l0 = p) := ⟨by rw [feed0P, hp]⟩
  have E3 : Aside0 ((0 : Int) + (l0.length : Int) = (l0.length : Int)) := ⟨by omega⟩
  have HPB : Aside0 (allB p = true) := ⟨by rw [← hp]; exact allB_lookP hB0⟩
  have HPL : Aside0 (p.length ≤ 140737488355) := ⟨by rw [← hp]; have := lookP_len l0; unfold stP; omega⟩
  have G0 : Aside0 ((0 : Int) + (l0.length : Int) ≤ 1099511627776) := ⟨by omega⟩
  have G1 : Aside0 ((l0.length : Int) + (l1.length : Int) ≤ 1099511627776) := ⟨by omega⟩
  have G2 : Aside0 ((0 : Int) ≤ (l0.length : Int)) := ⟨by omega⟩
  have NP : Aside0 (([] : List Int).length ≤ 140737488355) := ⟨by decide⟩
  by_cases hf0 : f ≥ 0
  · obtain ⟨hff, hpp⟩ := st_bad (l := l0) (by rw [hf]; exact hf0)
    rw [hp] at hpp
    subst hpp
    have E4 : Aside0 (feedB (l0.length : Int) f [] l1 = f) := ⟨by unfold feedB; rw [if_pos hf0]⟩
    have E5 : Aside0 (feedP f [] l1 = []) := ⟨by unfold feedP; rw [if_pos hf0]⟩
    have E6 : ∀ s : Int, Aside0 (endI s f [] = f) := fun s => ⟨endI_bad hf0⟩
    have E7 : Aside0 (faultI l0 = f) := ⟨by rw [← hff, hf]⟩
    obtain ⟨n0, hn0'⟩ : ∃ n, n = l0.length := ⟨_, rfl⟩
    obtain ⟨n1, hn1'⟩ : ∃ n, n = l1.length := ⟨_, rfl⟩
    have N0 := Aside0.mk hn0'
    have N1 := Aside0.mk hn1'
    rw [← hn0', ← hn1']
    have hfn : ¬ f < 0 := by omega
    clear hff hp hf hr0 hc0 hr1 hc1 hB0 hB1 hn0 hn1 hT hn0' hn1'
    go_enter Tryd.func7, Tryd.ntmps7
    go_wp2_with (first | (go_at_call 21; with_reducible refine cN.mono ?_; rintro e w1 ⟨rfl, hs, hb⟩; have HS := Aside0.mk hs; have HB := Aside0.mk hb; clear hs hb) | (go_at_call 23; first | (with_reducible refine (feed_inp HS.out (Nat.le_refl _) A0 c0 l0 n0 N0.out (HI0.out.below HB.out) HC0.out (HT.out.below HB.out) hg2 rfl HB0.out (Int.le_refl 0) NP.out G0.out).mono ?_; rintro e w2 ⟨rfl, h⟩; have hf := h.out; rw [E1.out, E2.out, E3.out] at hf; obtain ⟨A2, c2, hs2, _⟩ := hf.sc; replace HB := Aside0.mk (HB.out.trans hf.turned.below); replace HS := Aside0.mk hs2; clear h hf hs2) | (with_reducible refine (feed_inp HS.out (Nat.le_refl _) A1 c1 l1 n1 N1.out (HI1.out.below HB.out) HC1.out (HT.out.below HB.out) hg2 HPB.out HB1.out G2.out HPL.out G1.out).mono ?_; rintro e w4 ⟨rfl, h⟩; have hf := h.out; rw [E4.out, E5.out] at hf; obtain ⟨A4, c4, hs4, _⟩ := hf.sc; replace HB := Aside0.mk (HB.out.trans hf.turned.below); replace HS := Aside0.mk hs4; clear h hf hs4) | (with_reducible refine (feed_nil_new _ _ _).mono ?_; rintro e wn ⟨rfl, hb, hk⟩; replace HB := Aside0.mk (HB.out.trans (hb.mono HB.out.size)); have HK := Aside0.mk hk; clear hb hk)) | (go_at_call 25; first | (with_reducible refine (scan_fault HS.out).mono ?_; rintro e wn ⟨rfl, hb⟩; replace HS := Aside0.mk (HS.out.below hb); replace HB := Aside0.mk (HB.out.trans (hb.mono HB.out.size)); clear hb) | (with_reducible refine (fault_nil _).mono ?_; rintro e wn ⟨rfl, hb⟩; replace HK := Aside0.mk (blk_below HK.out hb); replace HB := Aside0.mk (HB.out.trans (hb.mono HB.out.size)); clear hb)) | (go_at_call 26; first | (with_reducible refine (scan_end HS.out).mono ?_; rintro e wn ⟨rfl, hb⟩; rw [(E6 _).out]; replace HS := Aside0.mk (HS.out.below hb); replace HB := Aside0.mk (HB.out.trans (hb.mono HB.out.size)); clear hb) | (with_reducible refine (end_nil _).mono ?_; rintro e wn ⟨rfl, hb⟩; replace HK := Aside0.mk (blk_below HK.out hb); replace HB := Aside0.mk (HB.out.trans (hb.mono HB.out.size)); clear hb; have kk0 := blk_cell HK.out 0; have kk1 := blk_cell HK.out 1; have kk2 := blk_cell HK.out 2)) | (go_at_call 27; first | (with_reducible refine (scan_state HS.out (by decide)).mono ?_; rintro e wn ⟨v, rfl, hr5, hb⟩; obtain ⟨A5, c5, rfl⟩ := Kd.R_slice hr5; have hfd := fun x => (field49 x f A5 0 c5 wn).2.2; replace HB := Aside0.mk (HB.out.trans (hb.mono HB.out.size)); clear hb hr5) | (with_reducible refine (state_nil _).mono ?_; rintro e wn ⟨rfl, hb⟩; replace HB := Aside0.mk (HB.out.trans (hb.mono HB.out.size)); clear hb)) | (go_at_call 15; with_reducible refine (fault_at A0 c0 l0 n0 N0.out _ (HI0.out.below HB.out).c HC0.out (HT.out.below HB.out) HB0.out).mono ?_; rintro e wn ⟨rfl, hb⟩; rw [E7.out]; replace HB := Aside0.mk (HB.out.trans (hb.mono HB.out.size)); clear hb) | (go_at_call 20; with_reducible refine (awake_calls _ (HT.out.below HB.out)).mono ?_; rintro e wn ⟨rfl, hb⟩; replace HB := Aside0.mk (HB.out.trans (hb.mono HB.out.size)); clear hb))
    go_ret
    exact ⟨rfl, HB.out⟩
  · obtain ⟨f2, hf2⟩ : ∃ f2, feedB (l0.length : Int) f p l1 = f2 := ⟨_, rfl⟩
    obtain ⟨p2, hp2⟩ : ∃ p2, feedP f p l1 = p2 := ⟨_, rfl⟩
    have E4 := Aside0.mk hf2
    have E5 := Aside0.mk hp2
    obtain ⟨n0, hn0'⟩ : ∃ n, n = l0.length := ⟨_, rfl⟩
    obtain ⟨n1, hn1'⟩ : ∃ n, n = l1.length := ⟨_, rfl⟩
    have N0 := Aside0.mk hn0'
    have N1 := Aside0.mk hn1'
    rw [← hn0', ← hn1']
    have hfn : f < 0 := by omega
    clear hp hf hr0 hc0 hr1 hc1 hB0 hB1 hn0 hn1 hT hn0' hn1' hf2 hp2
    go_enter Tryd.func7, Tryd.ntmps7
    go_wp2_with (first | (go_at_call 21; with_reducible refine cN.mono ?_; rintro e w1 ⟨rfl, hs, hb⟩; have HS := Aside0.mk hs; have HB := Aside0.mk hb; clear hs hb) | (go_at_call 23; first | (with_reducible refine (feed_inp HS.out (Nat.le_refl _) A0 c0 l0 n0 N0.out (HI0.out.below HB.out) HC0.out (HT.out.below HB.out) hg2 rfl HB0.out (Int.le_refl 0) NP.out G0.out).mono ?_; rintro e w2 ⟨rfl, h⟩; have hf := h.out; rw [E1.out, E2.out, E3.out] at hf; obtain ⟨A2, c2, hs2, _⟩ := hf.sc; replace HB := Aside0.mk (HB.out.trans hf.turned.below); replace HS := Aside0.mk hs2; clear h hf hs2) | (with_reducible refine (feed_inp HS.out (Nat.le_refl _) A1 c1 l1 n1 N1.out (HI1.out.below HB.out) HC1.out (HT.out.below HB.out) hg2 HPB.out HB1.out G2.out HPL.out G1.out).mono ?_; rintro e w4 ⟨rfl, h⟩; have hf := h.out; rw [E4.out, E5.out] at hf; obtain ⟨A4, c4, hs4, _⟩ := hf.sc; replace HB := Aside0.mk (HB.out.trans hf.turned.below); replace HS := Aside0.mk hs4; clear h hf hs4) | (with_reducible refine (feed_nil_new _ _ _).mono ?_; rintro e wn ⟨rfl, hb, hk⟩; replace HB := Aside0.mk (HB.out.trans (hb.mono HB.out.size)); have HK := Aside0.mk hk; clear hb hk)) | (go_at_call 25; first | (with_reducible refine (scan_fault HS.out).mono ?_; rintro e wn ⟨rfl, hb⟩; replace HS := Aside0.mk (HS.out.below hb); replace HB := Aside0.mk (HB.out.trans (hb.mono HB.out.size)); clear hb) | (with_reducible refine (fault_nil _).mono ?_; rintro e wn ⟨rfl, hb⟩; replace HK := Aside0.mk (blk_below HK.out hb); replace HB := Aside0.mk (HB.out.trans (hb.mono HB.out.size)); clear hb)) | (go_at_call 26; first | (with_reducible refine (scan_end HS.out).mono ?_; rintro e wn ⟨rfl, hb⟩; replace HS := Aside0.mk (HS.out.below hb); replace HB := Aside0.mk (HB.out.trans (hb.mono HB.out.size)); clear hb) | (with_reducible refine (end_nil _).mono ?_; rintro e wn ⟨rfl, hb⟩; replace HK := Aside0.mk (blk_below HK.out hb); replace HB := Aside0.mk (HB.out.trans (hb.mono HB.out.size)); clear hb; have kk0 := blk_cell HK.out 0; have kk1 := blk_cell HK.out 1; have kk2 := blk_cell HK.out 2)) | (go_at_call 27; first | (with_reducible refine (scan_state HS.out (by decide)).mono ?_; rintro e wn ⟨v, rfl, hr5, hb⟩; obtain ⟨A5, c5, rfl⟩ := Kd.R_slice hr5; have hfd := fun x => (field49 x f A5 0 c5 wn).2.2; replace HB := Aside0.mk (HB.out.trans (hb.mono HB.out.size)); clear hb hr5) | (with_reducible refine (state_nil _).mono ?_; rintro e wn ⟨rfl, hb⟩; replace HB := Aside0.mk (HB.out.trans (hb.mono HB.out.size)); clear hb)) | (go_at_call 15; with_reducible refine (fault_at A0 c0 l0 n0 N0.out _ (HI0.out.below HB.out).c HC0.out (HT.out.below HB.out) HB0.out).mono ?_; rintro e wn ⟨rfl, hb⟩; replace HB := Aside0.mk (HB.out.trans (hb.mono HB.out.size)); clear hb) | (go_at_call 20; with_reducible refine (awake_calls _ (HT.out.below HB.out)).mono ?_; rintro e wn ⟨rfl, hb⟩; replace HB := Aside0.mk (HB.out.trans (hb.mono HB.out.size)); clear hb))
    go_ret
    exact ⟨rfl, HB.out⟩

theorem allB_wf {l : List Int} (h : ∀ x ∈ l, (Lit.int .u8 x).wf = true) : allB l = true := by
  unfold allB
  rw [List.all_eq_true]
  intro x hx
  have := h x hx
  simp [Lit.wf, IntKind.min, IntKind.max, IntKind.signed, IntKind.bits] at this
  simp [isB]
  omega
theorem C_of_ints {w : World} {A : Option Addr} {n : Nat} {l : List Int} (h : ReadsInt w .u8 A n l) : Kd.C (Kd.int .u8) w A n l := Kd.C_of_reads (d := (0 : Int)) (h1 := fun _ => rfl) h
theorem stays_walk (A0 : Option Addr) (c0 : Nat) (l0 : List Int) (A1 : Option Addr) (c1 : Nat) (l1 : List Int) (w : World) (hr0 : ReadsInt w .u8 A0 l0.length l0) (hc0 : l0.length ≤ c0) (h0 : ∀ x ∈ l0, (Lit.int .u8 x).wf = true) (n0 : l0.length ≤ 1048576)
    (hr1 : ReadsInt w .u8 A1 l1.length l1) (hc1 : l1.length ≤ c1) (h1 : ∀ x ∈ l1, (Lit.int .u8 x).wf = true) (n1 : l1.length ≤ 1048576) (hT : Tabs w) :
    Calls Tryd.prog 7 #[.slice A0 l0.length c0, .slice A1 l1.length c1] w fun e w' => e = .returned (.bool true) ∧ Below w.heap.size w w' :=
  stays_calls A0 c0 l0 A1 c1 l1 w (C_of_ints hr0) hc0 (C_of_ints hr1) hc1 (allB_wf h0) (allB_wf h1) n0 n1 hT
end Go.Proofs.YtnaaimnmphcilaaDoor.Hand
