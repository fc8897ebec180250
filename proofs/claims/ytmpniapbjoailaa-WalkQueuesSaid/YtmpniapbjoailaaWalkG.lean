/- Package walk: slices.Clone at paths; Queue.Push, Pop and Len. -/
import Derived.Test.YtmpniapbjoailaaWalkF
import Derived.Test.YtmpniapbjoailaaQAx4
import Derived.Laws.Cover3
namespace Go.Proofs.Ytmpniapbjoailaa.Hand
open Go.RowKit Go.Proofs.YtmpniapbjoailaaW.PrintWords Go.Proofs.YtmpniapbjoailaaW.PrintLast Go.Proofs.YtmpniapbjoailaaW.PrintMore
set_option linter.unusedVariables false
set_option linter.unusedSimpArgs false

set_option maxHeartbeats 4000000 in
theorem clone_m (A : Option Addr) (c n : Nat) (l : List ByteArray) (hn : n = l.length) (w : World) (hr : Kd.C Kd.string w A l.length l) (hc : l.length ≤ c) (hl : l.length < 1000000000) :
    Calls Try.prog 30 #[.slice A n c] w fun e w' => ∃ v, e = .returned v ∧ Aside0 (Kd.R Kd.string 9 w' w.heap.size (fun k => w.heap.size ≤ k) v l) ∧ Aside0 (Below w.heap.size w w') := by
  subst hn
  cases A with
  | none =>
    have h0 : l = [] := by
      by_cases h : 0 < l.length
      · obtain ⟨ad, he, _⟩ := hr.2.2 h
        cases he
      · exact List.length_eq_zero_iff.1 (by omega)
    subst h0
    clear hr hc hl
    have u22 : ∀ W : World, ∀ a l c, (binOp .eql 22 (.slice a l c) (.slice none 0 0)).run Try.prog W = .ok (.bool a.isNone) W := fun W a l c => by have := run_equal_slice_nil (P := Try.prog) W 22 9 a l c Try.underlying22; simp only [binOp]; simp [this]
    go_enter Try.func30, Try.ntmps30
    go_wp2
    go_ret
    exact ⟨_, rfl, ⟨Kd.R_nil _ _ _ _ _⟩, ⟨Below.refl _ _⟩⟩
  | some a =>
    have HR := Aside0.mk hr
    have HL : Aside0 ((([] : List ByteArray).length + l.length) * 16 ≤ 140737488355328) := ⟨by simp; omega⟩
    have HNL : Aside0 (([] : List ByteArray) ++ l = l) := ⟨rfl⟩
    obtain ⟨n, hn⟩ : ∃ n, n = l.length := ⟨_, rfl⟩
    rw [← hn]
    have HN := Aside0.mk hn
    clear hr hc hl hn
    have u22 : ∀ W : World, ∀ a l c, (binOp .eql 22 (.slice a l c) (.slice none 0 0)).run Try.prog W = .ok (.bool a.isNone) W := fun W a l c => by have := run_equal_slice_nil (P := Try.prog) W 22 9 a l c Try.underlying22; simp only [binOp]; simp [this]
    go_enter Try.func30, Try.ntmps30
    go_wp2_with (first | ((with_reducible refine gate_dst (N := 5) rfl ?_); refine Kd.R_lit Kd.string _ 9 ?hg (N := 5) ?hd (xs := ([] : List ByteArray)) (inner := []) (ok := fun _ => True) (okp := fun _ => True) ?hr ?hp (fun _ hk => hk) trivial (Below.refl _ _) (Nat.le_refl _) (by simp) ?_; (case hd => rfl); (case hg => rfl); (case hr => first | (go_simp; done) | (go_simp; rfl)); (case hp => exact (Reps.none _ _)); intro v1 w1 ho hb hg_ hnew_; clear hg_ hnew_; have HO1 := Aside0.mk (Kd.R_newM (M := fun k => w.heap.size ≤ k) ho (Nat.le_refl _) (fun k h => h)); have HB1 := Aside0.mk hb; clear ho hb) | ((with_reducible refine gate_builtin (b := .append) (xs := #[.tmp 5, .tmp 6]) rfl ?_); at_builtin; refine Kd.R_append_rows Kd.string (w0 := w) w.heap.size rfl (.tmp 5) (.tmp 6) 22 9 (.string ⟨#[]⟩) 16 rfl Try.underlying22 QA.info9 rfl (by decide) (by omega) v1 [] l _ _ _ (fun k => (w.heap.size ≤ k)) (fun _ => False) rfl rfl ?aO ?aR (fun _ _ h => h) (fun _ h => h.elim) ?aF ?aB ?aS ?aL ?_; (case aR => rw [HN.out]; exact Kd.C_below HR.out HB1.out); (case aB => exact HB1.out); (case aF => exact fun k hk => Nat.le_trans (below_size HB1.out) hk); (case aO => exact Kd.R_mono HO1.out (fun _ hk => hk.1)); (case aS => exact below_size HB1.out); (case aL => rw [HN.out]; exact HL.out); intro v2 w2 ho hb hg hat; have HO2 := Aside0.mk ho; have HB2 := Aside0.mk hb; clear ho hb hg hat) | fail)
    go_ret
    exact ⟨_, rfl, HO2, HB2⟩

/-- A queue: a heap. -/
def QU (w : World) (g : Nat) (deep : Bool) (base : Nat) (ok : Nat → Prop) (v : Value) (cs : List (List ByteArray)) : Prop := Qu w g deep base ok v cs ∧ Hp (lt deep) [] cs cs.length
theorem Qu.free {w : World} {g : Nat} {deep : Bool} {base : Nat} {ok : Nat → Prop} {v : Value} {cs : List (List ByteArray)} (h : Qu w g deep base ok v cs) : Qu w g deep base (fun k => k ≠ g) v cs := ⟨h.blk, Kd.R_mono h.row h.ap, fun _ hk => hk⟩
theorem Qu.mono {w : World} {g : Nat} {deep : Bool} {base : Nat} {ok ok' : Nat → Prop} {v : Value} {cs : List (List ByteArray)} (h : Qu w g deep base ok v cs) (ho : ∀ k, ok k → ok' k) (ha : ∀ k, ok' k → k ≠ g) : Qu w g deep base ok' v cs := ⟨h.blk, Kd.R_mono h.row ho, ha⟩
theorem Qu.old {w : World} {g : Nat} {deep : Bool} {base : Nat} {ok : Nat → Prop} {v : Value} {cs : List (List ByteArray)} (h : Qu w g deep base ok v cs) {k : Nat} (hk : v.ownBlock = some k) : k < w.heap.size := by
  obtain ⟨inner, ho⟩ := Kd.R_own h.row
  rcases ho.2 with ⟨hh, _⟩ | ⟨gg, cap', cur, hh, hh2, hb, hh3⟩
  · rw [hh] at hk; cases hk
  · rw [hh] at hk
    injection hk with hk
    subst hk
    exact blk_lt hb
theorem QU.below {w w' : World} {g : Nat} {deep : Bool} {base : Nat} {ok : Nat → Prop} {v : Value} {cs : List (List ByteArray)} (h : QU w g deep base ok v cs) (hb : Below w.heap.size w w') : QU w' g deep base ok v cs := ⟨h.1.below hb, h.2⟩

set_option maxHeartbeats 4000000 in
theorem qpush_m {w : World} {g : Nat} {deep : Bool} {base : Nat} {ok : Nat → Prop} {v : Value} {cs : List (List ByteArray)} (H : QU w g deep base ok v cs) (A : Option Addr) (c n : Nat) (l : List ByteArray) (hn : n = l.length) (hr : Kd.C Kd.string w A l.length l) (hc : l.length ≤ c) (hl : ∀ y ∈ cs ++ [l], y.length < 1000000000) (hsm : cs.length < 1000000000) (hbs : base ≤ w.heap.size) (hbg : base ≤ g) :
    Calls Try.prog 17 #[.pointer (some ⟨g, 0, none⟩), .slice A n c] w fun e w' => e = .returned (.tuple #[]) ∧ Aside0 (∃ v' cs', At w v v' ∧ QU w' g deep base (fun k => ok k ∨ w.heap.size ≤ k) v' cs' ∧ cs'.Perm (cs ++ [l])) ∧ Aside0 (Fr w w' g v) ∧ Aside0 (Below base w w') := by
  have hdr : w.drew.heap.size = w.heap.size := rfl
  have C1 : Aside0 (Calls Try.prog 30 #[.slice A n c] w.drew fun e w' => ∃ v, e = .returned v ∧ Aside0 (Kd.R Kd.string 9 w' w.heap.size (fun k => w.heap.size ≤ k) v l) ∧ Aside0 (Below w.heap.size w w')) := ⟨(clone_m A c n l hn w.drew (Kd.C_drew hr) hc (hl l (by simp))).mono (by
    rintro e w1 ⟨x, rfl, hx, hb⟩
    rw [hdr] at hx hb
    exact ⟨x, rfl, hx, ⟨(below_drew (Below.refl w.heap.size w)).trans hb.out⟩⟩)⟩
  have HH := Aside0.mk H
  have hol : ∀ k, v.ownBlock = some k → k < w.heap.size := fun k hk => H.1.old hk
  have hgl : g < w.heap.size := H.1.lt
  have C2 : Aside0 (∀ w1 x, Below w.heap.size w w1 → Kd.R Kd.string 9 w1 w.heap.size (fun k => w.heap.size ≤ k) x l → Calls Try.prog 29 #[.iface 53 (.pointer (some ⟨g, 0, none⟩)), .iface 22 x] w1 fun e w' => e = .returned (.tuple #[]) ∧ Aside0 (∃ v' cs', At w1 v v' ∧ Qu w' g deep base (fun k => ok k ∨ (fun k => w.heap.size ≤ k) k ∨ w1.heap.size ≤ k) v' cs' ∧ cs'.Perm (cs ++ [l]) ∧ Hp (lt deep) [] cs' cs'.length) ∧ Aside0 (Fr w1 w' g v) ∧ Aside0 (Below base w1 w')) :=
    ⟨fun w1 x hb hx => hpush_m (H.1.below hb) H.2 x l (Kd.R_lower hx hbs) (fun k hk => ⟨fun e => by have := hol k e; omega, by omega⟩) (fun y hy => by have := hl y hy; omega) hsm (Nat.le_trans hbs hb.size) hbg⟩
  have HBS := Aside0.mk hbs
  have HSZ : Aside0 (g < w.heap.size ∧ ∀ k, v.ownBlock = some k → k < w.heap.size) := ⟨hgl, hol⟩
  clear H hn hr hc hl hsm hbs hbg hol hgl hdr
  go_enter Try.func17, Try.ntmps17
  go_wp2
  go_region_held3 (fun w' => True) (first | exact trivial | go_keep) (first | (go_at_call 30; (with_reducible refine C1.out.mono ?_); rintro e w1 ⟨x, rfl, hx1, hb1⟩) | (go_at_call 29; (with_reducible refine (C2.out w1 x hb1.out hx1.out).mono ?_); rintro e w2 ⟨rfl, hq2, hf2, hb2⟩))
  go_wp2
  obtain ⟨v', cs', ha2, hq2, hp2, hh2⟩ := hq2.out
  refine bodyPost_end (v := .tuple #[]) (by simp [results, Try.results17, go_sem]) rfl ⟨rfl, ⟨v', cs', At.trans At.refl ha2 hb1.out.size, ⟨hq2.mono (fun k hk => by
    have := hb1.out.size
    rcases hk with hk | hk | hk
    · exact .inl hk
    · exact .inr hk
    · exact .inr (by omega)) (fun k hk => by
    rcases hk with hk | hk
    · exact HH.out.1.ap k hk
    · have := HSZ.out.1; omega), hh2⟩, hp2⟩, ⟨Fr.trans (Kept.of_below hb1.out _) At.refl hf2.out⟩, ⟨(hb1.out.mono HBS.out).trans hb2.out⟩⟩
end Go.Proofs.Ytmpniapbjoailaa.Hand
