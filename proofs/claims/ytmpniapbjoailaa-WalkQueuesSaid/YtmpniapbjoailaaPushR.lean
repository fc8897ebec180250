/- gessoref15.Queue.Push and gessoref11.Same, as law WalkQueues meets them. -/
import Derived.Test.YtmpniapbjoailaaScene
namespace Go.Proofs.Ytmpniapbjoailaa.Hand
open Go.RowKit Go.Proofs.YtmpniapbjoailaaW.PrintWords Go.Proofs.YtmpniapbjoailaaW.PrintLast Go.Proofs.YtmpniapbjoailaaW.PrintMore
set_option linter.unusedVariables false
set_option linter.unusedSimpArgs false
theorem rpush_m (deep : Bool) (P : Nat → Prop) (AR : Option Addr) (nR cR : Nat) (R : List (List ByteArray)) (x : List ByteArray) (A1 : Option Addr) (m1 c1 : Nat) (w : World) (hV : Kd.V dP 22 w 0 P (.slice AR nR cR) R) (hC : Kd.C Kd.string w A1 m1 x) (hm : x.length = m1) (hc : m1 ≤ c1) (hR : R.length ≤ 1000) (hM : ∀ y ∈ R, y.length ≤ 1000) (hx : m1 ≤ 1000) (n1 : Nat) (hn1 : n1 = nR + 1) :
    Calls Try.prog 18 #[.agg #[.bool deep, .slice AR nR cR], .slice A1 m1 c1] w fun e w' => ∃ A' c', e = .returned (.agg #[.bool deep, .slice A' n1 c']) ∧ Aside0 (Kd.N dP 22 w' w.heap.size (fun k => P k ∨ w.heap.size ≤ k) (.slice A' n1 c') (ins deep R x)) ∧ Aside0 (Below w.heap.size w w') := by
  subst hn1
  have hn := (Kd.V_at hV).1
  subst hn
  subst hm
  refine (QA.gessoref15_Queue_Push.calls (R.length + 2 * 1000 + 4) deep P AR cR R A1 c1 x deep (ins deep R x) w hV hC hc (push_f _ deep R x 1000 (by omega) (by omega) hM (by omega) (Nat.le_refl _))).mono ?_
  rintro e w' ⟨v, rfl, hN, hb⟩
  obtain ⟨A', c', rfl⟩ := Kd.N_slice hN
  rw [ins_length] at hN ⊢
  exact ⟨A', c', rfl, ⟨hN⟩, ⟨hb⟩⟩
theorem same_p (x : List ByteArray) (hx : x.length ≤ 1000) (n : Nat) (hn : n = x.length) (W : World) (A1 A2 : Option Addr) (c1 c2 : Nat) (h1 : Kd.C Kd.string W A1 n x) (h2 : n ≤ c1) (h3 : Kd.C Kd.string W A2 n x) (h4 : n ≤ c2) :
    Calls Try.prog 21 #[.slice A1 n c1, .slice A2 n c2] W fun e w' => e = .returned (.bool true) ∧ Below W.heap.size W w' := by
  subst hn
  refine (QA.gessoref11_Same.calls (x.length + 1) A1 c1 x A2 c2 x true W h1 h2 h3 h4 ?_).mono (fun e w' h => ⟨h.1, h.2.below⟩)
  rw [same11_f _ x x (by omega) (Nat.le_refl _)]
  simp
theorem same_nil (W : World) : Calls Try.prog 21 #[.slice none 0 0, .slice none 0 0] W fun e w' => e = .returned (.bool true) ∧ Below W.heap.size W w' :=
  same_p [] (by simp) 0 rfl W none none 0 0 (Kd.C_nil _ _) (Nat.le_refl _) (Kd.C_nil _ _) (Nat.le_refl _)
/-- The queue tells its first. -/
theorem Sc.qpop {w : World} {g n c : Nat} {deep : Bool} {v : Value} {cs R : List (List ByteArray)} {A : Option Addr} {x : List ByteArray} (h : Sc w g deep v cs (x :: R) A n c) (hM : ∀ y ∈ x :: R, y.length ≤ 1000) (hn : n ≤ 1000) (m : Nat) (hm : x.length = m) :
    Calls Try.prog 19 #[.pointer (some ⟨g, 0, none⟩)] w fun e w' => ∃ Ap cp, e = .returned (.tuple #[.slice Ap m cp, .bool true]) ∧ Aside0 (∃ v' cs' okp, QU w' g deep g (fun k => k ≠ g ∧ k ≠ g + 1) v' cs' ∧ v'.ownBlock = v.ownBlock ∧ (x :: cs').Perm cs ∧ (∀ y ∈ cs', lt deep y x = false) ∧ (∀ k, okp k → k ≠ g + 1) ∧ Kd.R Kd.string 9 w' g okp (.slice Ap m cp) x) ∧ Aside0 (Fr w w' g v) ∧ Aside0 (Below g w w') := by
  subst hm
  have h1 := h.len
  have h2 := h.glt
  refine (qpop_m h.q (by rw [List.length_cons] at h1; omega) (fun y hy => by have := hM y (h.p.mem_iff.1 hy); omega) (by omega) (by omega) (Nat.le_refl _)).mono ?_
  rintro e w' ⟨Ap, cp, p, rfl, ⟨okp, v', cs', p1, p2, p3, p4, p5, p6⟩, hf, hb⟩
  obtain ⟨e1, e2⟩ := pop_first p5 h.p p6 h.s
  subst e1
  exact ⟨Ap, cp, rfl, ⟨v', cs', okp, p4, p3, p5, p6, fun k hk => (p1 k hk).1.2, p2⟩, hf, hb⟩
/-- The document's queue tells its first. -/
theorem rpop_v {w : World} {b n c : Nat} {ok : Nat → Prop} {R : List (List ByteArray)} {ad : Addr} {x : List ByteArray} (d : Bool) (h : Kd.V dP 22 w b ok (.slice (some ad) n c) (x :: R)) (A' : Option Addr) (hA : (if c = 1 then some ad else some (ad.add 1)) = A') (n2 c2 : Nat) (hn2 : n = n2 + 1) (hc2 : c = c2 + 1) (m : Nat) (hm : x.length = m) :
    Calls Try.prog 20 #[.agg #[.bool d, .slice (some ad) n c]] w fun e w' => ∃ A1 c1, e = .returned (.tuple #[.agg #[.bool d, .slice A' n2 c2], .slice A1 m c1, .bool true]) ∧ Aside0 (m ≤ c1 ∧ Kd.F Kd.string w ok A1 m x) ∧ Aside0 (Below w.heap.size w w') := by
  subst hm
  have hl := Kd.V_at h
  obtain ⟨A1, c1, hx, hl1, hF⟩ := head_V h
  refine (rpop_some d ad n c (by omega) hl.2.1 A' hA A1 _ c1 w hx).mono ?_
  rintro e w' ⟨rfl, hb⟩
  rw [show n - 1 = n2 by omega, show c - 1 = c2 by omega]
  exact ⟨A1, c1, rfl, ⟨hl1, hF⟩, ⟨hb⟩⟩
/-- What both have told reads so still. -/
theorem told {w1 w2 : World} {g m cp c1 : Nat} {okp ok : Nat → Prop} {Ap A1 : Option Addr} {x : List ByteArray} {a b : Value} (hm : x.length = m) (hR : Kd.R Kd.string 9 w1 g okp (.slice Ap m cp) x) (hok : ∀ k, okp k → k ≠ g + 1) (hF : Kd.F Kd.string w1 ok A1 m x) (hok2 : ∀ k, ok k → k ≠ g + 1) (hb : Below w1.heap.size w1 w2) :
    Kd.C Kd.string ((w2.setCell ⟨g + 1, 0, none⟩ a).setCell ⟨g + 1, 1, none⟩ b) Ap m x ∧ m ≤ cp ∧ Kd.C Kd.string ((w2.setCell ⟨g + 1, 0, none⟩ a).setCell ⟨g + 1, 1, none⟩ b) A1 m x := by
  have h1 := Kd.R_reads' (Kd.R_far (p := ⟨g + 1, 1, none⟩) (Kd.R_far (p := ⟨g + 1, 0, none⟩) (Kd.R_below hR hb) hok a) hok b)
  have h2 := Kd.F_now (Kd.F_far (p := ⟨g + 1, 1, none⟩) (Kd.F_far (p := ⟨g + 1, 0, none⟩) (Kd.F_below hF hb) hok2 a) hok2 b)
  rw [hm] at h1
  exact ⟨h1.2.2, h1.2.1, h2⟩
/-- Where the document's queue lies, later. -/
theorem spots {w W : World} {g n c : Nat} {deep : Bool} {A : Option Addr} (h : w.heap[g + 1]? = some (.cells #[.bool deep, .slice A n c] 32 (0, 0))) (hb : Below w.heap.size w W) : W.cell? ⟨g + 1, 0, none⟩ = some (.bool deep) ∧ W.cell? ⟨g + 1, 1, none⟩ = some (.slice A n c) ∧ W.frozen? ⟨g + 1, 0, none⟩ = false ∧ W.frozen? ⟨g + 1, 1, none⟩ = false := by
  have h2 := blk_below h hb
  exact ⟨blk_cell h2 0, blk_cell h2 1, blk_frozen h2 0, blk_frozen h2 1⟩
/-- Both have told their first: the same. -/
theorem Sc.both {wx wp W : World} {g n c n2 c2 m cp c1 : Nat} {deep : Bool} {v : Value} {cs R : List (List ByteArray)} {Ap A1 A9 : Option Addr} {ad : Addr} {x : List ByteArray} (h : Sc wx g deep v cs (x :: R) (some ad) n c) (hx : x.length ≤ 1000) (hm : x.length = m) (hn : n = n2 + 1) (hc : c = c2 + 1) (hA : (if c = 1 then some ad else some (ad.add 1)) = A9)
    (hq : ∃ v' cs' okp, QU wp g deep g (fun k => k ≠ g ∧ k ≠ g + 1) v' cs' ∧ v'.ownBlock = v.ownBlock ∧ (x :: cs').Perm cs ∧ (∀ y ∈ cs', lt deep y x = false) ∧ (∀ k, okp k → k ≠ g + 1) ∧ Kd.R Kd.string 9 wp g okp (.slice Ap m cp) x) (hf : Fr wx wp g v) (hb : Below g wx wp) (hF : m ≤ c1 ∧ Kd.F Kd.string wp (fun k => k ≠ g ∧ k ≠ g + 1 ∧ v.ownBlock ≠ some k) A1 m x) (hb2 : Below wp.heap.size wp W) :
    Calls Try.prog 21 #[.slice Ap m cp, .slice A1 m c1] ((W.setCell ⟨g + 1, 0, none⟩ (.bool deep)).setCell ⟨g + 1, 1, none⟩ (.slice A9 n2 c2)) fun e w' => e = .returned (.bool true) ∧ Aside0 (∃ v' cs', Sc w' g deep v' cs' R A9 n2 c2) ∧ Aside0 (Below g wx w') := by
  obtain ⟨v', cs', okp, q1, q2, q3, q4, q5, q6⟩ := hq
  have hs := (h.next hn hc q1 q2 q3 q4 hf hb2 hA).2
  have ht := told (a := .bool deep) (b := .slice A9 n2 c2) (c1 := c1) hm q6 q5 hF.2 (fun k hk => hk.2.1) hb2
  have h1 := h.glt
  have h2 := hb.size
  have h3 := hb2.size
  have hB := ((hb.trans (hb2.mono (by omega))).setCell (p := ⟨g + 1, 0, none⟩) (Nat.le_succ g) (.bool deep)).setCell (p := ⟨g + 1, 1, none⟩) (Nat.le_succ g) (.slice A9 n2 c2)
  refine (same_p x hx m hm.symm _ Ap A1 cp c1 ht.1 ht.2.1 ht.2.2 hF.1).mono (fun e w' h' => ⟨h'.1, ⟨v', cs', hs.below h'.2⟩, ⟨hB.trans (h'.2.mono ?_)⟩⟩)
  have := hB.size
  omega
/-- Both are empty, and say so. -/
theorem Sc.nils {wx W : World} {g c : Nat} {deep : Bool} {v : Value} {cs : List (List ByteArray)} {A : Option Addr} (h : Sc wx g deep v cs [] A 0 c) (hb2 : Below wx.heap.size wx W) :
    Calls Try.prog 21 #[.slice none 0 0, .slice none 0 0] ((W.setCell ⟨g + 1, 0, none⟩ (.bool deep)).setCell ⟨g + 1, 1, none⟩ (.slice A 0 c)) fun e w' => e = .returned (.bool true) ∧ Aside0 (Sc w' g deep v cs [] A 0 c) ∧ Aside0 (Below g wx w') := by
  have hl := h.glt
  have hB := ((hb2.mono (show g ≤ _ by omega)).setCell (p := ⟨g + 1, 0, none⟩) (Nat.le_succ g) (.bool deep)).setCell (p := ⟨g + 1, 1, none⟩) (Nat.le_succ g) (.slice A 0 c)
  refine (same_nil _).mono (fun e w' h' => ⟨h'.1, ⟨(h.below hb2).same.below h'.2⟩, ⟨hB.trans (h'.2.mono ?_)⟩⟩)
  have := hB.size
  omega
end Go.Proofs.Ytmpniapbjoailaa.Hand
