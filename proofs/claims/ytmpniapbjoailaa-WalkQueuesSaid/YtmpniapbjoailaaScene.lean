/- A queue and the document's queue beside each other: what is kept when either goes on. -/
import Derived.Test.YtmpniapbjoailaaPopR
import Derived.Test.YtmpniapbjoailaaLight
namespace Go.Proofs.Ytmpniapbjoailaa.Hand
open Go.RowKit Go.Proofs.YtmpniapbjoailaaW.PrintWords Go.Proofs.YtmpniapbjoailaaW.PrintLast Go.Proofs.YtmpniapbjoailaaW.PrintMore
set_option linter.unusedVariables false
set_option linter.unusedSimpArgs false

/-- A queue at block g (its row is v), the document's queue in block g + 1: they have the same paths; the latter's are in order. -/
structure Sc (w : World) (g : Nat) (deep : Bool) (v : Value) (cs R : List (List ByteArray)) (A : Option Addr) (n c : Nat) : Prop where
  q : QU w g deep g (fun k => k ≠ g ∧ k ≠ g + 1) v cs
  r : Kd.V dP 22 w 0 (fun k => k ≠ g ∧ k ≠ g + 1 ∧ v.ownBlock ≠ some k) (.slice A n c) R
  b : w.heap[g + 1]? = some (.cells #[.bool deep, .slice A n c] 32 (0, 0))
  p : cs.Perm R
  s : Srt deep R
section
variable {w w' w1 w2 w3 w7 w8 w9 w10 w11 : World} {g n n' c c' base : Nat} {deep : Bool} {v v' : Value} {cs cs' R : List (List ByteArray)} {A A' : Option Addr} {ad : Addr} {p x : List ByteArray} {ok : Nat → Prop}
theorem Sc.len (h : Sc w g deep v cs R A n c) : n = R.length ∧ n = cs.length ∧ n ≤ c := by
  have h1 := Kd.V_at h.r
  exact ⟨h1.1, h1.1.trans h.p.length_eq.symm, h1.2.1⟩
theorem Sc.below (h : Sc w g deep v cs R A n c) (hb : Below w.heap.size w w') : Sc w' g deep v cs R A n c :=
  ⟨h.q.below hb, Kd.V_below h.r hb, blk_below h.b hb, h.p, h.s⟩
theorem Sc.glt (h : Sc w g deep v cs R A n c) : g + 1 < w.heap.size := blk_lt h.b
theorem Sc.own (h : Sc w g deep v cs R A n c) : v.ownBlock ≠ some (g + 1) := fun e => (h.q.1.row.1 _ e).2 rfl
theorem QU.far (h : QU w g deep base ok v cs) {p : Addr} (hp : g ≠ p.block) (hok : ∀ k, ok k → k ≠ p.block) (u : Value) : QU (w.setCell p u) g deep base ok v cs :=
  ⟨⟨blk_far h.1.blk hp u, Kd.R_far h.1.row hok u, h.1.ap⟩, h.2⟩
theorem Sc.start (w : World) (deep : Bool) : Sc ((w.alloc (.cells #[.slice none 0 0, fnV deep] 51)).alloc (.cells #[.bool deep, .slice none 0 0] 32)) w.heap.size deep (.slice none 0 0) [] [] none 0 0 := by
  refine ⟨⟨⟨blk_alloc (blk_new _ _) _, Kd.R_nil _ _ _ _ _, fun _ hk => hk.1⟩, hp_nil⟩, Kd.V_nil _ _ _ _ _, ?_, List.Perm.refl _, List.Pairwise.nil⟩
  have h := blk_new (w.alloc (.cells #[.slice none 0 0, fnV deep] 51)) (.cells #[.bool deep, .slice none 0 0] 32)
  rwa [alloc_size] at h
theorem Sc.cells (h : Sc w g deep v cs R A n c) : w.cell? ⟨g + 1, 0, none⟩ = some (.bool deep) ∧ w.cell? ⟨g + 1, 1, none⟩ = some (.slice A n c) ∧ w.frozen? ⟨g + 1, 0, none⟩ = false ∧ w.frozen? ⟨g + 1, 1, none⟩ = false :=
  ⟨blk_cell h.b 0, blk_cell h.b 1, blk_frozen h.b 0, blk_frozen h.b 1⟩
/-- The same is stored again. -/
theorem Sc.same (h : Sc w g deep v cs R A n c) : Sc ((w.setCell ⟨g + 1, 0, none⟩ (.bool deep)).setCell ⟨g + 1, 1, none⟩ (.slice A n c)) g deep v cs R A n c := by
  have hg : g ≠ g + 1 := by omega
  refine ⟨(h.q.far (p := ⟨g + 1, 0, none⟩) hg (fun _ hk => hk.2) _).far (p := ⟨g + 1, 1, none⟩) hg (fun _ hk => hk.2) _, Kd.V_far (p := ⟨g + 1, 1, none⟩) (Kd.V_far (p := ⟨g + 1, 0, none⟩) h.r (fun _ hk => hk.2.1) _) (fun _ hk => hk.2.1) _, ?_, h.p, h.s⟩
  exact blk_put (blk_put h.b 0 _ rfl) 1 _ rfl
/-- What the document's queue has, behind a step of the queue. -/
theorem Sc.kept (h : Sc w g deep v cs R A n c) (hf : Fr w w1 g v) : Kd.V dP 22 w1 0 (fun k => k ≠ g ∧ k ≠ g + 1 ∧ v.ownBlock ≠ some k) (.slice A n c) R ∧ w1.heap[g + 1]? = some (.cells #[.bool deep, .slice A n c] 32 (0, 0)) :=
  ⟨Kd.V_kept h.r hf (fun k hk hS => hS.elim hk.1 hk.2.2), blk_kept h.b hf (fun hS => hS.elim (fun e => by omega) h.own)⟩
/-- The first of the document's queue. -/
theorem head_V {b : Nat} (h : Kd.V dP 22 w b ok (.slice (some ad) n c) (x :: R)) : ∃ A1 c1, w.cell? ad = some (.slice A1 x.length c1) ∧ x.length ≤ c1 ∧ Kd.F Kd.string w ok A1 x.length x := by
  have hn := (Kd.V_at h).1
  rw [List.length_cons] at hn
  obtain ⟨ce, hce, hM, hcc⟩ := Kd.V_get h ([] : List ByteArray) 0 (by omega) (by omega)
  obtain ⟨A1, c1, rfl, hl, hF⟩ := Kd.FK_slice_open hM
  have := hcc 0 _ rfl
  rw [show ad.add ((0 : Int).toNat * dP.sz + 0) = ad from rfl] at this
  exact ⟨A1, c1, this, hl, hF⟩
theorem some_V {b : Nat} (h : Kd.V dP 22 w b ok (.slice A n c) (x :: R)) : ∃ ad, A = some ad := by
  obtain ⟨hn, _, hC⟩ := Kd.V_reads' h
  obtain ⟨ad, _, e, _⟩ := Kd.C_get hC ([] : List ByteArray) 0 (by omega) (by rw [List.length_cons]; omega)
  exact ⟨ad, e⟩
/-- Both have told their first. -/
theorem Sc.next {n2 c2 : Nat} (h : Sc w g deep v cs (x :: R) (some ad) n c) (hn : n = n2 + 1) (hc : c = c2 + 1) (hq : QU w1 g deep g (fun k => k ≠ g ∧ k ≠ g + 1) v' cs') (ho : v'.ownBlock = v.ownBlock) (hp : (p :: cs').Perm cs) (hm : ∀ y ∈ cs', lt deep y p = false) (hf : Fr w w1 g v) (hb : Below w1.heap.size w1 w2) (hA : (if c = 1 then some ad else some (ad.add 1)) = A') :
    p = x ∧ Sc ((w2.setCell ⟨g + 1, 0, none⟩ (.bool deep)).setCell ⟨g + 1, 1, none⟩ (.slice A' n2 c2)) g deep v' cs' R A' n2 c2 := by
  obtain ⟨h1, h2⟩ := h.kept hf
  obtain ⟨e1, e2⟩ := pop_first hp h.p hm h.s
  have hg : g ≠ g + 1 := by omega
  obtain ⟨k1, k2, k3⟩ := Kd.V_at (Kd.V_below h1 hb)
  have k4 := Kd.F_cut k3 (m := 1) (by simp) (k1 ▸ k2)
  rw [List.drop_one, List.tail_cons] at k4
  have e3 : (if c = 1 then some ad else (some ad).map (·.add (1 * dP.sz))) = A' := hA
  rw [e3] at k4
  rw [List.length_cons] at k1
  have k5 : n2 = R.length := by omega
  have k6 : Kd.V dP 22 w2 0 (fun k => k ≠ g ∧ k ≠ g + 1 ∧ v.ownBlock ≠ some k) (.slice A' n2 c2) R := by
    rw [k5]
    exact Kd.V_mk (by omega) k4
  refine ⟨e1, ⟨((hq.below hb).far (p := ⟨g + 1, 0, none⟩) hg (fun _ hk => hk.2) _).far (p := ⟨g + 1, 1, none⟩) hg (fun _ hk => hk.2) _, ?_, ?_, e2, (List.pairwise_cons.1 h.s).2⟩⟩
  · rw [ho]
    exact Kd.V_far (p := ⟨g + 1, 1, none⟩) (Kd.V_far (p := ⟨g + 1, 0, none⟩) k6 (fun _ hk => hk.2.1) _) (fun _ hk => hk.2.1) _
  · exact blk_put (blk_put (blk_below h2 hb) 0 _ rfl) 1 _ rfl
/-- A queue in memory that is elder than what is made now. -/
theorem Sc.tight (h : Sc w g deep v cs R A n c) (hb : Below w.heap.size w w7) : QU w7 g deep g (fun k => (k ≠ g ∧ k ≠ g + 1) ∧ k < w.heap.size) v cs :=
  QU.below ⟨⟨h.q.1.blk, Kd.R_mono (Kd.R_bound h.q.1.row) (fun k hk => ⟨hk.1, hk.2.2.1⟩), fun k hk => hk.1.1⟩, h.q.2⟩ hb
theorem Sc.tightV (h : Sc w g deep v cs R A n c) (hb : Below w.heap.size w w7) (hf : Fr w7 w8 g v) : Kd.V dP 22 w8 0 (fun k => (k ≠ g ∧ k ≠ g + 1 ∧ v.ownBlock ≠ some k) ∧ k < w.heap.size) (.slice A n c) R ∧ w8.heap[g + 1]? = some (.cells #[.bool deep, .slice A n c] 32 (0, 0)) :=
  ⟨Kd.V_kept (Kd.V_below (Kd.V_bound h.r) hb) hf (fun k hk hS => hS.elim hk.1.1 hk.1.2.2), blk_kept (blk_below h.b hb) hf (fun hS => hS.elim (fun e => by omega) h.own)⟩
theorem Wr.out {b N k : Nat} (h : Wr b N w w1) (hk : k < b ∨ N ≤ k) : w1.heap[k]? = w.heap[k]? := by
  rcases h.blk k with e | ⟨h1, h2, _⟩
  · exact e
  · omega
/-- Both have taken a path; the row that it came in has been written since. -/
theorem Sc.push (h : Sc w g deep v cs R A n c) (hb1 : Below w.heap.size w w7) (hat : At w7 v v') (hq : QU w8 g deep g (fun k => ((k ≠ g ∧ k ≠ g + 1) ∧ k < w.heap.size) ∨ w7.heap.size ≤ k) v' cs') (hp : cs'.Perm (cs ++ [x])) (hf : Fr w7 w8 g v)
    (hN : Kd.N dP 22 w9 w8.heap.size (fun k => ((k ≠ g ∧ k ≠ g + 1 ∧ v.ownBlock ≠ some k) ∧ k < w.heap.size) ∨ w8.heap.size ≤ k) (.slice A' n' c') (ins deep R x)) (hb3 : Below w8.heap.size w8 w9)
    (hw : Wr w.heap.size w7.heap.size ((w9.setCell ⟨g + 1, 0, none⟩ (.bool deep)).setCell ⟨g + 1, 1, none⟩ (.slice A' n' c')) w11) : Sc w11 g deep v' cs' (ins deep R x) A' n' c' := by
  have hg : g ≠ g + 1 := by omega
  have hlt := h.glt
  have hs1 := hb1.size
  have hs2 : w7.heap.size ≤ w8.heap.size := hf.size
  have hok : ∀ k, ((k ≠ g ∧ k ≠ g + 1) ∧ k < w.heap.size) ∨ w7.heap.size ≤ k → k ≠ g ∧ k ≠ g + 1 := fun k hk => by
    rcases hk with hk | hk
    · exact hk.1
    · constructor <;> omega
  have q1 := ((hq.below hb3).far (p := ⟨g + 1, 0, none⟩) hg (fun _ hk => (hok _ hk).2) (.bool deep)).far (p := ⟨g + 1, 1, none⟩) hg (fun _ hk => (hok _ hk).2) (.slice A' n' c')
  have hokV : ∀ k, ((k ≠ g ∧ k ≠ g + 1 ∧ v.ownBlock ≠ some k) ∧ k < w.heap.size) ∨ w8.heap.size ≤ k → k ≠ g + 1 := fun k hk => by
    rcases hk with hk | hk
    · exact hk.1.2.1
    · omega
  have r1 : Kd.V dP 22 _ 0 _ (.slice A' n' c') (ins deep R x) := Kd.V_far (p := ⟨g + 1, 1, none⟩) (Kd.V_far (p := ⟨g + 1, 0, none⟩) (Kd.N_V hN) hokV (.bool deep)) hokV (.slice A' n' c')
  have b1 := blk_put (blk_put (blk_below (h.tightV hb1 hf).2 hb3) 0 (.bool deep) rfl) 1 (.slice A' n' c') rfl
  refine ⟨⟨⟨hw.other q1.1.blk (by decide), ?_, fun k hk => hk.1⟩, q1.2⟩, ?_, hw.other b1 (by decide), ?_, ins_sorted deep x R h.s⟩
  · exact Kd.R_mono (Kd.R_step q1.1.row (fun k hk _ => hw.out (by rcases hk with hk | hk; exact .inl hk.2; exact .inr hk))) hok
  · refine Kd.V_mono (Kd.V_step r1 (fun k hk _ => hw.out (by rcases hk with hk | hk; exact .inl hk.2; exact .inr (by omega)))) (fun k hk => ?_)
    rcases hk with hk | hk
    · refine ⟨hk.1.1, hk.1.2.1, ?_⟩
      rcases hat with e | ⟨b, e, hb⟩
      · rw [e]; exact hk.1.2.2
      · rw [e]
        intro e2
        injection e2 with e2
        omega
    · refine ⟨by omega, by omega, fun e => ?_⟩
      have := hq.1.old e
      omega
  · exact hp.trans ((List.perm_append_singleton x cs).trans ((h.p.cons x).trans (ins_perm deep x R).symm))
end
/-- A row of strings of the call's own, where it is not empty. -/
theorem own_row {w : World} {A : Option Addr} {n c base : Nat} {ok : Nat → Prop} {l : List ByteArray} (h : Kd.R Kd.string 9 w base ok (.slice A n c) l) (hp : 0 < n) : ∃ gi cells, A = some ⟨gi, 0, none⟩ ∧ base ≤ gi ∧ ok gi ∧ w.heap[gi]? = some (.cells cells 9 (0, 0)) ∧ n ≤ cells.size := by
  have hn := (Kd.R_reads' h).1
  obtain ⟨inner, ho⟩ := Kd.R_own h
  rcases ho.2 with ⟨hh, _⟩ | ⟨gg, cap', cur, hh, hbg, hb, hnc, _, hcs, _⟩
  · injection hh with _ hh
    omega
  · injection hh with h5 h6 h7
    subst h5
    subst h7
    refine ⟨gg, cur, rfl, hbg, h.1 gg rfl, hb, ?_⟩
    have : (Kd.string).sz = 1 := rfl
    rw [hcs, this]
    omega
end Go.Proofs.Ytmpniapbjoailaa.Hand
