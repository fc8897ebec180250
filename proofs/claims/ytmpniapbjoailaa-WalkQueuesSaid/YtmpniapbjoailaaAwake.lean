/- gessolaw15.awake comes out true. -/
import Derived.Test.YtmpniapbjoailaaShelf
namespace Go.Proofs.Ytmpniapbjoailaa.Hand
open Go.RowKit Go.Proofs.YtmpniapbjoailaaW.PrintWords Go.Proofs.YtmpniapbjoailaaW.PrintLast Go.Proofs.YtmpniapbjoailaaW.PrintMore
set_option linter.unusedVariables false
set_option linter.unusedSimpArgs false

def pa : List ByteArray := [⟨#[97]⟩]
def pb : List ByteArray := [⟨#[98]⟩]
def pab : List ByteArray := [⟨#[97]⟩, ⟨#[98]⟩]
theorem perm_sorted {deep : Bool} : ∀ {a b : List (List ByteArray)}, a.Perm b → a.Pairwise (fun x y => lt deep y x = false) → b.Pairwise (fun x y => lt deep y x = false) → a = b
  | [], b, h, _, _ => (List.Perm.nil_eq h)
  | x :: a, [], h, _, _ => by have := h.length_eq; simp at this
  | x :: a, y :: b, h, h1, h2 => by
    have e : x = y := by
      have hx : x ∈ y :: b := h.mem_iff.1 (List.mem_cons_self ..)
      have hy : y ∈ x :: a := h.mem_iff.2 (List.mem_cons_self ..)
      rcases List.mem_cons.1 hx with hx | hx
      · exact hx
      · rcases List.mem_cons.1 hy with hy | hy
        · exact hy.symm
        · have e1 := (List.pairwise_cons.1 h1).1 y hy
          have e2 := (List.pairwise_cons.1 h2).1 x hx
          exact (lt_sto deep).tri _ _ e2 e1
    subst e
    rw [perm_sorted (List.Perm.cons_inv h) (List.pairwise_cons.1 h1).2 (List.pairwise_cons.1 h2).2]
theorem sorted_eq {deep : Bool} {ps out l : List (List ByteArray)} (h : SortedOf deep ps out) (hp : l.Perm ps) (hl : l.Pairwise (fun x y => lt deep y x = false)) : out = l := perm_sorted (h.1.trans hp.symm) h.2 hl
theorem sorted0 : ([pa, pab, pb] : List (List ByteArray)).Pairwise (fun x y => lt false y x = false) := by
  refine List.pairwise_cons.2 ⟨?_, List.pairwise_cons.2 ⟨?_, List.pairwise_singleton _ _⟩⟩ <;> simp [lt, pl, lexL, nl, pa, pb, pab, ByteArray.toList_eq, Op.bytesLess]
theorem sorted1 : ([pab, pa, pb] : List (List ByteArray)).Pairwise (fun x y => lt true y x = false) := by
  refine List.pairwise_cons.2 ⟨?_, List.pairwise_cons.2 ⟨?_, List.pairwise_singleton _ _⟩⟩ <;> simp [lt, pl, lexL, nl, pa, pb, pab, ByteArray.toList_eq, Op.bytesLess]
theorem perm0 : ([pa, pab, pb] : List (List ByteArray)).Perm [pb, pa, pab] := by
  exact (List.perm_append_comm (l₁ := [pa, pab]) (l₂ := [pb]))
theorem perm1 : ([pab, pa, pb] : List (List ByteArray)).Perm [pb, pa, pab] :=
  (List.Perm.swap pa pab [pb]).trans perm0
theorem same0 : QA.gessoref15_Same.f 10 [pa, pab, pb] [pa, pab, pb] = some true := by kernel_rfl
theorem same1 : QA.gessoref15_Same.f 10 [pab, pa, pb] [pab, pa, pb] = some true := by kernel_rfl
theorem text0 : textOf pab = ⟨#[47, 97, 47, 98]⟩ := by kernel_rfl

theorem add_at (g k : Nat) : (⟨g, 0, none⟩ : Addr).add k = ⟨g, k, none⟩ := add_plain ..
theorem C_str {w : World} {g : Nat} {l : List ByteArray} (h : w.heap[g]? = some (.cells (l.map Value.string).toArray 9 (0, 0))) (hl : l.length ≤ 9223372036854775807) : Kd.C Kd.string w (some ⟨g, 0, none⟩) l.length l := by
  refine ⟨rfl, hl, fun _ => ⟨_, rfl, fun j p hj => ⟨[.string p], rfl, rfl, fun i u hu => ?_⟩⟩⟩
  cases i with
  | succ i => simp at hu
  | zero =>
    simp at hu
    subst hu
    rw [show j * Kd.string.sz + 0 = j from by show j * 1 + 0 = j; omega, add_at, blk_cell h j]
    simp [hj]
def litw (w : World) (l1 l2 l3 : List ByteArray) : World := (((w.alloc (.cells (l1.map Value.string).toArray 9)).alloc (.cells (l2.map Value.string).toArray 9)).alloc (.cells (l3.map Value.string).toArray 9)).alloc (.cells #[.slice (some ⟨w.heap.size, 0, none⟩) l1.length l1.length, .slice (some ⟨w.heap.size + 1, 0, none⟩) l2.length l2.length, .slice (some ⟨w.heap.size + 1 + 1, 0, none⟩) l3.length l3.length] 22)
theorem alloc_size (w : World) (o : Obj) : (w.alloc o).heap.size = w.heap.size + 1 := World.size_alloc ..
theorem lit_C (w : World) (l1 l2 l3 : List ByteArray) (h1 : l1.length ≤ 9223372036854775807) (h2 : l2.length ≤ 9223372036854775807) (h3 : l3.length ≤ 9223372036854775807) : Kd.C dP (litw w l1 l2 l3) (some ⟨w.heap.size + 1 + 1 + 1, 0, none⟩) 3 [l1, l2, l3] := by
  have b1 : (litw w l1 l2 l3).heap[w.heap.size]? = some (.cells (l1.map Value.string).toArray 9 (0, 0)) := blk_alloc (blk_alloc (blk_alloc (blk_new _ _) _) _) _
  have b2 : (litw w l1 l2 l3).heap[w.heap.size + 1]? = some (.cells (l2.map Value.string).toArray 9 (0, 0)) := by
    have := blk_new (w.alloc (.cells (l1.map Value.string).toArray 9)) (.cells (l2.map Value.string).toArray 9)
    rw [alloc_size] at this
    exact blk_alloc (blk_alloc this _) _
  have b3 : (litw w l1 l2 l3).heap[w.heap.size + 1 + 1]? = some (.cells (l3.map Value.string).toArray 9 (0, 0)) := by
    have := blk_new ((w.alloc (.cells (l1.map Value.string).toArray 9)).alloc (.cells (l2.map Value.string).toArray 9)) (.cells (l3.map Value.string).toArray 9)
    rw [alloc_size, alloc_size] at this
    exact blk_alloc this _
  have b4 : (litw w l1 l2 l3).heap[w.heap.size + 1 + 1 + 1]? = some (.cells #[.slice (some ⟨w.heap.size, 0, none⟩) l1.length l1.length, .slice (some ⟨w.heap.size + 1, 0, none⟩) l2.length l2.length, .slice (some ⟨w.heap.size + 1 + 1, 0, none⟩) l3.length l3.length] 22 (0, 0)) := by
    have := blk_new (((w.alloc (.cells (l1.map Value.string).toArray 9)).alloc (.cells (l2.map Value.string).toArray 9)).alloc (.cells (l3.map Value.string).toArray 9)) (.cells #[.slice (some ⟨w.heap.size, 0, none⟩) l1.length l1.length, .slice (some ⟨w.heap.size + 1, 0, none⟩) l2.length l2.length, .slice (some ⟨w.heap.size + 1 + 1, 0, none⟩) l3.length l3.length] 22)
    rw [alloc_size, alloc_size, alloc_size] at this
    exact this
  have step : ∀ (j g : Nat) (l : List ByteArray), (litw w l1 l2 l3).heap[g]? = some (.cells (l.map Value.string).toArray 9 (0, 0)) → l.length ≤ 9223372036854775807 → (#[Value.slice (some ⟨w.heap.size, 0, none⟩) l1.length l1.length, .slice (some ⟨w.heap.size + 1, 0, none⟩) l2.length l2.length, .slice (some ⟨w.heap.size + 1 + 1, 0, none⟩) l3.length l3.length])[j]? = some (.slice (some ⟨g, 0, none⟩) l.length l.length) →
      ∃ c, c.length = dP.sz ∧ dP.K (litw w l1 l2 l3) l c ∧ ∀ i u, c[i]? = some u → (litw w l1 l2 l3).cell? ((⟨w.heap.size + 1 + 1 + 1, 0, none⟩ : Addr).add (j * dP.sz + i)) = some u := by
    intro j g l hb hl hj
    refine ⟨[.slice (some ⟨g, 0, none⟩) l.length l.length], rfl, ⟨_, _, rfl, Nat.le_refl _, C_str hb hl⟩, fun i u hu => ?_⟩
    cases i with
    | succ i => simp at hu
    | zero =>
      simp at hu
      subst hu
      rw [show j * dP.sz + 0 = j from by show j * 1 + 0 = j; omega, add_at, blk_cell b4 j, hj]
  refine ⟨rfl, by omega, fun _ => ⟨_, rfl, fun j p hj => ?_⟩⟩
  match j, hj with
  | 0, hj => simp at hj; subst hj; exact step 0 _ _ b1 h1 rfl
  | 1, hj => simp at hj; subst hj; exact step 1 _ _ b2 h2 rfl
  | 2, hj => simp at hj; subst hj; exact step 2 _ _ b3 h3 rfl
  | n + 3, hj => simp at hj
theorem lit_below (w : World) (l1 l2 l3 : List ByteArray) : Below w.heap.size w (litw w l1 l2 l3) := below_alloc (below_alloc (below_alloc (below_alloc (Below.refl _ _) _) _) _) _
theorem sorted_k (deep : Bool) (l : List (List ByteArray)) (h3 : l.length = 3) (hp : l.Perm [pb, pa, pab]) (hl : l.Pairwise (fun x y => lt deep y x = false)) (A : Option Addr) (w : World) (hC : Kd.C dP w A 3 [pb, pa, pab]) :
    Calls Try.prog 23 #[.slice A 3 3, .bool deep] w fun e w' => ∃ A' c', e = .returned (.slice A' 3 c') ∧ Aside0 (Kd.C dP w' A' 3 l ∧ 3 ≤ c') ∧ Aside0 (Below w.heap.size w w') := by
  refine (sorted_m A 3 3 [pb, pa, pab] rfl deep w hC (by intro y hy; simp at hy; rcases hy with rfl | rfl | rfl <;> decide) (by decide)).mono ?_
  rintro e w' ⟨A', c', out, rfl, hs, hr, hb⟩
  have := sorted_eq hs.out hp hl
  subst this
  have h := Kd.R_reads' hr.out
  rw [h3] at h ⊢
  exact ⟨A', c', rfl, ⟨h.2.2, h.2.1⟩, hb⟩
theorem same_k (l1 l2 l3 : List ByteArray) (h1 : l1.length ≤ 9223372036854775807) (h2 : l2.length ≤ 9223372036854775807) (h3 : l3.length ≤ 9223372036854775807) (hs : QA.gessoref15_Same.f 10 [l1, l2, l3] [l1, l2, l3] = some true) (w2 : World) (A : Option Addr) (c : Nat) (hC : Kd.C dP w2 A 3 [l1, l2, l3]) (hc : 3 ≤ c) :
    Calls Try.prog 25 #[.slice A 3 c, .slice (some ⟨w2.heap.size + 1 + 1 + 1, 0, none⟩) 3 3] (litw w2 l1 l2 l3) fun e w' => e = .returned (.bool true) ∧ Aside0 (Below w2.heap.size w2 w') :=
  (QA.gessoref15_Same.calls 10 A c [l1, l2, l3] _ 3 [l1, l2, l3] true (litw w2 l1 l2 l3) (Kd.C_below hC (lit_below w2 l1 l2 l3)) hc (lit_C w2 l1 l2 l3 h1 h2 h3) (Nat.le_refl _) hs).mono (by
    rintro e w' ⟨rfl, hb⟩
    exact ⟨rfl, ⟨(lit_below w2 l1 l2 l3).trans (hb.below.mono (by simp [litw]; omega))⟩⟩)
theorem join0 : joinOf pab = [97, 47, 98] := by kernel_rfl
theorem text_k (w : World) : Calls Try.prog 13 #[.slice (some ⟨w.heap.size, 0, none⟩) 2 2] (w.alloc (.cells #[.string ⟨#[97]⟩, .string ⟨#[98]⟩] 9)) fun e w' => e = .returned (.string ⟨#[47, 97, 47, 98]⟩) ∧ Aside0 (Below w.heap.size w w') := by
  have hC : Kd.C Kd.string (w.alloc (.cells #[.string ⟨#[97]⟩, .string ⟨#[98]⟩] 9)) (some ⟨w.heap.size, 0, none⟩) pab.length pab := C_str (blk_new _ _) (by decide)
  refine (text_m (some ⟨w.heap.size, 0, none⟩) (fun ad h => by injection h with h; subst h; exact ⟨_, _, rfl⟩) 2 2 pab rfl _ hC (by decide) (by decide) (by rw [join0]; decide)).mono ?_
  rintro e w' ⟨rfl, hb⟩
  rw [text0]
  exact ⟨rfl, ⟨(below_alloc (Below.refl _ _) _).trans (hb.mono (by simp))⟩⟩
set_option maxHeartbeats 2000000 in
theorem awake_m (w : World) : Calls Try.prog 8 #[] w fun e w' => e = .returned (.bool true) ∧ Below w.heap.size w w' := by
  have C0 : Kd.C dP (litw w pb pa pab) (some ⟨w.heap.size + 1 + 1 + 1, 0, none⟩) 3 [pb, pa, pab] := lit_C w pb pa pab (by decide) (by decide) (by decide)
  have C1 : Aside0 (Calls Try.prog 23 #[.slice (some ⟨w.heap.size + 1 + 1 + 1, 0, none⟩) 3 3, .bool false] ((((w.alloc (.cells #[.string ⟨#[98]⟩] 9)).alloc (.cells #[.string ⟨#[97]⟩] 9)).alloc (.cells #[.string ⟨#[97]⟩, .string ⟨#[98]⟩] 9)).alloc (.cells #[.slice (some ⟨w.heap.size, 0, none⟩) 1 1, .slice (some ⟨w.heap.size + 1, 0, none⟩) 1 1, .slice (some ⟨w.heap.size + 1 + 1, 0, none⟩) 2 2] 22)) fun e w' => ∃ A' c', e = .returned (.slice A' 3 c') ∧ Aside0 (Kd.C dP w' A' 3 [pa, pab, pb] ∧ 3 ≤ c') ∧ Aside0 (Below (litw w pb pa pab).heap.size (litw w pb pa pab) w')) := ⟨sorted_k false _ rfl perm0 sorted0 _ _ C0⟩
  have C3 : Aside0 (∀ w2, Below (litw w pb pa pab).heap.size (litw w pb pa pab) w2 → Calls Try.prog 23 #[.slice (some ⟨w.heap.size + 1 + 1 + 1, 0, none⟩) 3 3, .bool true] w2 fun e w' => ∃ A' c', e = .returned (.slice A' 3 c') ∧ Aside0 (Kd.C dP w' A' 3 [pab, pa, pb] ∧ 3 ≤ c') ∧ Aside0 (Below w2.heap.size w2 w')) := ⟨fun w2 hb => sorted_k true _ rfl perm1 sorted1 _ _ (Kd.C_below C0 hb)⟩
  have C2 : Aside0 (∀ w2 A c, Kd.C dP w2 A 3 [pa, pab, pb] → 3 ≤ c → Calls Try.prog 25 #[.slice A 3 c, .slice (some ⟨w2.heap.size + 1 + 1 + 1, 0, none⟩) 3 3] ((((w2.alloc (.cells #[.string ⟨#[97]⟩] 9)).alloc (.cells #[.string ⟨#[97]⟩, .string ⟨#[98]⟩] 9)).alloc (.cells #[.string ⟨#[98]⟩] 9)).alloc (.cells #[.slice (some ⟨w2.heap.size, 0, none⟩) 1 1, .slice (some ⟨w2.heap.size + 1, 0, none⟩) 2 2, .slice (some ⟨w2.heap.size + 1 + 1, 0, none⟩) 1 1] 22)) fun e w' => e = .returned (.bool true) ∧ Aside0 (Below w2.heap.size w2 w')) := ⟨fun w2 A c hC hc => same_k pa pab pb (by decide) (by decide) (by decide) same0 w2 A c hC hc⟩
  have C4 : Aside0 (∀ w2 A c, Kd.C dP w2 A 3 [pab, pa, pb] → 3 ≤ c → Calls Try.prog 25 #[.slice A 3 c, .slice (some ⟨w2.heap.size + 1 + 1 + 1, 0, none⟩) 3 3] ((((w2.alloc (.cells #[.string ⟨#[97]⟩, .string ⟨#[98]⟩] 9)).alloc (.cells #[.string ⟨#[97]⟩] 9)).alloc (.cells #[.string ⟨#[98]⟩] 9)).alloc (.cells #[.slice (some ⟨w2.heap.size, 0, none⟩) 2 2, .slice (some ⟨w2.heap.size + 1, 0, none⟩) 1 1, .slice (some ⟨w2.heap.size + 1 + 1, 0, none⟩) 1 1] 22)) fun e w' => e = .returned (.bool true) ∧ Aside0 (Below w2.heap.size w2 w')) := ⟨fun w2 A c hC hc => same_k pab pa pb (by decide) (by decide) (by decide) same1 w2 A c hC hc⟩
  have C5 := Aside0.mk text_k
  have HW : Aside0 (Below w.heap.size w (litw w pb pa pab)) := ⟨lit_below w pb pa pab⟩
  clear C0
  go_enter Try.func8, Try.ntmps8
  go_wp2_with (first | (go_at_call 13; (with_reducible refine (C5.out w5).mono ?_); rintro e w6 ⟨rfl, hb6⟩; have H6 := Aside0.mk (below_step H5.out hb6.out); clear hb6) | (go_at_call 25; (with_reducible refine (C4.out w4 A4 c4 q4.out.1 q4.out.2).mono ?_); rintro e w5 ⟨rfl, hb5⟩; have H5 := Aside0.mk (below_step H4.out hb5.out); clear hb5) | (go_at_call 23; (with_reducible refine (C3.out w3 H3.out).mono ?_); rintro e w4 ⟨A4, c4, rfl, q4, hb4⟩; have H4 := Aside0.mk (below_step H3.out hb4.out); clear hb4) | (go_at_call 25; (with_reducible refine (C2.out w2 A2 c2 q2.out.1 q2.out.2).mono ?_); rintro e w3 ⟨rfl, hb3⟩; have H3 := Aside0.mk (below_step H2.out hb3.out); clear hb3) | (go_at_call 23; (with_reducible refine C1.out.mono ?_); rintro e w2 ⟨A2, c2, rfl, q2, hb2⟩; have H2 := Aside0.mk hb2.out; clear hb2) | fail)
  go_ret
  exact ⟨rfl, HW.out.trans (H6.out.mono HW.out.size)⟩
end Go.Proofs.Ytmpniapbjoailaa.Hand
