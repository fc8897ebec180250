/- Package walk: Len and Swap of its heap. -/
import Derived.Test.YtmpniapbjoailaaWalkA
namespace Go.Proofs.Ytmpniapbjoailaa.Hand
open Go.RowKit Go.Proofs.YtmpniapbjoailaaW.PrintWords Go.Proofs.YtmpniapbjoailaaW.PrintLast Go.Proofs.YtmpniapbjoailaaW.PrintMore
set_option linter.unusedVariables false
set_option linter.unusedSimpArgs false

theorem put1 {W : World} {base gr n cap : Nat} {ok okp : Nat → Prop} {cs : List (List ByteArray)} (h : Kd.R dP 22 W base ok (.slice (some ⟨gr, 0, none⟩) n cap) cs) (i : Nat) (hi : i < cs.length) {x : List ByteArray} {u : Value} (hM : dP.M W base okp x [u]) (hokp : ∀ k, okp k → ok k ∧ k ≠ gr) :
    Kd.R dP 22 (W.setCell ⟨gr, i, none⟩ u) base ok (.slice (some ⟨gr, 0, none⟩) n cap) (cs.set i x) := by
  have hn := (Kd.R_reads' h).1
  obtain ⟨c, hcl, _, hcc, _⟩ := Kd.R_elem h ([] : List ByteArray) (i : Int) (by omega) (by omega)
  have hs : dP.sz = 1 := rfl
  have h1 := (Kd.R_seg (seg := [u]) (j := 0) h (i : Int) (by omega) (by omega) hcl hcc (by simp [hs]) (x' := x) (by
    have : c.drop 1 = [] := List.drop_eq_nil_iff.2 (by omega)
    simpa [this] using hM) hokp).1
  simpa [World.setCells, hs] using h1
/-- What is changed: the block of the queue, and its row. -/
def Fr (w w' : World) (g : Nat) (v : Value) : Prop := Kept w w' (fun k => k = g ∨ v.ownBlock = some k)
/-- The row is where it was, or in memory that is new. -/
def At (w : World) (v v' : Value) : Prop := v'.ownBlock = v.ownBlock ∨ ∃ b, v'.ownBlock = some b ∧ w.heap.size ≤ b
theorem At.refl {w : World} {v : Value} : At w v v := .inl rfl
theorem At.trans {w w1 : World} {v v1 v2 : Value} (h : At w v v1) (h2 : At w1 v1 v2) (hs : w.heap.size ≤ w1.heap.size) : At w v v2 := by
  rcases h2 with h2 | ⟨b, h2, h3⟩
  · rw [At, h2]; exact h
  · exact .inr ⟨b, h2, by omega⟩
theorem Fr.trans {w w1 w2 : World} {g : Nat} {v v1 : Value} (h : Fr w w1 g v) (ha : At w v v1) (h2 : Fr w1 w2 g v1) : Fr w w2 g v := by
  refine Kept.then_ h h2 (fun k hk => ?_)
  rcases hk with hk | hk
  · exact .inl (.inl hk)
  · rcases ha with ha | ⟨b, ha, hb⟩
    · exact .inl (.inr (by rw [← ha]; exact hk))
    · rw [hk] at ha; injection ha with ha; exact .inr (by omega)
theorem Fr.refl {w : World} {g : Nat} {v : Value} : Fr w w g v := Kept.refl _ _
theorem Fr.size {w w1 : World} {g : Nat} {v : Value} (h : Fr w w1 g v) : w.heap.size ≤ w1.heap.size := h.1
theorem Qu.base {w : World} {g gr n cap : Nat} {deep : Bool} {base : Nat} {ok : Nat → Prop} {cs : List (List ByteArray)} (h : Qu w g deep base ok (.slice (some ⟨gr, 0, none⟩) n cap) cs) : base ≤ gr := by
  obtain ⟨inner, ho⟩ := Kd.R_own h.row
  rcases ho.2 with ⟨hh, _⟩ | ⟨gg, cap', cur, hh, hh2, hb, hh3⟩
  · cases hh
  · injection hh with h5
    injection h5 with h5
    injection h5 with h5
    subst h5
    exact hh2
theorem Qu.swap {w : World} {g gr n cap : Nat} {deep : Bool} {base : Nat} {ok : Nat → Prop} {cs : List (List ByteArray)} (h : Qu w g deep base ok (.slice (some ⟨gr, 0, none⟩) n cap) cs) (i j : Nat) (hi : i < cs.length) (hj : j < cs.length) :
    ∃ A1 n1 c1 A2 n2 c2, w.cell? ⟨gr, i, none⟩ = some (.slice A1 n1 c1) ∧ w.cell? ⟨gr, j, none⟩ = some (.slice A2 n2 c2) ∧ w.frozen? ⟨gr, i, none⟩ = false ∧ w.frozen? ⟨gr, j, none⟩ = false ∧ (∃ y, (w.setCell ⟨gr, i, none⟩ (.slice A2 n2 c2)).cell? ⟨gr, j, none⟩ = some y) ∧
      Qu ((w.setCell ⟨gr, i, none⟩ (.slice A2 n2 c2)).setCell ⟨gr, j, none⟩ (.slice A1 n1 c1)) g deep base ok (.slice (some ⟨gr, 0, none⟩) n cap) (sw [] cs i j) := by
  obtain ⟨A1, c1, e1, f1, _, _⟩ := h.elem i hi
  obtain ⟨A2, c2, e2, f2, _, _⟩ := h.elem j hj
  have hn := (Kd.R_reads' h.row).1
  have hs : dP.sz = 1 := rfl
  have key : ∀ (k : Nat) (u : Value), k < cs.length → w.cell? ⟨gr, k, none⟩ = some u → dP.M w base (fun q => ok q ∧ q ≠ gr) (cs.getD k []) [u] := by
    intro k u hk hu
    obtain ⟨c, hcl, hM, hcc, _⟩ := Kd.R_elem h.row ([] : List ByteArray) (k : Int) (by omega) (by omega)
    rw [hs] at hcl
    match c, hcl with
    | [y], _ =>
      have := hcc 0 y rfl
      rw [hs, Int.toNat_natCast, Nat.mul_one, Nat.add_zero, hu] at this
      injection this with this
      subst this
      rw [Int.toNat_natCast] at hM
      exact hM
  have hgr := h.ap gr (h.row.1 gr rfl)
  have r1 := put1 h.row i hi (key j _ hj e2) (fun _ hk => hk)
  have r2 := put1 r1 j (by simpa using hj) (Kd.M_far (d := dP) (p := ⟨gr, i, none⟩) (key i _ hi e1) (fun _ hk => hk.2) (.slice A2 (cs.getD j []).length c2)) (fun _ hk => hk)
  refine ⟨A1, _, c1, A2, _, c2, e1, e2, f1, f2, ?_, ⟨blk_far (blk_far h.blk (Ne.symm hgr) _) (Ne.symm hgr) _, r2, h.ap⟩⟩
  obtain ⟨c, hcl, _, hcc, _⟩ := Kd.R_elem r1 ([] : List ByteArray) (j : Int) (by omega) (by omega)
  rw [hs] at hcl
  match c, hcl with
  | [y], _ =>
    have := hcc 0 y rfl
    rw [hs, Int.toNat_natCast, Nat.mul_one, Nat.add_zero] at this
    exact ⟨y, this⟩

theorem len_m {w : World} {g : Nat} {deep : Bool} {base : Nat} {ok : Nat → Prop} {v : Value} {cs : List (List ByteArray)} (H : Qu w g deep base ok v cs) :
    Calls Try.prog 33 #[.pointer (some ⟨g, 0, none⟩)] w fun e w' => e = .returned (.int .i64 cs.length) ∧ w = w' := by
  obtain ⟨k0, k1, f0, f1⟩ := H.cells
  obtain ⟨A, c, hv⟩ := Kd.R_slice H.row
  subst hv
  generalize cs.length = n at *
  clear H
  go_enter Try.func33, Try.ntmps33
  go_wp2
  go_ret
  exact ⟨rfl, rfl⟩

set_option maxHeartbeats 4000000 in
theorem swap_m {w : World} {g : Nat} {deep : Bool} {base : Nat} {ok : Nat → Prop} {v : Value} {cs : List (List ByteArray)} (H : Qu w g deep base ok v cs) (i j : Nat) (hi : i < cs.length) (hj : j < cs.length) :
    Calls Try.prog 64 #[.pointer (some ⟨g, 0, none⟩), .int .i64 i, .int .i64 j] w fun e w' => e = .returned (.tuple #[]) ∧ Aside0 (Qu w' g deep base ok v (sw [] cs i j)) ∧ Aside0 (Fr w w' g v) ∧ Aside0 (Below base w w') := by
  obtain ⟨gr, cap, hv, _, _, hgr⟩ := H.form i hi
  subst hv
  obtain ⟨A1, n1, c1, A2, n2, c2, e1, e2, g1, g2, ⟨y, e3⟩, HQ⟩ := H.swap i j hi hj
  obtain ⟨k0, k1, f0, f1⟩ := H.cells
  have HQ' := Aside0.mk HQ
  have HGB : Aside0 (base ≤ gr) := ⟨Qu.base H⟩
  have hii : (i : Int) < (cs.length : Int) := by omega
  have hjj : (j : Int) < (cs.length : Int) := by omega
  have hi0 : (0 : Int) ≤ (i : Int) := by omega
  have hj0 : (0 : Int) ≤ (j : Int) := by omega
  clear HQ hgr H hi hj
  generalize cs.length = n at *
  go_enter Try.func64, Try.ntmps64
  go_wp2
  refine start_ (n := 28) (S := fun w' => w'.cell? ⟨g, 0, none⟩ = some (.slice (some ⟨gr, 0, none⟩) n cap) ∧ w'.cell? ⟨gr, i, none⟩ = some (.slice A1 n1 c1) ∧ w'.cell? ⟨gr, j, none⟩ = some (.slice A2 n2 c2)) (ds := [25, 27]) #[false, false, false, false, false, false, false, false, false, false, false, false, false, false, false, false, false, false, false, false, false, false, false, false, false, false, false, false] (by kernel_rfl) rfl rfl ⟨k0, e1, e2⟩ (fun hHeld => ?_)
  refine pure_ (i := 0) (N := some 6) (v := ?_) (a' := ?_) #[true, false, false, false, false, false, false, false, false, false, false, false, false, false, false, false, false, false, false, false, false, false, false, false, false, false, false, false] rfl rfl (by kernel_rfl) (fun _ _ _ h => h) (Or.inl ⟨by rfl, ?_⟩) ?_ ?_
  rotate_left
  · intro w'
    go_simp
    with_reducible rfl
  rotate_left
  · simp only [Act.put, List.setIfInBounds_toArray, List.set_cons_zero, List.set_cons_succ, i64_w, i32_w]
    rfl
  refine pure_ (i := 1) (N := some 7) (v := ?_) (a' := ?_) #[true, true, false, false, false, false, false, false, false, false, false, false, false, false, false, false, false, false, false, false, false, false, false, false, false, false, false, false] rfl rfl (by kernel_rfl) (fun _ _ _ h => h) (Or.inl ⟨by rfl, ?_⟩) ?_ ?_
  rotate_left
  · intro w'
    go_simp
    with_reducible rfl
  rotate_left
  · simp only [Act.put, List.setIfInBounds_toArray, List.set_cons_zero, List.set_cons_succ, i64_w, i32_w]
    rfl
  refine pure_ (i := 2) (N := some 8) (v := ?_) (a' := ?_) #[true, true, true, false, false, false, false, false, false, false, false, false, false, false, false, false, false, false, false, false, false, false, false, false, false, false, false, false] rfl rfl (by kernel_rfl) (fun _ _ _ h => h) (Or.inl ⟨by rfl, ?_⟩) ?_ ?_
  rotate_left
  · intro w'
    go_simp
    with_reducible rfl
  rotate_left
  · simp only [Act.put, List.setIfInBounds_toArray, List.set_cons_zero, List.set_cons_succ, i64_w, i32_w]
    rfl
  refine take_ (i := 3) (N := some 9) (v := ?_) (a' := ?_) #[true, true, true, true, false, false, false, false, false, false, false, false, false, false, false, false, false, false, false, false, false, false, false, false, false, false, false, false] rfl rfl (by kernel_rfl) (fun _ _ _ h => h) (Or.inl ⟨by rfl, ?_⟩) hHeld ?_ ?_
  rotate_left
  · rintro w' ⟨s0, s1, s2⟩
    go_simp
    with_reducible rfl
  rotate_left
  · simp only [Act.put, List.setIfInBounds_toArray, List.set_cons_zero, List.set_cons_succ, i64_w, i32_w]
    rfl
  refine pure_ (i := 4) (N := some 10) (v := ?_) (a' := ?_) #[true, true, true, true, true, false, false, false, false, false, false, false, false, false, false, false, false, false, false, false, false, false, false, false, false, false, false, false] rfl rfl (by kernel_rfl) (fun _ _ _ h => h) (Or.inl ⟨by rfl, ?_⟩) ?_ ?_
  rotate_left
  · intro w'
    go_simp
    with_reducible rfl
  rotate_left
  · simp only [Act.put, List.setIfInBounds_toArray, List.set_cons_zero, List.set_cons_succ, i64_w, i32_w]
    rfl
  refine pure_ (i := 5) (N := some 11) (v := ?_) (a' := ?_) #[true, true, true, true, true, true, false, false, false, false, false, false, false, false, false, false, false, false, false, false, false, false, false, false, false, false, false, false] rfl rfl (by kernel_rfl) (fun _ _ _ h => h) (Or.inl ⟨by rfl, ?_⟩) ?_ ?_
  rotate_left
  · intro w'
    go_simp
    with_reducible rfl
  rotate_left
  · simp only [Act.put, List.setIfInBounds_toArray, List.set_cons_zero, List.set_cons_succ, i64_w, i32_w]
    rfl
  refine pure_ (i := 6) (N := some 12) (v := ?_) (a' := ?_) #[true, true, true, true, true, true, true, false, false, false, false, false, false, false, false, false, false, false, false, false, false, false, false, false, false, false, false, false] rfl rfl (by kernel_rfl) (fun _ _ _ h => h) (Or.inl ⟨by rfl, ?_⟩) ?_ ?_
  rotate_left
  · intro w'
    go_simp
    with_reducible rfl
  rotate_left
  · simp only [Act.put, List.setIfInBounds_toArray, List.set_cons_zero, List.set_cons_succ, i64_w, i32_w]
    rfl
  refine pure_ (i := 7) (N := some 13) (v := ?_) (a' := ?_) #[true, true, true, true, true, true, true, true, false, false, false, false, false, false, false, false, false, false, false, false, false, false, false, false, false, false, false, false] rfl rfl (by kernel_rfl) (fun _ _ _ h => h) (Or.inl ⟨by rfl, ?_⟩) ?_ ?_
  rotate_left
  · intro w'
    go_simp
    with_reducible rfl
  rotate_left
  · simp only [Act.put, List.setIfInBounds_toArray, List.set_cons_zero, List.set_cons_succ, i64_w, i32_w]
    rfl
  refine take_ (i := 8) (N := some 14) (v := ?_) (a' := ?_) #[true, true, true, true, true, true, true, true, true, false, false, false, false, false, false, false, false, false, false, false, false, false, false, false, false, false, false, false] rfl rfl (by kernel_rfl) (fun _ _ _ h => h) (Or.inl ⟨by rfl, ?_⟩) hHeld ?_ ?_
  rotate_left
  · rintro w' ⟨s0, s1, s2⟩
    go_simp
    with_reducible rfl
  rotate_left
  · simp only [Act.put, List.setIfInBounds_toArray, List.set_cons_zero, List.set_cons_succ, i64_w, i32_w]
    rfl
  refine pure_ (i := 9) (N := some 15) (v := ?_) (a' := ?_) #[true, true, true, true, true, true, true, true, true, true, false, false, false, false, false, false, false, false, false, false, false, false, false, false, false, false, false, false] rfl rfl (by kernel_rfl) (fun _ _ _ h => h) (Or.inl ⟨by rfl, ?_⟩) ?_ ?_
  rotate_left
  · intro w'
    go_simp
    with_reducible rfl
  rotate_left
  · simp only [Act.put, List.setIfInBounds_toArray, List.set_cons_zero, List.set_cons_succ, i64_w, i32_w]
    rfl
  refine pure_ (i := 10) (N := some 16) (v := ?_) (a' := ?_) #[true, true, true, true, true, true, true, true, true, true, true, false, false, false, false, false, false, false, false, false, false, false, false, false, false, false, false, false] rfl rfl (by kernel_rfl) (fun _ _ _ h => h) (Or.inl ⟨by rfl, ?_⟩) ?_ ?_
  rotate_left
  · intro w'
    go_simp
    with_reducible rfl
  rotate_left
  · simp only [Act.put, List.setIfInBounds_toArray, List.set_cons_zero, List.set_cons_succ, i64_w, i32_w]
    rfl
  refine pure_ (i := 11) (N := some 17) (v := ?_) (a' := ?_) #[true, true, true, true, true, true, true, true, true, true, true, true, false, false, false, false, false, false, false, false, false, false, false, false, false, false, false, false] rfl rfl (by kernel_rfl) (fun _ _ _ h => h) (Or.inl ⟨by rfl, ?_⟩) ?_ ?_
  rotate_left
  · intro w'
    go_simp
    with_reducible rfl
  rotate_left
  · simp only [Act.put, List.setIfInBounds_toArray, List.set_cons_zero, List.set_cons_succ, i64_w, i32_w]
    rfl
  refine pure_ (i := 12) (N := some 18) (v := ?_) (a' := ?_) #[true, true, true, true, true, true, true, true, true, true, true, true, true, false, false, false, false, false, false, false, false, false, false, false, false, false, false, false] rfl rfl (by kernel_rfl) (fun _ _ _ h => h) (Or.inl ⟨by rfl, ?_⟩) ?_ ?_
  rotate_left
  · intro w'
    go_simp
    with_reducible rfl
  rotate_left
  · simp only [Act.put, List.setIfInBounds_toArray, List.set_cons_zero, List.set_cons_succ, i64_w, i32_w]
    rfl
  refine take_ (i := 13) (N := some 19) (v := ?_) (a' := ?_) #[true, true, true, true, true, true, true, true, true, true, true, true, true, true, false, false, false, false, false, false, false, false, false, false, false, false, false, false] rfl rfl (by kernel_rfl) (fun _ _ _ h => h) (Or.inl ⟨by rfl, ?_⟩) hHeld ?_ ?_
  rotate_left
  · rintro w' ⟨s0, s1, s2⟩
    go_simp
    with_reducible rfl
  rotate_left
  · simp only [Act.put, List.setIfInBounds_toArray, List.set_cons_zero, List.set_cons_succ, i64_w, i32_w]
    rfl
  refine pure_ (i := 14) (N := some 20) (v := ?_) (a' := ?_) #[true, true, true, true, true, true, true, true, true, true, true, true, true, true, true, false, false, false, false, false, false, false, false, false, false, false, false, false] rfl rfl (by kernel_rfl) (fun _ _ _ h => h) (Or.inl ⟨by rfl, ?_⟩) ?_ ?_
  rotate_left
  · intro w'
    go_simp
    with_reducible rfl
  rotate_left
  · simp only [Act.put, List.setIfInBounds_toArray, List.set_cons_zero, List.set_cons_succ, i64_w, i32_w]
    rfl
  refine pure_ (i := 15) (N := some 21) (v := ?_) (a' := ?_) #[true, true, true, true, true, true, true, true, true, true, true, true, true, true, true, true, false, false, false, false, false, false, false, false, false, false, false, false] rfl rfl (by kernel_rfl) (fun _ _ _ h => h) (Or.inl ⟨by rfl, ?_⟩) ?_ ?_
  rotate_left
  · intro w'
    go_simp
    with_reducible rfl
  rotate_left
  · simp only [Act.put, List.setIfInBounds_toArray, List.set_cons_zero, List.set_cons_succ, i64_w, i32_w]
    rfl
  refine take_ (i := 16) (N := some 22) (v := ?_) (a' := ?_) #[true, true, true, true, true, true, true, true, true, true, true, true, true, true, true, true, true, false, false, false, false, false, false, false, false, false, false, false] rfl rfl (by kernel_rfl) (fun _ _ _ h => h) (Or.inl ⟨by rfl, ?_⟩) hHeld ?_ ?_
  rotate_left
  · rintro w' ⟨s0, s1, s2⟩
    go_simp
    with_reducible rfl
  rotate_left
  · simp only [Act.put, List.setIfInBounds_toArray, List.set_cons_zero, List.set_cons_succ, i64_w, i32_w]
    rfl
  refine pure_ (i := 17) (N := some 23) (v := ?_) (a' := ?_) #[true, true, true, true, true, true, true, true, true, true, true, true, true, true, true, true, true, true, false, false, false, false, false, false, false, false, false, false] rfl rfl (by kernel_rfl) (fun _ _ _ h => h) (Or.inl ⟨by rfl, ?_⟩) ?_ ?_
  rotate_left
  · intro w'
    go_simp
    with_reducible rfl
  rotate_left
  · simp only [Act.put, List.setIfInBounds_toArray, List.set_cons_zero, List.set_cons_succ, i64_w, i32_w]
    rfl
  refine pure_ (i := 18) (N := some 24) (v := ?_) (a' := ?_) #[true, true, true, true, true, true, true, true, true, true, true, true, true, true, true, true, true, true, true, false, false, false, false, false, false, false, false, false] rfl rfl (by kernel_rfl) (fun _ _ _ h => h) (Or.inl ⟨by rfl, ?_⟩) ?_ ?_
  rotate_left
  · intro w'
    go_simp
    with_reducible rfl
  rotate_left
  · simp only [Act.put, List.setIfInBounds_toArray, List.set_cons_zero, List.set_cons_succ, i64_w, i32_w]
    rfl
  refine pure_ (i := 19) (N := some 25) (v := ?_) (a' := ?_) #[true, true, true, true, true, true, true, true, true, true, true, true, true, true, true, true, true, true, true, true, false, false, false, false, false, false, false, false] rfl rfl (by kernel_rfl) (fun _ _ _ h => h) (Or.inl ⟨by rfl, ?_⟩) ?_ ?_
  rotate_left
  · intro w'
    go_simp
    with_reducible rfl
  rotate_left
  · simp only [Act.put, List.setIfInBounds_toArray, List.set_cons_zero, List.set_cons_succ, i64_w, i32_w]
    rfl
  refine take_ (i := 20) (N := some 26) (v := ?_) (a' := ?_) #[true, true, true, true, true, true, true, true, true, true, true, true, true, true, true, true, true, true, true, true, true, false, false, false, false, false, false, false] rfl rfl (by kernel_rfl) (fun _ _ _ h => h) (Or.inl ⟨by rfl, ?_⟩) hHeld ?_ ?_
  rotate_left
  · rintro w' ⟨s0, s1, s2⟩
    go_simp
    with_reducible rfl
  rotate_left
  · simp only [Act.put, List.setIfInBounds_toArray, List.set_cons_zero, List.set_cons_succ, i64_w, i32_w]
    rfl
  refine pure_ (i := 21) (N := some 27) (v := ?_) (a' := ?_) #[true, true, true, true, true, true, true, true, true, true, true, true, true, true, true, true, true, true, true, true, true, true, false, false, false, false, false, false] rfl rfl (by kernel_rfl) (fun _ _ _ h => h) (Or.inl ⟨by rfl, ?_⟩) ?_ ?_
  rotate_left
  · intro w'
    go_simp
    with_reducible rfl
  rotate_left
  · simp only [Act.put, List.setIfInBounds_toArray, List.set_cons_zero, List.set_cons_succ, i64_w, i32_w]
    rfl
  refine pure_ (i := 22) (N := some 28) (v := ?_) (a' := ?_) #[true, true, true, true, true, true, true, true, true, true, true, true, true, true, true, true, true, true, true, true, true, true, true, false, false, false, false, false] rfl rfl (by kernel_rfl) (fun _ _ _ h => h) (Or.inl ⟨by rfl, ?_⟩) ?_ ?_
  rotate_left
  · intro w'
    go_simp
    with_reducible rfl
  rotate_left
  · simp only [Act.put, List.setIfInBounds_toArray, List.set_cons_zero, List.set_cons_succ, i64_w, i32_w]
    rfl
  refine take_ (i := 23) (N := some 29) (v := ?_) (a' := ?_) #[true, true, true, true, true, true, true, true, true, true, true, true, true, true, true, true, true, true, true, true, true, true, true, true, false, false, false, false] rfl rfl (by kernel_rfl) (fun _ _ _ h => h) (Or.inl ⟨by rfl, ?_⟩) hHeld ?_ ?_
  rotate_left
  · rintro w' ⟨s0, s1, s2⟩
    go_simp
    with_reducible rfl
  rotate_left
  · simp only [Act.put, List.setIfInBounds_toArray, List.set_cons_zero, List.set_cons_succ, i64_w, i32_w]
    rfl
  refine pure_ (i := 24) (N := some 30) (v := ?_) (a' := ?_) #[true, true, true, true, true, true, true, true, true, true, true, true, true, true, true, true, true, true, true, true, true, true, true, true, true, false, false, false] rfl rfl (by kernel_rfl) (fun _ _ _ h => h) (Or.inl ⟨by rfl, ?_⟩) ?_ ?_
  rotate_left
  · intro w'
    go_simp
    with_reducible rfl
  rotate_left
  · simp only [Act.put, List.setIfInBounds_toArray, List.set_cons_zero, List.set_cons_succ, i64_w, i32_w]
    rfl
  refine last_ (i := 25) (N := none) #[true, true, true, true, true, true, true, true, true, true, true, true, true, true, true, true, true, true, true, true, true, true, true, true, true, true, false, false] rfl rfl (by kernel_rfl) (by decide) (fun K hK => ?_)
  refine skip_ (w1 := ?_) (by rfl) rfl ?_ ?_
  rotate_left
  · go_simp
    rfl
  refine hK.out _ _ ?_
  clear hK K
  refine pure_ (i := 26) (N := some 31) (v := ?_) (a' := ?_) #[true, true, true, true, true, true, true, true, true, true, true, true, true, true, true, true, true, true, true, true, true, true, true, true, true, true, true, false] rfl rfl (by kernel_rfl) (fun _ _ _ h => h) (Or.inl ⟨by rfl, ?_⟩) ?_ ?_
  rotate_left
  · intro w'
    go_simp
    with_reducible rfl
  rotate_left
  · simp only [Act.put, List.setIfInBounds_toArray, List.set_cons_zero, List.set_cons_succ, i64_w, i32_w]
    rfl
  refine last_ (i := 27) (N := none) #[true, true, true, true, true, true, true, true, true, true, true, true, true, true, true, true, true, true, true, true, true, true, true, true, true, true, true, true] rfl rfl (by kernel_rfl) (by decide) (fun K hK => ?_)
  refine skip_ (w1 := ?_) (by rfl) rfl ?_ ?_
  rotate_left
  · go_simp
    rfl
  refine hK.out _ _ ?_
  clear hK K
  refine done_ (by kernel_rfl) ?_
  go_wp2
  refine bodyPost_end (v := .tuple #[]) (by simp [results, Try.results64, go_sem]) rfl ⟨rfl, ⟨HQ'.out.below (below_drew (Below.refl _ _))⟩, ⟨?_⟩, ⟨?_⟩⟩
  · exact (((Kept.refl w (fun k => k = g ∨ (Value.slice (some ⟨gr, 0, none⟩) n cap).ownBlock = some k)).setCell (p := ⟨gr, i, none⟩) (.inl (.inr rfl)) _).setCell (p := ⟨gr, j, none⟩) (.inl (.inr rfl)) _).drew
  · exact below_drew (((Below.refl base w).setCell (p := ⟨gr, i, none⟩) HGB.out _).setCell (p := ⟨gr, j, none⟩) HGB.out _)
end Go.Proofs.Ytmpniapbjoailaa.Hand
