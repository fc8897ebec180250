/- gessoref15.Queue.Pop. -/
import Derived.Test.YtmpniapbjoailaaWrite
namespace Go.Proofs.Ytmpniapbjoailaa.Hand
open Go.RowKit Go.Proofs.YtmpniapbjoailaaW.PrintWords Go.Proofs.YtmpniapbjoailaaW.PrintLast Go.Proofs.YtmpniapbjoailaaW.PrintMore
set_option linter.unusedVariables false
set_option linter.unusedSimpArgs false
set_option maxHeartbeats 4000000 in
theorem rpop_none (d : Bool) (A : Option Addr) (c : Nat) (w : World) : Calls Try.prog 20 #[.agg #[.bool d, .slice A 0 c]] w fun e w' => e = .returned (.tuple #[.agg #[.bool d, .slice A 0 c], .slice none 0 0, .bool false]) ∧ Below w.heap.size w w' := by
  have hu32 := Try.underlying32
  have b2 : Aside0 ((((w.alloc (.cells #[.bool d, .slice A 0 c] 32)).alloc (.cells #[.bool d, .slice A 0 c] 32))).heap[w.heap.size + 1]? = some (.cells #[.bool d, .slice A 0 c] 32 (0, 0))) := ⟨by
    have h := blk_new (w.alloc (.cells #[.bool d, .slice A 0 c] 32)) (.cells #[.bool d, .slice A 0 c] 32)
    rwa [alloc_size] at h⟩
  go_enter Try.func20, Try.ntmps20
  go_wp2
  have k0 := (blk_cell b2.out 0)
  have k1 := (blk_cell b2.out 1)
  refine bodyPost_ret (v := .tuple #[.agg #[.bool d, .slice A 0 c], .slice none 0 0, .bool false]) (by simp [results, Try.results20, go_sem, hu32, k0, k1]) rfl ⟨rfl, below_alloc (below_alloc (Below.refl _ _) _) _⟩
set_option maxHeartbeats 4000000 in
theorem rpop_some (d : Bool) (ad : Addr) (n c : Nat) (hn : 0 < n) (hc : n ≤ c) (A' : Option Addr) (hA : (if c = 1 then some ad else some (ad.add 1)) = A') (A1 : Option Addr) (n1 c1 : Nat) (w : World) (hx : w.cell? ad = some (.slice A1 n1 c1)) : Calls Try.prog 20 #[.agg #[.bool d, .slice (some ad) n c]] w fun e w' => e = .returned (.tuple #[.agg #[.bool d, .slice A' (n - 1) (c - 1)], .slice A1 n1 c1, .bool true]) ∧ Below w.heap.size w w' := by
  have hu32 := Try.underlying32
  have HA : Aside0 ((if c = 1 then some ad else some ({ block := ad.block, off := ad.off + 1 } : Addr)) = A') := ⟨hA⟩
  clear hA
  have hn0 : ¬ ((n : Int) = 0) := by omega
  have hn1 : ((n : Int) == 0) = false := by simpa using hn0
  have hp : (0 : Int) < (n : Int) := by omega
  have hp1 : (1 : Int) ≤ (n : Int) := by omega
  obtain ⟨gb, hgb⟩ : ∃ gb, w.heap.size = gb := ⟨_, rfl⟩
  obtain ⟨W2, hW2⟩ : ∃ W2, ((w.alloc (.cells #[.bool d, .slice (some ad) n c] 32)).alloc (.cells #[.bool false, .slice none 0 0] 32)) = W2 := ⟨_, rfl⟩
  have b1 : Aside0 (W2.heap[gb]? = some (.cells #[.bool d, .slice (some ad) n c] 32 (0, 0))) := ⟨by rw [← hW2, ← hgb]; exact blk_alloc (blk_new _ _) _⟩
  have b2 : Aside0 (W2.heap[gb + 1]? = some (.cells #[.bool false, .slice none 0 0] 32 (0, 0))) := ⟨by
    have h := blk_new (w.alloc (.cells #[.bool d, .slice (some ad) n c] 32)) (.cells #[.bool false, .slice none 0 0] 32)
    rw [alloc_size, hgb] at h
    rw [← hW2]
    exact h⟩
  have hB : Aside0 (Below gb w W2) := ⟨by rw [← hW2, ← hgb]; exact below_alloc (below_alloc (Below.refl _ _) _) _⟩
  have hx2 : W2.cell? ad = some (.slice A1 n1 c1) := (hB.out.cell (by rw [← hgb]; exact World.block_lt_of_cell? _ _ hx)).trans hx
  have nb1 : gb ≠ gb + 1 := by omega
  have nb2 : ad.block ≠ gb + 1 := by have := World.block_lt_of_cell? _ _ hx; omega
  have HW2 := Aside0.mk hW2
  have HGB := Aside0.mk hgb
  clear hW2 hgb
  go_enter Try.func20, Try.ntmps20
  go_wp2
  rw [HW2.out, HGB.out]
  clear HW2
  refine start_ (n := 13) (S := fun w' => w'.cell? ⟨gb, 0, none⟩ = some (.bool d) ∧ w'.cell? ⟨gb, 1, none⟩ = some (.slice (some ad) n c) ∧ w'.cell? ad = some (.slice A1 n1 c1)) (ds := []) #[false, false, false, false, false, false, false, false, false, false, false, false, false] (by kernel_rfl) rfl rfl ⟨(blk_cell b1.out 0).trans rfl, (blk_cell b1.out 1).trans rfl, hx2⟩ (fun hHeld => ?_)
  have b1 : Aside0 (W2.drew.heap[gb]? = some (.cells #[.bool d, .slice (some ad) n c] 32 (0, 0))) := ⟨b1.out⟩
  have b2 : Aside0 (W2.drew.heap[gb + 1]? = some (.cells #[.bool false, .slice none 0 0] 32 (0, 0))) := ⟨b2.out⟩
  have hB : Aside0 (Below gb w W2.drew) := ⟨hB.out.drew⟩
  generalize W2.drew = w8 at b1 b2 hHeld hB ⊢
  refine pure_ (i := 0) (N := some 10) (v := ?_) (a' := ?_) #[true, false, false, false, false, false, false, false, false, false, false, false, false] rfl rfl (by kernel_rfl) (fun _ _ _ h => h) (Or.inl ⟨by rfl, ?_⟩) ?_ ?_
  rotate_left
  · intro w'
    go_simp
    with_reducible rfl
  rotate_left
  · simp only [Act.put, List.setIfInBounds_toArray, List.set_cons_zero, List.set_cons_succ, i64_w, i32_w]
    rfl
  refine pure_ (i := 2) (N := some 12) (v := ?_) (a' := ?_) #[true, false, true, false, false, false, false, false, false, false, false, false, false] rfl rfl (by kernel_rfl) (fun _ _ _ h => h) (Or.inl ⟨by rfl, ?_⟩) ?_ ?_
  rotate_left
  · intro w'
    go_simp
    with_reducible rfl
  rotate_left
  · simp only [Act.put, List.setIfInBounds_toArray, List.set_cons_zero, List.set_cons_succ, i64_w, i32_w]
    rfl
  refine pure_ (i := 6) (N := some 16) (v := ?_) (a' := ?_) #[true, false, true, false, false, false, true, false, false, false, false, false, false] rfl rfl (by kernel_rfl) (fun _ _ _ h => h) (Or.inl ⟨by rfl, ?_⟩) ?_ ?_
  rotate_left
  · intro w'
    go_simp
    with_reducible rfl
  rotate_left
  · simp only [Act.put, List.setIfInBounds_toArray, List.set_cons_zero, List.set_cons_succ, i64_w, i32_w]
    rfl
  refine take_ (i := 1) (N := some 11) (v := ?_) (a' := ?_) #[true, true, true, false, false, false, true, false, false, false, false, false, false] rfl rfl (by kernel_rfl) (fun _ _ _ h => h) (Or.inl ⟨by rfl, ?_⟩) hHeld ?_ ?_
  rotate_left
  · rintro w' ⟨s0, s1, s2⟩
    go_simp
    with_reducible rfl
  rotate_left
  · simp only [Act.put, List.setIfInBounds_toArray, List.set_cons_zero, List.set_cons_succ, i64_w, i32_w]
    rfl
  refine take_ (i := 3) (N := some 13) (v := ?_) (a' := ?_) #[true, true, true, true, false, false, true, false, false, false, false, false, false] rfl rfl (by kernel_rfl) (fun _ _ _ h => h) (Or.inl ⟨by rfl, ?_⟩) hHeld ?_ ?_
  rotate_left
  · rintro w' ⟨s0, s1, s2⟩
    go_simp
    with_reducible rfl
  rotate_left
  · simp only [Act.put, List.setIfInBounds_toArray, List.set_cons_zero, List.set_cons_succ, i64_w, i32_w]
    rfl
  refine take_ (i := 7) (N := some 17) (v := ?_) (a' := ?_) #[true, true, true, true, false, false, true, true, false, false, false, false, false] rfl rfl (by kernel_rfl) (fun _ _ _ h => h) (Or.inl ⟨by rfl, ?_⟩) hHeld ?_ ?_
  rotate_left
  · rintro w' ⟨s0, s1, s2⟩
    go_simp
    with_reducible rfl
  rotate_left
  · simp only [Act.put, List.setIfInBounds_toArray, List.set_cons_zero, List.set_cons_succ, i64_w, i32_w]
    rfl
  refine pure_ (i := 4) (N := some 14) (v := ?_) (a' := ?_) #[true, true, true, true, true, false, true, true, false, false, false, false, false] rfl rfl (by kernel_rfl) (fun _ _ _ h => h) (Or.inl ⟨by rfl, ?_⟩) ?_ ?_
  rotate_left
  · intro w'
    go_simp
    with_reducible rfl
  rotate_left
  · simp only [Act.put, List.setIfInBounds_toArray, List.set_cons_zero, List.set_cons_succ, i64_w, i32_w]
    rfl
  refine pure_ (i := 5) (N := some 15) (v := ?_) (a' := ?_) #[true, true, true, true, true, true, true, true, false, false, false, false, false] rfl rfl (by kernel_rfl) (fun _ _ _ h => h) (Or.inl ⟨by rfl, ?_⟩) ?_ ?_
  rotate_left
  · intro w'
    go_simp
    with_reducible rfl
  rotate_left
  · simp only [Act.put, List.setIfInBounds_toArray, List.set_cons_zero, List.set_cons_succ, i64_w, i32_w]
    rfl
  refine pure_ (i := 8) (N := some 18) (v := ?_) (a' := ?_) #[true, true, true, true, true, true, true, true, true, false, false, false, false] rfl rfl (by kernel_rfl) (fun _ _ _ h => h) (Or.inl ⟨by rfl, ?_⟩) ?_ ?_
  rotate_left
  · intro w'
    go_simp
    with_reducible rfl
  rotate_left
  · simp only [Act.put, List.setIfInBounds_toArray, List.set_cons_zero, List.set_cons_succ, i64_w, i32_w]
    rfl
  refine take_ (i := 9) (N := some 19) (v := ?_) (a' := ?_) #[true, true, true, true, true, true, true, true, true, true, false, false, false] rfl rfl (by kernel_rfl) (fun _ _ _ h => h) (Or.inl ⟨by rfl, ?_⟩) hHeld ?_ ?_
  rotate_left
  · rintro w' ⟨s0, s1, s2⟩
    go_simp
    with_reducible rfl
  rotate_left
  · simp only [Act.put, List.setIfInBounds_toArray, List.set_cons_zero, List.set_cons_succ, i64_w, i32_w]
    rfl
  have hc0 : w8.cell? ⟨gb + 1, 0, none⟩ = some (.bool false) := (blk_cell b2.out 0).trans rfl
  have hc1 : w8.cell? ⟨gb + 1, 1, none⟩ = some (.slice none 0 0) := (blk_cell b2.out 1).trans rfl
  have hf0 := blk_frozen b2.out 0
  have hf1 := blk_frozen b2.out 1
  refine one_ (i := 10) (N := none) #[true, true, true, true, true, true, true, true, true, true, true, false, false] rfl rfl (by kernel_rfl) (by decide) (fun K hK => ?_)
  refine skip_ (w1 := ?_) (by rfl) rfl ?_ ?_
  rotate_left
  · go_simp
    rfl
  refine hK.out _ _ ⟨((cell_far (p := ⟨gb + 1, _, none⟩) nb1 _).trans ((cell_far (p := ⟨gb + 1, _, none⟩) nb1 _).trans hHeld.1)), ((cell_far (p := ⟨gb + 1, _, none⟩) nb1 _).trans ((cell_far (p := ⟨gb + 1, _, none⟩) nb1 _).trans hHeld.2.1)), ((cell_far (p := ⟨gb + 1, _, none⟩) nb2 _).trans ((cell_far (p := ⟨gb + 1, _, none⟩) nb2 _).trans hHeld.2.2))⟩ (fun hHeld => ?_)
  clear hK K
  refine pure_ (i := 11) (N := some 3) (v := ?_) (a' := ?_) #[true, true, true, true, true, true, true, true, true, true, true, true, false] rfl rfl (by kernel_rfl) (fun _ _ _ h => h) (Or.inl ⟨by rfl, ?_⟩) ?_ ?_
  rotate_left
  · intro w'
    go_simp
    with_reducible rfl
  rotate_left
  · simp only [Act.put, List.setIfInBounds_toArray, List.set_cons_zero, List.set_cons_succ, i64_w, i32_w]
    rfl
  refine pure_ (i := 12) (N := some 4) (v := ?_) (a' := ?_) #[true, true, true, true, true, true, true, true, true, true, true, true, true] rfl rfl (by kernel_rfl) (fun _ _ _ h => h) (Or.inl ⟨by rfl, ?_⟩) ?_ ?_
  rotate_left
  · intro w'
    go_simp
    with_reducible rfl
  rotate_left
  · simp only [Act.put, List.setIfInBounds_toArray, List.set_cons_zero, List.set_cons_succ, i64_w, i32_w]
    rfl
  refine done_ (by kernel_rfl) ?_
  clear hHeld
  rw [HA.out]
  go_wp2
  have hb2 := blk_put (blk_put b2.out 0 (.bool d) rfl) 1 (.slice A' (n - 1) (c - 1)) rfl
  refine bodyPost_ret (results_ctt Try.results20 _ _ (gb + 1) 32 #[.bool d, .slice A' (n - 1) (c - 1)] (0, 0) _ rfl hb2 hu32 rfl (by kernel_rfl)) rfl ⟨rfl, ?_⟩
  rw [HGB.out]
  exact (hB.out.setCell (p := ⟨gb + 1, 0, none⟩) (Nat.le_succ _) _).setCell (p := ⟨gb + 1, 1, none⟩) (Nat.le_succ _) _
end Go.Proofs.Ytmpniapbjoailaa.Hand
