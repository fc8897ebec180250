/- Package walk: Push of its heap. -/
import Derived.Test.YtmpniapbjoailaaWalkB
namespace Go.Proofs.Ytmpniapbjoailaa.Hand
open Go.RowKit Go.Proofs.YtmpniapbjoailaaW.PrintWords Go.Proofs.YtmpniapbjoailaaW.PrintLast Go.Proofs.YtmpniapbjoailaaW.PrintMore
set_option linter.unusedVariables false
set_option linter.unusedSimpArgs false

theorem info22 : (Try.prog.info? 22).map (fun i => (i.zero, i.size, i.bytes)) = some (some (.slice none 0 0), 1, 24) := by kernel_rfl

set_option maxHeartbeats 4000000 in
theorem push_m {w : World} {g : Nat} {deep : Bool} {base : Nat} {ok okx : Nat → Prop} {v : Value} {cs : List (List ByteArray)} (H : Qu w g deep base ok v cs) (x : Value) (p : List ByteArray) (hx : Kd.R Kd.string 9 w base okx x p) (hap : ∀ k, okx k → v.ownBlock ≠ some k ∧ k ≠ g) (hl : cs.length < 1000000000) (hbs : base ≤ w.heap.size) (hbg : base ≤ g) :
    Calls Try.prog 63 #[.pointer (some ⟨g, 0, none⟩), .iface 22 x] w fun e w' => e = .returned (.tuple #[]) ∧ Aside0 (∃ v', At w v v' ∧ Qu w' g deep base (fun k => ok k ∨ okx k ∨ w.heap.size ≤ k) v' (cs ++ [p])) ∧ Aside0 (Fr w w' g v) ∧ Aside0 (Below base w w') := by
  obtain ⟨A', n', c', rfl⟩ : ∃ A' n' c', x = .slice A' n' c' := by
    obtain ⟨A', c', h⟩ := Kd.R_slice hx
    exact ⟨A', _, c', h⟩
  have HXX := Aside0.mk hx
  obtain ⟨k0, k1, f0, f1⟩ := H.cells
  obtain ⟨A, c, hv⟩ := Kd.R_slice H.row
  subst hv
  have HM : Aside0 (dP.M w.drew base okx p [.slice A' n' c']) := ⟨⟨_, rfl, Kd.R_drew hx⟩⟩
  have HAP : Aside0 (∀ k, okx k → (ok k ∨ okx k ∨ w.heap.size ≤ k) ∧ some k ≠ (Value.slice A cs.length c).ownBlock) := ⟨fun k hk => ⟨.inr (.inl hk), fun e => (hap k hk).1 e.symm⟩⟩
  have HR : Aside0 (Kd.R dP 22 w.drew base (fun k => ok k ∨ okx k ∨ w.heap.size ≤ k) (.slice A cs.length c) cs) := ⟨Kd.R_mono (Kd.R_drew H.row) (fun k hk => .inl hk)⟩
  have HBS : Aside0 (base ≤ w.drew.heap.size) := ⟨hbs⟩
  have HSZ : Aside0 ((cs.length + 1) * 24 ≤ 140737488355328) := ⟨by omega⟩
  have HBK : Aside0 (w.drew.heap[g]? = some (.cells #[.slice A cs.length c, fnV deep] 51 (0, 0))) := ⟨H.blk⟩
  have HNE : Aside0 (some g ≠ (Value.slice A cs.length c).ownBlock) := ⟨fun e => H.ap g (H.row.1 g e.symm) rfl⟩
  have HOK : Aside0 (∀ k, (Value.slice A cs.length c).ownBlock = some k → ok k) := ⟨H.row.1⟩
  have HLN : Aside0 ((cs ++ [p]).length = cs.length + 1) := ⟨by simp⟩
  have HGA : Aside0 (∀ k, (ok k ∨ okx k ∨ w.heap.size ≤ k) → k ≠ g) := ⟨fun k hk => by
    rcases hk with hk | hk | hk
    · exact H.ap k hk
    · exact (hap k hk).2
    · have := H.lt; omega⟩
  have HBG := Aside0.mk hbg
  clear hx hap hl hbs H hbg
  clear HXX
  have hta : ∀ W : World, Sem.run Try.prog (Instr.typeAssert (.iface 22 (.slice A' n' c')) 20 22 false) W = .ok (.slice A' n' c') W := fun W => by rfl
  generalize hn : cs.length = n at k0 HAP HR HBK HNE HOK HLN
  have HN := Aside0.mk hn
  clear hn
  go_enter Try.func63, Try.ntmps63
  go_wp2
  refine start_ (n := 12) (S := fun w' => w'.cell? ⟨g, 0, none⟩ = some (.slice A n c)) (ds := [11]) #[false, false, false, false, false, false, false, false, false, false, false, false] (by kernel_rfl) rfl rfl k0 (fun hHeld => ?_)
  refine pure_ (i := 0) (N := some 4) (v := ?_) (a' := ?_) #[true, false, false, false, false, false, false, false, false, false, false, false] rfl rfl (by kernel_rfl) (fun _ _ _ h => h) (Or.inl ⟨by rfl, ?_⟩) ?_ ?_
  rotate_left
  · intro w'
    go_simp
    with_reducible rfl
  rotate_left
  · simp only [Act.put, List.setIfInBounds_toArray, List.set_cons_zero, List.set_cons_succ, i64_w, i32_w]
    rfl
  refine pure_ (i := 1) (N := some 5) (v := ?_) (a' := ?_) #[true, true, false, false, false, false, false, false, false, false, false, false] rfl rfl (by kernel_rfl) (fun _ _ _ h => h) (Or.inl ⟨by rfl, ?_⟩) ?_ ?_
  rotate_left
  · intro w'
    go_simp
    with_reducible rfl
  rotate_left
  · simp only [Act.put, List.setIfInBounds_toArray, List.set_cons_zero, List.set_cons_succ, i64_w, i32_w]
    rfl
  refine pure_ (i := 2) (N := some 6) (v := ?_) (a' := ?_) #[true, true, true, false, false, false, false, false, false, false, false, false] rfl rfl (by kernel_rfl) (fun _ _ _ h => h) (Or.inl ⟨by rfl, ?_⟩) ?_ ?_
  rotate_left
  · intro w'
    go_simp
    with_reducible rfl
  rotate_left
  · simp only [Act.put, List.setIfInBounds_toArray, List.set_cons_zero, List.set_cons_succ, i64_w, i32_w]
    rfl
  refine pure_ (i := 3) (N := some 7) (v := ?_) (a' := ?_) #[true, true, true, true, false, false, false, false, false, false, false, false] rfl rfl (by kernel_rfl) (fun _ _ _ h => h) (Or.inl ⟨by rfl, ?_⟩) ?_ ?_
  rotate_left
  · intro w'
    go_simp
    with_reducible rfl
  rotate_left
  · simp only [Act.put, List.setIfInBounds_toArray, List.set_cons_zero, List.set_cons_succ, i64_w, i32_w]
    rfl
  refine take_ (i := 4) (N := some 8) (v := ?_) (a' := ?_) #[true, true, true, true, true, false, false, false, false, false, false, false] rfl rfl (by kernel_rfl) (fun _ _ _ h => h) (Or.inl ⟨by rfl, ?_⟩) hHeld ?_ ?_
  rotate_left
  · intro w' s0
    go_simp
    with_reducible rfl
  rotate_left
  · simp only [Act.put, List.setIfInBounds_toArray, List.set_cons_zero, List.set_cons_succ, i64_w, i32_w]
    rfl
  refine pure_ (i := 5) (N := some 9) (v := ?_) (a' := ?_) #[true, true, true, true, true, true, false, false, false, false, false, false] rfl rfl (by kernel_rfl) (fun _ _ _ h => h) (Or.inl ⟨by rfl, ?_⟩) ?_ ?_
  rotate_left
  · intro w'
    go_simp
    with_reducible rfl
  rotate_left
  · simp only [Act.put, List.setIfInBounds_toArray, List.set_cons_zero, List.set_cons_succ, i64_w, i32_w]
    rfl
  refine pure_ (i := 6) (N := some 10) (v := ?_) (a' := ?_) #[true, true, true, true, true, true, true, false, false, false, false, false] rfl rfl (by kernel_rfl) (fun _ _ _ h => h) (Or.inl ⟨by rfl, ?_⟩) ?_ ?_
  rotate_left
  · intro w'
    go_simp
    with_reducible rfl
  rotate_left
  · simp only [Act.put, List.setIfInBounds_toArray, List.set_cons_zero, List.set_cons_succ, i64_w, i32_w]
    rfl
  refine one_ (i := 7) (N := some 11) #[true, true, true, true, true, true, true, true, false, false, false, false] rfl rfl (by kernel_rfl) (by decide) (fun K hK => ?_)
  refine event_step (v := .slice (some ⟨w.heap.size, 0, none⟩) 1 1) (w1 := w.drew.alloc (.cells [.slice A' n' c'].toArray 22)) (by rfl) ?_ ?_
  · go_simp
  refine hK.out _ _ (show (w.drew.alloc (.cells [.slice A' n' c'].toArray 22)).cell? ⟨g, 0, none⟩ = some (.slice A n c) from pw_cell_below (w := w) (below_alloc (below_drew (Below.refl _ _)) _) k0) (fun hHeld => ?_)
  clear hK K
  refine norm_ (a' := ?_) ?_ ?_
  rotate_left
  · show Act.put _ (some 11) _ = _
    simp only [Act.put, List.setIfInBounds_toArray, List.set_cons_zero, List.set_cons_succ, i64_w, i32_w]
    rfl
  refine one_ (i := 8) (N := some 12) #[true, true, true, true, true, true, true, true, true, false, false, false] rfl rfl (by kernel_rfl) (by decide) (fun K hK => ?_)
  refine Kd.R_append_step dP (w0 := w) (W := w.drew) base (by rfl) (.tmp 8) (.tmp 11) 26 22 (.slice none 0 0) 24 (by rfl) Try.underlying26 info22 rfl (by decide) (by decide) (.slice A n c) cs p [.slice A' n' c'] (fun k => ok k ∨ okx k ∨ w.heap.size ≤ k) okx (by rfl) (by rfl) HM.out HAP.out (fun k hk => .inr (.inr hk)) HR.out (below_drew (Below.refl _ _)) HBS.out HSZ.out ?_
  intro v1 w1 ho1 hb1 hg1 hat1
  obtain ⟨A1, c1, e1⟩ := Kd.R_slice ho1
  rw [HLN.out] at e1
  subst e1
  have HQ := Aside0.mk ho1
  have HB1 := Aside0.mk hb1
  have hK1 : w1.heap[g]? = some (.cells #[.slice A n c, fnV deep] 51 (0, 0)) := blk_grown (w := w.drew) HBK.out hg1 HNE.out
  have HKG := Aside0.mk hK1
  have HGR := Aside0.mk hg1
  have HAT : Aside0 (At w (.slice A n c) (.slice A1 (n + 1) c1)) := ⟨hat1⟩
  have j0 := blk_cell hK1 0
  have jf := blk_frozen hK1 0
  clear hK1 hb1 ho1 hg1 hat1
  refine hK.out _ _ j0 (fun hHeld => ?_)
  clear hK K
  refine norm_ (a' := ?_) ?_ ?_
  rotate_left
  · show Act.put _ (some 12) _ = _
    simp only [Act.put, List.setIfInBounds_toArray, List.set_cons_zero, List.set_cons_succ, i64_w, i32_w]
    rfl
  refine pure_ (i := 9) (N := some 13) (v := ?_) (a' := ?_) #[true, true, true, true, true, true, true, true, true, true, false, false] rfl rfl (by kernel_rfl) (fun _ _ _ h => h) (Or.inl ⟨by rfl, ?_⟩) ?_ ?_
  rotate_left
  · intro w'
    go_simp
    with_reducible rfl
  rotate_left
  · simp only [Act.put, List.setIfInBounds_toArray, List.set_cons_zero, List.set_cons_succ, i64_w, i32_w]
    rfl
  refine pure_ (i := 10) (N := some 14) (v := ?_) (a' := ?_) #[true, true, true, true, true, true, true, true, true, true, true, false] rfl rfl (by kernel_rfl) (fun _ _ _ h => h) (Or.inl ⟨by rfl, ?_⟩) ?_ ?_
  rotate_left
  · intro w'
    go_simp
    with_reducible rfl
  rotate_left
  · simp only [Act.put, List.setIfInBounds_toArray, List.set_cons_zero, List.set_cons_succ, i64_w, i32_w]
    rfl
  refine last_ (i := 11) (N := none) #[true, true, true, true, true, true, true, true, true, true, true, true] rfl rfl (by kernel_rfl) (by decide) (fun K hK => ?_)
  refine skip_ (w1 := ?_) (by rfl) rfl ?_ ?_
  rotate_left
  · go_simp
    rfl
  refine hK.out _ _ ?_
  clear hK K
  refine done_ (by kernel_rfl) ?_
  go_wp2
  refine bodyPost_end (v := .tuple #[]) (by simp [results, Try.results63, go_sem]) rfl ⟨rfl, ⟨⟨_, HAT.out, blk_put HKG.out 0 _ rfl, Kd.R_far HQ.out (fun k hk => HGA.out k hk) _, fun k hk => HGA.out k hk⟩⟩, ⟨?_⟩, ⟨?_⟩⟩
  · exact ((Kept.of_grown HGR.out (Kept.refl w _).drew (fun k hk => .inl (.inr hk))).setCell (p := ⟨g, 0, none⟩) (.inl (.inl rfl)) _)
  · exact HB1.out.setCell (p := ⟨g, 0, none⟩) HBG.out _
end Go.Proofs.Ytmpniapbjoailaa.Hand
