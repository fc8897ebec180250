/- Package walk: a queue, its heap's methods. -/
import Derived.Test.YtmpniapbjoailaaHeap
import Derived.Test.YtmpniapbjoailaaWZeros
import Derived.Test.YtmpniapbjoailaaWKept
import Derived.Test.YtmpniapbjoailaaWInvWords
import Derived.Deep.RegionHeld3
import Derived.Deep.RegionWith
import Derived.Deep.LoopGhost
import Derived.BigQuiet
import Derived.BigRegion
import Derived.WalkSpells
import Derived.Lib.SliceRun
namespace Go.Proofs.Ytmpniapbjoailaa.Hand
open Go.RowKit Go.Proofs.YtmpniapbjoailaaW.PrintWords Go.Proofs.YtmpniapbjoailaaW.PrintLast Go.Proofs.YtmpniapbjoailaaW.PrintMore
set_option linter.unusedVariables false
set_option linter.unusedSimpArgs false

def fnV (deep : Bool) : Value := .func (.func (fnOf deep)) #[] #[]
theorem new_calls (deep : Bool) (w : World) : Calls Try.prog 16 #[.bool deep] w fun e w' => e = .returned (.pointer (some ⟨w.heap.size, 0, none⟩)) ∧ w' = w.alloc (.cells #[.slice none 0 0, fnV deep] 51) := by
  cases deep
  · go_enter Try.func16, Try.ntmps16
    go_wp2
    go_ret
    exact ⟨rfl, rfl⟩
  · go_enter Try.func16, Try.ntmps16
    go_wp2
    go_ret
    exact ⟨rfl, rfl⟩

abbrev dP : Kd (List ByteArray) := Kd.slice 9 Kd.string
/-- A queue, at block g; its row is v; ok tells which blocks are its own. -/
structure Qu (w : World) (g : Nat) (deep : Bool) (base : Nat) (ok : Nat → Prop) (v : Value) (cs : List (List ByteArray)) : Prop where
  blk : w.heap[g]? = some (.cells #[v, fnV deep] 51 (0, 0))
  row : Kd.R dP 22 w base ok v cs
  ap : ∀ k, ok k → k ≠ g
section
variable {w w' : World} {g : Nat} {deep : Bool} {base : Nat} {ok : Nat → Prop} {v : Value} {cs : List (List ByteArray)}
theorem Qu.lt (h : Qu w g deep base ok v cs) : g < w.heap.size := blk_lt h.blk
theorem Qu.below (h : Qu w g deep base ok v cs) (hb : Below w.heap.size w w') : Qu w' g deep base ok v cs := ⟨blk_below h.blk hb, Kd.R_below h.row hb, h.ap⟩
theorem Qu.cells (h : Qu w g deep base ok v cs) : w.cell? ⟨g, 0, none⟩ = some v ∧ w.cell? ⟨g, 1, none⟩ = some (fnV deep) ∧ w.frozen? ⟨g, 0, none⟩ = false ∧ w.frozen? ⟨g, 1, none⟩ = false :=
  ⟨blk_cell h.blk 0, blk_cell h.blk 1, blk_frozen h.blk 0, blk_frozen h.blk 1⟩
theorem Qu.form (h : Qu w g deep base ok v cs) (i : Nat) (hi : i < cs.length) : ∃ gr cap, v = .slice (some ⟨gr, 0, none⟩) cs.length cap ∧ cs.length ≤ cap ∧ cs.length ≤ 9223372036854775807 ∧ ok gr := by
  obtain ⟨ad, c, hv⟩ := Kd.R_slice1 h.row (by omega)
  subst hv
  obtain ⟨gr, rfl⟩ := Kd.R_head h.row
  have hr := Kd.R_reads' h.row
  exact ⟨gr, c, rfl, hr.2.1, hr.2.2.2.1, h.row.1 gr rfl⟩
theorem getD_mem {l : List (List ByteArray)} {i : Nat} (hi : i < l.length) : l.getD i [] ∈ l := by simp [List.getD, hi]
theorem Qu.elem {gr n cap : Nat} (h : Qu w g deep base ok (.slice (some ⟨gr, 0, none⟩) n cap) cs) (i : Nat) (hi : i < cs.length) :
    ∃ A c, w.cell? ⟨gr, i, none⟩ = some (.slice A (cs.getD i []).length c) ∧ w.frozen? ⟨gr, i, none⟩ = false ∧ (cs.getD i []).length ≤ c ∧ Kd.C Kd.string w A (cs.getD i []).length (cs.getD i []) := by
  have hr := Kd.R_reads' h.row
  obtain ⟨ad, c, e, _, hK, hc⟩ := Kd.C_get hr.2.2 ([] : List ByteArray) (i : Int) (by omega) (by omega)
  injection e with e
  subst e
  obtain ⟨A, c', rfl, h1, h2⟩ := hK
  have h3 := hc 0 _ rfl
  rw [Int.toNat_natCast] at h1 h2 h3
  refine ⟨A, c', ?_, ?_, h1, h2⟩
  · have h4 : dP.sz = 1 := rfl
    rw [h4, Nat.mul_one, Nat.add_zero, add_plain] at h3
    exact h3
  · obtain ⟨inner, ho⟩ := Kd.R_own h.row
    rcases ho.2 with ⟨hh, _⟩ | ⟨gg, cap', cur, hh, _, hb, _⟩
    · cases hh
    · injection hh with h5
      injection h5 with h5
      injection h5 with h5
      subst h5
      exact blk_frozen hb i
end
set_option maxHeartbeats 2000000 in
theorem less_m9 {w : World} {g : Nat} {base : Nat} {ok : Nat → Prop} {v : Value} {cs : List (List ByteArray)} (H : Qu w g false base ok v cs) (i j : Nat) (hi : i < cs.length) (hj : j < cs.length) (hl : ∀ x ∈ cs, x.length ≤ 9223372036854775806) :
    Calls Try.prog 61 #[.pointer (some ⟨g, 0, none⟩), .int .i64 i, .int .i64 j] w fun e w' => e = .returned (.bool (lt false (cs.getD i []) (cs.getD j []))) ∧ Below w.heap.size w w' := by
  obtain ⟨gr, cap, hv, hcap, hn, hgr⟩ := H.form i hi
  subst hv
  obtain ⟨k0, k1, f0, f1⟩ := H.cells
  obtain ⟨A1, c1, e1, g1, l1, C1⟩ := H.elem i hi
  obtain ⟨A2, c2, e2, g2, l2, C2⟩ := H.elem j hj
  have h1 : (cs.getD i []).length ≤ 9223372036854775806 := hl _ (getD_mem hi)
  have CL : Aside0 (Calls Try.prog 9 #[.slice A1 (cs.getD i []).length c1, .slice A2 (cs.getD j []).length c2] w.drew fun e w' => e = .returned (.bool (lt false (cs.getD i []) (cs.getD j []))) ∧ Drawn0 w.drew w') :=
    ⟨lt_calls false A1 c1 _ _ A2 c2 _ _ rfl rfl w.drew (Kd.C_drew C1) l1 (Kd.C_drew C2) l2 h1⟩
  generalize lt false (cs.getD i []) (cs.getD j []) = r at *
  generalize (cs.getD i []).length = n1 at *
  generalize (cs.getD j []).length = n2 at *
  have hii : (i : Int) < (cs.length : Int) := by omega
  have hjj : (j : Int) < (cs.length : Int) := by omega
  have hi0 : (0 : Int) ≤ (i : Int) := by omega
  have hj0 : (0 : Int) ≤ (j : Int) := by omega
  generalize cs.length = n at *
  clear C1 C2 h1 l1 l2 H hl hcap hn hi hj
  go_enter Try.func61, Try.ntmps61
  go_wp2
  go_region_held3 (fun w' => w'.cell? ⟨g, 0, none⟩ = some (.slice (some ⟨gr, 0, none⟩) n cap) ∧ w'.cell? ⟨g, 1, none⟩ = some (.func (.func 9) #[] #[]) ∧ w'.cell? ⟨gr, i, none⟩ = some (.slice A1 n1 c1) ∧ w'.cell? ⟨gr, j, none⟩ = some (.slice A2 n2 c2)) (first | exact hK | exact ⟨k0, k1, e1, e2⟩ | go_keep)
    (first | (go_at_call 9; (with_reducible refine CL.out.mono ?_); rintro e w1 ⟨rfl, hb⟩; have HB := Aside0.mk (((below_drew (Below.refl w.heap.size w))).trans hb.below); have hK : w1.cell? ⟨g, 0, none⟩ = some (.slice (some ⟨gr, 0, none⟩) n cap) ∧ w1.cell? ⟨g, 1, none⟩ = some (.func (.func 9) #[] #[]) ∧ w1.cell? ⟨gr, i, none⟩ = some (.slice A1 n1 c1) ∧ w1.cell? ⟨gr, j, none⟩ = some (.slice A2 n2 c2) := ⟨pw_cell_below HB.out k0, pw_cell_below HB.out k1, pw_cell_below HB.out e1, pw_cell_below HB.out e2⟩; clear hb))
  go_wp2
  go_ret
  exact ⟨rfl, HB.out⟩
set_option maxHeartbeats 2000000 in
theorem less_m11 {w : World} {g : Nat} {base : Nat} {ok : Nat → Prop} {v : Value} {cs : List (List ByteArray)} (H : Qu w g true base ok v cs) (i j : Nat) (hi : i < cs.length) (hj : j < cs.length) (hl : ∀ x ∈ cs, x.length ≤ 9223372036854775806) :
    Calls Try.prog 61 #[.pointer (some ⟨g, 0, none⟩), .int .i64 i, .int .i64 j] w fun e w' => e = .returned (.bool (lt true (cs.getD i []) (cs.getD j []))) ∧ Below w.heap.size w w' := by
  obtain ⟨gr, cap, hv, hcap, hn, hgr⟩ := H.form i hi
  subst hv
  obtain ⟨k0, k1, f0, f1⟩ := H.cells
  obtain ⟨A1, c1, e1, g1, l1, C1⟩ := H.elem i hi
  obtain ⟨A2, c2, e2, g2, l2, C2⟩ := H.elem j hj
  have h1 : (cs.getD i []).length ≤ 9223372036854775806 := hl _ (getD_mem hi)
  have CL : Aside0 (Calls Try.prog 11 #[.slice A1 (cs.getD i []).length c1, .slice A2 (cs.getD j []).length c2] w.drew fun e w' => e = .returned (.bool (lt true (cs.getD i []) (cs.getD j []))) ∧ Drawn0 w.drew w') :=
    ⟨lt_calls true A1 c1 _ _ A2 c2 _ _ rfl rfl w.drew (Kd.C_drew C1) l1 (Kd.C_drew C2) l2 h1⟩
  generalize lt true (cs.getD i []) (cs.getD j []) = r at *
  generalize (cs.getD i []).length = n1 at *
  generalize (cs.getD j []).length = n2 at *
  have hii : (i : Int) < (cs.length : Int) := by omega
  have hjj : (j : Int) < (cs.length : Int) := by omega
  have hi0 : (0 : Int) ≤ (i : Int) := by omega
  have hj0 : (0 : Int) ≤ (j : Int) := by omega
  generalize cs.length = n at *
  clear C1 C2 h1 l1 l2 H hl hcap hn hi hj
  go_enter Try.func61, Try.ntmps61
  go_wp2
  go_region_held3 (fun w' => w'.cell? ⟨g, 0, none⟩ = some (.slice (some ⟨gr, 0, none⟩) n cap) ∧ w'.cell? ⟨g, 1, none⟩ = some (.func (.func 11) #[] #[]) ∧ w'.cell? ⟨gr, i, none⟩ = some (.slice A1 n1 c1) ∧ w'.cell? ⟨gr, j, none⟩ = some (.slice A2 n2 c2)) (first | exact hK | exact ⟨k0, k1, e1, e2⟩ | go_keep)
    (first | (go_at_call 11; (with_reducible refine CL.out.mono ?_); rintro e w1 ⟨rfl, hb⟩; have HB := Aside0.mk (((below_drew (Below.refl w.heap.size w))).trans hb.below); have hK : w1.cell? ⟨g, 0, none⟩ = some (.slice (some ⟨gr, 0, none⟩) n cap) ∧ w1.cell? ⟨g, 1, none⟩ = some (.func (.func 11) #[] #[]) ∧ w1.cell? ⟨gr, i, none⟩ = some (.slice A1 n1 c1) ∧ w1.cell? ⟨gr, j, none⟩ = some (.slice A2 n2 c2) := ⟨pw_cell_below HB.out k0, pw_cell_below HB.out k1, pw_cell_below HB.out e1, pw_cell_below HB.out e2⟩; clear hb))
  go_wp2
  go_ret
  exact ⟨rfl, HB.out⟩
end Go.Proofs.Ytmpniapbjoailaa.Hand
