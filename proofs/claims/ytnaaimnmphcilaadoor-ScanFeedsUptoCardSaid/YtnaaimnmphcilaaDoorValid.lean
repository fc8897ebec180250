/- What utf8.word and utf8.Valid answer at slices of bytes: the number that eight bytes spell; whether all is right UTF-8. -/
import Derived.Test.YtnaaimnmphcilaaDoorBase
import Derived.Lib.ValidAsc
import Derived.Lib.EndianBits
import Derived.Laws.BitsAllLaws
import Derived.Shelf.Unicode.ValidAny
import Derived.Deep.QuietTactic
import Derived.BigQuiet
import Derived.Deep.LoopGhost
import Derived.Deep.CutBlock
import Derived.Deep.DeepCutAuto
namespace Go.Proofs.YtnaaimnmphcilaaDoor.Hand
open Go.RowKit Go.Proofs.YtnaaimnmphcilaaDoorW.PrintWords Go.Proofs.YtnaaimnmphcilaaDoorW.PrintLast Go.Proofs.YtnaaimnmphcilaaDoorW.PrintMore
set_option linter.unusedVariables false
set_option linter.unusedSimpArgs false

/-- The bytes t lie in block b from o on. -/
def Cells (w : World) (b o : Nat) (t : ByteArray) : Prop := ∀ j, j < t.size → w.cell? ⟨b, o + j, none⟩ = some (.int .u8 (t.get! j).toNat)
theorem Cells.below {w w' : World} {b o B : Nat} {t : ByteArray} (h : Cells w b o t) (hb : Below B w w') (hB : b < B) : Cells w' b o t := fun j hj => (hb.cell (p := ⟨b, o + j, none⟩) hB).trans (h j hj)
theorem Cells.heap {w w' : World} {b o : Nat} {t : ByteArray} (h : Cells w b o t) (hh : w'.heap = w.heap) : Cells w' b o t := fun j hj => by
  have := h j hj
  unfold World.cell? at this ⊢
  rw [hh]
  exact this

/-- p[k:] of what begins at o. -/
theorem cut_tail (w : World) (b o k : Nat) (t : ByteArray) (hc : Cells w b o t) (hk : k ≤ t.size) (kz : Int) (hkz : kz = (k : Int)) : ∃ o1 t1,
    (∀ W : World, (Instr.slice 23 (.slice (some ⟨b, o, none⟩) t.size t.size) (some (.int .i64 kz)) none none).run Tryd.prog W = .ok (.slice (some ⟨b, o1, none⟩) t1.size t1.size) W) ∧ Cells w b o1 t1 ∧ t1.size + k = t.size ∧ t.extract k t.size = t1 := by
  subst hkz
  obtain ⟨i5, hi5, _, hs5, _⟩ := info_parts (show (Tryd.prog.info? 5).map (fun i => (i.zero, i.size, i.bytes)) = some (some (.int .u8 0), 1, 1) by kernel_rfl)
  have hcut := cut_from (P := Tryd.prog) 23 5 .i64 Tryd.underlying23 hi5 1 hs5 (some ⟨b, o, none⟩) t.size t.size (k : Int) (by omega) (by omega)
  have hz : (t.extract k t.size).size = t.size - k := Lib.ext_size t k
  refine ⟨if t.size = k then o else o + k, t.extract k t.size, fun W => ?_, fun j hj => ?_, by omega, rfl⟩
  · rw [hcut W, hz]
    by_cases e : t.size = k
    · simp [e]
    · by_cases e0 : k = 0
      · subst e0; simp [Addr.add]
      · simp [e, e0, Addr.add]
  · rw [hz] at hj
    rw [if_neg (by omega), Nat.add_assoc, hc (k + j) (by omega)]
    congr 3
    rw [← Lib.getD_get!', ← Lib.getD_get!', Lib.ext_list, Lib.getD_dropU]

set_option maxHeartbeats 8000000 in
set_option maxRecDepth 100000 in
theorem word_calls (b o c : Nat) (t : ByteArray) (w : World) (hc : Cells w b o t) (h8 : 8 ≤ t.size) :
    Calls Tryd.prog 48 #[.slice (some ⟨b, o, none⟩) t.size c] w fun e w' => e = .returned (.int .u64 (Lib.leNat [t.get! 0, t.get! 1, t.get! 2, t.get! 3, t.get! 4, t.get! 5, t.get! 6, t.get! 7])) ∧ ∃ q, w' = w.drewN q := by
  obtain ⟨x0, hx0⟩ : ∃ x, t.get! 0 = x := ⟨_, rfl⟩
  have hs0 : w.cell? ⟨b, o, none⟩ = some (.int .u8 x0.toNat) := by have := hc 0 (by omega); rwa [hx0] at this
  have h0 : x0.toNat < 256 := x0.toNat_lt
  obtain ⟨x1, hx1⟩ : ∃ x, t.get! 1 = x := ⟨_, rfl⟩
  have hs1 : w.cell? ⟨b, o + 1, none⟩ = some (.int .u8 x1.toNat) := by have := hc 1 (by omega); rwa [hx1] at this
  have h1 : x1.toNat < 256 := x1.toNat_lt
  obtain ⟨x2, hx2⟩ : ∃ x, t.get! 2 = x := ⟨_, rfl⟩
  have hs2 : w.cell? ⟨b, o + 2, none⟩ = some (.int .u8 x2.toNat) := by have := hc 2 (by omega); rwa [hx2] at this
  have h2 : x2.toNat < 256 := x2.toNat_lt
  obtain ⟨x3, hx3⟩ : ∃ x, t.get! 3 = x := ⟨_, rfl⟩
  have hs3 : w.cell? ⟨b, o + 3, none⟩ = some (.int .u8 x3.toNat) := by have := hc 3 (by omega); rwa [hx3] at this
  have h3 : x3.toNat < 256 := x3.toNat_lt
  obtain ⟨x4, hx4⟩ : ∃ x, t.get! 4 = x := ⟨_, rfl⟩
  have hs4 : w.cell? ⟨b, o + 4, none⟩ = some (.int .u8 x4.toNat) := by have := hc 4 (by omega); rwa [hx4] at this
  have h4 : x4.toNat < 256 := x4.toNat_lt
  obtain ⟨x5, hx5⟩ : ∃ x, t.get! 5 = x := ⟨_, rfl⟩
  have hs5 : w.cell? ⟨b, o + 5, none⟩ = some (.int .u8 x5.toNat) := by have := hc 5 (by omega); rwa [hx5] at this
  have h5 : x5.toNat < 256 := x5.toNat_lt
  obtain ⟨x6, hx6⟩ : ∃ x, t.get! 6 = x := ⟨_, rfl⟩
  have hs6 : w.cell? ⟨b, o + 6, none⟩ = some (.int .u8 x6.toNat) := by have := hc 6 (by omega); rwa [hx6] at this
  have h6 : x6.toNat < 256 := x6.toNat_lt
  obtain ⟨x7, hx7⟩ : ∃ x, t.get! 7 = x := ⟨_, rfl⟩
  have hs7 : w.cell? ⟨b, o + 7, none⟩ = some (.int .u8 x7.toNat) := by have := hc 7 (by omega); rwa [hx7] at this
  have h7 : x7.toNat < 256 := x7.toNat_lt
  rw [hx0, hx1, hx2, hx3, hx4, hx5, hx6, hx7]
  have hv : ((Lib.leNat [x0, x1, x2, x3, x4, x5, x6, x7] : Nat) : Int) = (x0.toNat : Int) + (x1.toNat : Int) * 256 + (x2.toNat : Int) * 65536 + (x3.toNat : Int) * 16777216 + (x4.toNat : Int) * 4294967296 + (x5.toNat : Int) * 1099511627776 + (x6.toNat : Int) * 281474976710656 + (x7.toNat : Int) * 72057594037927936 := by
    simp only [Lib.leNat]
    push_cast
    omega
  clear hc hx0 hx1 hx2 hx3 hx4 hx5 hx6 hx7
  generalize t.size = n at *
  have q0 : (0 : Int) < (n : Int) := by omega
  have q1 : (1 : Int) < (n : Int) := by omega
  have q2 : (2 : Int) < (n : Int) := by omega
  have q3 : (3 : Int) < (n : Int) := by omega
  have q4 : (4 : Int) < (n : Int) := by omega
  have q5 : (5 : Int) < (n : Int) := by omega
  have q6 : (6 : Int) < (n : Int) := by omega
  have q7 : (7 : Int) < (n : Int) := by omega
  go_enter Tryd.func48, Tryd.ntmps48
  go_wp2
  go_quiet (fail)
  go_wp2
  go_ret
  refine ⟨?_, _, rfl⟩
  simp (disch := omega) only [u64_wrap_id, u64_or8, u64_or16, u64_or24, u64_or32, u64_or40, u64_or48, u64_or56]
  rw [hv]
  try rfl
end Go.Proofs.YtnaaimnmphcilaaDoor.Hand
