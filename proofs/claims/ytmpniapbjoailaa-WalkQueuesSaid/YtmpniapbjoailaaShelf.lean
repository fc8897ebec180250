/- strings.Join at this program: its contract off the shelf, in plain words (written by the kit's lay-shelf and lay-plain); package walk: Text. -/
import Derived.Test.YtmpniapbjoailaaWalkI
import Derived.Shelf.Strings.OnBuilder
import Derived.Room.Shelf.Join48
import Derived.Test.YtmpniapbjoailaaProg
namespace Go.Proofs.Ytmpniapbjoailaa.Hand
open Go.Shelf
open Go.RowKit Go.Proofs.YtmpniapbjoailaaW.PrintWords Go.Proofs.YtmpniapbjoailaaW.PrintLast Go.Proofs.YtmpniapbjoailaaW.PrintMore
set_option linter.unusedVariables false
set_option linter.unusedSimpArgs false
def shelf156_ren : Go.Shelf.Ren := ⟨fun | 156 => 28 | 165 => 35 | 166 => 36 | 169 => 37 | 240 => 41 | 241 => 42 | 276 => 43 | 277 => 44 | n => n, fun | 31 => 22 | 9 => 9 | 3 => 3 | 4 => 4 | 0 => 0 | 20 => 20 | 72 => 60 | 76 => 64 | 70 => 57 | 37 => 58 | 75 => 63 | 127 => 75 | 164 => 77 | 5 => 5 | 80 => 66 | n => n, fun | n => n⟩
theorem shelf156 : Go.Proofs.Lays.n156 Try.prog shelf156_ren := {
  mixed := by kernel_rfl
  f156 := Try.func28.trans (congrArg some (by kernel_rfl))
  f165 := Try.func35.trans (congrArg some (by kernel_rfl))
  f166 := Try.func36.trans (congrArg some (by kernel_rfl))
  f169 := Try.func37.trans (congrArg some (by kernel_rfl))
  f240 := Try.func41.trans (congrArg some (by kernel_rfl))
  f241 := Try.func42.trans (congrArg some (by kernel_rfl))
  f276 := Try.func43.trans (congrArg some (by kernel_rfl))
  f277 := Try.func44.trans (congrArg some (by kernel_rfl))
  t0 := Try.underlying0
  a0 := Try.isAgg0
  z0 := Try.sizeOf0
  v0 := Try.zeroValue0
  t3 := Try.underlying3
  a3 := Try.isAgg3
  z3 := Try.sizeOf3
  v3 := Try.zeroValue3
  t4 := Try.underlying4
  a4 := Try.isAgg4
  z4 := Try.sizeOf4
  v4 := Try.zeroValue4
  t9 := Try.underlying9
  a9 := Try.isAgg9
  z9 := Try.sizeOf9
  v9 := Try.zeroValue9
  t20 := Try.underlying20
  a20 := Try.isAgg20
  z20 := Try.sizeOf20
  v20 := Try.zeroValue20
  t31 := Try.underlying22
  a31 := Try.isAgg22
  z31 := Try.sizeOf22
  v31 := Try.zeroValue22
  t37 := Try.underlying58
  a37 := Try.isAgg58
  z37 := Try.sizeOf58
  v37 := Try.zeroValue58
  t70 := Try.underlying57
  a70 := Try.isAgg57
  z70 := Try.sizeOf57
  v70 := Try.zeroValue57
  t72 := Try.underlying60
  a72 := Try.isAgg60
  z72 := Try.sizeOf60
  v72 := Try.zeroValue60
  t75 := Try.underlying63
  a75 := Try.isAgg63
  z75 := Try.sizeOf63
  v75 := Try.zeroValue63
  t76 := Try.underlying64
  a76 := Try.isAgg64
  z76 := Try.sizeOf64
  v76 := Try.zeroValue64
  t127 := Try.underlying75
  a127 := Try.isAgg75
  z127 := Try.sizeOf75
  v127 := Try.zeroValue75
  t164 := Try.underlying77
  a164 := Try.isAgg77
  z164 := Try.sizeOf77
  v164 := Try.zeroValue77 }
theorem shelf156_extra : Builder.Extra Try.prog shelf156_ren := {
  sizeBuilder := by kernel_rfl
  liesBuilder := by kernel_rfl
  t5 := Try.underlying5
  a5 := Try.isAgg5
  z5 := Try.sizeOf5
  v5 := Try.zeroValue5
  infoByte := by kernel_rfl
  cellsByte := by kernel_rfl
  sizeByte := by kernel_rfl
  neB5 := by decide }
def joinOf (l : List ByteArray) : List UInt8 := Lib.join (l.map (·.data.toList)) [47]
def textOf (l : List ByteArray) : ByteArray := ⟨#[47]⟩ ++ ⟨(joinOf l).toArray⟩
theorem join_m (A : Option Addr) (hA : ∀ ad, A = some ad → ∃ bk o, ad = ⟨bk, o, none⟩) (c : Nat) (l : List ByteArray) (w : World) (hr : Kd.C Kd.string w A l.length l) (hc : l.length ≤ c) (hs : l.length ≤ 1000000000) (hl : (joinOf l).length ≤ 281474976710656) :
    Calls Try.prog 28 #[.slice A l.length c, .string ⟨#[47]⟩] w fun e w' => e = .returned (.string ⟨(joinOf l).toArray⟩) ∧ Below w.heap.size w w' := by
  cases l with
  | nil =>
    exact (Any.strings_Join_none shelf156 shelf156_extra A c ⟨#[47]⟩ w).mono (by rintro e w' ⟨rfl, rfl⟩; exact ⟨rfl, Below.refl _ _⟩)
  | cons y l =>
    obtain ⟨ad, rfl, _⟩ := hr.2.2 (by simp)
    obtain ⟨bk, o, rfl⟩ := hA ad rfl
    have hcells : ∀ (j : Nat) x, (y :: l)[j]? = some x → w.cell? ⟨bk, o + j, none⟩ = some (.string x) := by
      intro j x hx
      have hj : j < (y :: l).length := (List.getElem?_eq_some_iff.1 hx).1
      obtain ⟨ad, e, h⟩ := Kd.at_string hr (j : Int) (by omega) (by omega)
      injection e with e
      subst e
      rw [Int.toNat_natCast] at h
      have h2 : rdOf ByteArray.empty (y :: l) (j : Int) = x := by
        unfold rdOf
        rw [Int.toNat_natCast, List.getD_eq_getElem?_getD, hx]
        rfl
      rw [h2] at h
      by_cases h0 : j = 0
      · subst h0; simpa [Addr.add] using h
      · simpa [Addr.add, h0] using h
    refine Any.strings_Join_48 shelf156 shelf156_extra bk o c (y :: l) ⟨#[47]⟩ w hcells ?_ (by omega) hc hl
    have h0 := hcells 0 y rfl
    exact block_lt_of_cell h0
set_option maxHeartbeats 2000000 in
theorem text_m (A : Option Addr) (hA : ∀ ad, A = some ad → ∃ bk o, ad = ⟨bk, o, none⟩) (c n : Nat) (l : List ByteArray) (hn : n = l.length) (w : World) (hr : Kd.C Kd.string w A l.length l) (hc : l.length ≤ c) (hs : l.length ≤ 1000000000) (hl : (joinOf l).length ≤ 281474976710656) :
    Calls Try.prog 13 #[.slice A n c] w fun e w' => e = .returned (.string (textOf l)) ∧ Below w.heap.size w w' := by
  subst hn
  have C1 := Aside0.mk (join_m A hA c l w hr hc hs hl)
  have HT : Aside0 (textOf l = ⟨#[47]⟩ ++ ⟨(joinOf l).toArray⟩) := ⟨rfl⟩
  generalize textOf l = t at *
  generalize hj : (⟨(joinOf l).toArray⟩ : ByteArray) = j at *
  have HJ : Aside0 (j.size ≤ 281474976710656) := ⟨by rw [← hj]; simpa [ByteArray.size] using hl⟩
  have hjs : ¬ 9223372036854775807 < 1 + j.size := by have := HJ.out; omega
  clear hr hc hs hl hA hj
  go_enter Try.func13, Try.ntmps13
  go_wp2_with (first | (go_at_call 28; (with_reducible refine C1.out.mono ?_); rintro e w1 ⟨rfl, hb⟩; have HB := Aside0.mk hb; clear hb) | fail)
  go_ret
  exact ⟨by rw [HT.out]; rfl, HB.out⟩
end Go.Proofs.Ytmpniapbjoailaa.Hand
