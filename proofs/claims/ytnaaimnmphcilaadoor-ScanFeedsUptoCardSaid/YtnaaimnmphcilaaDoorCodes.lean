/- What code.Codes answers at every slice of bytes: the code points of right bytes, or that they are not right. -/
import Derived.Test.YtnaaimnmphcilaaDoorValid2
import Derived.Lib.OthersKept
import Derived.Laws.RangeAny
namespace Go.Proofs.YtnaaimnmphcilaaDoor.Hand
open Go.RowKit Go.Proofs.YtnaaimnmphcilaaDoorW.PrintWords Go.Proofs.YtnaaimnmphcilaaDoorW.PrintLast Go.Proofs.YtnaaimnmphcilaaDoorW.PrintMore
set_option linter.unusedVariables false
set_option linter.unusedSimpArgs false

/-- The decoder's runes, one behind the other. -/
def runesL : Nat → List UInt8 → List Int
  | 0, _ => []
  | n + 1, l => if l = [] then [] else ((Lib.decodeL l).1 : Int) :: runesL n (l.drop (Lib.decodeL l).2)
def runesI (l : List Int) : List Int := runesL l.length (toB l)
def code_Codes.f (l : List Int) : Option (List Int × Int) :=
  if allB l = true then (if Lib.validD (toB l) = true then (if (runesI l).length < 35184372088832 then some (runesI l, 0) else none) else some ([], 6)) else none

theorem runesL_nil : ∀ n, runesL n [] = []
  | 0 => rfl
  | n + 1 => by simp [runesL]
theorem runesL_fuel : ∀ (n m : Nat) (l : List UInt8), l.length ≤ n → l.length ≤ m → runesL n l = runesL m l
  | 0, m, l, hn, _ => by
    have : l = [] := List.eq_nil_of_length_eq_zero (by omega)
    subst this
    rw [runesL_nil, runesL_nil]
  | n + 1, 0, l, _, hm => by
    have : l = [] := List.eq_nil_of_length_eq_zero (by omega)
    subst this
    rw [runesL_nil, runesL_nil]
  | n + 1, m + 1, l, hn, hm => by
    unfold runesL
    by_cases hne : l = []
    · simp [hne]
    · have hw := Lib.decodeL_width l
      have hl : 0 < l.length := List.length_pos_iff.2 hne
      rw [if_neg hne, if_neg hne, runesL_fuel n m (l.drop (Lib.decodeL l).2) (by rw [List.length_drop]; omega) (by rw [List.length_drop]; omega)]

set_option maxRecDepth 100000 in
theorem valid_empty (A : Option Addr) (c : Nat) (w : World) : Calls Tryd.prog 33 #[.slice A 0 c] w fun e w' => e = .returned (.bool true) ∧ Below w.heap.size w w' := by
  go_enter Tryd.func33, Tryd.ntmps33
  go_wp2
  go_loopg [0] 1 (fun gk s0 wx => wx = w ∧ ∃ A : Option Addr, s0 = .slice A 0 0)
  case atStart => exact ⟨rfl, _, rfl⟩
  case round =>
    obtain ⟨rfl, A, rfl⟩ := hrel
    go_wp2
    go_ret
    exact ⟨rfl, Below.refl _ _⟩

theorem cells_of {l : List Int} {w : World} {b off : Nat} (hB : allB l = true) (h : ∀ j, j < l.length → w.cell? ⟨b, off + j, none⟩ = some (.int .u8 (l.getD j 0))) : Cells w b off ⟨(toB l).toArray⟩ := fun j hj => by
  have hj' : j < l.length := by simpa [ByteArray.size, toB_length] using hj
  rw [h j hj', ← toB_get l hB j hj']

theorem valid_any (A : Option Addr) (c : Nat) (l : List Int) (w : World) (hr : Kd.C (Kd.int .u8) w A l.length l) (hc : l.length ≤ c) (hT : Tabs w) (hB : allB l = true) :
    Calls Tryd.prog 33 #[.slice A l.length c] w fun e w' => e = .returned (.bool (Lib.validD (toB l))) ∧ Below w.heap.size w w' := by
  by_cases hne : l = []
  · subst hne
    exact valid_empty A c w
  · obtain ⟨b, off, rfl, hb, hcell⟩ := view hr hne
    have hsz : (⟨(toB l).toArray⟩ : ByteArray).size = l.length := by simp [ByteArray.size, toB_length]
    have h := valid_calls b off c ⟨(toB l).toArray⟩ w (cells_of hB hcell) hb (by rw [hsz]; exact hr.2.1) (by rw [hsz]; exact hc) hT
    rw [hsz] at h
    exact h

theorem rune_le' (s : ByteArray) (pos : Nat) : ((Utf8.decode s pos).1 : Int) ≤ 1114111 := by have := Lib.rune_le s pos; omega
theorem info35 : (Tryd.prog.info? 35).map (fun i => (i.zero, i.size, i.bytes)) = some (some (.int .u32 0), 1, 4) := by kernel_rfl

set_option maxHeartbeats 1000000 in
theorem code_Codes.calls (A0 : Option Addr) (c0 : Nat) (l0 : List Int) (r1 : List Int) (r2 : Int) (w : World) (hr0 : Kd.C (Kd.int .u8) w A0 l0.length l0) (hc0 : l0.length ≤ c0) (hT : Tabs w) (h : code_Codes.f l0 = some (r1, r2)) :
    Calls Tryd.prog 13 #[.slice A0 l0.length c0] w fun e w' => ∃ v0_ : Value, e = .returned (.tuple #[v0_, .int .i64 r2]) ∧ Kd.R (Kd.int .u32) 35 w' w.heap.size (fun _ => True) v0_ r1 ∧ Below w.heap.size w w' := by
  unfold code_Codes.f at h
  split at h
  case isFalse => exact absurd h (by simp)
  case isTrue hB =>
  have cV := valid_any A0 c0 l0 w hr0 hc0 hT hB
  split at h
  case isFalse hv =>
    simp only [Option.some.injEq, Prod.mk.injEq] at h
    obtain ⟨rfl, rfl⟩ := h
    rw [Bool.not_eq_true] at hv
    rw [hv] at cV
    clear hr0 hB hT
    generalize l0.length = n at *
    go_enter Tryd.func13, Tryd.ntmps13
    go_wp2_with (go_at_call 33; refine cV.mono ?_; rintro e w1 ⟨rfl, hb1⟩)
    go_ret2
    exact ⟨_, rfl, Kd.R_nil _ _ _ _ _, hb1⟩
  case isTrue hv =>
  split at h
  case isFalse => exact absurd h (by simp)
  case isTrue hlen =>
  simp only [Option.some.injEq, Prod.mk.injEq] at h
  obtain ⟨hr1, rfl⟩ := h
  rw [hv] at cV
  obtain ⟨s, hs⟩ : ∃ s, strOfNums l0 = s := ⟨_, rfl⟩
  have hsd : s.data.toList = toB l0 := by rw [← hs]; rfl
  have hcv : ∀ w1, Below w.heap.size w w1 → (convert 23 9 (.slice A0 l0.length c0)).run Tryd.prog w1 = .ok (.string s) w1 := fun w1 hb1 => by
    rw [← hs]; exact Kd.C_string (P := Tryd.prog) (A := A0) (c := c0) Tryd.underlying23 Tryd.underlying5 Tryd.underlying9 (Kd.C_below hr0 hb1)
  have hrun : runesL s.data.toList.length s.data.toList = r1 := by rw [hsd, ← hr1]; unfold runesI; rw [toB_length]
  have hmax : s.size ≤ 9223372036854775807 := by rw [← hs, strOfNums_size]; exact hr0.2.1
  have HLEN := Aside0.mk (show r1.length < 35184372088832 by rw [← hr1]; exact hlen)
  have HRUN := Aside0.mk hrun
  clear hr0 hB hT hs hsd hrun hlen hr1 hv
  generalize l0.length = n at *
  have HCV := Aside0.mk hcv
  clear hcv
  go_enter Tryd.func13, Tryd.ntmps13
  go_wp2_with (go_at_call 33; refine cV.mono ?_; rintro e w1 ⟨rfl, hb1⟩; have hcv1 := HCV.out _ hb1)
  clear cV
  have hsz1 := hb1.size
  go_loopw [4] (fun v wr => ∃ (pos b : Nat) (acc : List Int), Aside0 (wr.heap[w1.heap.size]? = some (.stringIter s pos)) ∧ Aside0 ((Kd.int .u32).R 35 wr w.heap.size (fun k => k ≠ w1.heap.size) v acc) ∧ Aside0 (acc ++ runesL b (s.data.toList.drop pos) = r1) ∧ Aside0 (s.size ≤ pos + b) ∧ Aside0 (Below w.heap.size w wr) ∧ Aside0 (w1.heap.size < wr.heap.size)) (fun _ w' => s.size - w'.iterPos w1.heap.size)
  case atStart => exact ⟨0, s.data.toList.length, [], ⟨World.iter_heap _ _ _⟩, ⟨Kd.R_nil _ _ _ _ _⟩, ⟨by rw [List.drop_zero, List.nil_append]; exact HRUN.out⟩, ⟨by rw [Lib.size_eq]; omega⟩, ⟨by exact hb1.alloc hsz1 _⟩, ⟨by simp [World.iter]⟩⟩
  case round =>
    obtain ⟨pos, b, acc, HIT, HOWN, HACC, HB, HBEL, HLT⟩ := hrel
    by_cases hp : pos < s.size
    · have hnx : ∀ ty, (Instr.next (.pointer (some ⟨w1.heap.size, 0, none⟩)) true ty).run Tryd.prog wr = _ := fun ty => Lib.run_next_any_at wr w1.heap.size s pos ty HIT.out hp
      have hd := rune_le' s pos
      have hd0 : (0 : Int) ≤ ((Utf8.decode s pos).1 : Int) := by omega
      have hw := Lib.width_pos s pos
      have hdl := Lib.decodeL_drop s pos
      cases b with
      | zero => exact absurd HB.out (by omega)
      | succ b =>
      have HACC1 : Aside0 ((acc ++ [((Utf8.decode s pos).1 : Int)]) ++ runesL b (s.data.toList.drop (pos + (Utf8.decode s pos).2)) = r1) := ⟨by
        have h := HACC.out
        unfold runesL at h
        rw [if_neg (by intro h0; have := congrArg List.length h0; rw [List.length_drop, ← Lib.size_eq] at this; simp at this; omega), hdl, List.drop_drop] at h
        rw [List.append_assoc]
        exact h⟩
      have HIT1 : Aside0 ((wr.iterAt w1.heap.size s (pos + (Utf8.decode s pos).2)).heap[w1.heap.size]? = some (.stringIter s (pos + (Utf8.decode s pos).2))) := ⟨Lib.iterAt_heap _ _ _ _ _ HIT.out⟩
      have HOWN1 : Aside0 ((Kd.int .u32).R 35 (wr.iterAt w1.heap.size s (pos + (Utf8.decode s pos).2)) w.heap.size (fun k => k ≠ w1.heap.size) u4 acc) := ⟨Kd.R_move HOWN.out (fun k hk => Lib.iterAt_other _ _ _ _ _ hk)⟩
      have HBEL1 : Aside0 (Below w.heap.size w (wr.iterAt w1.heap.size s (pos + (Utf8.decode s pos).2))) := ⟨Lib.below_iterAt HBEL.out hsz1 _ _⟩
      have HLT1 : Aside0 (w1.heap.size < (wr.iterAt w1.heap.size s (pos + (Utf8.decode s pos).2)).heap.size) := ⟨by rw [Lib.iterAt_size]; exact HLT.out⟩
      have HMEAS : Aside0 (s.size - wr.iterPos w1.heap.size = s.size - pos) := ⟨by unfold World.iterPos; rw [HIT.out]⟩
      have HACCL : Aside0 (acc.length + 1 ≤ 35184372088832) := ⟨by have h1 := congrArg List.length HACC1.out; have h2 := HLEN.out; simp only [List.length_append, List.length_singleton] at h1; omega⟩
      clear hdl HIT HOWN HACC HBEL HLT HCV HLEN HRUN hcv1 hb1
      have HB1 : Aside0 (s.size ≤ pos + (Utf8.decode s pos).2 + b) := ⟨by have := HB.out; omega⟩
      have HW : Aside0 (pos < pos + (Utf8.decode s pos).2) := ⟨by omega⟩
      clear HB hw
      generalize (Utf8.decode s pos).2 = wd at *
      generalize (Utf8.decode s pos).1 = rn at *
      generalize wr.iterAt w1.heap.size s (pos + wd) = W1 at *
      generalize w1.heap.size = K at *
      have HSZ := Aside0.mk hsz1
      have HP := Aside0.mk hp
      have HMX := Aside0.mk hmax
      clear hsz1 hp hmax hc0
      go_wp2_with (at_builtin; refine Kd.R_append (Kd.int .u32) (w0 := w) w.heap.size rfl (.tmp 16) (.tmp 19) 22 35 (.int .u32 0) 4 rfl Tryd.underlying22 info35 rfl (by decide) (by omega) u4 acc (rn : Int) [.int .u32 (rn : Int)] (fun k => k ≠ K) (fun _ => False) rfl rfl ?aP (fun _ hk => hk.elim) ?aF ?aO ?aB ?aS ?aL ?_)
      case aP => exact rfl
      case aF => exact fun k hk => by have := HLT1.out; omega
      case aO => exact HOWN1.out
      case aB => exact HBEL1.out
      case aS => exact HBEL1.out.size
      case aL => have := HACCL.out; omega
      intro v1 w2 ho hb2 hg hat
      have HIT2 : w2.heap[K]? = some (.stringIter s (pos + wd)) := (hg.block K HLT1.out (fun e => HOWN1.out.1 K e.symm rfl)).trans HIT1.out
      have HLT2 : K < w2.heap.size := (Array.getElem?_eq_some_iff.1 HIT2).1
      have HI2 := Aside0.mk HIT2
      have HL2 := Aside0.mk HLT2
      have HO2 := Aside0.mk ho
      have HB2 := Aside0.mk hb2
      clear HIT2 HLT2 ho hb2 hg hat
      go_wp2
      go_roundw
      case rel => exact ⟨pos + wd, b, acc ++ [(rn : Int)], HI2, HO2, HACC1, HB1, HB2, HL2⟩
      case measure => rw [HMEAS.out, show w2.iterPos K = pos + wd from by unfold World.iterPos; rw [HI2.out]]; have := HW.out; have := HP.out; omega
    · have hnx : ∀ ty, (Instr.next (.pointer (some ⟨w1.heap.size, 0, none⟩)) true ty).run Tryd.prog wr = _ := fun ty => Lib.run_next_end_at wr w1.heap.size s pos ty HIT.out hp
      have hfin : acc = r1 := by
        have h := HACC.out
        rw [List.drop_eq_nil_of_le (by rw [← Lib.size_eq]; omega), runesL_nil, List.append_nil] at h
        exact h
      subst hfin
      clear HIT HACC HCV hcv1
      go_wp2
      go_ret2
      exact ⟨_, rfl, Kd.R_mono HOWN.out (fun _ _ => trivial), HBEL.out⟩
end Go.Proofs.YtnaaimnmphcilaaDoor.Hand
