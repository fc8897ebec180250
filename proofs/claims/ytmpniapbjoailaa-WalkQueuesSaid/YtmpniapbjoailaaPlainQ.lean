/- Package walk's laws: what the document's functions Less, Deeper, Text, Queue.Push and Sorted tell. -/
import Derived.Test.YtmpniapbjoailaaPlainW
import Derived.Test.YtmpniapbjoailaaQAx4
namespace Go.Proofs.Ytmpniapbjoailaa.Hand
open Go.RowKit Go.Proofs.Ytmpniapbjoailaa.QA Go.Proofs.YtmpniapbjoailaaW.PrintWords Go.Proofs.YtmpniapbjoailaaW.PrintLast Go.Proofs.YtmpniapbjoailaaW.PrintMore
set_option linter.unusedVariables false
set_option linter.unusedSimpArgs false

theorem ref14_loop (l0 l1 : List ByteArray) (hl : l0.length ≤ 9223372036854775806) : ∀ (d k i : Nat), l0.length - i ≤ d → 2 * d + 2 ≤ k → i ≤ l0.length → i ≤ l1.length →
    gessoref14_Less.l0 k l0 l1 (i : Int) = some (pl (l0.drop i) (l1.drop i)) := by
  intro d
  induction d with
  | zero =>
    intro k i hd hk h0 h1
    obtain ⟨k, rfl⟩ : ∃ m, k = m + 1 + 1 := ⟨k - 2, by omega⟩
    have hi : i = l0.length := by omega
    rw [gessoref14_Less.l0, if_neg (by omega), gessoref14_Less.j1, if_neg (by decide), List.drop_eq_nil_iff.2 (show l0.length ≤ i by omega)]
    congr 1
    by_cases h : l0.length < l1.length
    · rw [rd_drop (show i < l1.length by omega)]
      simp [pl, lexL, h]
    · rw [List.drop_eq_nil_iff.2 (show l1.length ≤ i by omega)]
      simp [pl, lexL, h]
  | succ d ih =>
    intro k i hd hk h0 h1
    obtain ⟨k, rfl⟩ : ∃ m, k = m + 1 + 1 := ⟨k - 2, by omega⟩
    by_cases hi : i = l0.length
    · rw [gessoref14_Less.l0, if_neg (by omega), gessoref14_Less.j1, if_neg (by decide), List.drop_eq_nil_iff.2 (show l0.length ≤ i by omega)]
      congr 1
      by_cases h : l0.length < l1.length
      · rw [rd_drop (show i < l1.length by omega)]
        simp [pl, lexL, h]
      · rw [List.drop_eq_nil_iff.2 (show l1.length ≤ i by omega)]
        simp [pl, lexL, h]
    · have hlt : i < l0.length := by omega
      rw [gessoref14_Less.l0, if_pos (by omega), gessoref14_Less.j1, rd_drop hlt]
      by_cases h : i = l1.length
      · rw [if_neg (by simp [h]), List.drop_eq_nil_iff.2 (show l1.length ≤ i by omega)]
        congr 1
        simp [pl, lexL]
        omega
      · have hlt1 : i < l1.length := by omega
        rw [if_pos (by simpa using hlt1), if_pos (by omega), if_pos (by omega), if_pos (by omega), rd_drop hlt1]
        by_cases h2 : rdOf ByteArray.empty l0 (i : Int) = rdOf ByteArray.empty l1 (i : Int)
        · rw [if_pos (by rw [h2]), wrap_small (by omega) (by omega)]
          have := ih k (i + 1) (by omega) (by omega) (by omega) (by omega)
          rw [show ((i + 1 : Nat) : Int) = (i : Int) + 1 from by omega] at this
          rw [this, h2]
          simp [pl, lexL, nl_sto.irr]
        · rw [if_neg (fun e => h2 (toList_inj e))]
          simp [pl, lexL, nl, h2]
theorem ref14_f (k : Nat) (l0 l1 : List ByteArray) (hl : l0.length ≤ 9223372036854775806) (hk : 2 * l0.length + 2 ≤ k) : gessoref14_Less.f k l0 l1 = some (pl l0 l1) := by
  unfold gessoref14_Less.f
  have := ref14_loop l0 l1 hl l0.length k 0 (by omega) hk (by omega) (by omega)
  simpa using this
theorem refless_f (k : Nat) (l0 l1 : List ByteArray) (hl : l0.length ≤ 9223372036854775806) (hk : 2 * l0.length + 2 ≤ k) : gessoref15_Less.f k l0 l1 = some (pl l0 l1) := by
  unfold gessoref15_Less.f
  rw [ref14_f k l0 l1 hl hk]
  rfl
theorem refdeeper_f (k : Nat) (l0 l1 : List ByteArray) (hl : l0.length ≤ 9223372036854775806) (hk : 2 * l0.length + 2 ≤ k) : gessoref15_Deeper.f k l0 l1 = some (lt true l0 l1) := by
  unfold gessoref15_Deeper.f lt
  rw [if_pos rfl]
  by_cases h : l0.length = l1.length
  · rw [if_pos (by omega), if_pos h, refless_f k l0 l1 hl hk]; rfl
  · rw [if_neg (by omega), if_neg h]
    congr 1
    rw [Bool.eq_iff_iff, decide_eq_true_eq, decide_eq_true_eq]; omega
theorem before_f (k : Nat) (deep : Bool) (L : List (List ByteArray)) (l0 l1 : List ByteArray) (hl : l0.length ≤ 9223372036854775806) (hk : 2 * l0.length + 2 ≤ k) : gessoref15_Queue_before.f k deep L l0 l1 = some (lt deep l0 l1) := by
  unfold gessoref15_Queue_before.f
  cases deep
  · rw [if_neg (by decide), refless_f k l0 l1 hl hk]; rfl
  · rw [if_pos rfl, refdeeper_f k l0 l1 hl hk]; rfl

/-- A path put in ahead of the first that is not below it. -/
def ins (deep : Bool) : List (List ByteArray) → List ByteArray → List (List ByteArray)
  | [], p => [p]
  | x :: L, p => if lt deep x p = true then x :: ins deep L p else p :: x :: L
theorem ins_length (deep : Bool) (p : List ByteArray) : ∀ L, (ins deep L p).length = L.length + 1
  | [] => rfl
  | x :: L => by
    unfold ins
    split
    · simp [ins_length deep p L]
    · simp
theorem ins_perm (deep : Bool) (p : List ByteArray) : ∀ L, (ins deep L p).Perm (p :: L)
  | [] => List.Perm.refl _
  | x :: L => by
    unfold ins
    split
    · exact ((ins_perm deep p L).cons x).trans (List.Perm.swap p x L)
    · exact List.Perm.refl _
def Srt (deep : Bool) (L : List (List ByteArray)) : Prop := L.Pairwise (fun x y => lt deep y x = false)
theorem ins_sorted (deep : Bool) (p : List ByteArray) : ∀ L, Srt deep L → Srt deep (ins deep L p)
  | [], _ => List.pairwise_singleton _ _
  | x :: L, h => by
    obtain ⟨h1, h2⟩ := List.pairwise_cons.1 h
    unfold ins
    by_cases hx : lt deep x p = true
    · rw [if_pos hx]
      refine List.pairwise_cons.2 ⟨fun y hy => ?_, ins_sorted deep p L h2⟩
      rcases List.mem_cons.1 ((ins_perm deep p L).mem_iff.1 hy) with rfl | hy
      · exact (lt_sto deep).asym hx
      · exact h1 y hy
    · rw [if_neg hx]
      have hx' : lt deep x p = false := by simpa using hx
      refine List.pairwise_cons.2 ⟨fun y hy => ?_, h⟩
      rcases List.mem_cons.1 hy with rfl | hy
      · exact hx'
      · exact (lt_sto deep).ntr hx' (h1 y hy)
theorem push_loop (deep : Bool) (L : List (List ByteArray)) (p : List ByteArray) (M : Nat) (hL : L.length < 1000000000) (hp : p.length < 1000000000) (hM : ∀ x ∈ L, x.length ≤ M) (hM2 : M < 1000000000) : ∀ (d k i : Nat), L.length - i ≤ d → d + 2 * M + 4 ≤ k → i ≤ L.length →
    gessoref15_Queue_Push.l0 k p (i : Int) deep L = some (deep, L.take i ++ ins deep (L.drop i) p) := by
  intro d
  induction d with
  | zero =>
    intro k i hd hk h0
    obtain ⟨k, rfl⟩ : ∃ m, k = m + 1 := ⟨k - 1, by omega⟩
    have hi : i = L.length := by omega
    rw [gessoref15_Queue_Push.l0, if_neg (by omega), if_pos (by omega), if_pos (by omega)]
    simp only [Option.bind_some, List.nil_append, List.length_nil, Int.toNat_natCast, List.length_append, List.length_take, List.length_drop, List.length_cons]
    rw [if_pos (by omega), if_pos (by omega), if_pos (by omega), if_pos (by omega), List.drop_eq_nil_iff.2 (show L.length ≤ i by omega)]
    simp [ins]
  | succ d ih =>
    intro k i hd hk h0
    obtain ⟨k, rfl⟩ : ∃ m, k = m + 1 := ⟨k - 1, by omega⟩
    by_cases hi : i = L.length
    · rw [gessoref15_Queue_Push.l0, if_neg (by omega), if_pos (by omega), if_pos (by omega)]
      simp only [Option.bind_some, List.nil_append, List.length_nil, Int.toNat_natCast, List.length_append, List.length_take, List.length_drop, List.length_cons]
      rw [if_pos (by omega), if_pos (by omega), if_pos (by omega), if_pos (by omega), List.drop_eq_nil_iff.2 (show L.length ≤ i by omega)]
      simp [ins]
    · have h1 : i < L.length := by omega
      have hx := hM _ (rd2_mem h1)
      rw [gessoref15_Queue_Push.l0, if_pos (by omega), if_pos (by omega), before_f k deep L _ p (by omega) (by omega), Option.bind_some]
      by_cases h : lt deep (rd_L2 L (i : Int)) p = true
      · rw [if_pos h, wrap_small (by omega) (by omega)]
        have := ih k (i + 1) (by omega) (by omega) (by omega)
        rw [show ((i + 1 : Nat) : Int) = (i : Int) + 1 from by omega] at this
        rw [this, rd2_drop h1, ins, if_pos h, ← rd_take h1, List.append_assoc]
        rfl
      · rw [if_neg h, if_pos (by omega)]
        simp only [Option.bind_some, List.nil_append, List.length_nil, Int.toNat_natCast, List.length_append, List.length_take, List.length_drop, List.length_cons]
        rw [if_pos (by omega), if_pos (by omega), if_pos (by omega), if_pos (by omega), rd2_drop h1, ins, if_neg h]
        simp
theorem push_f (k : Nat) (deep : Bool) (L : List (List ByteArray)) (p : List ByteArray) (M : Nat) (hL : L.length < 1000000000) (hp : p.length < 1000000000) (hM : ∀ x ∈ L, x.length ≤ M) (hM2 : M < 1000000000) (hk : L.length + 2 * M + 4 ≤ k) : gessoref15_Queue_Push.f k deep L p = some (deep, ins deep L p) := by
  unfold gessoref15_Queue_Push.f
  have := push_loop deep L p M hL hp hM hM2 L.length k 0 (by omega) hk (by omega)
  simpa using this
/-- All put in, one behind the other. -/
def insAll (deep : Bool) (ps L : List (List ByteArray)) : List (List ByteArray) := ps.foldl (ins deep) L
theorem insAll_perm (deep : Bool) : ∀ (ps L : List (List ByteArray)), (insAll deep ps L).Perm (ps ++ L)
  | [], L => List.Perm.refl _
  | p :: ps, L => (insAll_perm deep ps (ins deep L p)).trans (((ins_perm deep p L).append_left ps).trans List.perm_middle)
theorem insAll_sorted (deep : Bool) : ∀ (ps L : List (List ByteArray)), Srt deep L → Srt deep (insAll deep ps L)
  | [], L, h => h
  | p :: ps, L, h => insAll_sorted deep ps (ins deep L p) (ins_sorted deep p L h)
theorem refsorted_loop (deep : Bool) (ps : List (List ByteArray)) (M : Nat) (hL : ps.length < 100000000) (hM : ∀ x ∈ ps, x.length ≤ M) (hM2 : M < 1000000000) : ∀ (d k i : Nat) (L : List (List ByteArray)), ps.length - i ≤ d → L.length = i → (∀ x ∈ L, x.length ≤ M) → d + ps.length + 2 * M + 5 ≤ k → i ≤ ps.length →
    gessoref15_Sorted.l0 k ps (i : Int) deep L = some (insAll deep (ps.drop i) L) := by
  intro d
  induction d with
  | zero =>
    intro k i L hd hLi hLM hk h0
    obtain ⟨k, rfl⟩ : ∃ m, k = m + 1 := ⟨k - 1, by omega⟩
    rw [gessoref15_Sorted.l0, if_neg (by omega), List.drop_eq_nil_iff.2 (by omega)]
    rfl
  | succ d ih =>
    intro k i L hd hLi hLM hk h0
    obtain ⟨k, rfl⟩ : ∃ m, k = m + 1 := ⟨k - 1, by omega⟩
    by_cases hi : i = ps.length
    · rw [gessoref15_Sorted.l0, if_neg (by omega), List.drop_eq_nil_iff.2 (by omega)]
      rfl
    · have h1 : i < ps.length := by omega
      have hx := hM _ (rd2_mem h1)
      rw [gessoref15_Sorted.l0, if_pos (by omega), if_pos (by omega), push_f k deep L _ M (by omega) (by omega) hLM hM2 (by omega), Option.bind_some, wrap_small (by omega) (by omega), rd2_drop h1]
      have := ih k (i + 1) (ins deep L (rd_L2 ps (i : Int))) (by omega) (by rw [ins_length, hLi]) (fun x hx' => by
        rcases List.mem_cons.1 ((ins_perm deep _ L).mem_iff.1 hx') with rfl | h
        · exact hx
        · exact hLM x h) (by omega) (by omega)
      rw [show ((i + 1 : Nat) : Int) = (i : Int) + 1 from by omega] at this
      rw [this]
      rfl
theorem refsorted_f (k : Nat) (deep : Bool) (ps : List (List ByteArray)) (M : Nat) (hL : ps.length < 100000000) (hM : ∀ x ∈ ps, x.length ≤ M) (hM2 : M < 1000000000) (hk : 2 * ps.length + 2 * M + 5 ≤ k) : gessoref15_Sorted.f k ps deep = some (insAll deep ps []) := by
  unfold gessoref15_Sorted.f
  have := refsorted_loop deep ps M hL hM hM2 ps.length k 0 [] (by omega) rfl (by simp) (by omega) (by omega)
  simpa using this
theorem insAll_sortedOf (deep : Bool) (ps : List (List ByteArray)) : SortedOf deep ps (insAll deep ps []) := by
  refine ⟨?_, insAll_sorted deep ps [] List.Pairwise.nil⟩
  have := insAll_perm deep ps []
  rwa [List.append_nil] at this
theorem sortedOf_eq {deep : Bool} {ps out : List (List ByteArray)} (h : SortedOf deep ps out) : out = insAll deep ps [] := sorted_eq h (insAll_sortedOf deep ps).1 (insAll_sortedOf deep ps).2
/-- What a queue tells is what a sorted list begins with. -/
theorem pop_first {deep : Bool} {p x : List ByteArray} {es cs R : List (List ByteArray)} (h1 : (p :: es).Perm cs) (h2 : cs.Perm (x :: R)) (h3 : ∀ y ∈ es, lt deep y p = false) (h4 : Srt deep (x :: R)) : p = x ∧ es.Perm R := by
  have h := h1.trans h2
  have e : p = x := by
    rcases List.mem_cons.1 (h.mem_iff.1 (List.mem_cons_self ..)) with e | hp
    · exact e
    · rcases List.mem_cons.1 (h.mem_iff.2 (List.mem_cons_self ..)) with e | hx
      · exact e.symm
      · exact (lt_sto deep).tri _ _ ((List.pairwise_cons.1 h4).1 p hp) (h3 x hx)
  subst e
  exact ⟨rfl, List.Perm.cons_inv h⟩

/-! ### Text -/
theorem ba_append (a b : ByteArray) : (a ++ b).data.toList = a.data.toList ++ b.data.toList := by
  rw [ByteArray.data_append, Array.toList_append]
def tailOf (l : List ByteArray) : List UInt8 := (l.map fun s => 47 :: s.data.toList).flatten
theorem text_loop (l : List ByteArray) (B : Nat) (hl : l.length ≤ 1000000000) (hB : B ≤ 1000000000) (hT : (tailOf l).length ≤ B) : ∀ (d k i : Nat) (s : ByteArray), l.length - i ≤ d → d + 1 ≤ k → i ≤ l.length → s.data.toList ++ tailOf (l.drop i) = tailOf l → 
    ∃ r, gessoref15_Text.l0 k l s (i : Int) = some r ∧ r.data.toList = (if tailOf l = [] then [47] else tailOf l) := by
  intro d
  induction d with
  | zero =>
    intro k i s hd hk h0 hs
    obtain ⟨k, rfl⟩ : ∃ m, k = m + 1 := ⟨k - 1, by omega⟩
    rw [List.drop_eq_nil_iff.2 (show l.length ≤ i by omega)] at hs
    have hs' : s.data.toList = tailOf l := by simpa [tailOf] using hs
    rw [gessoref15_Text.l0, if_neg (by omega), ByteArray.toList_eq, hs']
    split
    · exact ⟨_, rfl, rfl⟩
    · exact ⟨_, rfl, hs'⟩
  | succ d ih =>
    intro k i s hd hk h0 hs
    obtain ⟨k, rfl⟩ : ∃ m, k = m + 1 := ⟨k - 1, by omega⟩
    by_cases hi : i = l.length
    · rw [List.drop_eq_nil_iff.2 (show l.length ≤ i by omega)] at hs
      have hs' : s.data.toList = tailOf l := by simpa [tailOf] using hs
      rw [gessoref15_Text.l0, if_neg (by omega), ByteArray.toList_eq, hs']
      split
      · exact ⟨_, rfl, rfl⟩
      · exact ⟨_, rfl, hs'⟩
    · have h1 : i < l.length := by omega
      have hc : tailOf (l.drop i) = 47 :: (rdOf ByteArray.empty l (i : Int)).data.toList ++ tailOf (l.drop (i + 1)) := by
        rw [rd_drop h1]; simp [tailOf]
      rw [hc] at hs
      have hlen := congrArg List.length hs
      have e1 : s.data.toList.length = s.size := Array.length_toList
      have e2 : (rdOf ByteArray.empty l (i : Int)).data.toList.length = (rdOf ByteArray.empty l (i : Int)).size := Array.length_toList
      have e3 : (s ++ (⟨#[47]⟩ : ByteArray)).size = s.size + 1 := by rw [ByteArray.size_append]; rfl
      rw [List.length_append, List.length_append, List.length_cons, e1, e2] at hlen
      rw [gessoref15_Text.l0, if_pos (by omega), if_pos (by omega), if_pos (by omega), e3, if_pos (by omega), wrap_small (by omega) (by omega)]
      have := ih k (i + 1) ((s ++ (⟨#[47]⟩ : ByteArray)) ++ (rdOf ByteArray.empty l (i : Int))) (by omega) (by omega) (by omega) (by
        rw [ba_append, ba_append, ← hs]
        simp)
      rw [show ((i + 1 : Nat) : Int) = (i : Int) + 1 from by omega] at this
      exact this
theorem join_tail (l : List ByteArray) : (if tailOf l = [] then [47] else tailOf l) = 47 :: joinOf l := by
  cases l with
  | nil => rfl
  | cons x l =>
    have h : tailOf (x :: l) = 47 :: joinOf (x :: l) := by
      unfold joinOf tailOf
      rw [List.map_cons, List.map_cons, Lib.join_cons]
      simp only [List.flatten_cons, Lib.joinTail, List.map_map, List.cons_append]
      rfl
    rw [h]
    rfl
theorem tail_le (l : List ByteArray) : (joinOf l).length + 1 ≤ (tailOf l).length + 1 := by
  have := congrArg List.length (join_tail l)
  rw [List.length_cons] at this
  split at this
  · simp only [List.length_cons, List.length_nil] at this; omega
  · omega
theorem tail_sum (l : List ByteArray) : (tailOf l).length = (l.map fun s => s.size + 1).sum := by
  unfold tailOf
  rw [List.length_flatten, List.map_map]
  rfl
theorem reftext_f (k : Nat) (l : List ByteArray) (hl : l.length ≤ 1000000000) (hT : (l.map fun s => s.size + 1).sum ≤ 1000000000) (hk : l.length + 1 ≤ k) : gessoref15_Text.f k l = some (textOf l) := by
  unfold gessoref15_Text.f
  obtain ⟨r, h1, h2⟩ := text_loop l 1000000000 hl (Nat.le_refl _) (by rw [tail_sum]; exact hT) l.length k 0 ⟨#[]⟩ (by omega) hk (by omega) rfl
  rw [show ((0 : Nat) : Int) = 0 from rfl] at h1
  rw [h1]
  congr 1
  apply toList_inj
  rw [ByteArray.toList_eq, ByteArray.toList_eq, h2, join_tail]
  unfold textOf
  rw [ba_append]
  simp
theorem joinOf_le (l : List ByteArray) (hT : (l.map fun s => s.size + 1).sum ≤ 1000000000) : (joinOf l).length ≤ 281474976710656 := by
  have h1 := tail_le l
  rw [tail_sum] at h1
  omega
end Go.Proofs.Ytmpniapbjoailaa.Hand
