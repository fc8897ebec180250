/- The plain side of the statements of layer 1: what the reference's and the code's functions tell of bytes and of code points. -/
import Derived.Test.YtnaaimnmphcilaaDoorQAx5
import Derived.Test.YtnaaimnmphcilaaDoorPlain2
namespace Go.Proofs.YtnaaimnmphcilaaDoor.PureA
open Go.RowKit Go.Proofs.YtnaaimnmphcilaaDoor.Hand Go.Proofs.YtnaaimnmphcilaaDoor.QA Go.Proofs.YtnaaimnmphcilaaDoorW.PrintWords Go.Proofs.YtnaaimnmphcilaaDoorW.PrintLast
set_option linter.unusedVariables false
set_option linter.unusedSimpArgs false

theorem wrap_small {i : Int} (h0 : 0 ≤ i) (h1 : i < 9223372036854775807) : wrap64 (i + 1) = i + 1 := by unfold wrap64; omega
theorem wrap_id {i : Int} (h0 : 0 ≤ i) (h1 : i ≤ 9223372036854775807) : wrap64 i = i := by unfold wrap64; omega
theorem rd_nat (l : List Int) (j : Nat) (h : j < l.length) : rd l (j : Int) = l[j] := by simp [rd, h]
theorem bytes_eq {a b : List Int} (ha : allB a = true) (hb : allB b = true) : ((strOfNums a).toList = (strOfNums b).toList) ↔ a = b := by
  rw [ByteArray.toList_eq, ByteArray.toList_eq]
  constructor
  · intro h
    rw [strOfNums_data, strOfNums_data] at h
    have hl := congrArg List.length h
    simp at hl
    apply List.ext_getElem hl
    intro i h1 h2
    have hi := congrArg (fun l => l[i]?) h
    simp [h1, h2] at hi
    have hx := allB_mem ha (a[i]) (List.getElem_mem h1)
    have hy := allB_mem hb (b[i]) (List.getElem_mem h2)
    have := congrArg UInt8.toNat hi
    simp at this
    omega
  · rintro rfl; rfl

/-! ### code.point, Width, Put, Bytes -/
theorem valid_rune (k : Nat) (c : Int) : utf8_ValidRune.f (k + 1) c = some (decide (Pt c)) := by
  unfold utf8_ValidRune.f
  simp only [utf8_ValidRune.j0]
  unfold Pt
  by_cases h0 : 0 ≤ c
  · rw [if_pos h0]
    by_cases h1 : c < 55296
    · simp [h0, h1]
    · by_cases h2 : 57343 < c
      · by_cases h3 : c ≤ 1114111 <;> simp [h0, h1, h2, h3]
      · simp [h1, h2]
  · rw [if_neg h0]
    by_cases h2 : 57343 < c
    · omega
    · simp [h0, h2]
theorem point_f (k : Nat) (c : Int) (h0 : 0 ≤ c) : code_point.f (k + 1) c = some (if c > 1114111 then 0 else c, decide (Pt c)) := by
  unfold code_point.f
  by_cases h : c > 1114111
  · rw [if_pos h, if_pos h]
    have : ¬ Pt c := by unfold Pt; omega
    simp [this]
  · rw [if_neg h, if_neg h]
    have hw : wrap32 c = c := by unfold wrap32; omega
    rw [hw, valid_rune]
    rfl
theorem width_f (k : Nat) (c : Int) (h0 : 0 ≤ c) : code_Width.f (k + 1) c = some (if Pt c then ((widI c : Nat) : Int) else 0) := by
  unfold code_Width.f
  rw [point_f k c h0]
  simp only [Option.bind_some]
  by_cases hp : Pt c
  · have hn : ¬ c > 1114111 := by unfold Pt at hp; omega
    simp only [hp, decide_true, if_true, if_neg hn]
    unfold utf8_RuneLen.f
    rw [if_neg (by omega)]
    unfold widI
    by_cases h1 : c ≤ 127
    · rw [if_pos h1, if_pos (show c < 128 by omega)]; rfl
    · rw [if_neg h1, if_neg (show ¬ c < 128 by omega)]
      by_cases h2 : c ≤ 2047
      · rw [if_pos h2, if_pos (show c < 2048 by omega)]; rfl
      · rw [if_neg h2, if_neg (show ¬ c < 2048 by omega)]
        simp only [utf8_RuneLen.j0]
        unfold Pt at hp
        by_cases h3 : 55296 ≤ c
        · rw [if_pos h3]
          have h4 : ¬ c ≤ 57343 := by omega
          by_cases h5 : c ≤ 65535
          · rw [if_pos (show c < 65536 by omega)]; simp [h4, h5]
          · have h6 : c ≤ 1114111 := by omega
            rw [if_neg (show ¬ c < 65536 by omega)]; simp [h4, h5, h6]
        · rw [if_neg h3]
          have h5 : c ≤ 65535 := by omega
          rw [if_pos (show c < 65536 by omega)]; simp [h5]
  · simp [hp]

theorem or192 : ∀ x : Fin 32, bits .or .u8 192 ((x.val : Nat) : Int) = 192 + ((x.val : Nat) : Int) := by decide
theorem or224 : ∀ x : Fin 16, bits .or .u8 224 ((x.val : Nat) : Int) = 224 + ((x.val : Nat) : Int) := by decide
theorem or240 : ∀ x : Fin 8, bits .or .u8 240 ((x.val : Nat) : Int) = 240 + ((x.val : Nat) : Int) := by decide
theorem or192' {x : Int} (h0 : 0 ≤ x) (h1 : x < 32) : bits .or .u8 192 x = 192 + x := by
  obtain ⟨n, rfl⟩ := Int.eq_ofNat_of_zero_le h0
  exact or192 ⟨n, by omega⟩
theorem or224' {x : Int} (h0 : 0 ≤ x) (h1 : x < 16) : bits .or .u8 224 x = 224 + x := by
  obtain ⟨n, rfl⟩ := Int.eq_ofNat_of_zero_le h0
  exact or224 ⟨n, by omega⟩
theorem or240' {x : Int} (h0 : 0 ≤ x) (h1 : x < 8) : bits .or .u8 240 x = 240 + x := by
  obtain ⟨n, rfl⟩ := Int.eq_ofNat_of_zero_le h0
  exact or240 ⟨n, by omega⟩

theorem append_f (k : Nat) (l : List Int) (c : Int) (hp : Pt c) (hl : l.length + 4 < 140737488355328) : utf8_AppendRune.f (k + 1) l c = some (l ++ putI c) := by
  have hc := hp
  unfold Pt at hc
  have hm : c % 4294967296 = c := by omega
  unfold utf8_AppendRune.f
  rw [hm]
  by_cases h1 : c ≤ 127
  · rw [if_pos h1, if_pos (by omega), putI_1 hp (by omega), show c % 256 = c by omega]
  · rw [if_neg h1]
    unfold utf8_appendRuneNonASCII.f
    rw [hm]
    by_cases h2 : c ≤ 2047
    · rw [if_pos h2, putI_2 hp (by omega) (by omega), show c / 64 % 256 = c / 64 by omega, or192' (by omega) (by omega)]
      simp only [Option.bind_some, List.length_cons, List.length_nil]
      rw [if_pos (by omega)]
      rfl
    · rw [if_neg h2]
      simp only [utf8_appendRuneNonASCII.j0]
      by_cases h3 : c < 55296
      · rw [if_pos h3, putI_3 hp (by omega) (by omega), show c / 4096 % 256 = c / 4096 by omega, or224' (by omega) (by omega)]
        simp only [h3, decide_true, if_true, Option.bind_some, List.length_cons, List.length_nil]
        rw [if_pos (by omega)]
        rfl
      · rw [if_neg h3, if_pos (by omega)]
        by_cases h4 : c ≤ 65535
        · rw [putI_3 hp (by omega) (by omega), show c / 4096 % 256 = c / 4096 by omega, or224' (by omega) (by omega)]
          simp only [h4, decide_true, if_true, Option.bind_some, List.length_cons, List.length_nil]
          rw [if_pos (by omega)]
          rfl
        · rw [putI_4 hp (by omega), show c / 262144 % 256 = c / 262144 by omega, or240' (by omega) (by omega)]
          have h5 : c > 65535 := by omega
          have h6 : c ≤ 1114111 := by omega
          simp only [h4, h5, h6, decide_false, if_true, if_false, Option.bind_some, List.length_cons, List.length_nil, Bool.false_eq_true]
          rw [if_pos (by omega)]
          rfl

theorem bytes_loop (L rest : List Int) : ∀ (pre : List Int) (k : Nat), L = pre ++ rest → rest.length + 3 ≤ k → L.length * 4 ≤ 140737488351232 → (∀ x ∈ L, 0 ≤ x) →
    code_Bytes.l0 k (layI pre) L (L.length : Int) (pre.length : Int) = some (if AllPt rest then (layI L, 0) else ([], 2)) := by
  induction rest with
  | nil =>
    intro pre k hL hk hl h0
    obtain ⟨k, rfl⟩ : ∃ m, k = m + 1 := ⟨k - 1, by omega⟩
    rw [List.append_nil] at hL
    subst hL
    rw [code_Bytes.l0, if_neg (by omega), if_pos (show AllPt [] from fun _ h => by cases h)]
  | cons c rest ih =>
    intro pre k hL hk hl h0
    simp only [List.length_cons] at hk
    obtain ⟨k, rfl⟩ : ∃ m, k = m + 2 := ⟨k - 2, by omega⟩
    have hlen : L.length = pre.length + rest.length + 1 := by rw [hL]; simp; omega
    have hrd : rd L (pre.length : Int) = c := by rw [rd_nat _ _ (by omega)]; simp [hL]
    have hc0 : 0 ≤ c := h0 c (by rw [hL]; simp)
    have hi := ih (pre ++ [c]) (k + 1) (by rw [hL]; simp) (by omega) hl h0
    rw [code_Bytes.l0, if_pos (by omega), if_pos (by omega), if_pos (by omega), hrd, point_f k c hc0, Option.bind_some]
    by_cases hp : Pt c
    · have hn : ¬ c > 1114111 := by unfold Pt at hp; omega
      have h4 := (layI_len pre).2
      have ha := append_f k (layI pre) c hp (by omega)
      have e : layI (pre ++ [c]) = layI pre ++ putI c := by rw [layI_append]; simp [layI]
      have e2 : (((pre ++ [c]).length : Nat) : Int) = (pre.length : Int) + 1 := by simp
      rw [e, e2] at hi
      have hall : AllPt (c :: rest) ↔ AllPt rest := ⟨fun h x hx => h x (by simp [hx]), fun h x hx => by rcases List.mem_cons.1 hx with rfl | hx; exact hp; exact h x hx⟩
      simp only [hp, decide_true, if_true, if_neg hn]
      rw [ha, Option.bind_some, wrap_small (by omega) (by omega), hi]
      simp only [hall]
    · simp only [hp, decide_false, Bool.false_eq_true, if_false]
      rw [if_neg (fun h => hp (h c (by simp)))]
theorem bytes_f (l : List Int) (k : Nat) (hk : l.length + 3 ≤ k) (hl : l.length * 4 ≤ 140737488351232) (h0 : ∀ x ∈ l, 0 ≤ x) : code_Bytes.f k l = some (if AllPt l then (layI l, 0) else ([], 2)) :=
  bytes_loop l l [] k rfl hk hl h0

/-! ### code.Fault -/
theorem fault_loop : ∀ (n : Nat) (rest pre : List Int) (k : Nat), rest.length ≤ n → rest.length + 1 ≤ k → allB rest = true → (pre ++ rest).length ≤ 9223372036854775807 →
    code_Fault.l0 k (pre ++ rest) (pre.length : Int) = some (faultL n rest pre.length)
  | n, [], pre, k, hn, hk, hB, hl => by
    obtain ⟨k, rfl⟩ : ∃ m, k = m + 1 := ⟨k - 1, by omega⟩
    simp only [code_Fault.l0, List.append_nil]
    rw [if_neg (by omega)]
    cases n <;> simp [faultL]
  | 0, c :: rest, pre, k, hn, hk, hB, hl => by simp at hn
  | n + 1, c :: rest, pre, k, hn, hk, hB, hl => by
    obtain ⟨k, rfl⟩ : ∃ m, k = m + 1 := ⟨k - 1, by omega⟩
    have hlen : (pre ++ c :: rest).length = pre.length + (c :: rest).length := by simp
    have hpos : 0 < (c :: rest).length := by simp
    rw [code_Fault.l0, if_pos (by omega), if_pos (by omega), if_pos (by omega), Int.toNat_natCast, List.drop_left]
    generalize hr : c :: rest = r at *
    have hne : r ≠ [] := by rw [← hr]; simp
    have h1 : code_One.f r = some (oneI r) := by unfold code_One.f; rw [if_pos ⟨hne, allB_take hB 4⟩]
    rw [h1]
    simp only [Option.bind_some]
    unfold faultL
    rw [if_neg hne]
    have hw := decI_width hB
    unfold oneI
    by_cases hg : Hand.Good (decI r)
    · rw [if_pos hg, if_neg hg]
      simp only
      obtain ⟨x, hx, hd, ht, hle⟩ := dec_good_I hne (allB_take hB 4) hg
      have hdw : (decI r).2 = widI x := by rw [hd]
      rw [if_neg (by omega), wrap_id (by omega) (by omega)]
      have := fault_loop n (r.drop (decI r).2) (pre ++ r.take (decI r).2) k (by rw [List.length_drop]; omega) (by rw [List.length_drop]; omega) (allB_drop hB _) (by rw [List.append_assoc, List.take_append_drop]; exact hl)
      rw [List.append_assoc, List.take_append_drop, List.length_append, List.length_take, show min (decI r).2 r.length = (decI r).2 by omega, Int.natCast_add] at this
      exact this
    · rw [if_neg hg, if_pos (Classical.not_not.1 hg)]
      simp
theorem fault_f (l : List Int) (k : Nat) (hk : l.length + 1 ≤ k) (hB : allB l = true) (hl : l.length ≤ 9223372036854775807) : code_Fault.f k l = some (faultI l) := by
  have := fault_loop l.length l [] k (Nat.le_refl _) hk hB (by simpa using hl)
  unfold code_Fault.f faultI
  simpa using this

theorem awake_f : ∀ k, 10 ≤ k → gessolaw01_awake.f k = some true := by
  have h : gessolaw01_awake.f 10 = some true := by decide +kernel
  intro k hk
  induction k with
  | zero => omega
  | succ k ih =>
    by_cases e : k + 1 = 10
    · rw [e]; exact h
    · exact gessolaw01_awake.mono _ _ (ih (by omega))

theorem same_loop : ∀ (rest pre : List Int) (k : Nat), rest.length + 1 ≤ k → (pre ++ rest).length ≤ 9223372036854775806 → gessoref01_Same.l0 k (pre ++ rest) (pre ++ rest) (pre.length : Int) = some true
  | [], pre, k, hk, hl => by
    obtain ⟨k, rfl⟩ : ∃ m, k = m + 1 := ⟨k - 1, by omega⟩
    simp only [gessoref01_Same.l0, List.append_nil]
    rw [if_neg (by omega)]
  | c :: rest, pre, k, hk, hl => by
    simp only [List.length_cons] at hk
    obtain ⟨k, rfl⟩ : ∃ m, k = m + 1 := ⟨k - 1, by omega⟩
    have hlen : (pre ++ c :: rest).length = pre.length + rest.length + 1 := by simp; omega
    rw [gessoref01_Same.l0, if_pos (by omega), if_pos (by omega), if_pos (by omega), if_pos rfl, wrap_small (by omega) (by omega)]
    have := same_loop rest (pre ++ [c]) k (by omega) (by simpa using hl)
    simpa using this
theorem same_f (l : List Int) (k : Nat) (hk : l.length + 1 ≤ k) (hl : l.length ≤ 9223372036854775806) : gessoref01_Same.f k l l = some true := by
  have := same_loop l [] k hk (by simpa using hl)
  unfold gessoref01_Same.f
  rw [if_pos rfl]
  simpa using this
end Go.Proofs.YtnaaimnmphcilaaDoor.PureA
