/- Package walk: container/heap.Push and Pop. -/
import Derived.Test.YtmpniapbjoailaaWalkE
namespace Go.Proofs.Ytmpniapbjoailaa.Hand
open Go.RowKit Go.Proofs.YtmpniapbjoailaaW.PrintWords Go.Proofs.YtmpniapbjoailaaW.PrintLast Go.Proofs.YtmpniapbjoailaaW.PrintMore
set_option linter.unusedVariables false
set_option linter.unusedSimpArgs false

set_option maxHeartbeats 4000000 in
theorem hpush_m {w : World} {g : Nat} {deep : Bool} {base : Nat} {ok okx : Nat → Prop} {v : Value} {cs : List (List ByteArray)} (H : Qu w g deep base ok v cs) (hh : Hp (lt deep) [] cs cs.length) (x : Value) (p : List ByteArray) (hx : Kd.R Kd.string 9 w base okx x p) (hap : ∀ k, okx k → v.ownBlock ≠ some k ∧ k ≠ g) (hl : ∀ y ∈ cs ++ [p], y.length ≤ 9223372036854775806) (hsm : cs.length < 1000000000) (hbs : base ≤ w.heap.size) (hbg : base ≤ g) :
    Calls Try.prog 29 #[.iface 53 (.pointer (some ⟨g, 0, none⟩)), .iface 22 x] w fun e w' => e = .returned (.tuple #[]) ∧ Aside0 (∃ v' cs', At w v v' ∧ Qu w' g deep base (fun k => ok k ∨ okx k ∨ w.heap.size ≤ k) v' cs' ∧ cs'.Perm (cs ++ [p]) ∧ Hp (lt deep) [] cs' cs'.length) ∧ Aside0 (Fr w w' g v) ∧ Aside0 (Below base w w') := by
  have C1 := Aside0.mk (push_m H x p hx hap hsm hbs hbg)
  obtain ⟨m, hm⟩ : ∃ m, m = (cs ++ [p]).length := ⟨_, rfl⟩
  have C2 : Aside0 (∀ w1 v1 ok1, Qu w1 g deep base ok1 v1 (cs ++ [p]) → Calls Try.prog 33 #[.pointer (some ⟨g, 0, none⟩)] w1 fun e w' => e = .returned (.int .i64 (m : Int)) ∧ w1 = w') := ⟨fun w1 v1 ok1 h => by subst hm; exact len_m h⟩
  have C3 : Aside0 (∀ w1 v1 ok1, Qu w1 g deep base ok1 v1 (cs ++ [p]) → base ≤ w1.heap.size → Calls Try.prog 38 #[.iface 53 (.pointer (some ⟨g, 0, none⟩)), .int .i64 (cs.length : Int)] w1 fun e w' => e = .returned (.tuple #[]) ∧ Aside0 (∃ cs', Qu w' g deep base ok1 v1 cs' ∧ cs'.Perm (cs ++ [p]) ∧ Hp (lt deep) [] cs' cs'.length) ∧ Aside0 (Fr w1 w' g v1) ∧ Aside0 (Below base w1 w')) := ⟨fun w1 v1 ok1 h hb => up_m h cs.length (by simp) (by have := up_start (x := p) hh; simpa using this) hl hb⟩
  have hm' : m = cs.length + 1 := by rw [hm]; simp
  have HBS := Aside0.mk hbs
  have e1 : IntKind.i64.wrap ((m : Int) - 1) = (cs.length : Int) := by rw [i64_w]; unfold wrap64; omega
  have e1' : wrap64 ((m : Int) - 1) = (cs.length : Int) := by unfold wrap64; omega
  clear H hh hx hap hl hsm hm hm' hbs hbg
  generalize cs.length = n at e1 e1' C3
  have m1 := meth_push
  have m2 := meth_len
  go_enter Try.func29, Try.ntmps29
  go_wp2_with (first | (go_at_call 63; (with_reducible refine C1.out.mono ?_); rintro e w1 ⟨rfl, ⟨v1, hat1, hq1⟩, hf1, hb1⟩; have HQ1 := Aside0.mk hq1; have HA1 := Aside0.mk hat1; clear hq1 hat1) | (go_at_call 33; (with_reducible refine (C2.out _ _ _ HQ1.out).mono ?_); rintro e w2 ⟨rfl, rfl⟩) | (go_at_call 38; (with_reducible refine (C3.out _ _ _ HQ1.out (Nat.le_trans HBS.out hb1.out.size)).mono ?_); rintro e w3 ⟨rfl, ⟨cs', hq3, hp3, hh3⟩, hf3, hb3⟩; have HQ3 := Aside0.mk hq3; have HP3 := Aside0.mk hp3; have HH3 := Aside0.mk hh3; clear hq3 hp3 hh3) | fail)
  refine bodyPost_end (v := .tuple #[]) (by simp [results, Try.results29, go_sem]) rfl ⟨rfl, ⟨v1, cs', HA1.out, HQ3.out, HP3.out, HH3.out⟩, ⟨Fr.trans hf1.out HA1.out hf3.out⟩, ⟨hb1.out.trans hb3.out⟩⟩

theorem take_last {cs' : List (List ByteArray)} {a : List ByteArray} {n : Nat} (h : cs'.length = n + 1) (ha : cs'.getD n [] = a) : cs' = cs'.take n ++ [a] := by
  apply List.ext_getElem
  · simp; omega
  · intro i h1 h2
    rw [List.getElem_append]
    split
    · rename_i h3
      simp
    · rename_i h3
      have : i = n := by simp at h3; omega
      subst this
      simp [List.getD, h1] at ha
      simp [ha]
set_option maxHeartbeats 4000000 in
theorem hpop_m {w : World} {g : Nat} {deep : Bool} {base : Nat} {ok : Nat → Prop} {v : Value} {cs : List (List ByteArray)} (H : Qu w g deep base ok v cs) (hh : Hp (lt deep) [] cs cs.length) (hne : 0 < cs.length) (hl : ∀ y ∈ cs, y.length ≤ 9223372036854775806) (hsm : cs.length < 1000000000) (hbs : base ≤ w.heap.size) (hbg : base ≤ g) :
    Calls Try.prog 32 #[.iface 53 (.pointer (some ⟨g, 0, none⟩))] w fun e w' => ∃ x, e = .returned (.iface 22 x) ∧ Aside0 (∃ p okp v' cs', (∀ k, okp k → ok k ∧ k ≠ g ∧ v.ownBlock ≠ some k) ∧ Kd.R Kd.string 9 w' base okp x p ∧ v'.ownBlock = v.ownBlock ∧ Qu w' g deep base ok v' cs' ∧ (p :: cs').Perm cs ∧ Hp (lt deep) [] cs' cs'.length ∧ ∀ y ∈ cs', lt deep y p = false) ∧ Aside0 (Fr w w' g v) ∧ Aside0 (Below base w w') := by
  obtain ⟨n, hn⟩ : ∃ n, cs.length = n + 1 := ⟨cs.length - 1, by omega⟩
  have hmin := hp_min (lt_sto deep) hh
  rw [hn] at hh
  obtain ⟨hds, hlast⟩ := dn_start hn hh
  have C1 : Aside0 (Calls Try.prog 33 #[.pointer (some ⟨g, 0, none⟩)] w fun e w' => e = .returned (.int .i64 ((cs.length : Nat) : Int)) ∧ w = w') := ⟨len_m H⟩
  have C2 : Aside0 (Calls Try.prog 64 #[.pointer (some ⟨g, 0, none⟩), .int .i64 ((0 : Nat) : Int), .int .i64 (n : Int)] w fun e w' => e = .returned (.tuple #[]) ∧ Aside0 (Qu w' g deep base ok v (sw [] cs 0 n)) ∧ Aside0 (Fr w w' g v) ∧ Aside0 (Below base w w')) := ⟨swap_m H 0 n (by omega) (by omega)⟩
  rw [show (((0 : Nat) : Int)) = 0 from rfl] at C2
  have hsl : (sw [] cs 0 n).length = n + 1 := by rw [sw_len, hn]
  have hsp : (sw [] cs 0 n).Perm cs := sw_perm (by omega) (by omega)
  have C3 : Aside0 (∀ w1, Qu w1 g deep base ok v (sw [] cs 0 n) → base ≤ w1.heap.size → Calls Try.prog 39 #[.iface 53 (.pointer (some ⟨g, 0, none⟩)), .int .i64 0, .int .i64 (n : Int)] w1 fun e w' => IsB e ∧ Aside0 (∃ cs', Qu w' g deep base ok v cs' ∧ cs'.Perm (sw [] cs 0 n) ∧ Hp (lt deep) [] cs' n ∧ ∀ q, n ≤ q → cs'.getD q [] = (sw [] cs 0 n).getD q []) ∧ Aside0 (Fr w1 w' g v) ∧ Aside0 (Below base w1 w')) :=
    ⟨fun w1 h hb => down_m h n (by omega) hds (fun y hy => hl y (hsp.mem_iff.1 hy)) (by omega) hb⟩
  have C4 : Aside0 (∀ w2 cs2, Qu w2 g deep base ok v cs2 → cs2.Perm (sw [] cs 0 n) → Hp (lt deep) [] cs2 n → (∀ q, n ≤ q → cs2.getD q [] = (sw [] cs 0 n).getD q []) → ∃ x okp, (∀ k, okp k → ok k ∧ v.ownBlock ≠ some k) ∧ Kd.R Kd.string 9 w2 base okp x (cs.getD 0 []) ∧ (cs.getD 0 [] :: cs2.take n).Perm cs ∧ Hp (lt deep) [] (cs2.take n) (cs2.take n).length ∧ (∀ y ∈ cs2.take n, lt deep y (cs.getD 0 []) = false) ∧
      Calls Try.prog 62 #[.pointer (some ⟨g, 0, none⟩)] w2 fun e w' => e = .returned (.iface 22 x) ∧ Aside0 (∃ v', v'.ownBlock = v.ownBlock ∧ Qu w' g deep base ok v' (cs2.take n)) ∧ Aside0 (Fr w2 w' g v) ∧ Aside0 (Below base w2 w')) := ⟨fun w2 cs2 hq hp hhp hg => by
    have h1 : cs2.length = n + 1 := by rw [hp.length_eq, hsl]
    have h2 : cs2.getD n [] = cs.getD 0 [] := (hg n (Nat.le_refl _)).trans hlast
    have h3 := take_last h1 h2
    have h4 : (cs2.take n).length = n := by simp; omega
    have h5 : (cs.getD 0 [] :: cs2.take n).Perm cs := by
      have : (cs2.take n ++ [cs.getD 0 []]).Perm cs := by rw [← h3]; exact hp.trans hsp
      exact (List.perm_append_singleton _ _).symm.trans this
    rw [h3] at hq
    obtain ⟨x, okp, ho, hr, hc⟩ := pop_m hq hbg
    refine ⟨x, okp, ho, hr, h5, by rw [h4]; exact hp_take hhp (by omega), fun y hy => ?_, hc⟩
    have hy2 : y ∈ cs := h5.mem_iff.1 (List.mem_cons_of_mem _ hy)
    obtain ⟨i, hi, rfl⟩ := List.getElem_of_mem hy2
    have := hmin i hi
    simpa [List.getD, hi] using this⟩
  have HBS := Aside0.mk hbs
  have HAP := Aside0.mk H.ap
  have e1 : IntKind.i64.wrap ((cs.length : Int) - 1) = (n : Int) := by rw [i64_w]; unfold wrap64; omega
  have e1' : wrap64 ((cs.length : Int) - 1) = (n : Int) := by unfold wrap64; omega
  clear H hh hne hl hsm hn hmin hds hlast hsl hsp hbs hbg
  have m1 := meth_pop
  have m2 := meth_len
  have m3 := meth_swap
  go_enter Try.func32, Try.ntmps32
  go_wp2_with (first | (go_at_call 33; (with_reducible refine C1.out.mono ?_); rintro e w0 ⟨rfl, rfl⟩) | (go_at_call 64; (with_reducible refine C2.out.mono ?_); rintro e w1 ⟨rfl, hq1, hf1, hb1⟩) | (go_at_call 39; (with_reducible refine (C3.out _ hq1.out (Nat.le_trans HBS.out hb1.out.size)).mono ?_); rintro e w2 ⟨⟨bb, rfl⟩, ⟨cs2, hq2, hp2, hh2, hg2⟩, hf2, hb2⟩; obtain ⟨x, okp, ho, hr, h5, h6, h7, hc⟩ := C4.out _ _ hq2 hp2 hh2 hg2; have HC := Aside0.mk hc; have HO := Aside0.mk ho; have HR := Aside0.mk hr; have H5 := Aside0.mk h5; have H6 := Aside0.mk h6; have H7 := Aside0.mk h7; clear hq2 hp2 hh2 hg2 hc ho hr h5 h6 h7) | (go_at_call 62; (with_reducible refine HC.out.mono ?_); rintro e w3 ⟨rfl, ⟨v', hv, hq3⟩, hf3, hb3⟩; have HV := Aside0.mk hv; have HQ3 := Aside0.mk hq3; clear hv hq3) | fail)
  go_ret
  refine ⟨x, rfl, ⟨_, okp, v', _, fun k hk => ⟨(HO.out k hk).1, HAP.out k (HO.out k hk).1, (HO.out k hk).2⟩, Kd.R_step HR.out (fun k hk hlt => hf3.out.2 k hlt ?_), HV.out, HQ3.out, H5.out, H6.out, H7.out⟩, ⟨(hf1.out.trans At.refl hf2.out).trans At.refl hf3.out⟩, ⟨(hb1.out.trans hb2.out).trans hb3.out⟩⟩
  rintro (rfl | h)
  · exact HAP.out _ (HO.out _ hk).1 rfl
  · exact (HO.out k hk).2 h
end Go.Proofs.Ytmpniapbjoailaa.Hand
