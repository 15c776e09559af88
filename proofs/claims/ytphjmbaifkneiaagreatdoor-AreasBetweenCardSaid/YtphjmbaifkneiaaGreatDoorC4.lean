/- AVERAGE. -/
import Derived.Test.YtphjmbaifkneiaaGreatDoorC1
namespace Go.Proofs.YtphjmbaifkneiaaGreatDoor
open Go.RowKit

set_option maxHeartbeats 4000000
set_option maxRecDepth 100000


theorem many_AVERAGE (v : Value) (l : List Int) (w : World) (hv : ISl w v l) (hn : ∀ n ∈ l, Num n) (hl : l.length ≤ 100000) :
    Calls Tryz.prog 39 #[.string ⟨#[65, 86, 69, 82, 65, 71, 69]⟩, v] w fun e w' => e = .returned (meanS l).val ∧ Ext w w' := by
  have T : Hid (∀ W, Ext w W → Calls Tryz.prog 68 #[v] W fun e w' => e = .returned (meanS l).val ∧ Ext W w') := fun W hx => mean_any v l W (hv.ext hx) hn hl
  clear hv hn hl
  go_enter Tryz.func39, Tryz.ntmps39
  go_wp2_with (go_at_call 68; refine (T.out _ (Ext.refl _)).mono ?_; rintro e w2 ⟨rfl, hx2⟩)
  go_ret
  exact ⟨rfl, hx2⟩

theorem numStep_num (pre : List (V × Bool)) : ∀ (l : List Int), (∀ p ∈ pre, p.1.Good) → (∀ n ∈ l, Num n) → ∀ n ∈ (runS numStep pre l).2, Num n := by
  induction pre with
  | nil => intro l _ h; exact h
  | cons x pre ih =>
    obtain ⟨v, a⟩ := x
    intro l hg h
    have hv := hg (v, a) (List.mem_cons_self ..)
    have h2 : ∀ n ∈ (numStep l v a).2, Num n := by
      unfold numStep
      split
      · intro n hn
        rcases List.mem_append.1 hn with hn | hn
        · exact h n hn
        · rw [List.mem_singleton.1 hn]
          cases v <;> first | exact hv | exact ⟨by simp [V.numN], by simp [V.numN]⟩
      · split
        · exact h
        · split
          · intro n hn
            rcases List.mem_append.1 hn with hn | hn
            · exact h n hn
            · rw [List.mem_singleton.1 hn]
              exact asNum_num hv
          · exact h
    unfold runS
    split
    · exact ih _ (fun p hp => hg p (List.mem_cons_of_mem _ hp)) h2
    · exact h2

def averageS (xs : List ArgD) : V := if (runS numStep (flat xs) []).1 ≠ 0 then .fail (runS numStep (flat xs) []).1 else meanS (runS numStep (flat xs) []).2
theorem numStep_len2 (pre : List (V × Bool)) : ∀ (l : List Int), (runS numStep pre l).2.length ≤ l.length + pre.length := by
  induction pre with
  | nil => intro l; simp [runS]
  | cons x pre ih =>
    obtain ⟨v, a⟩ := x
    intro l
    have h3 : (numStep l v a).2.length ≤ l.length + 1 := by
      unfold numStep
      repeat' split
      all_goals simp
    unfold runS
    split
    · have := ih (numStep l v a).2
      simp only [List.length_cons]; omega
    · simp only [List.length_cons]; omega
theorem average_any (av : Value) (x : ArgD) (w : World) (hA : ASl w av [x]) (gx : ∀ u ∈ x.l, u.Good) (hl : x.l.length ≤ 100000) :
    Calls Tryz.prog 10 #[.string ⟨#[65, 86, 69, 82, 65, 71, 69]⟩, av] w fun e w' => e = .returned (averageS [x]).val ∧ Ext w w' := by
  have hfl : (flat [x]).length ≤ 100000 := by simpa [flat] using hl
  have hgf : ∀ p ∈ flat [x], p.1.Good := by
    intro p hp
    simp [flat] at hp
    obtain ⟨v, hv, rfl⟩ := hp
    exact gx v hv
  have TN : Hid (∀ W, Ext w W → Calls Tryz.prog 29 #[av] W fun e w' => ∃ v, e = .returned (.tuple #[v, .int .i64 (runS numStep (flat [x]) []).1]) ∧ NumRow W.heap.size (runS numStep (flat [x]) []).2 v w' ∧ Ext W w') := fun W hx => numbers_any av [x] W (hA.ext hx) (by simpa using gx) hfl
  have hnum := numStep_num (flat [x]) [] hgf (by simp)
  have hlen := numStep_len2 (flat [x]) []
  have TM : Hid (∀ W v, ISl W v (runS numStep (flat [x]) []).2 → Calls Tryz.prog 39 #[.string ⟨#[65, 86, 69, 82, 65, 71, 69]⟩, v] W fun e w' => e = .returned (meanS (runS numStep (flat [x]) []).2).val ∧ Ext W w') := fun W v hv => many_AVERAGE v _ W hv hnum (by simp at hlen; omega)
  have HM : Hid (averageS [x] = if (runS numStep (flat [x]) []).1 ≠ 0 then .fail (runS numStep (flat [x]) []).1 else meanS (runS numStep (flat [x]) []).2) := rfl
  obtain ⟨f, l, hr⟩ : ∃ f l, runS numStep (flat [x]) [] = (f, l) := ⟨_, _, rfl⟩
  rw [hr] at TN TM HM
  clear hr hnum hlen hgf hfl gx
  obtain ⟨A, c, rfl, h1, h2, h3⟩ := hA
  obtain ⟨b, o, s0, rfl, hb, c0, c1, c2, c3, hs0⟩ := h3 0 (by simp)
  clear h3
  obtain ⟨A0, k0, rfl, q1, q2, q3⟩ := hs0
  clear q3
  simp only [List.getElem_cons_zero, Nat.zero_mul, Nat.add_zero] at c0 c1 c2 c3 q1
  simp only [List.length_cons, List.length_nil, Nat.zero_add] at h1 TN ⊢
  by_cases hf0 : f = 0
  · subst hf0
    have HM2 : Hid (averageS [x] = meanS l) := by show _ = _; rw [HM.out]; simp
    clear HM
    go_enter Tryz.func10, Tryz.ntmps10
    go_wp2_with (first
      | (go_at_call 21; refine (limits_AVERAGE _).mono ?_; rintro e w2 ⟨rfl, rfl⟩)
      | (go_at_call 29; refine (TN.out _ ((Ext.refl _).alloc _)).mono ?_; rintro e w3 ⟨v3, rfl, hr3, hx3⟩)
      | (go_at_call 39; refine (TM.out _ _ hr3.sl).mono ?_; rintro e w4 ⟨rfl, hx4⟩))
    all_goals go_ret
    all_goals rw [HM2.out]
    all_goals exact ⟨rfl, (((Ext.refl w).alloc _).trans hx3).trans hx4⟩
  · have hfb : (f != 0) = true := by simpa using hf0
    have HM2 : Hid (averageS [x] = .fail f) := by show _ = _; rw [HM.out]; simp [hf0]
    clear HM hf0
    go_enter Tryz.func10, Tryz.ntmps10
    go_wp2_with (first
      | (go_at_call 21; refine (limits_AVERAGE _).mono ?_; rintro e w2 ⟨rfl, rfl⟩)
      | (go_at_call 29; refine (TN.out _ ((Ext.refl _).alloc _)).mono ?_; rintro e w3 ⟨v3, rfl, hr3, hx3⟩))
    all_goals go_ret
    all_goals rw [HM2.out]
    all_goals exact ⟨rfl, ((Ext.refl w).alloc _).trans hx3⟩
end Go.Proofs.YtphjmbaifkneiaaGreatDoor
