/- Call of SUM, SUMSQ, MIN, MAX, AVERAGE, COUNT, COUNTA, AND: of one to thirty arguments. -/
import Derived.Test.YtphjmbaifkneiaaGreatDoorC4
import Derived.Test.YtphjmbaifkneiaaGreatDoorC5
import Derived.Test.YtphjmbaifkneiaaGreatDoorM2
import Derived.Test.YtphjmbaifkneiaaGreatDoorB8
namespace Go.Proofs.YtphjmbaifkneiaaGreatDoor
open Go.RowKit

set_option maxHeartbeats 4000000
set_option maxRecDepth 100000

theorem lim_SUM (w : World) : Calls Tryz.prog 21 #[.string ⟨#[83,85,77]⟩] w fun e w' => e = .returned (.tuple #[.int .i64 1, .int .i64 30]) ∧ w = w' := by
  go_enter Tryz.func21, Tryz.ntmps21
  go_wp2
  go_ret2
  exact ⟨rfl, rfl⟩
theorem lim_SUMSQ (w : World) : Calls Tryz.prog 21 #[.string ⟨#[83,85,77,83,81]⟩] w fun e w' => e = .returned (.tuple #[.int .i64 1, .int .i64 30]) ∧ w = w' := by
  go_enter Tryz.func21, Tryz.ntmps21
  go_wp2
  go_ret2
  exact ⟨rfl, rfl⟩
theorem lim_MIN (w : World) : Calls Tryz.prog 21 #[.string ⟨#[77,73,78]⟩] w fun e w' => e = .returned (.tuple #[.int .i64 1, .int .i64 30]) ∧ w = w' := by
  go_enter Tryz.func21, Tryz.ntmps21
  go_wp2
  go_ret2
  exact ⟨rfl, rfl⟩
theorem lim_MAX (w : World) : Calls Tryz.prog 21 #[.string ⟨#[77,65,88]⟩] w fun e w' => e = .returned (.tuple #[.int .i64 1, .int .i64 30]) ∧ w = w' := by
  go_enter Tryz.func21, Tryz.ntmps21
  go_wp2
  go_ret2
  exact ⟨rfl, rfl⟩
theorem lim_COUNTA (w : World) : Calls Tryz.prog 21 #[.string ⟨#[67,79,85,78,84,65]⟩] w fun e w' => e = .returned (.tuple #[.int .i64 1, .int .i64 30]) ∧ w = w' := by
  go_enter Tryz.func21, Tryz.ntmps21
  go_wp2
  go_ret2
  exact ⟨rfl, rfl⟩
theorem lim_AND (w : World) : Calls Tryz.prog 21 #[.string ⟨#[65,78,68]⟩] w fun e w' => e = .returned (.tuple #[.int .i64 1, .int .i64 30]) ∧ w = w' := by
  go_enter Tryz.func21, Tryz.ntmps21
  go_wp2
  go_ret2
  exact ⟨rfl, rfl⟩
theorem lim_AVERAGE (w : World) : Calls Tryz.prog 21 #[.string ⟨#[65, 86, 69, 82, 65, 71, 69]⟩] w fun e w' => e = .returned (.tuple #[.int .i64 1, .int .i64 30]) ∧ w = w' := limits_AVERAGE w
theorem lim_COUNT (w : World) : Calls Tryz.prog 21 #[.string ⟨#[67, 79, 85, 78, 84]⟩] w fun e w' => e = .returned (.tuple #[.int .i64 1, .int .i64 30]) ∧ w = w' := limits_COUNT w

def sumV (l : List Int) : V := cnt (sumS l 0)
def sumsqV (l : List Int) : V := cnt (squaresS l 0)
theorem manyU_SUM (v : Value) (l : List Int) (w : World) (hv : ISl w v l) (hn : ∀ n ∈ l, Num n) (_hl : l.length ≤ 100000) : Calls Tryz.prog 39 #[.string ⟨#[83, 85, 77]⟩, v] w fun e w' => e = .returned (sumV l).val ∧ Ext w w' := many_SUM v l w hv hn
theorem manyU_SUMSQ (v : Value) (l : List Int) (w : World) (hv : ISl w v l) (hn : ∀ n ∈ l, Num n) (_hl : l.length ≤ 100000) : Calls Tryz.prog 39 #[.string ⟨#[83, 85, 77, 83, 81]⟩, v] w fun e w' => e = .returned (sumsqV l).val ∧ Ext w w' := many_SUMSQ v l w hv hn
theorem manyU_MIN (v : Value) (l : List Int) (w : World) (hv : ISl w v l) (_hn : ∀ n ∈ l, Num n) (_hl : l.length ≤ 100000) : Calls Tryz.prog 39 #[.string ⟨#[77, 73, 78]⟩, v] w fun e w' => e = .returned (leastS l).val ∧ Ext w w' := many_MIN v l w hv
theorem manyU_MAX (v : Value) (l : List Int) (w : World) (hv : ISl w v l) (_hn : ∀ n ∈ l, Num n) (_hl : l.length ≤ 100000) : Calls Tryz.prog 39 #[.string ⟨#[77, 65, 88]⟩, v] w fun e w' => e = .returned (mostS l).val ∧ Ext w w' := many_MAX v l w hv
theorem manyU_AVERAGE (v : Value) (l : List Int) (w : World) (hv : ISl w v l) (hn : ∀ n ∈ l, Num n) (hl : l.length ≤ 100000) : Calls Tryz.prog 39 #[.string ⟨#[65, 86, 69, 82, 65, 71, 69]⟩, v] w fun e w' => e = .returned (meanS l).val ∧ Ext w w' := many_AVERAGE v l w hv hn hl

/-- What a function of the numbers comes to: the first failure, or what it makes of them. -/
def numV (g : List Int → V) (args : List ArgD) : V := if (runS numStep (flat args) []).1 ≠ 0 then .fail (runS numStep (flat args) []).1 else g (runS numStep (flat args) []).2
theorem call_SUM (av : Value) (args : List ArgD) (w : World) (hA : ASl w av args) (hgood : ∀ a ∈ args, ∀ v ∈ a.l, v.Good) (h1 : 1 ≤ args.length) (h30 : args.length ≤ 30) (hl : (flat args).length ≤ 100000) :
    Calls Tryz.prog 10 #[.string ⟨#[83,85,77]⟩, av] w fun e w' => e = .returned (numV sumV args).val ∧ Ext w w' := by
  have hgf : ∀ p ∈ flat args, p.1.Good := by
    intro p hp
    obtain ⟨a, ha, hp⟩ := List.mem_flatMap.1 hp
    obtain ⟨v, hv, rfl⟩ := List.mem_map.1 hp
    exact hgood a ha v hv
  have TN : Hid (∀ W, Ext w W → Calls Tryz.prog 29 #[av] W fun e w' => ∃ v, e = .returned (.tuple #[v, .int .i64 (runS numStep (flat args) []).1]) ∧ NumRow W.heap.size (runS numStep (flat args) []).2 v w' ∧ Ext W w') := fun W hx => numbers_any av args W (hA.ext hx) hgood hl
  have hnum := numStep_num (flat args) [] hgf (by simp)
  have hlen := numStep_len2 (flat args) []
  have TM : Hid (∀ W v, ISl W v (runS numStep (flat args) []).2 → Calls Tryz.prog 39 #[.string ⟨#[83,85,77]⟩, v] W fun e w' => e = .returned (sumV (runS numStep (flat args) []).2).val ∧ Ext W w') := fun W v hv => manyU_SUM v _ W hv hnum (by simp at hlen; omega)
  have HM : Hid (numV sumV args = if (runS numStep (flat args) []).1 ≠ 0 then .fail (runS numStep (flat args) []).1 else sumV (runS numStep (flat args) []).2) := rfl
  obtain ⟨f, l, hr⟩ : ∃ f l, runS numStep (flat args) [] = (f, l) := ⟨_, _, rfl⟩
  rw [hr] at TN TM HM
  clear hr hnum hlen hgf hl hgood
  obtain ⟨A, c, rfl, h2, h3, h4⟩ := hA
  obtain ⟨b, o, s0, rfl, hb, c0, c1, c2, c3, hs0⟩ := h4 0 (by omega)
  clear h4
  obtain ⟨A0, k0, rfl, q1, q2, q3⟩ := hs0
  clear q3
  have hi1 : (1 : Int) ≤ (args.length : Int) := by omega
  have hi2 : (args.length : Int) ≤ 30 := by omega
  simp only [Nat.zero_mul, Nat.add_zero] at c0 c1 c2 c3
  obtain ⟨x, hx0⟩ : ∃ x, args[0] = x := ⟨_, rfl⟩
  rw [hx0] at c0 c1 c2 c3 q1
  clear hx0
  by_cases hf0 : f = 0
  · subst hf0
    have HM2 : Hid (numV sumV args = sumV l) := by show _ = _; rw [HM.out]; simp
    clear HM
    go_enter Tryz.func10, Tryz.ntmps10
    go_wp2_with (first
      | (go_at_call 21; refine (lim_SUM _).mono ?_; rintro e w2 ⟨rfl, rfl⟩)
      | (go_at_call 29; refine (TN.out _ ((Ext.refl _).alloc _)).mono ?_; rintro e w3 ⟨v3, rfl, hr3, hx3⟩)
      | (go_at_call 39; refine (TM.out _ _ hr3.sl).mono ?_; rintro e w4 ⟨rfl, hx4⟩))
    all_goals go_ret
    all_goals rw [HM2.out]
    all_goals exact ⟨rfl, (((Ext.refl w).alloc _).trans hx3).trans hx4⟩
  · have hfb : (f != 0) = true := by simpa using hf0
    have HM2 : Hid (numV sumV args = .fail f) := by show _ = _; rw [HM.out]; simp [hf0]
    clear HM hf0
    go_enter Tryz.func10, Tryz.ntmps10
    go_wp2_with (first
      | (go_at_call 21; refine (lim_SUM _).mono ?_; rintro e w2 ⟨rfl, rfl⟩)
      | (go_at_call 29; refine (TN.out _ ((Ext.refl _).alloc _)).mono ?_; rintro e w3 ⟨v3, rfl, hr3, hx3⟩))
    all_goals go_ret
    all_goals rw [HM2.out]
    all_goals exact ⟨rfl, ((Ext.refl w).alloc _).trans hx3⟩
theorem call_SUMSQ (av : Value) (args : List ArgD) (w : World) (hA : ASl w av args) (hgood : ∀ a ∈ args, ∀ v ∈ a.l, v.Good) (h1 : 1 ≤ args.length) (h30 : args.length ≤ 30) (hl : (flat args).length ≤ 100000) :
    Calls Tryz.prog 10 #[.string ⟨#[83,85,77,83,81]⟩, av] w fun e w' => e = .returned (numV sumsqV args).val ∧ Ext w w' := by
  have hgf : ∀ p ∈ flat args, p.1.Good := by
    intro p hp
    obtain ⟨a, ha, hp⟩ := List.mem_flatMap.1 hp
    obtain ⟨v, hv, rfl⟩ := List.mem_map.1 hp
    exact hgood a ha v hv
  have TN : Hid (∀ W, Ext w W → Calls Tryz.prog 29 #[av] W fun e w' => ∃ v, e = .returned (.tuple #[v, .int .i64 (runS numStep (flat args) []).1]) ∧ NumRow W.heap.size (runS numStep (flat args) []).2 v w' ∧ Ext W w') := fun W hx => numbers_any av args W (hA.ext hx) hgood hl
  have hnum := numStep_num (flat args) [] hgf (by simp)
  have hlen := numStep_len2 (flat args) []
  have TM : Hid (∀ W v, ISl W v (runS numStep (flat args) []).2 → Calls Tryz.prog 39 #[.string ⟨#[83,85,77,83,81]⟩, v] W fun e w' => e = .returned (sumsqV (runS numStep (flat args) []).2).val ∧ Ext W w') := fun W v hv => manyU_SUMSQ v _ W hv hnum (by simp at hlen; omega)
  have HM : Hid (numV sumsqV args = if (runS numStep (flat args) []).1 ≠ 0 then .fail (runS numStep (flat args) []).1 else sumsqV (runS numStep (flat args) []).2) := rfl
  obtain ⟨f, l, hr⟩ : ∃ f l, runS numStep (flat args) [] = (f, l) := ⟨_, _, rfl⟩
  rw [hr] at TN TM HM
  clear hr hnum hlen hgf hl hgood
  obtain ⟨A, c, rfl, h2, h3, h4⟩ := hA
  obtain ⟨b, o, s0, rfl, hb, c0, c1, c2, c3, hs0⟩ := h4 0 (by omega)
  clear h4
  obtain ⟨A0, k0, rfl, q1, q2, q3⟩ := hs0
  clear q3
  have hi1 : (1 : Int) ≤ (args.length : Int) := by omega
  have hi2 : (args.length : Int) ≤ 30 := by omega
  simp only [Nat.zero_mul, Nat.add_zero] at c0 c1 c2 c3
  obtain ⟨x, hx0⟩ : ∃ x, args[0] = x := ⟨_, rfl⟩
  rw [hx0] at c0 c1 c2 c3 q1
  clear hx0
  by_cases hf0 : f = 0
  · subst hf0
    have HM2 : Hid (numV sumsqV args = sumsqV l) := by show _ = _; rw [HM.out]; simp
    clear HM
    go_enter Tryz.func10, Tryz.ntmps10
    go_wp2_with (first
      | (go_at_call 21; refine (lim_SUMSQ _).mono ?_; rintro e w2 ⟨rfl, rfl⟩)
      | (go_at_call 29; refine (TN.out _ ((Ext.refl _).alloc _)).mono ?_; rintro e w3 ⟨v3, rfl, hr3, hx3⟩)
      | (go_at_call 39; refine (TM.out _ _ hr3.sl).mono ?_; rintro e w4 ⟨rfl, hx4⟩))
    all_goals go_ret
    all_goals rw [HM2.out]
    all_goals exact ⟨rfl, (((Ext.refl w).alloc _).trans hx3).trans hx4⟩
  · have hfb : (f != 0) = true := by simpa using hf0
    have HM2 : Hid (numV sumsqV args = .fail f) := by show _ = _; rw [HM.out]; simp [hf0]
    clear HM hf0
    go_enter Tryz.func10, Tryz.ntmps10
    go_wp2_with (first
      | (go_at_call 21; refine (lim_SUMSQ _).mono ?_; rintro e w2 ⟨rfl, rfl⟩)
      | (go_at_call 29; refine (TN.out _ ((Ext.refl _).alloc _)).mono ?_; rintro e w3 ⟨v3, rfl, hr3, hx3⟩))
    all_goals go_ret
    all_goals rw [HM2.out]
    all_goals exact ⟨rfl, ((Ext.refl w).alloc _).trans hx3⟩
theorem call_MIN (av : Value) (args : List ArgD) (w : World) (hA : ASl w av args) (hgood : ∀ a ∈ args, ∀ v ∈ a.l, v.Good) (h1 : 1 ≤ args.length) (h30 : args.length ≤ 30) (hl : (flat args).length ≤ 100000) :
    Calls Tryz.prog 10 #[.string ⟨#[77,73,78]⟩, av] w fun e w' => e = .returned (numV leastS args).val ∧ Ext w w' := by
  have hgf : ∀ p ∈ flat args, p.1.Good := by
    intro p hp
    obtain ⟨a, ha, hp⟩ := List.mem_flatMap.1 hp
    obtain ⟨v, hv, rfl⟩ := List.mem_map.1 hp
    exact hgood a ha v hv
  have TN : Hid (∀ W, Ext w W → Calls Tryz.prog 29 #[av] W fun e w' => ∃ v, e = .returned (.tuple #[v, .int .i64 (runS numStep (flat args) []).1]) ∧ NumRow W.heap.size (runS numStep (flat args) []).2 v w' ∧ Ext W w') := fun W hx => numbers_any av args W (hA.ext hx) hgood hl
  have hnum := numStep_num (flat args) [] hgf (by simp)
  have hlen := numStep_len2 (flat args) []
  have TM : Hid (∀ W v, ISl W v (runS numStep (flat args) []).2 → Calls Tryz.prog 39 #[.string ⟨#[77,73,78]⟩, v] W fun e w' => e = .returned (leastS (runS numStep (flat args) []).2).val ∧ Ext W w') := fun W v hv => manyU_MIN v _ W hv hnum (by simp at hlen; omega)
  have HM : Hid (numV leastS args = if (runS numStep (flat args) []).1 ≠ 0 then .fail (runS numStep (flat args) []).1 else leastS (runS numStep (flat args) []).2) := rfl
  obtain ⟨f, l, hr⟩ : ∃ f l, runS numStep (flat args) [] = (f, l) := ⟨_, _, rfl⟩
  rw [hr] at TN TM HM
  clear hr hnum hlen hgf hl hgood
  obtain ⟨A, c, rfl, h2, h3, h4⟩ := hA
  obtain ⟨b, o, s0, rfl, hb, c0, c1, c2, c3, hs0⟩ := h4 0 (by omega)
  clear h4
  obtain ⟨A0, k0, rfl, q1, q2, q3⟩ := hs0
  clear q3
  have hi1 : (1 : Int) ≤ (args.length : Int) := by omega
  have hi2 : (args.length : Int) ≤ 30 := by omega
  simp only [Nat.zero_mul, Nat.add_zero] at c0 c1 c2 c3
  obtain ⟨x, hx0⟩ : ∃ x, args[0] = x := ⟨_, rfl⟩
  rw [hx0] at c0 c1 c2 c3 q1
  clear hx0
  by_cases hf0 : f = 0
  · subst hf0
    have HM2 : Hid (numV leastS args = leastS l) := by show _ = _; rw [HM.out]; simp
    clear HM
    go_enter Tryz.func10, Tryz.ntmps10
    go_wp2_with (first
      | (go_at_call 21; refine (lim_MIN _).mono ?_; rintro e w2 ⟨rfl, rfl⟩)
      | (go_at_call 29; refine (TN.out _ ((Ext.refl _).alloc _)).mono ?_; rintro e w3 ⟨v3, rfl, hr3, hx3⟩)
      | (go_at_call 39; refine (TM.out _ _ hr3.sl).mono ?_; rintro e w4 ⟨rfl, hx4⟩))
    all_goals go_ret
    all_goals rw [HM2.out]
    all_goals exact ⟨rfl, (((Ext.refl w).alloc _).trans hx3).trans hx4⟩
  · have hfb : (f != 0) = true := by simpa using hf0
    have HM2 : Hid (numV leastS args = .fail f) := by show _ = _; rw [HM.out]; simp [hf0]
    clear HM hf0
    go_enter Tryz.func10, Tryz.ntmps10
    go_wp2_with (first
      | (go_at_call 21; refine (lim_MIN _).mono ?_; rintro e w2 ⟨rfl, rfl⟩)
      | (go_at_call 29; refine (TN.out _ ((Ext.refl _).alloc _)).mono ?_; rintro e w3 ⟨v3, rfl, hr3, hx3⟩))
    all_goals go_ret
    all_goals rw [HM2.out]
    all_goals exact ⟨rfl, ((Ext.refl w).alloc _).trans hx3⟩
theorem call_MAX (av : Value) (args : List ArgD) (w : World) (hA : ASl w av args) (hgood : ∀ a ∈ args, ∀ v ∈ a.l, v.Good) (h1 : 1 ≤ args.length) (h30 : args.length ≤ 30) (hl : (flat args).length ≤ 100000) :
    Calls Tryz.prog 10 #[.string ⟨#[77,65,88]⟩, av] w fun e w' => e = .returned (numV mostS args).val ∧ Ext w w' := by
  have hgf : ∀ p ∈ flat args, p.1.Good := by
    intro p hp
    obtain ⟨a, ha, hp⟩ := List.mem_flatMap.1 hp
    obtain ⟨v, hv, rfl⟩ := List.mem_map.1 hp
    exact hgood a ha v hv
  have TN : Hid (∀ W, Ext w W → Calls Tryz.prog 29 #[av] W fun e w' => ∃ v, e = .returned (.tuple #[v, .int .i64 (runS numStep (flat args) []).1]) ∧ NumRow W.heap.size (runS numStep (flat args) []).2 v w' ∧ Ext W w') := fun W hx => numbers_any av args W (hA.ext hx) hgood hl
  have hnum := numStep_num (flat args) [] hgf (by simp)
  have hlen := numStep_len2 (flat args) []
  have TM : Hid (∀ W v, ISl W v (runS numStep (flat args) []).2 → Calls Tryz.prog 39 #[.string ⟨#[77,65,88]⟩, v] W fun e w' => e = .returned (mostS (runS numStep (flat args) []).2).val ∧ Ext W w') := fun W v hv => manyU_MAX v _ W hv hnum (by simp at hlen; omega)
  have HM : Hid (numV mostS args = if (runS numStep (flat args) []).1 ≠ 0 then .fail (runS numStep (flat args) []).1 else mostS (runS numStep (flat args) []).2) := rfl
  obtain ⟨f, l, hr⟩ : ∃ f l, runS numStep (flat args) [] = (f, l) := ⟨_, _, rfl⟩
  rw [hr] at TN TM HM
  clear hr hnum hlen hgf hl hgood
  obtain ⟨A, c, rfl, h2, h3, h4⟩ := hA
  obtain ⟨b, o, s0, rfl, hb, c0, c1, c2, c3, hs0⟩ := h4 0 (by omega)
  clear h4
  obtain ⟨A0, k0, rfl, q1, q2, q3⟩ := hs0
  clear q3
  have hi1 : (1 : Int) ≤ (args.length : Int) := by omega
  have hi2 : (args.length : Int) ≤ 30 := by omega
  simp only [Nat.zero_mul, Nat.add_zero] at c0 c1 c2 c3
  obtain ⟨x, hx0⟩ : ∃ x, args[0] = x := ⟨_, rfl⟩
  rw [hx0] at c0 c1 c2 c3 q1
  clear hx0
  by_cases hf0 : f = 0
  · subst hf0
    have HM2 : Hid (numV mostS args = mostS l) := by show _ = _; rw [HM.out]; simp
    clear HM
    go_enter Tryz.func10, Tryz.ntmps10
    go_wp2_with (first
      | (go_at_call 21; refine (lim_MAX _).mono ?_; rintro e w2 ⟨rfl, rfl⟩)
      | (go_at_call 29; refine (TN.out _ ((Ext.refl _).alloc _)).mono ?_; rintro e w3 ⟨v3, rfl, hr3, hx3⟩)
      | (go_at_call 39; refine (TM.out _ _ hr3.sl).mono ?_; rintro e w4 ⟨rfl, hx4⟩))
    all_goals go_ret
    all_goals rw [HM2.out]
    all_goals exact ⟨rfl, (((Ext.refl w).alloc _).trans hx3).trans hx4⟩
  · have hfb : (f != 0) = true := by simpa using hf0
    have HM2 : Hid (numV mostS args = .fail f) := by show _ = _; rw [HM.out]; simp [hf0]
    clear HM hf0
    go_enter Tryz.func10, Tryz.ntmps10
    go_wp2_with (first
      | (go_at_call 21; refine (lim_MAX _).mono ?_; rintro e w2 ⟨rfl, rfl⟩)
      | (go_at_call 29; refine (TN.out _ ((Ext.refl _).alloc _)).mono ?_; rintro e w3 ⟨v3, rfl, hr3, hx3⟩))
    all_goals go_ret
    all_goals rw [HM2.out]
    all_goals exact ⟨rfl, ((Ext.refl w).alloc _).trans hx3⟩
theorem call_AVERAGE (av : Value) (args : List ArgD) (w : World) (hA : ASl w av args) (hgood : ∀ a ∈ args, ∀ v ∈ a.l, v.Good) (h1 : 1 ≤ args.length) (h30 : args.length ≤ 30) (hl : (flat args).length ≤ 100000) :
    Calls Tryz.prog 10 #[.string ⟨#[65,86,69,82,65,71,69]⟩, av] w fun e w' => e = .returned (numV meanS args).val ∧ Ext w w' := by
  have hgf : ∀ p ∈ flat args, p.1.Good := by
    intro p hp
    obtain ⟨a, ha, hp⟩ := List.mem_flatMap.1 hp
    obtain ⟨v, hv, rfl⟩ := List.mem_map.1 hp
    exact hgood a ha v hv
  have TN : Hid (∀ W, Ext w W → Calls Tryz.prog 29 #[av] W fun e w' => ∃ v, e = .returned (.tuple #[v, .int .i64 (runS numStep (flat args) []).1]) ∧ NumRow W.heap.size (runS numStep (flat args) []).2 v w' ∧ Ext W w') := fun W hx => numbers_any av args W (hA.ext hx) hgood hl
  have hnum := numStep_num (flat args) [] hgf (by simp)
  have hlen := numStep_len2 (flat args) []
  have TM : Hid (∀ W v, ISl W v (runS numStep (flat args) []).2 → Calls Tryz.prog 39 #[.string ⟨#[65,86,69,82,65,71,69]⟩, v] W fun e w' => e = .returned (meanS (runS numStep (flat args) []).2).val ∧ Ext W w') := fun W v hv => manyU_AVERAGE v _ W hv hnum (by simp at hlen; omega)
  have HM : Hid (numV meanS args = if (runS numStep (flat args) []).1 ≠ 0 then .fail (runS numStep (flat args) []).1 else meanS (runS numStep (flat args) []).2) := rfl
  obtain ⟨f, l, hr⟩ : ∃ f l, runS numStep (flat args) [] = (f, l) := ⟨_, _, rfl⟩
  rw [hr] at TN TM HM
  clear hr hnum hlen hgf hl hgood
  obtain ⟨A, c, rfl, h2, h3, h4⟩ := hA
  obtain ⟨b, o, s0, rfl, hb, c0, c1, c2, c3, hs0⟩ := h4 0 (by omega)
  clear h4
  obtain ⟨A0, k0, rfl, q1, q2, q3⟩ := hs0
  clear q3
  have hi1 : (1 : Int) ≤ (args.length : Int) := by omega
  have hi2 : (args.length : Int) ≤ 30 := by omega
  simp only [Nat.zero_mul, Nat.add_zero] at c0 c1 c2 c3
  obtain ⟨x, hx0⟩ : ∃ x, args[0] = x := ⟨_, rfl⟩
  rw [hx0] at c0 c1 c2 c3 q1
  clear hx0
  by_cases hf0 : f = 0
  · subst hf0
    have HM2 : Hid (numV meanS args = meanS l) := by show _ = _; rw [HM.out]; simp
    clear HM
    go_enter Tryz.func10, Tryz.ntmps10
    go_wp2_with (first
      | (go_at_call 21; refine (lim_AVERAGE _).mono ?_; rintro e w2 ⟨rfl, rfl⟩)
      | (go_at_call 29; refine (TN.out _ ((Ext.refl _).alloc _)).mono ?_; rintro e w3 ⟨v3, rfl, hr3, hx3⟩)
      | (go_at_call 39; refine (TM.out _ _ hr3.sl).mono ?_; rintro e w4 ⟨rfl, hx4⟩))
    all_goals go_ret
    all_goals rw [HM2.out]
    all_goals exact ⟨rfl, (((Ext.refl w).alloc _).trans hx3).trans hx4⟩
  · have hfb : (f != 0) = true := by simpa using hf0
    have HM2 : Hid (numV meanS args = .fail f) := by show _ = _; rw [HM.out]; simp [hf0]
    clear HM hf0
    go_enter Tryz.func10, Tryz.ntmps10
    go_wp2_with (first
      | (go_at_call 21; refine (lim_AVERAGE _).mono ?_; rintro e w2 ⟨rfl, rfl⟩)
      | (go_at_call 29; refine (TN.out _ ((Ext.refl _).alloc _)).mono ?_; rintro e w3 ⟨v3, rfl, hr3, hx3⟩))
    all_goals go_ret
    all_goals rw [HM2.out]
    all_goals exact ⟨rfl, ((Ext.refl w).alloc _).trans hx3⟩
def cntV (p : V → Bool → Bool) (args : List ArgD) : V := V.num ((countS p args * 10000 : Nat) : Int)
def cntC (args : List ArgD) : V := cntV V.counts args
def cntF (args : List ArgD) : V := cntV V.filled args
theorem call_COUNT (av : Value) (args : List ArgD) (w : World) (hA : ASl w av args) (hgood : ∀ a ∈ args, ∀ v ∈ a.l, v.Good) (h1 : 1 ≤ args.length) (h30 : args.length ≤ 30) (hl : (flat args).length ≤ 100000) :
    Calls Tryz.prog 10 #[.string ⟨#[67,79,85,78,84]⟩, av] w fun e w' => e = .returned (cntC args).val ∧ Ext w w' := by
  have TC : Hid (∀ W, Ext w W → Calls Tryz.prog 22 #[.string ⟨#[67,79,85,78,84]⟩, av] W fun e w' => e = .returned (cntC args).val ∧ Ext W w') := fun W hx => counts_COUNT av args W (hA.ext hx) hgood hl
  obtain ⟨m, hm⟩ : ∃ m, (cntC args).val = m := ⟨_, rfl⟩
  rw [hm] at TC ⊢
  clear hm hgood hl
  obtain ⟨A, c, rfl, h2, h3, h4⟩ := hA
  obtain ⟨b, o, s0, rfl, hb, c0, c1, c2, c3, hs0⟩ := h4 0 (by omega)
  clear h4
  obtain ⟨A0, k0, rfl, q1, q2, q3⟩ := hs0
  clear q3
  have hi1 : (1 : Int) ≤ (args.length : Int) := by omega
  have hi2 : (args.length : Int) ≤ 30 := by omega
  simp only [Nat.zero_mul, Nat.add_zero] at c0 c1 c2 c3
  obtain ⟨x, hx0⟩ : ∃ x, args[0] = x := ⟨_, rfl⟩
  rw [hx0] at c0 c1 c2 c3 q1
  clear hx0
  go_enter Tryz.func10, Tryz.ntmps10
  go_wp2_with (first
    | (go_at_call 21; refine (lim_COUNT _).mono ?_; rintro e w2 ⟨rfl, rfl⟩)
    | (go_at_call 22; refine (TC.out _ ((Ext.refl _).alloc _)).mono ?_; rintro e w3 ⟨rfl, hx3⟩))
  go_ret
  exact ⟨rfl, ((Ext.refl w).alloc _).trans hx3⟩
theorem call_COUNTA (av : Value) (args : List ArgD) (w : World) (hA : ASl w av args) (hgood : ∀ a ∈ args, ∀ v ∈ a.l, v.Good) (h1 : 1 ≤ args.length) (h30 : args.length ≤ 30) (hl : (flat args).length ≤ 100000) :
    Calls Tryz.prog 10 #[.string ⟨#[67,79,85,78,84,65]⟩, av] w fun e w' => e = .returned (cntF args).val ∧ Ext w w' := by
  have TC : Hid (∀ W, Ext w W → Calls Tryz.prog 22 #[.string ⟨#[67,79,85,78,84,65]⟩, av] W fun e w' => e = .returned (cntF args).val ∧ Ext W w') := fun W hx => counts_COUNTA av args W (hA.ext hx) hgood hl
  obtain ⟨m, hm⟩ : ∃ m, (cntF args).val = m := ⟨_, rfl⟩
  rw [hm] at TC ⊢
  clear hm hgood hl
  obtain ⟨A, c, rfl, h2, h3, h4⟩ := hA
  obtain ⟨b, o, s0, rfl, hb, c0, c1, c2, c3, hs0⟩ := h4 0 (by omega)
  clear h4
  obtain ⟨A0, k0, rfl, q1, q2, q3⟩ := hs0
  clear q3
  have hi1 : (1 : Int) ≤ (args.length : Int) := by omega
  have hi2 : (args.length : Int) ≤ 30 := by omega
  simp only [Nat.zero_mul, Nat.add_zero] at c0 c1 c2 c3
  obtain ⟨x, hx0⟩ : ∃ x, args[0] = x := ⟨_, rfl⟩
  rw [hx0] at c0 c1 c2 c3 q1
  clear hx0
  go_enter Tryz.func10, Tryz.ntmps10
  go_wp2_with (first
    | (go_at_call 21; refine (lim_COUNTA _).mono ?_; rintro e w2 ⟨rfl, rfl⟩)
    | (go_at_call 22; refine (TC.out _ ((Ext.refl _).alloc _)).mono ?_; rintro e w3 ⟨rfl, hx3⟩))
  go_ret
  exact ⟨rfl, ((Ext.refl w).alloc _).trans hx3⟩
theorem call_AND (av : Value) (args : List ArgD) (w : World) (hA : ASl w av args) (hgood : ∀ a ∈ args, ∀ v ∈ a.l, v.Good) (h1 : 1 ≤ args.length) (h30 : args.length ≤ 30) (hl : (flat args).length ≤ 100000) :
    Calls Tryz.prog 10 #[.string ⟨#[65,78,68]⟩, av] w fun e w' => e = .returned (andS args).val ∧ Ext w w' := by
  have TC : Hid (∀ W, Ext w W → Calls Tryz.prog 23 #[.string ⟨#[65,78,68]⟩, av] W fun e w' => e = .returned (andS args).val ∧ Ext W w') := fun W hx => truths_AND av args W (hA.ext hx) hgood hl
  obtain ⟨m, hm⟩ : ∃ m, (andS args).val = m := ⟨_, rfl⟩
  rw [hm] at TC ⊢
  clear hm hgood hl
  obtain ⟨A, c, rfl, h2, h3, h4⟩ := hA
  obtain ⟨b, o, s0, rfl, hb, c0, c1, c2, c3, hs0⟩ := h4 0 (by omega)
  clear h4
  obtain ⟨A0, k0, rfl, q1, q2, q3⟩ := hs0
  clear q3
  have hi1 : (1 : Int) ≤ (args.length : Int) := by omega
  have hi2 : (args.length : Int) ≤ 30 := by omega
  simp only [Nat.zero_mul, Nat.add_zero] at c0 c1 c2 c3
  obtain ⟨x, hx0⟩ : ∃ x, args[0] = x := ⟨_, rfl⟩
  rw [hx0] at c0 c1 c2 c3 q1
  clear hx0
  go_enter Tryz.func10, Tryz.ntmps10
  go_wp2_with (first
    | (go_at_call 21; refine (lim_AND _).mono ?_; rintro e w2 ⟨rfl, rfl⟩)
    | (go_at_call 23; refine (TC.out _ ((Ext.refl _).alloc _)).mono ?_; rintro e w3 ⟨rfl, hx3⟩))
  go_ret
  exact ⟨rfl, ((Ext.refl w).alloc _).trans hx3⟩
end Go.Proofs.YtphjmbaifkneiaaGreatDoor
