/- Call of MEDIAN: of one to thirty arguments. -/
import Derived.Test.YtphjmbaifkneiaaGreatDoorZ4
import Derived.Test.YtphjmbaifkneiaaGreatDoorC6
namespace Go.Proofs.YtphjmbaifkneiaaGreatDoor
open Go.RowKit

set_option maxHeartbeats 4000000
set_option maxRecDepth 100000

theorem lim_MEDIAN (w : World) : Calls Tryz.prog 21 #[.string ⟨#[77,69,68,73,65,78]⟩] w fun e w' => e = .returned (.tuple #[.int .i64 1, .int .i64 30]) ∧ w = w' := by
  go_enter Tryz.func21, Tryz.ntmps21
  go_wp2
  go_ret2
  exact ⟨rfl, rfl⟩
theorem manyU_MEDIAN (v : Value) (l : List Int) (w : World) (hv : ISl w v l) (hn : ∀ n ∈ l, Num n) (hl : l.length ≤ 100000) : Calls Tryz.prog 39 #[.string ⟨#[77, 69, 68, 73, 65, 78]⟩, v] w fun e w' => e = .returned (medianS l).val ∧ Ext w w' := many_MEDIAN v l w hv hn hl
theorem call_MEDIAN (av : Value) (args : List ArgD) (w : World) (hA : ASl w av args) (hgood : ∀ a ∈ args, ∀ v ∈ a.l, v.Good) (h1 : 1 ≤ args.length) (h30 : args.length ≤ 30) (hl : (flat args).length ≤ 100000) :
    Calls Tryz.prog 10 #[.string ⟨#[77,69,68,73,65,78]⟩, av] w fun e w' => e = .returned (numV medianS args).val ∧ Ext w w' := by
  have hgf : ∀ p ∈ flat args, p.1.Good := by
    intro p hp
    obtain ⟨a, ha, hp⟩ := List.mem_flatMap.1 hp
    obtain ⟨v, hv, rfl⟩ := List.mem_map.1 hp
    exact hgood a ha v hv
  have TN : Hid (∀ W, Ext w W → Calls Tryz.prog 29 #[av] W fun e w' => ∃ v, e = .returned (.tuple #[v, .int .i64 (runS numStep (flat args) []).1]) ∧ NumRow W.heap.size (runS numStep (flat args) []).2 v w' ∧ Ext W w') := fun W hx => numbers_any av args W (hA.ext hx) hgood hl
  have hnum := numStep_num (flat args) [] hgf (by simp)
  have hlen := numStep_len2 (flat args) []
  have TM : Hid (∀ W v, ISl W v (runS numStep (flat args) []).2 → Calls Tryz.prog 39 #[.string ⟨#[77,69,68,73,65,78]⟩, v] W fun e w' => e = .returned (medianS (runS numStep (flat args) []).2).val ∧ Ext W w') := fun W v hv => manyU_MEDIAN v _ W hv hnum (by simp at hlen; omega)
  have HM : Hid (numV medianS args = if (runS numStep (flat args) []).1 ≠ 0 then .fail (runS numStep (flat args) []).1 else medianS (runS numStep (flat args) []).2) := rfl
  obtain ⟨f, l, hr⟩ : ∃ f l, runS numStep (flat args) [] = (f, l) := ⟨_, _, rfl⟩
  rw [hr] at TN TM HM
  clear hr hnum hlen hgf hl hgood
  obtain ⟨A, c, rfl, h2, h3, h4⟩ := hA
  obtain ⟨b, o, s0, rfl, hb, c0, c1, c2, c3, hs0⟩ := h4 0 (by omega)
  clear h4
  obtain ⟨A0, k0, rfl, q1, q2, q3⟩ := hs0
  clear q3
  have hi1 : (1 : Int) ≤ (args.length : Int) := by omega
  have hi2 : (args.length : Int) ≤ 30 := by omega
  simp only [Nat.zero_mul, Nat.add_zero] at c0 c1 c2 c3
  obtain ⟨x, hx0⟩ : ∃ x, args[0] = x := ⟨_, rfl⟩
  rw [hx0] at c0 c1 c2 c3 q1
  clear hx0
  by_cases hf0 : f = 0
  · subst hf0
    have HM2 : Hid (numV medianS args = medianS l) := by show _ = _; rw [HM.out]; simp
    clear HM
    go_enter Tryz.func10, Tryz.ntmps10
    go_wp2_with (first
      | (go_at_call 21; refine (lim_MEDIAN _).mono ?_; rintro e w2 ⟨rfl, rfl⟩)
      | (go_at_call 29; refine (TN.out _ ((Ext.refl _).alloc _)).mono ?_; rintro e w3 ⟨v3, rfl, hr3, hx3⟩)
      | (go_at_call 39; refine (TM.out _ _ hr3.sl).mono ?_; rintro e w4 ⟨rfl, hx4⟩))
    all_goals go_ret
    all_goals rw [HM2.out]
    all_goals exact ⟨rfl, (((Ext.refl w).alloc _).trans hx3).trans hx4⟩
  · have hfb : (f != 0) = true := by simpa using hf0
    have HM2 : Hid (numV medianS args = .fail f) := by show _ = _; rw [HM.out]; simp [hf0]
    clear HM hf0
    go_enter Tryz.func10, Tryz.ntmps10
    go_wp2_with (first
      | (go_at_call 21; refine (lim_MEDIAN _).mono ?_; rintro e w2 ⟨rfl, rfl⟩)
      | (go_at_call 29; refine (TN.out _ ((Ext.refl _).alloc _)).mono ?_; rintro e w3 ⟨v3, rfl, hr3, hx3⟩))
    all_goals go_ret
    all_goals rw [HM2.out]
    all_goals exact ⟨rfl, ((Ext.refl w).alloc _).trans hx3⟩
end Go.Proofs.YtphjmbaifkneiaaGreatDoor
