/- COUNT. -/
import Derived.Test.YtphjmbaifkneiaaGreatDoorC1
import Derived.Test.YtphjmbaifkneiaaGreatDoorB5
namespace Go.Proofs.YtphjmbaifkneiaaGreatDoor
open Go.RowKit

set_option maxHeartbeats 4000000
set_option maxRecDepth 100000

theorem limits_COUNT (w : World) : Calls Tryz.prog 21 #[.string ⟨#[67, 79, 85, 78, 84]⟩] w fun e w' => e = .returned (.tuple #[.int .i64 1, .int .i64 30]) ∧ w = w' := by
  go_enter Tryz.func21, Tryz.ntmps21
  go_wp2
  go_ret2
  exact ⟨rfl, rfl⟩
theorem count_any (av : Value) (x : ArgD) (w : World) (hA : ASl w av [x]) (gx : ∀ u ∈ x.l, u.Good) (hl : x.l.length ≤ 100000) :
    Calls Tryz.prog 10 #[.string ⟨#[67, 79, 85, 78, 84]⟩, av] w fun e w' => e = .returned (V.num ((countS V.counts [x] * 10000 : Nat) : Int)).val ∧ Ext w w' := by
  have TC : Hid (∀ W, Ext w W → Calls Tryz.prog 22 #[.string ⟨#[67, 79, 85, 78, 84]⟩, av] W fun e w' => e = .returned (V.num ((countS V.counts [x] * 10000 : Nat) : Int)).val ∧ Ext W w') := fun W hx => counts_COUNT av [x] W (hA.ext hx) (by simpa using gx) (by simpa [flat] using hl)
  obtain ⟨m, hm⟩ : ∃ m, (V.num ((countS V.counts [x] * 10000 : Nat) : Int)).val = m := ⟨_, rfl⟩
  rw [hm] at TC ⊢
  clear hm gx
  obtain ⟨A, c, rfl, h1, h2, h3⟩ := hA
  obtain ⟨b, o, s0, rfl, hb, c0, c1, c2, c3, hs0⟩ := h3 0 (by simp)
  clear h3
  obtain ⟨A0, k0, rfl, q1, q2, q3⟩ := hs0
  clear q3
  simp only [List.getElem_cons_zero, Nat.zero_mul, Nat.add_zero] at c0 c1 c2 c3 q1
  simp only [List.length_cons, List.length_nil, Nat.zero_add] at h1 TC ⊢
  go_enter Tryz.func10, Tryz.ntmps10
  go_wp2_with (first
    | (go_at_call 21; refine (limits_COUNT _).mono ?_; rintro e w2 ⟨rfl, rfl⟩)
    | (go_at_call 22; refine (TC.out _ ((Ext.refl _).alloc _)).mono ?_; rintro e w3 ⟨rfl, hx3⟩))
  go_ret
  exact ⟨rfl, ((Ext.refl w).alloc _).trans hx3⟩
end Go.Proofs.YtphjmbaifkneiaaGreatDoor
