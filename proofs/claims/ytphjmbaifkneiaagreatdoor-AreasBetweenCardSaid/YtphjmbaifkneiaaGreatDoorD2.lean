/- What layer 1's whole numbers come to: Int of a number that isn't below 0, Whole. -/
import Derived.Test.YtphjmbaifkneiaaGreatDoorD1
namespace Go.Proofs.YtphjmbaifkneiaaGreatDoor
open Go.RowKit

set_option maxHeartbeats 400000
set_option maxRecDepth 100000

def intD (n : Nat) : Int × Bool := if 999999999999999999 < n * 10000 then (0, false) else ((n * 10000 : Nat), true)

theorem int_any (n : Nat) (w : World) (h : n ≤ 9223372036854775807) :
    Calls Tryz.prog 17 #[.int .i64 n] w fun e w' => e = .returned (.tuple #[.int .i64 (intD n).1, .bool (intD n).2]) ∧ w = w' := by
  by_cases hb : n * 10000 < 18446744073709551616
  · have e1 : (n * 10000 / 18446744073709551616 : Nat) = 0 := Nat.div_eq_of_lt hb
    have e2 : (n * 10000 % 18446744073709551616 : Nat) = n * 10000 := Nat.mod_eq_of_lt hb
    have M : Hid (∀ w : World, Calls Tryz.prog 46 #[.int .u64 n, .int .u64 10000] w fun e w' => e = .returned (.tuple #[.int .u64 0, .int .u64 ((n * 10000 : Nat) : Int)]) ∧ w = w') := fun w => by
      have := Tryz.bits_Mul64 n 10000 (by omega) (by omega) w
      rw [e1, e2] at this
      exact this.mono fun _ _ ⟨a, b⟩ => ⟨a, b.symm⟩
    have F : Hid (madeD (decide ((n : Int) < 0)) ((n : Int) * 10000) = intD n) := by
      show madeD (decide ((n : Int) < 0)) ((n : Int) * 10000) = intD n
      have e0 : decide ((n : Int) < 0) = false := by simp
      rw [e0]
      unfold madeD intD
      by_cases h5 : 999999999999999999 < n * 10000
      · rw [if_pos h5, if_pos (by omega)]
      · rw [if_neg h5, if_neg (by omega)]; exact congrArg (·, true) (by simp)
    clear e1 e2
    go_enter Tryz.func17, Tryz.ntmps17
    go_wp2_with (first | (go_at_call 46; refine (M.out _).mono ?_; rintro e w' ⟨rfl, rfl⟩) | (go_at_call 47; refine (made_any _ _ _ (by omega)).mono ?_; rintro e w' ⟨rfl, rfl⟩))
    go_ret2
    rw [F.out]
    exact ⟨rfl, rfl⟩
  · have e1 : 0 < (n * 10000 / 18446744073709551616 : Nat) := Nat.div_pos (by omega) (by omega)
    have F : Hid (intD n = (0, false)) := by
      show intD n = (0, false)
      unfold intD
      rw [if_pos (by omega)]
    have M : Hid (∀ w : World, Calls Tryz.prog 46 #[.int .u64 n, .int .u64 10000] w fun e w' => ∃ hi lo : Int, 0 < hi ∧ e = .returned (.tuple #[.int .u64 hi, .int .u64 lo]) ∧ w = w') := fun w =>
      (Tryz.bits_Mul64 n 10000 (by omega) (by omega) w).mono fun _ _ ⟨a, b⟩ => ⟨_, _, by omega, a, b.symm⟩
    clear e1
    go_enter Tryz.func17, Tryz.ntmps17
    go_wp2_with (first | (go_at_call 46; refine (M.out _).mono ?_; rintro e w' ⟨hi, lo, hpos, rfl, rfl⟩) | (go_at_call 47; refine (made_hi _ _ _ _ (by omega)).mono ?_; rintro e w' ⟨rfl, rfl⟩))
    go_ret2
    rw [F.out]
    exact ⟨rfl, rfl⟩

theorem whole_any (n : Int) (w : World) (h : Num n) : Calls Tryz.prog 82 #[.int .i64 n] w fun e w' => e = .returned (.int .i64 (n.tdiv 10000)) ∧ w = w' := by
  obtain ⟨h1, h2⟩ := h
  go_enter Tryz.func82, Tryz.ntmps82
  go_wp2
  go_ret
  exact ⟨rfl, rfl⟩
end Go.Proofs.YtphjmbaifkneiaaGreatDoor
