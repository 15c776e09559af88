/- What layer 1's sums come to: size, made, Int, Add, Good, Whole, of numbers from -Most to Most. -/
import Derived.Test.YtphjmbaifkneiaaGreatDoorV
import Derived.Test.YtphjmbaifkneiaaGreatDoorShelf
import Derived.Lib.Hide
namespace Go.Proofs.YtphjmbaifkneiaaGreatDoor
open Go.RowKit

set_option maxHeartbeats 400000
set_option maxRecDepth 100000

/-- A number of layer 1. -/
def Num (n : Int) : Prop := -999999999999999999 ≤ n ∧ n ≤ 999999999999999999
/-- made: a sign and a size. -/
def madeD (minus : Bool) (lo : Int) : Int × Bool := if 999999999999999999 < lo then (0, false) else (if minus then -lo else lo, true)
def addD (a b : Int) : Int × Bool := if 999999999999999999 < a + b ∨ a + b < -999999999999999999 then (0, false) else (a + b, true)

theorem good_yes (n : Int) (w : World) (h : Num n) : Calls Tryz.prog 15 #[.int .i64 n] w fun e w' => e = .returned (.bool true) ∧ w = w' := by
  obtain ⟨h1, h2⟩ := h
  go_enter Tryz.func15, Tryz.ntmps15; go_wp2; go_ret; exact ⟨rfl, rfl⟩
theorem good_no (n : Int) (w : World) (h : ¬ Num n) : Calls Tryz.prog 15 #[.int .i64 n] w fun e w' => e = .returned (.bool false) ∧ w = w' := by
  unfold Num at h
  by_cases h1 : -999999999999999999 ≤ n
  · have h2 : ¬ n ≤ 999999999999999999 := fun h2 => h ⟨h1, h2⟩
    clear h
    go_enter Tryz.func15, Tryz.ntmps15; go_wp2; go_ret; exact ⟨rfl, rfl⟩
  · clear h
    go_enter Tryz.func15, Tryz.ntmps15; go_wp2; go_ret; exact ⟨rfl, rfl⟩

theorem size_pos (a : Int) (w : World) (h0 : 0 ≤ a) (h1 : a ≤ 9223372036854775807) :
    Calls Tryz.prog 43 #[.int .i64 a] w fun e w' => e = .returned (.int .u64 a) ∧ w = w' := by
  go_enter Tryz.func43, Tryz.ntmps43; go_wp2; go_ret; exact ⟨rfl, rfl⟩
theorem size_neg (a : Int) (w : World) (h0 : a < 0) (h1 : -9223372036854775807 ≤ a) :
    Calls Tryz.prog 43 #[.int .i64 a] w fun e w' => e = .returned (.int .u64 (-a)) ∧ w = w' := by
  go_enter Tryz.func43, Tryz.ntmps43; go_wp2; go_ret; exact ⟨rfl, rfl⟩
theorem size_any (a : Int) (w : World) (h0 : -9223372036854775807 ≤ a) (h1 : a ≤ 9223372036854775807) :
    Calls Tryz.prog 43 #[.int .i64 a] w fun e w' => e = .returned (.int .u64 a.natAbs) ∧ w = w' := by
  by_cases h : 0 ≤ a
  · have e : ((a.natAbs : Nat) : Int) = a := by omega
    rw [e]; exact size_pos a w h h1
  · have e : ((a.natAbs : Nat) : Int) = -a := by omega
    rw [e]; exact size_neg a w (by omega) h0
theorem made_hi (m : Bool) (hi lo : Int) (w : World) (h : 0 < hi) :
    Calls Tryz.prog 47 #[.bool m, .int .u64 hi, .int .u64 lo] w fun e w' => e = .returned (.tuple #[.int .i64 (((0 : Int), false)).1, .bool (((0 : Int), false)).2]) ∧ w = w' := by
  go_enter Tryz.func47, Tryz.ntmps47; go_wp2; go_ret2; exact ⟨rfl, rfl⟩
theorem made_any (m : Bool) (lo : Int) (w : World) (h0 : 0 ≤ lo) :
    Calls Tryz.prog 47 #[.bool m, .int .u64 0, .int .u64 lo] w fun e w' => e = .returned (.tuple #[.int .i64 (madeD m lo).1, .bool (madeD m lo).2]) ∧ w = w' := by
  by_cases h : 999999999999999999 < lo
  · have e : madeD m lo = (0, false) := by simp [madeD, h]
    rw [e]
    go_enter Tryz.func47, Tryz.ntmps47; go_wp2; go_ret2; exact ⟨rfl, rfl⟩
  · have e : madeD m lo = (if m then -lo else lo, true) := by simp [madeD, h]
    rw [e]
    have h2 : lo ≤ 999999999999999999 := by omega
    clear e h
    cases m <;> (go_enter Tryz.func47, Tryz.ntmps47; go_wp2; go_ret2; exact ⟨rfl, rfl⟩)

theorem add_made {a b : Int} (ha : Num a) (hb : Num b) : madeD (decide (a + b < 0)) ((a + b).natAbs : Nat) = addD a b := by
  obtain ⟨h1, h2⟩ := ha
  obtain ⟨h3, h4⟩ := hb
  unfold madeD addD
  by_cases h : a + b < 0
  · have e : (((a + b).natAbs : Nat) : Int) = -(a + b) := by omega
    rw [e]
    simp only [h, decide_true, if_true]
    by_cases h5 : 999999999999999999 < -(a + b)
    · rw [if_pos h5, if_pos (Or.inr (by omega))]
    · rw [if_neg h5, if_neg (by omega)]; exact congrArg (·, true) (by omega)
  · have e : (((a + b).natAbs : Nat) : Int) = a + b := by omega
    rw [e]
    simp only [h, decide_false, Bool.false_eq_true, if_false]
    by_cases h5 : 999999999999999999 < a + b
    · rw [if_pos h5, if_pos (Or.inl h5)]
    · rw [if_neg h5, if_neg (by omega)]
theorem add_any (a b : Int) (w : World) (ha : Num a) (hb : Num b) :
    Calls Tryz.prog 54 #[.int .i64 a, .int .i64 b] w fun e w' => e = .returned (.tuple #[.int .i64 (addD a b).1, .bool (addD a b).2]) ∧ w = w' := by
  have E := Lib.hid (add_made ha hb)
  obtain ⟨h1, h2⟩ := ha
  obtain ⟨h3, h4⟩ := hb
  go_enter Tryz.func54, Tryz.ntmps54
  go_wp2_with (first | (go_at_call 43; refine (size_any _ _ (by omega) (by omega)).mono ?_; rintro e w' ⟨rfl, rfl⟩) | (go_at_call 47; refine (made_any _ _ _ (by omega)).mono ?_; rintro e w' ⟨rfl, rfl⟩))
  go_ret2
  rw [E.out]
  exact ⟨rfl, rfl⟩
end Go.Proofs.YtphjmbaifkneiaaGreatDoor
