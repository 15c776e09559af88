/- What layer 1's Mul and Div come to, of numbers from -Most to Most. -/
import Derived.Test.YtphjmbaifkneiaaGreatDoorD4
namespace Go.Proofs.YtphjmbaifkneiaaGreatDoor
open Go.RowKit

set_option maxHeartbeats 400000
set_option maxRecDepth 100000

theorem mul64_any (x y : Nat) (w : World) (hx : x < 18446744073709551616) (hy : y < 18446744073709551616) :
    Calls Tryz.prog 46 #[.int .u64 x, .int .u64 y] w fun e w' => e = .returned (.tuple #[.int .u64 ((x * y / 18446744073709551616 : Nat) : Int), .int .u64 ((x * y % 18446744073709551616 : Nat) : Int)]) ∧ w = w' :=
  (Tryz.bits_Mul64 x y hx hy w).mono fun _ _ ⟨a, b⟩ => ⟨a, b.symm⟩

theorem signed_made {m : Bool} {q : Nat} : madeD m (q : Int) = signed m q := by
  unfold madeD signed
  by_cases h : 999999999999999999 < q
  · rw [if_pos h, if_pos (by omega)]
  · rw [if_neg h, if_neg (by omega)]
theorem signed_no {m : Bool} {q : Nat} (h : decide (q ≤ 999999999999999999) = false) : signed m q = (0, false) := by
  unfold signed
  rw [if_pos (by simp at h; omega)]

theorem signed_of_no {m ok : Bool} {n : Nat} (h1 : Hid (ok = decide (n ≤ 999999999999999999))) (h2 : (!ok) = true) : signed m n = (0, false) :=
  signed_no (by rw [← h1.out]; simpa using h2)
theorem signed_of_yes {m ok : Bool} {n q : Nat} (h1 : Hid (ok = decide (n ≤ 999999999999999999))) (h2 : Hid (n ≤ 999999999999999999 → q = n)) (h3 : (!ok) = false) : madeD m (q : Int) = signed m n := by
  have : ok = true := by simpa using h3
  have h4 : n ≤ 999999999999999999 := by have := h1.out; simp_all
  rw [h2.out h4]; exact signed_made

theorem mul_any (a b : Int) (w : World) (ha : Num a) (hb : Num b) :
    Calls Tryz.prog 53 #[.int .i64 a, .int .i64 b] w fun e w' => e = .returned (.tuple #[.int .i64 (mulD a b).1, .bool (mulD a b).2]) ∧ Ext w w' := by
  obtain ⟨h1, h2⟩ := ha
  obtain ⟨h3, h4⟩ := hb
  have M : Hid (∀ w : World, Calls Tryz.prog 46 #[.int .u64 (a.natAbs : Nat), .int .u64 (b.natAbs : Nat)] w fun e w' => ∃ hi lo : Nat, Hid (hi = a.natAbs * b.natAbs / 18446744073709551616 ∧ lo = a.natAbs * b.natAbs % 18446744073709551616) ∧ e = .returned (.tuple #[.int .u64 hi, .int .u64 lo]) ∧ w = w') :=
    fun w => (mul64_any _ _ w (by omega) (by omega)).mono fun _ _ ⟨x, y⟩ => ⟨_, _, ⟨rfl, rfl⟩, x, y⟩
  have Qt : Hid (∀ (hi lo : Nat) (w : World), hi = a.natAbs * b.natAbs / 18446744073709551616 ∧ lo = a.natAbs * b.natAbs % 18446744073709551616 → Calls Tryz.prog 80 #[.int .u64 hi, .int .u64 lo, .int .u64 10000] w fun e w' => QuotPost (roundQ (a.natAbs * b.natAbs) 10000) w e w') :=
    fun hi lo w ⟨x, y⟩ => by subst x y; exact quot_any _ 10000 w (by omega) (by omega)
  go_enter Tryz.func53, Tryz.ntmps53
  go_wp2_with (first
    | (go_at_call 43; refine (size_any _ _ (by omega) (by omega)).mono ?_; rintro e w' ⟨rfl, rfl⟩)
    | (go_at_call 46; refine (M.out _).mono ?_; rintro e w' ⟨hi, lo, hl, rfl, rfl⟩)
    | (go_at_call 80; refine (Qt.out _ _ _ hl.out).mono ?_; rintro e w' ⟨q, ok, rfl, hok, hq, hb⟩; have HOK := Lib.hid hok; clear hok; have HQ := Lib.hid hq; clear hq)
    | (go_at_call 47; refine (made_any _ _ _ (by omega)).mono ?_; rintro e w' ⟨rfl, rfl⟩))
  · go_ret2
    have h5 : mulD a b = (0, false) := signed_of_no HOK (by assumption)
    rw [h5]
    exact ⟨rfl, hb⟩
  · go_ret2
    have h5 : madeD (decide (a < 0) != decide (b < 0)) (q : Int) = mulD a b := signed_of_yes HOK HQ (by assumption)
    rw [← h5]
    exact ⟨rfl, hb⟩

theorem div_any (a b : Int) (w : World) (ha : Num a) (hb : Num b) (hb0 : b ≠ 0) :
    Calls Tryz.prog 92 #[.int .i64 a, .int .i64 b] w fun e w' => e = .returned (.tuple #[.int .i64 (divD a b).1, .bool (divD a b).2]) ∧ Ext w w' := by
  obtain ⟨h1, h2⟩ := ha
  obtain ⟨h3, h4⟩ := hb
  have h0 : (b == 0) = false := by simpa using hb0
  have M : Hid (∀ w : World, Calls Tryz.prog 46 #[.int .u64 (a.natAbs : Nat), .int .u64 10000] w fun e w' => ∃ hi lo : Nat, Hid (hi = a.natAbs * 10000 / 18446744073709551616 ∧ lo = a.natAbs * 10000 % 18446744073709551616) ∧ e = .returned (.tuple #[.int .u64 hi, .int .u64 lo]) ∧ w = w') :=
    fun w => (mul64_any _ 10000 w (by omega) (by omega)).mono fun _ _ ⟨x, y⟩ => ⟨_, _, ⟨rfl, rfl⟩, x, y⟩
  have Qt : Hid (∀ (hi lo : Nat) (w : World), hi = a.natAbs * 10000 / 18446744073709551616 ∧ lo = a.natAbs * 10000 % 18446744073709551616 → Calls Tryz.prog 80 #[.int .u64 hi, .int .u64 lo, .int .u64 (b.natAbs : Nat)] w fun e w' => QuotPost (roundQ (a.natAbs * 10000) b.natAbs) w e w') :=
    fun hi lo w ⟨x, y⟩ => by subst x y; exact quot_any _ _ w (by omega) (by omega)
  clear hb0
  go_enter Tryz.func92, Tryz.ntmps92
  go_wp2_with (first
    | (go_at_call 43; refine (size_any _ _ (by omega) (by omega)).mono ?_; rintro e w' ⟨rfl, rfl⟩)
    | (go_at_call 46; refine (M.out _).mono ?_; rintro e w' ⟨hi, lo, hl, rfl, rfl⟩)
    | (go_at_call 80; refine (Qt.out _ _ _ hl.out).mono ?_; rintro e w' ⟨q, ok, rfl, hok, hq, hb⟩; have HOK := Lib.hid hok; clear hok; have HQ := Lib.hid hq; clear hq)
    | (go_at_call 47; refine (made_any _ _ _ (by omega)).mono ?_; rintro e w' ⟨rfl, rfl⟩))
  · go_ret2
    have h5 : divD a b = (0, false) := signed_of_no HOK (by assumption)
    rw [h5]
    exact ⟨rfl, hb⟩
  · go_ret2
    have h5 : madeD (decide (a < 0) != decide (b < 0)) (q : Int) = divD a b := signed_of_yes HOK HQ (by assumption)
    rw [← h5]
    exact ⟨rfl, hb⟩
end Go.Proofs.YtphjmbaifkneiaaGreatDoor
