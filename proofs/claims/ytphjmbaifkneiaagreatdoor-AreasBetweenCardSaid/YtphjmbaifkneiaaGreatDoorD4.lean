/- What layer 1's products and quotients come to: quot, Mul, Div: halves away from nought, and false where the number is too great. -/
import Derived.Test.YtphjmbaifkneiaaGreatDoorD3
namespace Go.Proofs.YtphjmbaifkneiaaGreatDoor
open Go.RowKit

set_option maxHeartbeats 400000
set_option maxRecDepth 100000

/-- The nearest whole number to N / by, halves up. -/
def roundQ (N d : Nat) : Nat := if d ≤ 2 * (N % d) then N / d + 1 else N / d
def signed (minus : Bool) (q : Nat) : Int × Bool := if 999999999999999999 < q then (0, false) else (if minus then -(q : Int) else (q : Int), true)
def mulD (a b : Int) : Int × Bool := signed (decide (a < 0) != decide (b < 0)) (roundQ (a.natAbs * b.natAbs) 10000)
def divD (a b : Int) : Int × Bool := signed (decide (a < 0) != decide (b < 0)) (roundQ (a.natAbs * 10000) b.natAbs)

def QuotPost (n : Nat) (w : World) (e : Ending) (w' : World) : Prop :=
  ∃ (x : Nat) (b : Bool), e = .returned (.tuple #[.int .u64 x, .bool b]) ∧ b = decide (n ≤ 999999999999999999) ∧ (n ≤ 999999999999999999 → x = n) ∧ Ext w w'

theorem quot_big (hi lo d n : Nat) (w : World) (h : d ≤ hi) (hn : Hid (999999999999999999 < n)) : Calls Tryz.prog 80 #[.int .u64 hi, .int .u64 lo, .int .u64 d] w fun e w' => QuotPost n w e w' := by
  have h2 : decide ((d : Int) ≤ (hi : Int)) = true := by simp; omega
  go_enter Tryz.func80, Tryz.ntmps80
  go_wp2
  go_ret2
  have := hn.out
  exact ⟨0, false, rfl, by simp; omega, fun h => absurd h (by omega), by repeat (first | exact Ext.refl _ | exact Ext.trans (by assumption) (by assumption) | assumption | refine Ext.alloc ?_ _ | refine Ext.drew ?_ | refine Ext.drewN ?_ _ | refine Ext.setCell ?_ (by simp) _)⟩
theorem quot_walk (hi lo d q r n : Nat) (w : World) (h : hi < d) (hl : lo < 18446744073709551616) (hd : d < 18446744073709551616)
    (hq : Hid ((hi * 18446744073709551616 + lo) / d = q)) (hr : Hid ((hi * 18446744073709551616 + lo) % d = r)) (hrd : r < d) (hq2 : q < 18446744073709551616) (hn : Hid (n = if d ≤ 2 * r then q + 1 else q)) :
    Calls Tryz.prog 80 #[.int .u64 hi, .int .u64 lo, .int .u64 d] w fun e w' => QuotPost n w e w' := by
  have h2 : decide ((d : Int) ≤ (hi : Int)) = false := by simp; omega
  have M : Hid (∀ w : World, Calls Tryz.prog 101 #[.int .u64 hi, .int .u64 lo, .int .u64 d] w fun e w' => e = .returned (.tuple #[.int .u64 q, .int .u64 r]) ∧ Ext w w') := fun w => by
    have := div64_any hi lo d w h hl hd
    rw [hq.out, hr.out] at this
    exact this
  by_cases c1 : (999999999999999999 : Int) < (q : Int)
  · go_enter Tryz.func80, Tryz.ntmps80
    go_wp2_with (go_at_call 101; refine (M.out _).mono ?_; rintro e w' ⟨rfl, hb⟩)
    go_ret2
    have h6 := hn.out
    have h5 : 999999999999999999 < n := by rw [h6]; split <;> omega
    exact ⟨0, false, rfl, by simp; omega, fun h => absurd h (by omega), hb⟩
  · by_cases c2 : (d : Int) - (r : Int) ≤ (r : Int)
    · go_enter Tryz.func80, Tryz.ntmps80
      go_wp2_with (go_at_call 101; refine (M.out _).mono ?_; rintro e w' ⟨rfl, hb⟩)
      go_ret2
      have h6 := hn.out
      rw [if_pos (by omega)] at h6
      subst h6
      exact ⟨q + 1, _, rfl, by rw [decide_eq_decide]; omega, fun _ => rfl, hb⟩
    · go_enter Tryz.func80, Tryz.ntmps80
      go_wp2_with (go_at_call 101; refine (M.out _).mono ?_; rintro e w' ⟨rfl, hb⟩)
      go_ret2
      have h6 := hn.out
      rw [if_neg (by omega)] at h6
      subst h6
      exact ⟨n, _, rfl, by simp; omega, fun _ => rfl, hb⟩
/-- quot, of whatever two numbers that a product of 128 bits has. -/
theorem quot_any (N d : Nat) (w : World) (hd0 : 0 < d) (hd : d < 18446744073709551616) :
    Calls Tryz.prog 80 #[.int .u64 ((N / 18446744073709551616 : Nat) : Int), .int .u64 ((N % 18446744073709551616 : Nat) : Int), .int .u64 d] w fun e w' => QuotPost (roundQ N d) w e w' := by
  have hN := Nat.div_add_mod N 18446744073709551616
  have hm := Nat.mod_lt N (show 0 < 18446744073709551616 by omega)
  obtain ⟨hi, hhi⟩ : ∃ hi, N / 18446744073709551616 = hi := ⟨_, rfl⟩
  obtain ⟨lo, hlo⟩ : ∃ lo, N % 18446744073709551616 = lo := ⟨_, rfl⟩
  rw [hhi, hlo, Nat.mul_comm] at hN
  rw [hlo] at hm
  rw [hhi, hlo]
  by_cases h : hi < d
  · have hq : N / d < 18446744073709551616 := by
      rw [Nat.div_lt_iff_lt_mul hd0]
      have : (hi + 1) * 18446744073709551616 ≤ d * 18446744073709551616 := Nat.mul_le_mul_right _ h
      rw [Nat.mul_comm 18446744073709551616 d]
      omega
    exact quot_walk hi lo d (N / d) (N % d) _ w h hm hd (by show _ = _; rw [hN]) (by show _ = _; rw [hN]) (Nat.mod_lt _ hd0) hq rfl
  · refine quot_big hi lo d _ w (by omega) ?_
    show 999999999999999999 < roundQ N d
    have h1 : 18446744073709551616 ≤ N / d := by
      rw [Nat.le_div_iff_mul_le hd0, Nat.mul_comm]
      have : d * 18446744073709551616 ≤ hi * 18446744073709551616 := Nat.mul_le_mul_right _ (by omega)
      omega
    unfold roundQ
    split <;> omega
end Go.Proofs.YtphjmbaifkneiaaGreatDoor
