/- The plain law behind Div64: a trial digit that is too great is lowered till it is the digit; two digits are the quotient. -/
import Derived.Test.YtphjmbaifkneiaaGreatDoorV
namespace Go.Proofs.YtphjmbaifkneiaaGreatDoor
namespace Knuth

/-- q, r with q * a + r = U: the trial digit isn't too great just if q * b isn't above r * B + c. -/
theorem trial {a b c U q r : Nat} (h : q * a + r = U) : q * (a * 4294967296 + b) ≤ U * 4294967296 + c ↔ q * b ≤ 4294967296 * r + c := by
  subst h
  have e1 : q * (a * 4294967296 + b) = q * a * 4294967296 + q * b := by rw [Nat.mul_add, Nat.mul_assoc]
  rw [e1, Nat.add_mul]
  omega

structure Ok (a b c U Y Q : Nat) : Prop where
  a0 : 2147483648 ≤ a
  a1 : a < 4294967296
  b1 : b < 4294967296
  c1 : c < 4294967296
  y : Y = a * 4294967296 + b
  u : U < Y
  q : Q = (U * 4294967296 + c) / Y

variable {a b c U Y Q : Nat}
theorem Ok.lt (h : Ok a b c U Y Q) : Q < 4294967296 := by
  have hY : 0 < Y := by have := h.a0; have := h.y; omega
  rw [h.q, Nat.div_lt_iff_lt_mul hY]
  have := h.u
  have := h.c1
  have : (U + 1) * 4294967296 ≤ Y * 4294967296 := Nat.mul_le_mul_right _ h.u
  rw [Nat.mul_comm 4294967296 Y]
  omega
theorem Ok.le_iff (h : Ok a b c U Y Q) {q r : Nat} (hr : q * a + r = U) : q ≤ Q ↔ q * b ≤ 4294967296 * r + c := by
  have hY : 0 < Y := by have := h.a0; have := h.y; omega
  rw [h.q, Nat.le_div_iff_mul_le hY, h.y]
  exact trial hr
/-- The first trial isn't too small. -/
theorem Ok.first (h : Ok a b c U Y Q) : Q ≤ U / a ∧ U / a ≤ 4294967297 ∧ U / a * a + U % a = U ∧ U % a < 4294967296 := by
  have ha : 0 < a := by have := h.a0; omega
  have hm := Nat.mod_lt U ha
  have hd := Nat.div_add_mod U a
  have hd' : U / a * a + U % a = U := by rw [Nat.mul_comm]; exact hd
  refine ⟨?_, ?_, hd', by have := h.a1; omega⟩
  · have hY : 0 < Y := by have := h.a0; have := h.y; omega
    rcases Nat.lt_or_ge (U / a) Q with hlt | hge
    · exfalso
      have h1 : U / a + 1 ≤ Q := hlt
      have h2 : (U / a + 1) * Y ≤ U * 4294967296 + c := by rw [h.q] at h1; exact (Nat.le_div_iff_mul_le hY).1 h1
      have h3 : (U / a + 1) * a = U / a * a + a := by rw [Nat.add_mul, Nat.one_mul]
      have h4 : (U / a + 1) * a ≥ U + 1 := by omega
      have h5 : (U / a + 1) * Y = (U / a + 1) * a * 4294967296 + (U / a + 1) * b := by rw [h.y, Nat.mul_add, Nat.mul_assoc]
      have := h.c1
      omega
    · exact hge
  · have h1 : U ≤ 4294967297 * a + (a - 1) := by
      have := h.u; have := h.y; have := h.b1; have := h.a0
      omega
    have h2 : U < 4294967298 * a := by omega
    have := (Nat.div_lt_iff_lt_mul ha).2 h2
    omega
/-- A trial that is found too great: one less isn't too small. -/
theorem Ok.lower (h : Ok a b c U Y Q) {q r : Nat} (hr : q * a + r = U) (hq : Q ≤ q) (ht : 4294967296 ≤ q ∨ 4294967296 * r + c < q * b) :
    Q ≤ q - 1 ∧ (q - 1) * a + (r + a) = U ∧ 1 ≤ q := by
  have hlt := h.lt
  have h1 : Q < q := by
    rcases ht with ht | ht
    · omega
    · rcases Nat.lt_or_ge Q q with h2 | h2
      · exact h2
      · have := (h.le_iff hr).1 h2; omega
  refine ⟨by omega, ?_, by omega⟩
  have e : q = (q - 1) + 1 := by omega
  have : q * a = (q - 1) * a + a := by
    conv => lhs; rw [e, Nat.add_mul, Nat.one_mul]
  omega
theorem Ok.done (h : Ok a b c U Y Q) {q r : Nat} (hr : q * a + r = U) (hq : Q ≤ q) (ht : q * b ≤ 4294967296 * r + c) : q = Q :=
  Nat.le_antisymm ((h.le_iff hr).2 ht) hq
/-- The rest is great: the trial isn't too great. -/
theorem Ok.broke (h : Ok a b c U Y Q) {q r : Nat} (hr : q * a + r = U) (hq : Q ≤ q) (h1 : q ≤ 4294967296) (ht : 4294967296 ≤ r) : q = Q := by
  refine h.done hr hq ?_
  have h2 : q * b ≤ 4294967296 * 4294967295 := Nat.mul_le_mul h1 (by have := h.b1; omega)
  omega

/-- Two digits. -/
theorem two {B N y P U c d Y Q1 Z Q0 : Nat} (hP : 0 < P) (hy : 0 < y) (hY : Y = y * P) (hN : (U * B + c) * B + d = N * P)
    (h1 : Q1 = (U * B + c) / Y) (hZ : Z = U * B + c - Q1 * Y) (h0 : Q0 = (Z * B + d) / Y) :
    Q1 * B + Q0 = N / y ∧ (Z * B + d - Q0 * Y) / P = N % y := by
  have hYp : 0 < Y := by rw [hY]; exact Nat.mul_pos hy hP
  have d1 := Nat.div_add_mod (U * B + c) Y
  rw [← h1, Nat.mul_comm] at d1
  have d0 := Nat.div_add_mod (Z * B + d) Y
  have m0 := Nat.mod_lt (Z * B + d) hYp
  rw [← h0, Nat.mul_comm] at d0
  obtain ⟨R, hR⟩ : ∃ R, (Z * B + d) % Y = R := ⟨_, rfl⟩
  obtain ⟨R1, hR1⟩ : ∃ R1, (U * B + c) % Y = R1 := ⟨_, rfl⟩
  rw [hR] at d0 m0
  rw [hR1] at d1
  have z1 : U * B + c = Q1 * Y + Z := by clear h1 h0 hN; omega
  have e1 : (Q1 * B + Q0) * Y = Q1 * Y * B + Q0 * Y := by
    rw [Nat.add_mul, Nat.mul_assoc, Nat.mul_comm B Y, ← Nat.mul_assoc]
  have key : (Q1 * B + Q0) * Y + R = N * P := by
    rw [← hN, e1, z1, Nat.add_mul]
    clear e1 hZ h1 h0 hN z1 d1
    omega
  have hq : Q1 * B + Q0 = (N * P) / Y := by
    rw [← key, Nat.mul_comm _ Y, Nat.mul_add_div hYp, Nat.div_eq_of_lt m0, Nat.add_zero]
  have hr : R = (N * P) % Y := by
    rw [← key, Nat.mul_comm _ Y, Nat.mul_add_mod, Nat.mod_eq_of_lt m0]
  have a1 : Q1 * B + Q0 = N / y := by rw [hq, hY, Nat.mul_div_mul_right _ _ hP]
  have a2 : Z * B + d - Q0 * Y = R := by clear hq hr a1 key e1 z1 h1 h0 hN hZ; omega
  exact ⟨a1, by rw [a2, hr, hY, Nat.mul_mod_mul_right, Nat.mul_div_cancel _ hP]⟩
theorem wrap_qb {q b : Nat} (hq : q ≤ 4294967296) (hb : b ≤ 4294967295) : IntKind.u64.wrap ((q : Int) * (b : Int)) = (q : Int) * (b : Int) := by
  have h : q * b ≤ 4294967296 * 4294967295 := Nat.mul_le_mul hq hb
  have e : ((q * b : Nat) : Int) = (q : Int) * (b : Int) := Int.natCast_mul q b
  refine IntWalk.u64_in _ ⟨?_, ?_⟩ <;> omega
theorem nat_lt {q b r c : Nat} (h : (4294967296 : Int) * (r : Int) + (c : Int) < (q : Int) * (b : Int)) : 4294967296 * r + c < q * b := by
  have e : ((q * b : Nat) : Int) = (q : Int) * (b : Int) := Int.natCast_mul q b
  omega
theorem nat_le {q b r c : Nat} (h : ¬ (4294967296 : Int) * (r : Int) + (c : Int) < (q : Int) * (b : Int)) : q * b ≤ 4294967296 * r + c := by
  have e : ((q * b : Nat) : Int) = (q : Int) * (b : Int) := Int.natCast_mul q b
  omega
end Knuth
end Go.Proofs.YtphjmbaifkneiaaGreatDoor
