/- The plain law behind Div64, in the walk's own words: what its slots hold, and that the two digits and the rest are the quotient's. -/
import Derived.Test.YtphjmbaifkneiaaGreatDoorD3m
import Derived.Lib.ItoaNum
namespace Go.Proofs.YtphjmbaifkneiaaGreatDoor
namespace Knuth

theorem wu (n : Int) : IntKind.u64.wrap n = n % 18446744073709551616 := by simp [IntKind.wrap, IntKind.bits, IntKind.signed]
theorem wu_nat {n : Nat} (h : n < 18446744073709551616) : IntKind.u64.wrap (n : Int) = (n : Int) := IntWalk.u64_in _ (by omega)
theorem w3 (x c y z : Int) (h : x + c - y = z) (h0 : 0 ≤ z) (h1 : z ≤ 18446744073709551615) : IntKind.u64.wrap (IntKind.u64.wrap (IntKind.u64.wrap x + c) - IntKind.u64.wrap y) = z := by
  simp only [wu]; omega
theorem w2 (x c z : Int) (h : x + c = z) (h0 : 0 ≤ z) (h1 : z ≤ 18446744073709551615) : IntKind.u64.wrap (IntKind.u64.wrap x + c) = z := by
  simp only [wu]; omega

/-- What a trial digit's slots hold. -/
theorem digit {a b c U Y Q : Nat} (h : Ok a b c U Y Q) (hY : Y < 18446744073709551616) : ∃ q r Z : Nat,
    IntKind.u64.wrap ((U : Int) / (a : Int)) = (q : Int) ∧ IntKind.u64.wrap ((U : Int) - IntKind.u64.wrap ((q : Int) * (a : Int))) = (r : Int) ∧
    IntKind.u64.wrap (IntKind.u64.wrap (IntKind.u64.wrap ((U : Int) * 4294967296) + (c : Int)) - IntKind.u64.wrap ((Q : Int) * (Y : Int))) = (Z : Int) ∧
    q * a + r = U ∧ Q ≤ q ∧ (q : Int) ≤ 4294967297 ∧ (r : Int) ≤ 4294967295 ∧ Z = U * 4294967296 + c - Q * Y ∧ Z < Y := by
  obtain ⟨f1, f2, f3, f4⟩ := h.first
  have hU := h.u
  have hYp : 0 < Y := by omega
  have e1 : ((U / a : Nat) : Int) = (U : Int) / (a : Int) := Int.natCast_ediv U a
  have hq : U / a ≤ U := Nat.div_le_self _ _
  have e2 : ((U / a * a : Nat) : Int) = ((U / a : Nat) : Int) * (a : Int) := Int.natCast_mul _ _
  have hZ1 := Nat.mod_lt (U * 4294967296 + c) hYp
  have hZ2 := Nat.div_add_mod (U * 4294967296 + c) Y
  rw [← h.q, Nat.mul_comm] at hZ2
  have e3 : ((Q * Y : Nat) : Int) = (Q : Int) * (Y : Int) := Int.natCast_mul _ _
  obtain ⟨Z, hZ⟩ : ∃ Z, (U * 4294967296 + c) % Y = Z := ⟨_, rfl⟩
  rw [hZ] at hZ1 hZ2
  refine ⟨U / a, U % a, Z, ?_, ?_, ?_, f3, f1, by omega, by omega, ?_, hZ1⟩
  · rw [← e1]; exact wu_nat (by omega)
  · rw [← e2, wu_nat (by omega)]
    have e : (U : Int) - ((U / a * a : Nat) : Int) = ((U % a : Nat) : Int) := by omega
    rw [e]; exact wu_nat (by omega)
  · refine w3 _ _ _ _ ?_ (by omega) (by omega)
    rw [← e3]; omega
  · clear e1 e2 e3 hZ f1 f2 f3 f4 hq
    omega

set_option maxHeartbeats 1000000 in
theorem all {hi lo y : Nat} (h : hi < y) (h0 : 0 < hi) (hl : lo < 18446744073709551616) (hy2 : y < 18446744073709551616) :
    ∃ s Y a b U T c d q r Q1 Z q2 r2 Q0 A R : Nat, s ≤ 63 ∧ (64 - (Lib.bitLen y : Int) = (s : Int)) ∧ IntKind.u64.wrap ((y : Int) * 2 ^ s) = (Y : Int) ∧ (Y : Int) / 4294967296 = (a : Int) ∧ bits .and .u64 (Y : Int) 4294967295 = (b : Int) ∧
    bits .or .u64 (IntKind.u64.wrap ((hi : Int) * 2 ^ s)) ((lo : Int) / 2 ^ (64 - s)) = (U : Int) ∧ IntKind.u64.wrap ((lo : Int) * 2 ^ s) = (T : Int) ∧ (T : Int) / 4294967296 = (c : Int) ∧ bits .and .u64 (T : Int) 4294967295 = (d : Int) ∧
    IntKind.u64.wrap ((U : Int) / (a : Int)) = (q : Int) ∧ IntKind.u64.wrap ((U : Int) - IntKind.u64.wrap ((q : Int) * (a : Int))) = (r : Int) ∧
    IntKind.u64.wrap (IntKind.u64.wrap (IntKind.u64.wrap ((U : Int) * 4294967296) + (c : Int)) - IntKind.u64.wrap ((Q1 : Int) * (Y : Int))) = (Z : Int) ∧
    IntKind.u64.wrap ((Z : Int) / (a : Int)) = (q2 : Int) ∧ IntKind.u64.wrap ((Z : Int) - IntKind.u64.wrap ((q2 : Int) * (a : Int))) = (r2 : Int) ∧
    (Q1 : Int) * 4294967296 + (Q0 : Int) = (A : Int) ∧ (Q1 : Int) ≤ 4294967295 ∧ (Q0 : Int) ≤ 4294967295 ∧
    IntKind.u64.wrap (IntKind.u64.wrap (IntKind.u64.wrap ((Z : Int) * 4294967296) + (d : Int)) - IntKind.u64.wrap ((Q0 : Int) * (Y : Int))) / 2 ^ s = (R : Int) ∧
    Knuth.Ok a b d Z Y Q0 ∧ (q2 * a + r2 = Z) ∧ Q0 ≤ q2 ∧ (q2 : Int) ≤ 4294967297 ∧ (r2 : Int) ≤ 4294967295 ∧ (d : Int) ≤ 4294967295 ∧ (Z : Int) ≤ 18446744073709551615 ∧
    Knuth.Ok a b c U Y Q1 ∧ (q * a + r = U) ∧ Q1 ≤ q ∧ (q : Int) ≤ 4294967297 ∧ (r : Int) ≤ 4294967295 ∧ 1 ≤ (a : Int) ∧ (a : Int) ≤ 4294967295 ∧ (b : Int) ≤ 4294967295 ∧ (c : Int) ≤ 4294967295 ∧ (U : Int) ≤ 18446744073709551615 ∧
    A = (hi * 18446744073709551616 + lo) / y ∧ R = (hi * 18446744073709551616 + lo) % y := by
  have h64 : (2 : Nat) ^ 64 = 18446744073709551616 := by decide
  obtain ⟨l1, l2, l3⟩ := Lib.bitLenAux_bounds 64 y (by rw [h64]; exact hy2) (by omega)
  have hLe : Lib.bitLen y = Lib.bitLenAux 64 y := rfl
  rw [← hLe] at l1 l2 l3
  obtain ⟨L, hL⟩ : ∃ L, Lib.bitLen y = L := ⟨_, rfl⟩
  rw [hL] at l1 l2 l3
  have hL64 : L ≤ 64 := by
    rcases Nat.lt_or_ge 64 L with g | g
    · have : 2 ^ 64 ≤ 2 ^ (L - 1) := Nat.pow_le_pow_right (by omega) (by omega)
      omega
    · exact g
  obtain ⟨s, hs⟩ : ∃ s, s = 64 - L := ⟨_, rfl⟩
  obtain ⟨P, hP⟩ : ∃ P, 2 ^ s = P := ⟨_, rfl⟩
  obtain ⟨M, hM⟩ : ∃ M, 2 ^ L = M := ⟨_, rfl⟩
  have hPM : P * M = 18446744073709551616 := by rw [← hP, ← hM, ← Nat.pow_add, ← h64]; congr 1; omega
  have hPp : 0 < P := by rw [← hP]; exact Nat.two_pow_pos s
  have hMp : 0 < M := by rw [← hM]; exact Nat.two_pow_pos L
  rw [hM] at l3
  have hM2 : M = 2 * 2 ^ (L - 1) := by rw [← hM, ← Nat.pow_succ']; congr 1; omega
  have hs2 : 64 - s = L := by omega
  have hMy : M ≤ 2 * y := by omega
  -- Y
  have hYlt : y * P < 18446744073709551616 := by rw [← hPM, Nat.mul_comm P M]; exact Nat.mul_lt_mul_of_pos_right l3 hPp
  have hYge : 18446744073709551616 ≤ 2 * (y * P) := by
    have : M * P ≤ 2 * y * P := Nat.mul_le_mul_right P hMy
    rw [Nat.mul_assoc] at this
    rw [← hPM, Nat.mul_comm P M]; exact this
  obtain ⟨Y, hY⟩ : ∃ Y, Y = y * P := ⟨_, rfl⟩
  rw [← hY] at hYlt hYge
  -- lo's parts
  obtain ⟨m, hm⟩ : ∃ m, lo / M = m := ⟨_, rfl⟩
  obtain ⟨n, hn⟩ : ∃ n, lo % M = n := ⟨_, rfl⟩
  have hmP : m < P := by rw [← hm, Nat.div_lt_iff_lt_mul hMp, hPM]; exact hl
  have hnM : n < M := by rw [← hn]; exact Nat.mod_lt _ hMp
  have hlo : lo = m * M + n := by rw [← hm, ← hn, Nat.mul_comm]; exact (Nat.div_add_mod lo M).symm
  have hnP : n * P < 18446744073709551616 := by rw [← hPM, Nat.mul_comm P M]; exact Nat.mul_lt_mul_of_pos_right hnM hPp
  have hloP : lo * P = m * 18446744073709551616 + n * P := by
    rw [hlo, Nat.add_mul, Nat.mul_assoc, Nat.mul_comm M P, hPM]
  have hT : (lo * P) % 18446744073709551616 = n * P := by rw [hloP, Nat.mul_comm m, Nat.mul_add_mod, Nat.mod_eq_of_lt hnP]
  -- U
  have hhiP : hi * P + P ≤ Y := by
    have : (hi + 1) * P ≤ y * P := Nat.mul_le_mul_right P h
    rw [Nat.add_mul, Nat.one_mul] at this
    rw [hY]; exact this
  obtain ⟨V, hV⟩ : ∃ V, hi * P = V := ⟨_, rfl⟩
  rw [hV] at hhiP
  have hU : V + m < Y := by omega
  obtain ⟨T, hT'⟩ : ∃ T, n * P = T := ⟨_, rfl⟩
  rw [hT'] at hT hnP hloP
  have ok1 : Ok (Y / 4294967296) (Y % 4294967296) (T / 4294967296) (V + m) Y (((V + m) * 4294967296 + T / 4294967296) / Y) :=
    ⟨by omega, by omega, by omega, by omega, by omega, hU, rfl⟩
  obtain ⟨q, r, Z, d1, d2, d3, d4, d5, d6, d7, d8, d9⟩ := digit ok1 hYlt
  have ok2 : Ok (Y / 4294967296) (Y % 4294967296) (T % 4294967296) Z Y ((Z * 4294967296 + T % 4294967296) / Y) :=
    ⟨by omega, by omega, by omega, by omega, by omega, d9, rfl⟩
  obtain ⟨q2, r2, X, g1, g2, g3, g4, g5, g6, g7, g8, g9⟩ := digit ok2 hYlt
  have hN : ((V + m) * 4294967296 + T / 4294967296) * 4294967296 + T % 4294967296 = (hi * 18446744073709551616 + lo) * P := by
    have e1 : (hi * 18446744073709551616 + lo) * P = V * 18446744073709551616 + lo * P := by
      rw [Nat.add_mul, Nat.mul_right_comm, hV]
    rw [e1, hloP]; omega
  obtain ⟨t1, t2⟩ := two hPp (by omega) hY hN rfl d8 rfl
  have q1lt := ok1.lt
  have q0lt := ok2.lt
  obtain ⟨Q1, hQ1⟩ : ∃ Q1, ((V + m) * 4294967296 + T / 4294967296) / Y = Q1 := ⟨_, rfl⟩
  obtain ⟨Q0, hQ0⟩ : ∃ Q0, (Z * 4294967296 + T % 4294967296) / Y = Q0 := ⟨_, rfl⟩
  rw [hQ1] at ok1 d3 d5 d8 t1 q1lt
  rw [hQ0] at ok2 g3 g5 g8 t1 t2 q0lt
  have p1 : ((y : Nat) : Int) * 2 ^ s = ((y * P : Nat) : Int) := by rw [← hP]; simp
  have p2 : ((hi : Nat) : Int) * 2 ^ s = ((V : Nat) : Int) := by rw [← hV, ← hP]; simp
  have p3 : ((lo : Nat) : Int) * 2 ^ s = ((lo * P : Nat) : Int) := by rw [← hP]; simp
  have p4 : ((lo : Nat) : Int) / 2 ^ (64 - s) = ((m : Nat) : Int) := by rw [hs2, ← hm, ← hM]; simp
  have p5 : ∀ x : Int, 0 ≤ x → x / 2 ^ s = x / ((P : Nat) : Int) := fun x _ => by rw [← hP]; simp
  refine ⟨s, Y, Y / 4294967296, Y % 4294967296, V + m, T, T / 4294967296, T % 4294967296, q, r, Q1, Z, q2, r2, Q0, Q1 * 4294967296 + Q0, X / P,
    by omega, by omega, ?_, by omega, ?_, ?_, ?_, by omega, ?_, d1, d2, d3, g1, g2, by omega, by omega, by omega, ?_, ok2, g4, g5, g6, g7, by omega, by omega, ok1, d4, d5, d6, d7, ?_, by omega, by omega, by omega, by omega, t1, ?_⟩
  · rw [p1, ← hY]; exact wu_nat hYlt
  · have := and_low32 (Y : Int) (by omega) (by omega); rw [this]; omega
  · rw [p2, p4, wu_nat (by omega), bits_or_u64_nat V m (by omega) (by omega)]
    have : V ||| m = V + m := nat_join s V m (by rw [hP, ← hV, Nat.mul_mod_left]) (by rw [hP]; exact hmP)
    rw [this]
  · rw [p3, wu]; omega
  · have := and_low32 (T : Int) (by omega) (by omega); rw [this]; omega
  · rw [g3, p5 _ (by omega)]; exact (Int.natCast_ediv X P).symm
  · omega
  · rw [g8]; exact t2
end Knuth
end Go.Proofs.YtphjmbaifkneiaaGreatDoor
