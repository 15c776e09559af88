/- What math/bits' Div64 comes to: the quotient and the rest of a number of 128 bits, of which the quotient has 64. -/
import Derived.Test.YtphjmbaifkneiaaGreatDoorD2
import Derived.Test.YtphjmbaifkneiaaGreatDoorD3n
import Derived.BigQuiet
import Derived.Deep.QuietTactic
namespace Go.Proofs.YtphjmbaifkneiaaGreatDoor
open Go.RowKit

set_option maxHeartbeats 400000
set_option maxRecDepth 100000

theorem div64_zero (lo y : Nat) (w : World) (hl : lo < 18446744073709551616) (hy : 0 < y) (hy2 : y < 18446744073709551616) :
    Calls Tryz.prog 101 #[.int .u64 0, .int .u64 lo, .int .u64 y] w fun e w' => e = .returned (.tuple #[.int .u64 ((lo / y : Nat) : Int), .int .u64 ((lo % y : Nat) : Int)]) ∧ Ext w w' := by
  have h0 : ((y : Int) == 0) = false := by simp; omega
  have h1 : decide ((y : Int) ≤ 0) = false := by simp; omega
  go_enter Tryz.func101, Tryz.ntmps101
  go_wp2
  go_quiet (fail)
  go_wp2
  go_ret2
  refine ⟨?_, by repeat (first | exact Ext.refl _ | exact Ext.trans (by assumption) (by assumption) | assumption | refine Ext.alloc ?_ _ | refine Ext.drew ?_ | refine Ext.drewN ?_ _ | refine Ext.setCell ?_ (by simp) _)⟩
  have e1 : IntKind.u64.wrap ((lo : Int) / (y : Int)) = ((lo / y : Nat) : Int) := by
    rw [Int.natCast_ediv]
    refine IntWalk.u64_in _ ⟨by exact Int.ediv_nonneg (by omega) (by omega), ?_⟩
    have : lo / y ≤ lo := Nat.div_le_self _ _
    have e : (lo : Int) / (y : Int) = ((lo / y : Nat) : Int) := (Int.natCast_ediv lo y).symm
    omega
  rw [Int.natCast_emod, ← e1]
  rfl

set_option maxHeartbeats 2000000 in
theorem div64_walk (hi lo y s Y a b U T c d q r Q1 Z q2 r2 Q0 A R : Nat) (w : World) (h : hi < y) (h0 : 0 < hi) (_hl : lo < 18446744073709551616) (hy2 : y < 18446744073709551616) (hs : s ≤ 63)
    (hL : Hid (64 - (Lib.bitLen y : Int) = (s : Int))) (hY : IntKind.u64.wrap ((y : Int) * 2 ^ s) = (Y : Int)) (ha : (Y : Int) / 4294967296 = (a : Int)) (hb : bits .and .u64 (Y : Int) 4294967295 = (b : Int))
    (hU : bits .or .u64 (IntKind.u64.wrap ((hi : Int) * 2 ^ s)) ((lo : Int) / 2 ^ (64 - s)) = (U : Int)) (hT : IntKind.u64.wrap ((lo : Int) * 2 ^ s) = (T : Int)) (hc : (T : Int) / 4294967296 = (c : Int)) (hd : bits .and .u64 (T : Int) 4294967295 = (d : Int))
    (hqq : IntKind.u64.wrap ((U : Int) / (a : Int)) = (q : Int)) (hrr : IntKind.u64.wrap ((U : Int) - IntKind.u64.wrap ((q : Int) * (a : Int))) = (r : Int))
    (hZ : IntKind.u64.wrap (IntKind.u64.wrap (IntKind.u64.wrap ((U : Int) * 4294967296) + (c : Int)) - IntKind.u64.wrap ((Q1 : Int) * (Y : Int))) = (Z : Int))
    (hqq2 : IntKind.u64.wrap ((Z : Int) / (a : Int)) = (q2 : Int)) (hrr2 : IntKind.u64.wrap ((Z : Int) - IntKind.u64.wrap ((q2 : Int) * (a : Int))) = (r2 : Int))
    (hA : Hid ((Q1 : Int) * 4294967296 + (Q0 : Int) = (A : Int))) (hQ1 : (Q1 : Int) ≤ 4294967295) (hQ0 : (Q0 : Int) ≤ 4294967295)
    (hR : IntKind.u64.wrap (IntKind.u64.wrap (IntKind.u64.wrap ((Z : Int) * 4294967296) + (d : Int)) - IntKind.u64.wrap ((Q0 : Int) * (Y : Int))) / 2 ^ s = (R : Int))
    (ok2 : Hid (Knuth.Ok a b d Z Y Q0)) (hqr2 : Hid (q2 * a + r2 = Z)) (hq12 : Q0 ≤ q2) (hq22 : (q2 : Int) ≤ 4294967297) (hr12 : (r2 : Int) ≤ 4294967295) (hd1 : (d : Int) ≤ 4294967295) (_hZ1 : (Z : Int) ≤ 18446744073709551615)
    (ok1 : Hid (Knuth.Ok a b c U Y Q1)) (hqr : Hid (q * a + r = U)) (hq1 : Q1 ≤ q) (hq2 : (q : Int) ≤ 4294967297) (hr1 : (r : Int) ≤ 4294967295) (ha0 : 1 ≤ (a : Int)) (ha1 : (a : Int) ≤ 4294967295) (hb1 : (b : Int) ≤ 4294967295) (hc1 : (c : Int) ≤ 4294967295) (_hU1 : (U : Int) ≤ 18446744073709551615) :
    Calls Tryz.prog 101 #[.int .u64 hi, .int .u64 lo, .int .u64 y] w fun e w' => e = .returned (.tuple #[.int .u64 A, .int .u64 R]) ∧ Ext w w' := by
  have h1 : ((y : Int) == 0) = false := by simp; omega
  have h2 : decide ((y : Int) ≤ (hi : Int)) = false := by simp; omega
  have h3 : ((hi : Int) == 0) = false := by simp; omega
  have M : Hid (∀ w : World, Calls Tryz.prog 118 #[.int .u64 y] w fun e w' => e = .returned (.int .i64 s) ∧ w = w') := fun w =>
    (Tryz.bits_LeadingZeros64 y w (by omega) (by omega)).mono fun _ _ ⟨a, b⟩ => ⟨a.trans (by rw [Int.toNat_natCast, hL.out]), b.symm⟩
  go_enter Tryz.func101, Tryz.ntmps101
  go_wp2_with (go_at_call 118; refine (M.out _).mono ?_; rintro e w' ⟨rfl, rfl⟩)
  go_loop [15, 16] (fun x z => ∃ q r : Nat, x = .int .u64 q ∧ z = .int .u64 r ∧ Hid (q * a + r = U) ∧ Q1 ≤ q ∧ (q : Int) ≤ 4294967297 ∧ (r : Int) ≤ 4294967295) (fun x _ => (intOf x).toNat)
  case atStart => exact ⟨q, r, rfl, rfl, hqr, hq1, hq2, hr1⟩
  case round =>
    clear hqq hrr hq1 hq2 hr1 hqr
    obtain ⟨q, r, rfl, rfl, hqr, hq1, hq2, hr1⟩ := hrel
    by_cases hbig : (4294967296 : Int) ≤ (q : Int)
    · obtain ⟨l1, l2, l3⟩ := ok1.out.lower hqr.out hq1 (.inl (by omega))
      have L2 := Lib.hid l2
      clear l2
      by_cases hbr : (4294967296 : Int) ≤ (r : Int) + (a : Int)
      · have e := ok1.out.broke L2.out l1 (by omega) (by omega)
        have E : (q : Int) - 1 = (Q1 : Int) := by omega
        clear e
        go_wp2
        go_loop [16, 18] (fun z x => ∃ q r : Nat, x = .int .u64 q ∧ z = .int .u64 r ∧ Hid (q * a + r = Z) ∧ Q0 ≤ q ∧ (q : Int) ≤ 4294967297 ∧ (r : Int) ≤ 4294967295) (fun _ x => (intOf x).toNat)
        case atStart => exact ⟨q2, r2, rfl, rfl, hqr2, hq12, hq22, hr12⟩
        case round =>
          clear hZ hqq2 hrr2 hq12 hq22 hr12 hqr2
          obtain ⟨q, r, rfl, rfl, hqr, hq1, hq2, hr1⟩ := hrel
          by_cases hbig : (4294967296 : Int) ≤ (q : Int)
          · obtain ⟨l1, l2, l3⟩ := ok2.out.lower hqr.out hq1 (.inl (by omega))
            have L2 := Lib.hid l2
            clear l2
            by_cases hbr : (4294967296 : Int) ≤ (r : Int) + (a : Int)
            · have e := ok2.out.broke L2.out l1 (by omega) (by omega)
              have E : (q : Int) - 1 = (Q0 : Int) := by omega
              clear e
              go_wp2
              go_ret2
              rw [← hA.out]
              exact ⟨rfl, by repeat (first | exact Ext.refl _ | exact Ext.trans (by assumption) (by assumption) | assumption | refine Ext.alloc ?_ _ | refine Ext.drew ?_ | refine Ext.drewN ?_ _ | refine Ext.setCell ?_ (by simp) _)⟩
            · go_wp2
              go_round
              case rel => exact ⟨q - 1, r + a, by go_num, by go_num, L2, l1, by omega, by omega⟩
              case measure => simp [intOf]; omega
          · have hqb : IntKind.u64.wrap ((q : Int) * (b : Int)) = (q : Int) * (b : Int) := Knuth.wrap_qb (by omega) (by omega)
            by_cases hx : (4294967296 : Int) * (r : Int) + (d : Int) < (q : Int) * (b : Int)
            · obtain ⟨l1, l2, l3⟩ := ok2.out.lower hqr.out hq1 (.inr (Knuth.nat_lt hx))
              have L2 := Lib.hid l2
              clear l2
              by_cases hbr : (4294967296 : Int) ≤ (r : Int) + (a : Int)
              · have e := ok2.out.broke L2.out l1 (by omega) (by omega)
                have E : (q : Int) - 1 = (Q0 : Int) := by omega
                clear e
                go_wp2
                go_ret2
                rw [← hA.out]
                exact ⟨rfl, by repeat (first | exact Ext.refl _ | exact Ext.trans (by assumption) (by assumption) | assumption | refine Ext.alloc ?_ _ | refine Ext.drew ?_ | refine Ext.drewN ?_ _ | refine Ext.setCell ?_ (by simp) _)⟩
              · go_wp2
                go_round
                case rel => exact ⟨q - 1, r + a, by go_num, by go_num, L2, l1, by omega, by omega⟩
                case measure => simp [intOf]; omega
            · have e := ok2.out.done hqr.out hq1 (Knuth.nat_le hx)
              subst e
              go_wp2
              go_ret2
              rw [← hA.out]
              exact ⟨rfl, by repeat (first | exact Ext.refl _ | exact Ext.trans (by assumption) (by assumption) | assumption | refine Ext.alloc ?_ _ | refine Ext.drew ?_ | refine Ext.drewN ?_ _ | refine Ext.setCell ?_ (by simp) _)⟩
      · go_wp2
        go_round
        case rel => exact ⟨q - 1, r + a, by go_num, by go_num, L2, l1, by omega, by omega⟩
        case measure => simp [intOf]; omega
    · have hqb : IntKind.u64.wrap ((q : Int) * (b : Int)) = (q : Int) * (b : Int) := Knuth.wrap_qb (by omega) (by omega)
      by_cases hx : (4294967296 : Int) * (r : Int) + (c : Int) < (q : Int) * (b : Int)
      · obtain ⟨l1, l2, l3⟩ := ok1.out.lower hqr.out hq1 (.inr (Knuth.nat_lt hx))
        have L2 := Lib.hid l2
        clear l2
        by_cases hbr : (4294967296 : Int) ≤ (r : Int) + (a : Int)
        · have e := ok1.out.broke L2.out l1 (by omega) (by omega)
          have E : (q : Int) - 1 = (Q1 : Int) := by omega
          clear e
          go_wp2
          go_loop [16, 18] (fun z x => ∃ q r : Nat, x = .int .u64 q ∧ z = .int .u64 r ∧ Hid (q * a + r = Z) ∧ Q0 ≤ q ∧ (q : Int) ≤ 4294967297 ∧ (r : Int) ≤ 4294967295) (fun _ x => (intOf x).toNat)
          case atStart => exact ⟨q2, r2, rfl, rfl, hqr2, hq12, hq22, hr12⟩
          case round =>
            clear hZ hqq2 hrr2 hq12 hq22 hr12 hqr2
            obtain ⟨q, r, rfl, rfl, hqr, hq1, hq2, hr1⟩ := hrel
            by_cases hbig : (4294967296 : Int) ≤ (q : Int)
            · obtain ⟨l1, l2, l3⟩ := ok2.out.lower hqr.out hq1 (.inl (by omega))
              have L2 := Lib.hid l2
              clear l2
              by_cases hbr : (4294967296 : Int) ≤ (r : Int) + (a : Int)
              · have e := ok2.out.broke L2.out l1 (by omega) (by omega)
                have E : (q : Int) - 1 = (Q0 : Int) := by omega
                clear e
                go_wp2
                go_ret2
                rw [← hA.out]
                exact ⟨rfl, by repeat (first | exact Ext.refl _ | exact Ext.trans (by assumption) (by assumption) | assumption | refine Ext.alloc ?_ _ | refine Ext.drew ?_ | refine Ext.drewN ?_ _ | refine Ext.setCell ?_ (by simp) _)⟩
              · go_wp2
                go_round
                case rel => exact ⟨q - 1, r + a, by go_num, by go_num, L2, l1, by omega, by omega⟩
                case measure => simp [intOf]; omega
            · have hqb : IntKind.u64.wrap ((q : Int) * (b : Int)) = (q : Int) * (b : Int) := Knuth.wrap_qb (by omega) (by omega)
              by_cases hx : (4294967296 : Int) * (r : Int) + (d : Int) < (q : Int) * (b : Int)
              · obtain ⟨l1, l2, l3⟩ := ok2.out.lower hqr.out hq1 (.inr (Knuth.nat_lt hx))
                have L2 := Lib.hid l2
                clear l2
                by_cases hbr : (4294967296 : Int) ≤ (r : Int) + (a : Int)
                · have e := ok2.out.broke L2.out l1 (by omega) (by omega)
                  have E : (q : Int) - 1 = (Q0 : Int) := by omega
                  clear e
                  go_wp2
                  go_ret2
                  rw [← hA.out]
                  exact ⟨rfl, by repeat (first | exact Ext.refl _ | exact Ext.trans (by assumption) (by assumption) | assumption | refine Ext.alloc ?_ _ | refine Ext.drew ?_ | refine Ext.drewN ?_ _ | refine Ext.setCell ?_ (by simp) _)⟩
                · go_wp2
                  go_round
                  case rel => exact ⟨q - 1, r + a, by go_num, by go_num, L2, l1, by omega, by omega⟩
                  case measure => simp [intOf]; omega
              · have e := ok2.out.done hqr.out hq1 (Knuth.nat_le hx)
                subst e
                go_wp2
                go_ret2
                rw [← hA.out]
                exact ⟨rfl, by repeat (first | exact Ext.refl _ | exact Ext.trans (by assumption) (by assumption) | assumption | refine Ext.alloc ?_ _ | refine Ext.drew ?_ | refine Ext.drewN ?_ _ | refine Ext.setCell ?_ (by simp) _)⟩
        · go_wp2
          go_round
          case rel => exact ⟨q - 1, r + a, by go_num, by go_num, L2, l1, by omega, by omega⟩
          case measure => simp [intOf]; omega
      · have e := ok1.out.done hqr.out hq1 (Knuth.nat_le hx)
        subst e
        go_wp2
        go_loop [16, 18] (fun z x => ∃ q r : Nat, x = .int .u64 q ∧ z = .int .u64 r ∧ Hid (q * a + r = Z) ∧ Q0 ≤ q ∧ (q : Int) ≤ 4294967297 ∧ (r : Int) ≤ 4294967295) (fun _ x => (intOf x).toNat)
        case atStart => exact ⟨q2, r2, rfl, rfl, hqr2, hq12, hq22, hr12⟩
        case round =>
          clear hZ hqq2 hrr2 hq12 hq22 hr12 hqr2
          obtain ⟨q, r, rfl, rfl, hqr, hq1, hq2, hr1⟩ := hrel
          by_cases hbig : (4294967296 : Int) ≤ (q : Int)
          · obtain ⟨l1, l2, l3⟩ := ok2.out.lower hqr.out hq1 (.inl (by omega))
            have L2 := Lib.hid l2
            clear l2
            by_cases hbr : (4294967296 : Int) ≤ (r : Int) + (a : Int)
            · have e := ok2.out.broke L2.out l1 (by omega) (by omega)
              have E : (q : Int) - 1 = (Q0 : Int) := by omega
              clear e
              go_wp2
              go_ret2
              rw [← hA.out]
              exact ⟨rfl, by repeat (first | exact Ext.refl _ | exact Ext.trans (by assumption) (by assumption) | assumption | refine Ext.alloc ?_ _ | refine Ext.drew ?_ | refine Ext.drewN ?_ _ | refine Ext.setCell ?_ (by simp) _)⟩
            · go_wp2
              go_round
              case rel => exact ⟨q - 1, r + a, by go_num, by go_num, L2, l1, by omega, by omega⟩
              case measure => simp [intOf]; omega
          · have hqb : IntKind.u64.wrap ((q : Int) * (b : Int)) = (q : Int) * (b : Int) := Knuth.wrap_qb (by omega) (by omega)
            by_cases hx : (4294967296 : Int) * (r : Int) + (d : Int) < (q : Int) * (b : Int)
            · obtain ⟨l1, l2, l3⟩ := ok2.out.lower hqr.out hq1 (.inr (Knuth.nat_lt hx))
              have L2 := Lib.hid l2
              clear l2
              by_cases hbr : (4294967296 : Int) ≤ (r : Int) + (a : Int)
              · have e := ok2.out.broke L2.out l1 (by omega) (by omega)
                have E : (q : Int) - 1 = (Q0 : Int) := by omega
                clear e
                go_wp2
                go_ret2
                rw [← hA.out]
                exact ⟨rfl, by repeat (first | exact Ext.refl _ | exact Ext.trans (by assumption) (by assumption) | assumption | refine Ext.alloc ?_ _ | refine Ext.drew ?_ | refine Ext.drewN ?_ _ | refine Ext.setCell ?_ (by simp) _)⟩
              · go_wp2
                go_round
                case rel => exact ⟨q - 1, r + a, by go_num, by go_num, L2, l1, by omega, by omega⟩
                case measure => simp [intOf]; omega
            · have e := ok2.out.done hqr.out hq1 (Knuth.nat_le hx)
              subst e
              go_wp2
              go_ret2
              rw [← hA.out]
              exact ⟨rfl, by repeat (first | exact Ext.refl _ | exact Ext.trans (by assumption) (by assumption) | assumption | refine Ext.alloc ?_ _ | refine Ext.drew ?_ | refine Ext.drewN ?_ _ | refine Ext.setCell ?_ (by simp) _)⟩

set_option maxRecDepth 100000 in
theorem div64_any (hi lo y : Nat) (w : World) (h : hi < y) (hl : lo < 18446744073709551616) (hy2 : y < 18446744073709551616) :
    Calls Tryz.prog 101 #[.int .u64 hi, .int .u64 lo, .int .u64 y] w fun e w' => e = .returned (.tuple #[.int .u64 (((hi * 18446744073709551616 + lo) / y : Nat) : Int), .int .u64 (((hi * 18446744073709551616 + lo) % y : Nat) : Int)]) ∧ Ext w w' := by
  by_cases h0 : hi = 0
  · subst h0
    have := div64_zero lo y w hl h hy2
    simpa using this
  · obtain ⟨s, Y, a, b, U, T, c, d, q, r, Q1, Z, q2, r2, Q0, A, R, hs, hL, hY, ha, hb, hU, hT, hc, hd, hqq, hrr, hZ, hqq2, hrr2, hA, hQ1, hQ0, hR, ok2, x1, x2, x3, x4, x5, x6, ok1, z1, z2, z3, z4, z5, z6, z7, z8, z9, fA, fR⟩ := Knuth.all h (by omega) hl hy2
    rw [← fA, ← fR]
    exact div64_walk hi lo y s Y a b U T c d q r Q1 Z q2 r2 Q0 A R w h (by omega) hl hy2 hs hL hY ha hb hU hT hc hd hqq hrr hZ hqq2 hrr2 hA hQ1 hQ0 hR ok2 x1 x2 x3 x4 x5 x6 ok1 z1 z2 z3 z4 z5 z6 z7 z8 z9
end Go.Proofs.YtphjmbaifkneiaaGreatDoor
