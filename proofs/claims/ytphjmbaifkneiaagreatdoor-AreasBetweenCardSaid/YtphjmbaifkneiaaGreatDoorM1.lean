/- The sum of squares, the least and the greatest of numbers. -/
import Derived.Test.YtphjmbaifkneiaaGreatDoorB4
namespace Go.Proofs.YtphjmbaifkneiaaGreatDoor
open Go.RowKit

set_option maxHeartbeats 2000000
set_option maxRecDepth 100000

def minS : List Int → Int → Int
  | [], m => m
  | n :: l, m => minS l (min m n)
theorem min_any (v : Value) (x : Int) (l : List Int) (w : World) (hv : ISl w v (x :: l)) :
    Calls Tryz.prog 72 #[v] w fun e w' => e = .returned (.int .i64 (minS l x)) ∧ w = w' := by
  have HS := Lib.hid hv
  obtain ⟨A, c, rfl, h1, h2, h3⟩ := hv
  obtain ⟨b, o, hA, hb, hc⟩ := h3 0 (by simp)
  subst hA
  clear h3 hb
  simp only [List.getElem_cons_zero, Nat.add_zero] at hc
  simp only [List.length_cons] at h1 ⊢
  go_enter Tryz.func72, Tryz.ntmps72
  go_wp2
  go_loop [4, 3] (fun i s => ∃ (k : Nat) (z : Int), k ≤ l.length ∧ i = .int .i64 ((k + 1 : Nat) : Int) ∧ s = .int .i64 z ∧ Hid (minS l x = minS (l.drop k) z)) (fun i _ => l.length + 1 - (intOf i).toNat)
  case atStart => exact ⟨0, x, Nat.zero_le _, rfl, rfl, rfl⟩
  case round =>
    obtain ⟨k, z, hk, rfl, rfl, hm⟩ := hrel
    by_cases hlt : k < l.length
    · obtain ⟨A', c', hAc, _, _, h6⟩ := HS.out
      obtain ⟨b', o', hAA, hb, hc2⟩ := h6 (k + 1) (by simp; omega)
      clear h6
      injection hAc with e1 e2 e3
      subst e3
      rw [hAA] at e1
      injection e1 with e1
      injection e1 with e1 e4
      subst e1 e4
      clear e2
      simp only [List.getElem_cons_succ] at hc2
      have hd : minS (l.drop k) z = minS (l.drop (k + 1)) (min z l[k]) := by rw [List.drop_eq_getElem_cons hlt]; rfl
      obtain ⟨n, hn⟩ : ∃ n, l[k] = n := ⟨_, rfl⟩
      rw [hn] at hd hc2
      have HD := Lib.hid hd
      have hka : (((k + 1 : Nat) : Int)) < ((l.length + 1 : Nat) : Int) := by omega
      clear hn hd hb
      go_wp2
      go_round
      case rel => exact ⟨k + 1, min z n, by omega, by go_num, rfl, by rw [hm.out, HD.out]; rfl⟩
      case measure => simp [intOf]; omega
    · have HF : Hid (minS l x = z) := by show _ = _; rw [hm.out, List.drop_of_length_le (by omega)]; rfl
      go_wp2
      go_ret
      rw [HF.out]
      exact ⟨rfl, rfl⟩
def maxS : List Int → Int → Int
  | [], m => m
  | n :: l, m => maxS l (max m n)
theorem max_any (v : Value) (x : Int) (l : List Int) (w : World) (hv : ISl w v (x :: l)) :
    Calls Tryz.prog 73 #[v] w fun e w' => e = .returned (.int .i64 (maxS l x)) ∧ w = w' := by
  have HS := Lib.hid hv
  obtain ⟨A, c, rfl, h1, h2, h3⟩ := hv
  obtain ⟨b, o, hA, hb, hc⟩ := h3 0 (by simp)
  subst hA
  clear h3 hb
  simp only [List.getElem_cons_zero, Nat.add_zero] at hc
  simp only [List.length_cons] at h1 ⊢
  go_enter Tryz.func73, Tryz.ntmps73
  go_wp2
  go_loop [4, 3] (fun i s => ∃ (k : Nat) (z : Int), k ≤ l.length ∧ i = .int .i64 ((k + 1 : Nat) : Int) ∧ s = .int .i64 z ∧ Hid (maxS l x = maxS (l.drop k) z)) (fun i _ => l.length + 1 - (intOf i).toNat)
  case atStart => exact ⟨0, x, Nat.zero_le _, rfl, rfl, rfl⟩
  case round =>
    obtain ⟨k, z, hk, rfl, rfl, hm⟩ := hrel
    by_cases hlt : k < l.length
    · obtain ⟨A', c', hAc, _, _, h6⟩ := HS.out
      obtain ⟨b', o', hAA, hb, hc2⟩ := h6 (k + 1) (by simp; omega)
      clear h6
      injection hAc with e1 e2 e3
      subst e3
      rw [hAA] at e1
      injection e1 with e1
      injection e1 with e1 e4
      subst e1 e4
      clear e2
      simp only [List.getElem_cons_succ] at hc2
      have hd : maxS (l.drop k) z = maxS (l.drop (k + 1)) (max z l[k]) := by rw [List.drop_eq_getElem_cons hlt]; rfl
      obtain ⟨n, hn⟩ : ∃ n, l[k] = n := ⟨_, rfl⟩
      rw [hn] at hd hc2
      have HD := Lib.hid hd
      have hka : (((k + 1 : Nat) : Int)) < ((l.length + 1 : Nat) : Int) := by omega
      clear hn hd hb
      go_wp2
      go_round
      case rel => exact ⟨k + 1, max z n, by omega, by go_num, rfl, by rw [hm.out, HD.out]; rfl⟩
      case measure => simp [intOf]; omega
    · have HF : Hid (maxS l x = z) := by show _ = _; rw [hm.out, List.drop_of_length_le (by omega)]; rfl
      go_wp2
      go_ret
      rw [HF.out]
      exact ⟨rfl, rfl⟩
end Go.Proofs.YtphjmbaifkneiaaGreatDoor
