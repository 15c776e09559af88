/- The sum of squares; layer 18's 'many' of SUM, SUMSQ, MIN, MAX. -/
import Derived.Test.YtphjmbaifkneiaaGreatDoorM1
namespace Go.Proofs.YtphjmbaifkneiaaGreatDoor
open Go.RowKit

set_option maxHeartbeats 4000000
set_option maxRecDepth 100000

def squaresS : List Int → Int → Int × Bool
  | [], s => (s, true)
  | n :: l, s => if (mulD n n).2 then (if (addD s (mulD n n).1).2 then squaresS l (addD s (mulD n n).1).1 else (0, false)) else (0, false)
theorem mulD_num {a b : Int} (h : (mulD a b).2 = true) : Num (mulD a b).1 := by
  unfold mulD signed at h ⊢
  split at h
  · exact absurd h (by simp)
  · rename_i h1
    rw [if_neg h1]
    unfold Num
    split <;> (show -999999999999999999 ≤ _ ∧ _ ≤ 999999999999999999; omega)
theorem squares_any (v : Value) (l : List Int) (w : World) (hv : ISl w v l) (hn : ∀ n ∈ l, Num n) :
    Calls Tryz.prog 70 #[v] w fun e w' => e = .returned (.tuple #[.int .i64 (squaresS l 0).1, .bool (squaresS l 0).2]) ∧ Ext w w' := by
  have HS := Lib.hid hv
  have HN := Lib.hid hn
  obtain ⟨A, c, rfl, h1, h2, h3⟩ := hv
  clear h3 hn
  go_enter Tryz.func70, Tryz.ntmps70
  go_wp2
  go_loopw [11, 4] (fun i s wr => ∃ (k : Nat) (z : Int), k ≤ l.length ∧ i = .int .i64 k ∧ s = .int .i64 z ∧ Hid (Num z) ∧ Hid (squaresS l 0 = squaresS (l.drop k) z) ∧ Hid (Ext w wr)) (fun i _ _ => l.length - (intOf i).toNat)
  case atStart => exact ⟨0, 0, Nat.zero_le _, rfl, rfl, ⟨by omega, by omega⟩, rfl, Ext.refl _⟩
  case round =>
    obtain ⟨k, z, hk, rfl, rfl, hz, hsum, hx⟩ := hrel
    by_cases hlt : k < l.length
    · obtain ⟨A', c', hAc, _, _, h6⟩ := HS.out
      obtain ⟨b, o, hAA, hb, hc⟩ := h6 k hlt
      clear h6
      injection hAc with e1 e2 e3
      subst e1 e3
      subst hAA
      clear e2
      rw [← hx.out.cell hb] at hc
      have hnum := HN.out l[k] (List.getElem_mem hlt)
      have hd : squaresS (l.drop k) z = if (mulD l[k] l[k]).2 then (if (addD z (mulD l[k] l[k]).1).2 then squaresS (l.drop (k + 1)) (addD z (mulD l[k] l[k]).1).1 else (0, false)) else (0, false) := by
        rw [List.drop_eq_getElem_cons hlt]; rfl
      obtain ⟨n, hnn⟩ : ∃ n, l[k] = n := ⟨_, rfl⟩
      rw [hnn] at hc hnum hd
      have TM : Hid (∀ W, Calls Tryz.prog 53 #[.int .i64 n, .int .i64 n] W fun e w' => e = .returned (.tuple #[.int .i64 (mulD n n).1, .bool (mulD n n).2]) ∧ Ext W w') := fun W => mul_any n n W hnum hnum
      have hq := fun h => mulD_num (a := n) (b := n) h
      obtain ⟨q, qb, hqe⟩ : ∃ q b, mulD n n = (q, b) := ⟨_, _, rfl⟩
      rw [hqe] at TM hd hq
      clear hnn hb hqe
      cases qb with
      | false =>
        have HF : Hid (squaresS l 0 = (0, false)) := by show _ = _; rw [hsum.out, hd]; rfl
        clear hd hq hnum
        go_wp2_with (go_at_call 53; refine (TM.out _).mono ?_; rintro e w1 ⟨rfl, hx1⟩)
        go_ret2
        rw [HF.out]
        exact ⟨rfl, hx.out.trans hx1⟩
      | true =>
        have T : Hid (∀ W, Calls Tryz.prog 54 #[.int .i64 z, .int .i64 q] W fun e w' => e = .returned (.tuple #[.int .i64 (addD z q).1, .bool (addD z q).2]) ∧ W = w') := fun W => add_any z q W hz.out (hq rfl)
        obtain ⟨y, b, hy⟩ : ∃ y b, addD z q = (y, b) := ⟨_, _, rfl⟩
        have hyn := fun h => addD_num (a := z) (b := q) h
        have hd2 : squaresS (l.drop k) z = if (addD z q).2 then squaresS (l.drop (k + 1)) (addD z q).1 else (0, false) := hd
        rw [hy] at T hd2 hyn
        have HD := Lib.hid hd2
        have HY := Lib.hid hyn
        clear hd hd2 hyn hy hnum hq
        cases b with
        | true =>
          go_wp2_with (first
            | (go_at_call 53; refine (TM.out _).mono ?_; rintro e w1 ⟨rfl, hx1⟩)
            | (go_at_call 54; refine (T.out _).mono ?_; rintro e w2 ⟨rfl, rfl⟩))
          go_roundw
          case rel => exact ⟨k + 1, y, by omega, by go_num, rfl, HY.out trivial, by rw [hsum.out, HD.out]; rfl, hx.out.trans hx1⟩
          case measure => simp [intOf]; omega
        | false =>
          have HF : Hid (squaresS l 0 = (0, false)) := by show _ = _; rw [hsum.out, HD.out]; rfl
          go_wp2_with (first
            | (go_at_call 53; refine (TM.out _).mono ?_; rintro e w1 ⟨rfl, hx1⟩)
            | (go_at_call 54; refine (T.out _).mono ?_; rintro e w2 ⟨rfl, rfl⟩))
          go_ret2
          rw [HF.out]
          exact ⟨rfl, hx.out.trans hx1⟩
    · have HF : Hid (squaresS l 0 = (z, true)) := by
        show _ = _; rw [hsum.out, List.drop_of_length_le (by omega)]; rfl
      go_wp2
      go_ret2
      rw [HF.out]
      exact ⟨rfl, hx.out⟩

theorem many_SUM (v : Value) (l : List Int) (w : World) (hv : ISl w v l) (hn : ∀ n ∈ l, Num n) :
    Calls Tryz.prog 39 #[.string ⟨#[83,85,77]⟩, v] w fun e w' => e = .returned (cnt (sumS l 0)).val ∧ Ext w w' := by
  have T : Hid (∀ W, Ext w W → Calls Tryz.prog 67 #[v] W fun e w' => e = .returned (.tuple #[.int .i64 (sumS l 0).1, .bool (sumS l 0).2]) ∧ Ext W w') := fun W hx => sum_any v l W (hv.ext hx) hn
  obtain ⟨p, hp⟩ : ∃ p, sumS l 0 = p := ⟨_, rfl⟩
  rw [hp] at T ⊢
  clear hv hn hp
  go_enter Tryz.func39, Tryz.ntmps39
  go_wp2_with (first
    | (go_at_call 67; refine (T.out _ (Ext.refl _)).mono ?_; rintro e w2 ⟨rfl, hx2⟩)
    | (go_at_call 25; refine (counted_any p _).mono ?_; rintro e w4 ⟨rfl, rfl⟩))
  go_ret
  exact ⟨rfl, hx2⟩
theorem many_SUMSQ (v : Value) (l : List Int) (w : World) (hv : ISl w v l) (hn : ∀ n ∈ l, Num n) :
    Calls Tryz.prog 39 #[.string ⟨#[83,85,77,83,81]⟩, v] w fun e w' => e = .returned (cnt (squaresS l 0)).val ∧ Ext w w' := by
  have T : Hid (∀ W, Ext w W → Calls Tryz.prog 70 #[v] W fun e w' => e = .returned (.tuple #[.int .i64 (squaresS l 0).1, .bool (squaresS l 0).2]) ∧ Ext W w') := fun W hx => squares_any v l W (hv.ext hx) hn
  obtain ⟨p, hp⟩ : ∃ p, squaresS l 0 = p := ⟨_, rfl⟩
  rw [hp] at T ⊢
  clear hv hn hp
  go_enter Tryz.func39, Tryz.ntmps39
  go_wp2_with (first
    | (go_at_call 70; refine (T.out _ (Ext.refl _)).mono ?_; rintro e w2 ⟨rfl, hx2⟩)
    | (go_at_call 25; refine (counted_any p _).mono ?_; rintro e w4 ⟨rfl, rfl⟩))
  go_ret
  exact ⟨rfl, hx2⟩
def leastS : List Int → V
  | [] => .num 0
  | x :: l => .num (minS l x)
theorem many_MIN (v : Value) (l : List Int) (w : World) (hv : ISl w v l) :
    Calls Tryz.prog 39 #[.string ⟨#[77,73,78]⟩, v] w fun e w' => e = .returned (leastS l).val ∧ Ext w w' := by
  cases l with
  | nil =>
    obtain ⟨A, c, rfl, h1, h2, h3⟩ := hv
    clear h3
    simp only [List.length_nil] at h1 ⊢
    go_enter Tryz.func39, Tryz.ntmps39
    go_wp2
    go_ret
    exact ⟨rfl, Ext.refl _⟩
  | cons x l =>
    have T : Hid (∀ W, Ext w W → Calls Tryz.prog 72 #[v] W fun e w' => e = .returned (.int .i64 (minS l x)) ∧ W = w') := fun W hx => min_any v x l W (hv.ext hx)
    have HE : Hid (leastS (x :: l) = .num (minS l x)) := rfl
    rw [HE.out]
    obtain ⟨p, hp⟩ : ∃ p, minS l x = p := ⟨_, rfl⟩
    rw [hp] at T ⊢
    obtain ⟨A, c, rfl, h1, h2, h3⟩ := hv
    have hln : (((x :: l).length : Int) == 0) = false := by simp; omega
    clear h3 hp HE
    go_enter Tryz.func39, Tryz.ntmps39
    go_wp2_with (go_at_call 72; refine (T.out _ (Ext.refl _)).mono ?_; rintro e w2 ⟨rfl, rfl⟩)
    go_ret
    exact ⟨rfl, Ext.refl _⟩
def mostS : List Int → V
  | [] => .num 0
  | x :: l => .num (maxS l x)
theorem many_MAX (v : Value) (l : List Int) (w : World) (hv : ISl w v l) :
    Calls Tryz.prog 39 #[.string ⟨#[77,65,88]⟩, v] w fun e w' => e = .returned (mostS l).val ∧ Ext w w' := by
  cases l with
  | nil =>
    obtain ⟨A, c, rfl, h1, h2, h3⟩ := hv
    clear h3
    simp only [List.length_nil] at h1 ⊢
    go_enter Tryz.func39, Tryz.ntmps39
    go_wp2
    go_ret
    exact ⟨rfl, Ext.refl _⟩
  | cons x l =>
    have T : Hid (∀ W, Ext w W → Calls Tryz.prog 73 #[v] W fun e w' => e = .returned (.int .i64 (maxS l x)) ∧ W = w') := fun W hx => max_any v x l W (hv.ext hx)
    have HE : Hid (mostS (x :: l) = .num (maxS l x)) := rfl
    rw [HE.out]
    obtain ⟨p, hp⟩ : ∃ p, maxS l x = p := ⟨_, rfl⟩
    rw [hp] at T ⊢
    obtain ⟨A, c, rfl, h1, h2, h3⟩ := hv
    have hln : (((x :: l).length : Int) == 0) = false := by simp; omega
    clear h3 hp HE
    go_enter Tryz.func39, Tryz.ntmps39
    go_wp2_with (go_at_call 73; refine (T.out _ (Ext.refl _)).mono ?_; rintro e w2 ⟨rfl, rfl⟩)
    go_ret
    exact ⟨rfl, Ext.refl _⟩
end Go.Proofs.YtphjmbaifkneiaaGreatDoor
