/- What layer 18's sum and mean come to. -/
import Derived.Test.YtphjmbaifkneiaaGreatDoorB3
namespace Go.Proofs.YtphjmbaifkneiaaGreatDoor
open Go.RowKit

set_option maxHeartbeats 400000
set_option maxRecDepth 100000

/-- A slice that reads as these numbers. -/
def ISl (w : World) (v : Value) (l : List Int) : Prop :=
  ∃ A c, v = .slice A l.length c ∧ l.length ≤ c ∧ c ≤ 9223372036854775807 ∧ ∀ k (h : k < l.length), ∃ b o, A = some ⟨b, o, none⟩ ∧ b < w.heap.size ∧ w.cell? ⟨b, o + k, none⟩ = some (.int .i64 l[k])
theorem ISl.ext {w w' : World} {v : Value} {l : List Int} (h : ISl w v l) (hx : Ext w w') : ISl w' v l := by
  obtain ⟨A, c, rfl, h1, h2, h3⟩ := h
  refine ⟨A, c, rfl, h1, h2, fun k hk => ?_⟩
  obtain ⟨b, o, hA, hb, hc⟩ := h3 k hk
  exact ⟨b, o, hA, Nat.lt_of_lt_of_le hb hx.size, (hx.cell hb).trans hc⟩
theorem NumRow.sl {n0 : Nat} {l : List Int} {v : Value} {w : World} (h : NumRow n0 l v w) : ISl w v l := by
  have h' : w.ownsRow n0 39 1 v l.length (l.map (Value.int .i64)) := h
  rcases h'.2 with ⟨rfl, h0⟩ | ⟨g, cap, cur, rfl, h1, h2, h3, h4, _⟩
  · refine ⟨none, 0, ?_, by omega, by omega, fun k hk => by omega⟩
    rw [h0]
  · refine ⟨_, cap, rfl, h3, by unfold maxLen at h4; omega, fun k hk => ⟨g, 0, rfl, (Array.getElem?_eq_some_iff.1 h2).1, ?_⟩⟩
    have := h'.cells rfl k (.int .i64 l[k]) (by simp [hk])
    have e : (⟨g, 0, none⟩ : Addr).add k = ⟨g, 0 + k, none⟩ := by unfold Addr.add; split <;> simp_all
    rwa [e] at this

def sumS : List Int → Int → Int × Bool
  | [], s => (s, true)
  | n :: l, s => if (addD s n).2 then sumS l (addD s n).1 else (0, false)
/-- Counted. -/
def cnt (p : Int × Bool) : V := if p.2 then .num p.1 else .fail 2
theorem counted_any (p : Int × Bool) (w : World) : Calls Tryz.prog 25 #[.int .i64 p.1, .bool p.2] w fun e w' => e = .returned (cnt p).val ∧ w = w' := by
  obtain ⟨n, b⟩ := p
  cases b
  · exact counted_false n w
  · exact counted_true n w
theorem addD_num {a b : Int} (h : (addD a b).2 = true) : Num (addD a b).1 := by
  unfold addD at h ⊢
  split at h
  · exact absurd h (by simp)
  · rename_i h1
    rw [if_neg h1]
    unfold Num
    show -999999999999999999 ≤ a + b ∧ a + b ≤ 999999999999999999
    omega

theorem sum_any (v : Value) (l : List Int) (w : World) (hv : ISl w v l) (hn : ∀ n ∈ l, Num n) :
    Calls Tryz.prog 67 #[v] w fun e w' => e = .returned (.tuple #[.int .i64 (sumS l 0).1, .bool (sumS l 0).2]) ∧ Ext w w' := by
  have HS := Lib.hid hv
  have HN := Lib.hid hn
  obtain ⟨A, c, rfl, h1, h2, h3⟩ := hv
  clear h3 hn
  go_enter Tryz.func67, Tryz.ntmps67
  go_wp2
  go_loopw [10, 4] (fun i s wr => ∃ (k : Nat) (z : Int), k ≤ l.length ∧ i = .int .i64 k ∧ s = .int .i64 z ∧ Hid (Num z) ∧ Hid (sumS l 0 = sumS (l.drop k) z) ∧ Hid (Ext w wr)) (fun i _ _ => l.length - (intOf i).toNat)
  case atStart => exact ⟨0, 0, Nat.zero_le _, rfl, rfl, ⟨by omega, by omega⟩, rfl, Ext.refl _⟩
  case round =>
    obtain ⟨k, z, hk, rfl, rfl, hz, hsum, hx⟩ := hrel
    by_cases hlt : k < l.length
    · obtain ⟨A', c', hAc, _, _, h6⟩ := HS.out
      obtain ⟨b, o, hAA, hb, hc⟩ := h6 k hlt
      clear h6
      injection hAc with e1 e2 e3
      subst e1 e3
      subst hAA
      clear e2
      rw [← hx.out.cell hb] at hc
      obtain ⟨n, hnn⟩ : ∃ n, l[k] = n := ⟨_, rfl⟩
      have hnum := HN.out l[k] (List.getElem_mem hlt)
      have hd : sumS (l.drop k) z = if (addD z l[k]).2 then sumS (l.drop (k + 1)) (addD z l[k]).1 else (0, false) := by
        rw [List.drop_eq_getElem_cons hlt]; rfl
      rw [hnn] at hc hnum hd
      have T : Hid (∀ W, Calls Tryz.prog 54 #[.int .i64 z, .int .i64 n] W fun e w' => e = .returned (.tuple #[.int .i64 (addD z n).1, .bool (addD z n).2]) ∧ W = w') := fun W => add_any z n W hz.out hnum
      obtain ⟨y, b, hy⟩ : ∃ y b, addD z n = (y, b) := ⟨_, _, rfl⟩
      have hyn := fun h => addD_num (a := z) (b := n) h
      rw [hy] at T hd hyn
      have HD := Lib.hid hd
      have HY := Lib.hid hyn
      clear hd hyn hy hnum hnn hb
      cases b with
      | true =>
        go_wp2_with (go_at_call 54; refine (T.out _).mono ?_; rintro e w1 ⟨rfl, rfl⟩)
        go_roundw
        case rel => exact ⟨k + 1, y, by omega, by go_num, rfl, HY.out trivial, by rw [hsum.out, HD.out]; rfl, hx.out⟩
        case measure => simp [intOf]; omega
      | false =>
        have HF : Hid (sumS l 0 = (0, false)) := by show _ = _; rw [hsum.out, HD.out]; rfl
        go_wp2_with (go_at_call 54; refine (T.out _).mono ?_; rintro e w1 ⟨rfl, rfl⟩)
        go_ret2
        rw [HF.out]
        exact ⟨rfl, hx.out⟩
    · have HF : Hid (sumS l 0 = (z, true)) := by
        show _ = _; rw [hsum.out, List.drop_of_length_le (by omega)]; rfl
      go_wp2
      go_ret2
      rw [HF.out]
      exact ⟨rfl, hx.out⟩

def meanS (l : List Int) : V := if l.length = 0 then .fail 1 else if (sumS l 0).2 then cnt (divD (sumS l 0).1 (l.length * 10000 : Nat)) else .fail 2
theorem sumS_num : ∀ (l : List Int) (s : Int), Num s → Num (sumS l s).1
  | [], s, h => h
  | n :: l, s, h => by
    unfold sumS
    by_cases h1 : (addD s n).2 = true
    · rw [if_pos h1]; exact sumS_num l _ (addD_num h1)
    · rw [if_neg h1]; exact ⟨by simp, by simp⟩

theorem mean_any (v : Value) (l : List Int) (w : World) (hv : ISl w v l) (hn : ∀ n ∈ l, Num n) (hl : l.length ≤ 100000) :
    Calls Tryz.prog 68 #[v] w fun e w' => e = .returned (meanS l).val ∧ Ext w w' := by
  have T1 : Hid (∀ W, Ext w W → Calls Tryz.prog 67 #[v] W fun e w' => e = .returned (.tuple #[.int .i64 (sumS l 0).1, .bool (sumS l 0).2]) ∧ Ext W w') := fun W hx => sum_any v l W (hv.ext hx) hn
  obtain ⟨A, c, rfl, h1, h2, h3⟩ := hv
  clear h3 hn
  by_cases h0 : l.length = 0
  · have hm : Hid (meanS l = .fail 1) := by show meanS l = _; simp [meanS, h0]
    rw [h0]
    clear T1
    go_enter Tryz.func68, Tryz.ntmps68
    go_wp2
    go_ret
    rw [hm.out]
    exact ⟨rfl, Ext.refl _⟩
  · have hsn := sumS_num l 0 ⟨by omega, by omega⟩
    obtain ⟨z, b, hz⟩ : ∃ z b, sumS l 0 = (z, b) := ⟨_, _, rfl⟩
    rw [hz] at T1 hsn
    have HSN := Lib.hid hsn
    clear hsn
    cases b with
    | false =>
      have hm : Hid (meanS l = .fail 2) := by show meanS l = _; simp [meanS, h0, hz]
      clear hz
      go_enter Tryz.func68, Tryz.ntmps68
      go_wp2_with (go_at_call 67; refine (T1.out _ (Ext.refl _)).mono ?_; rintro e w1 ⟨rfl, hx1⟩)
      go_ret
      rw [hm.out]
      exact ⟨rfl, hx1⟩
    | true =>
      have hm : Hid (meanS l = cnt (divD z (l.length * 10000 : Nat))) := by show meanS l = _; simp [meanS, h0, hz]
      have T2 : Hid (∀ W, Calls Tryz.prog 17 #[.int .i64 l.length] W fun e w' => e = .returned (.tuple #[.int .i64 ((l.length * 10000 : Nat) : Int), .bool true]) ∧ W = w') := fun W => by
        have := int_any l.length W (by omega)
        rwa [show intD l.length = (((l.length * 10000 : Nat) : Int), true) by unfold intD; rw [if_neg (by omega)]] at this
      have T3 : Hid (∀ W, Calls Tryz.prog 92 #[.int .i64 z, .int .i64 ((l.length * 10000 : Nat) : Int)] W fun e w' => e = .returned (.tuple #[.int .i64 (divD z (l.length * 10000 : Nat)).1, .bool (divD z (l.length * 10000 : Nat)).2]) ∧ Ext W w') := fun W =>
        div_any z _ W HSN.out ⟨by omega, by omega⟩ (by omega)
      clear hz
      obtain ⟨y, hy⟩ : ∃ y : Int, ((l.length * 10000 : Nat) : Int) = y := ⟨_, rfl⟩
      rw [hy] at T2 T3 hm
      clear hy
      obtain ⟨d, hd⟩ : ∃ d, divD z y = d := ⟨_, rfl⟩
      rw [hd] at T3 hm
      clear hd
      go_enter Tryz.func68, Tryz.ntmps68
      go_wp2_with (first
        | (go_at_call 67; refine (T1.out _ (Ext.refl _)).mono ?_; rintro e w1 ⟨rfl, hx1⟩)
        | (go_at_call 17; refine (T2.out _).mono ?_; rintro e w2 ⟨rfl, rfl⟩)
        | (go_at_call 92; refine (T3.out _).mono ?_; rintro e w3 ⟨rfl, hx3⟩)
        | (go_at_call 25; refine (counted_any d _).mono ?_; rintro e w4 ⟨rfl, rfl⟩))
      go_ret
      rw [hm.out]
      exact ⟨rfl, hx1.trans hx3⟩
end Go.Proofs.YtphjmbaifkneiaaGreatDoor
