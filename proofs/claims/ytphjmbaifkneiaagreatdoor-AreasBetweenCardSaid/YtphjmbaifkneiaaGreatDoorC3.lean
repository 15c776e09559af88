/- INDEX. -/
import Derived.Test.YtphjmbaifkneiaaGreatDoorC1
namespace Go.Proofs.YtphjmbaifkneiaaGreatDoor
open Go.RowKit

set_option maxHeartbeats 4000000
set_option maxRecDepth 100000


def indexC (x y : ArgD) : V := if y.one.asNum.2 ≠ 0 then .fail y.one.asNum.2 else indexS x (wholeS y)
theorem indexCall_any (av : Value) (x y : ArgD) (w : World) (hA : ASl w av [x, y]) (gy : ∀ u ∈ y.l, u.Good) :
    Calls Tryz.prog 10 #[.string ⟨#[73, 78, 68, 69, 88]⟩, av] w fun e w' => e = .returned (indexC x y).val ∧ Ext w w' := by
  obtain ⟨A, c, rfl, h1, h2, h3⟩ := hA
  obtain ⟨b, o, s0, rfl, hb, c0, c1, c2, c3, hs0⟩ := h3 0 (by simp)
  obtain ⟨b', o', s1, hA', _, d0, d1, d2, d3, hs1⟩ := h3 1 (by simp)
  clear h3
  injection hA' with e1
  injection e1 with e1 e2
  subst e1 e2
  simp only [List.getElem_cons_zero, List.getElem_cons_succ, Nat.zero_mul, Nat.one_mul, Nat.add_zero, Nat.add_assoc, Nat.reduceAdd] at c0 c1 c2 c3 d0 d1 d2 d3 hs0 hs1
  have HS0 := Lib.hid hs0
  have HS1 := Lib.hid hs1
  obtain ⟨A0, k0, rfl, q1, q2, q3⟩ := hs0
  obtain ⟨A1, k1, rfl, r1, r2, r3⟩ := hs1
  clear q3 r3
  have TV : Hid (∀ W, Ext w W → Calls Tryz.prog 30 #[.agg #[.int .i64 y.rows, .int .i64 y.cols, .bool y.area, (.slice A1 y.l.length k1)]] W fun e w' => e = .returned (.tuple #[.int .i64 (wholeS y), .int .i64 y.one.asNum.2]) ∧ Ext W w') := fun W hx => wholeArg_any _ y W ⟨_, rfl, HS1.out.ext hx⟩ gy
  have TC : Hid (∀ W, Ext w W → Calls Tryz.prog 37 #[.agg #[.int .i64 x.rows, .int .i64 x.cols, .bool x.area, (.slice A0 x.l.length k0)], .int .i64 (wholeS y), .int .i64 0, .bool false] W fun e w' => e = .returned (indexS x (wholeS y)).val ∧ Ext W w') := fun W hx => index_any _ x (wholeS y) 0 W ⟨_, rfl, HS0.out.ext hx⟩ (by unfold wholeS; omega) (by unfold wholeS; omega)
  have HC : Hid (∀ W, Ext w W → W.cell? ⟨b, o + 4, none⟩ = some (.int .i64 y.rows) ∧ W.cell? ⟨b, o + 5, none⟩ = some (.int .i64 y.cols) ∧ W.cell? ⟨b, o + 6, none⟩ = some (.bool y.area) ∧ W.cell? ⟨b, o + 7, none⟩ = some (.slice A1 y.l.length k1)) := fun W hx =>
    ⟨(hx.cell hb).trans d0, (hx.cell hb).trans d1, (hx.cell hb).trans d2, (hx.cell hb).trans d3⟩
  have HK : Hid (∀ W, Ext (w.alloc (.cells #[.int .i64 x.rows, .int .i64 x.cols, .bool x.area, .slice A0 x.l.length k0] 27)) W → Ext (w.alloc (.cells #[.int .i64 x.rows, .int .i64 x.cols, .bool x.area, .slice A0 x.l.length k0] 27)) W ∧ Ext w W ∧ (W.cell? ⟨w.heap.size, 0, none⟩ = some (.int .i64 x.rows) ∧ W.cell? ⟨w.heap.size, 1, none⟩ = some (.int .i64 x.cols) ∧ W.cell? ⟨w.heap.size, 2, none⟩ = some (.bool x.area) ∧ W.cell? ⟨w.heap.size, 3, none⟩ = some (.slice A0 x.l.length k0)) ∧
      (W.cell? ⟨b, o + 4, none⟩ = some (.int .i64 y.rows) ∧ W.cell? ⟨b, o + 5, none⟩ = some (.int .i64 y.cols) ∧ W.cell? ⟨b, o + 6, none⟩ = some (.bool y.area) ∧ W.cell? ⟨b, o + 7, none⟩ = some (.slice A1 y.l.length k1))) := fun W hx => by
    have hE : Ext w W := Ext.trans ((Ext.refl w).alloc _) hx
    have hz := alloc_size w (.cells #[.int .i64 x.rows, .int .i64 x.cols, .bool x.area, .slice A0 x.l.length k0] 27)
    exact ⟨hx, hE, ⟨(hx.cell (by rw [hz]; exact Nat.lt_succ_self _)).trans (alloc_cell _ _ _ 0), (hx.cell (by rw [hz]; exact Nat.lt_succ_self _)).trans (alloc_cell _ _ _ 1), (hx.cell (by rw [hz]; exact Nat.lt_succ_self _)).trans (alloc_cell _ _ _ 2), (hx.cell (by rw [hz]; exact Nat.lt_succ_self _)).trans (alloc_cell _ _ _ 3)⟩, HC.out W hE⟩
  clear HC
  have HM : Hid (indexC x y = if y.one.asNum.2 ≠ 0 then .fail y.one.asNum.2 else indexS x (wholeS y)) := rfl
  simp only [List.length_cons, List.length_nil, Nat.reduceAdd] at h1 ⊢
  obtain ⟨n, hn⟩ : ∃ n, wholeS y = n := ⟨_, rfl⟩
  obtain ⟨f, hf⟩ : ∃ f, y.one.asNum.2 = f := ⟨_, rfl⟩
  obtain ⟨r, hr⟩ : ∃ r, indexS x n = r := ⟨_, rfl⟩
  rw [hn] at TV TC HM
  rw [hf] at TV HM
  rw [hr] at TC HM
  clear hn hf hr gy HS0 HS1
  by_cases hf0 : f = 0
  · subst hf0
    have HM2 : Hid (indexC x y = r) := by show _ = _; rw [HM.out]; simp
    clear HM
    go_enter Tryz.func10, Tryz.ntmps10
    go_wp2_with (first
      | (go_at_call 21; refine (limits_INDEX _).mono ?_; rintro e w2 ⟨rfl, rfl⟩)
      | (go_at_call 30; refine (TV.out _ ((Ext.refl _).alloc _)).mono ?_; rintro e w3 ⟨rfl, hx3⟩; obtain ⟨_, hE3, ⟨k0, k1, k2, k3⟩, _⟩ := HK.out _ hx3)
      | (go_at_call 37; refine (TC.out _ hE3).mono ?_; rintro e w4 ⟨rfl, hx4⟩))
    all_goals go_ret
    all_goals rw [HM2.out]
    all_goals exact ⟨rfl, hE3.trans hx4⟩
  · have hfb : (f != 0) = true := by simpa using hf0
    have hfb2 : (f == 0) = false := by simpa using hf0
    have HM2 : Hid (indexC x y = .fail f) := by show _ = _; rw [HM.out, if_pos hf0]
    have TF : Hid (∀ W, Calls Tryz.prog 31 #[.int .i64 f, .int .i64 0] W fun e w' => e = .returned (V.fail f).val ∧ W = w') := fun W => by
      have := first_any f 0 W
      rwa [show firstS f 0 = .fail f by simp [firstS, hf0]] at this
    clear HM hf0
    go_enter Tryz.func10, Tryz.ntmps10
    go_wp2_with (first
      | (go_at_call 21; refine (limits_INDEX _).mono ?_; rintro e w2 ⟨rfl, rfl⟩)
      | (go_at_call 30; refine (TV.out _ ((Ext.refl _).alloc _)).mono ?_; rintro e w3 ⟨rfl, hx3⟩; obtain ⟨_, hE3, ⟨k0, k1, k2, k3⟩, _⟩ := HK.out _ hx3)
      | (go_at_call 31; refine (TF.out _).mono ?_; rintro e w4 ⟨rfl, rfl⟩))
    all_goals go_ret
    all_goals rw [HM2.out]
    all_goals exact ⟨rfl, hE3⟩
end Go.Proofs.YtphjmbaifkneiaaGreatDoor
