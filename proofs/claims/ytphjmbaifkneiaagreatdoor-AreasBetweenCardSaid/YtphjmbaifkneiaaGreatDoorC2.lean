/- MATCH. -/
import Derived.Test.YtphjmbaifkneiaaGreatDoorC1
namespace Go.Proofs.YtphjmbaifkneiaaGreatDoor
open Go.RowKit

set_option maxHeartbeats 4000000
set_option maxRecDepth 100000


theorem idxS_range (p : V → Bool) : ∀ (l : List V) (k : Nat), (idxS p l k = -1 ∧ ∀ u ∈ l, p u = false) ∨ ∃ (j : Nat) (h : j < l.length), idxS p l k = ((k + j : Nat) : Int) ∧ p l[j] = true
  | [], _ => .inl ⟨rfl, by simp⟩
  | u :: l, k => by
    unfold idxS
    cases h : p u with
    | true => exact .inr ⟨0, by simp, by simp, h⟩
    | false =>
      rcases idxS_range p l (k + 1) with ⟨h1, h2⟩ | ⟨j, hj, h1, h2⟩
      · refine .inl ⟨by simpa using h1, fun v hv => ?_⟩
        rcases List.mem_cons.1 hv with rfl | hv
        · exact h
        · exact h2 v hv
      · refine .inr ⟨j + 1, by simp; omega, ?_, by simpa using h2⟩
        simp only [Bool.false_eq_true, if_false]
        rw [h1]; congr 1; omega

def matchS (x y : ArgD) : V := if 0 ≤ idxS (fitsS 0 x.one) y.l 0 then .num ((idxS (fitsS 0 x.one) y.l 0 + 1) * 10000) else .fail 5
theorem match_any (av : Value) (x y : ArgD) (w : World) (hA : ASl w av [x, y]) (gx : ∀ u ∈ x.l, u.Good) (gy : ∀ u ∈ y.l, u.Good) (hl : y.l.length ≤ 100000) :
    Calls Tryz.prog 10 #[.string ⟨#[77, 65, 84, 67, 72]⟩, av] w fun e w' => e = .returned (matchS x y).val ∧ Ext w w' := by
  obtain ⟨A, c, rfl, h1, h2, h3⟩ := hA
  obtain ⟨b, o, s0, rfl, hb, c0, c1, c2, c3, hs0⟩ := h3 0 (by simp)
  obtain ⟨b', o', s1, hA', _, d0, d1, d2, d3, hs1⟩ := h3 1 (by simp)
  clear h3
  injection hA' with e1
  injection e1 with e1 e2
  subst e1 e2
  simp only [List.getElem_cons_zero, List.getElem_cons_succ, Nat.zero_mul, Nat.one_mul, Nat.add_zero, Nat.add_assoc, Nat.reduceAdd] at c0 c1 c2 c3 d0 d1 d2 d3 hs0 hs1
  have HS0 := Lib.hid hs0
  have HS1 := Lib.hid hs1
  obtain ⟨A0, k0, rfl, q1, q2, q3⟩ := hs0
  obtain ⟨A1, k1, rfl, r1, r2, r3⟩ := hs1
  clear q3 r3
  have TV : Hid (∀ W, Ext w W → Calls Tryz.prog 27 #[.agg #[.int .i64 x.rows, .int .i64 x.cols, .bool x.area, (.slice A0 x.l.length k0)]] W fun e w' => e = .returned x.one.val ∧ Ext W w') := fun W hx => value_any _ x W ⟨_, rfl, HS0.out.ext hx⟩
  have TC : Hid (∀ W, Ext w W → Calls Tryz.prog 36 #[x.one.val, .slice A1 y.l.length k1] W fun e w' => e = .returned (.int .i64 (idxS (fitsS 0 x.one) y.l 0)) ∧ Ext W w') := fun W hx => where_any _ y.l x.one W (HS1.out.ext hx) (one_good gx) gy
  have HC : Hid (∀ W, Ext w W → W.cell? ⟨b, o + 4, none⟩ = some (.int .i64 y.rows) ∧ W.cell? ⟨b, o + 5, none⟩ = some (.int .i64 y.cols) ∧ W.cell? ⟨b, o + 6, none⟩ = some (.bool y.area) ∧ W.cell? ⟨b, o + 7, none⟩ = some (.slice A1 y.l.length k1)) := fun W hx =>
    ⟨(hx.cell hb).trans d0, (hx.cell hb).trans d1, (hx.cell hb).trans d2, (hx.cell hb).trans d3⟩
  have HK : Hid (∀ W, Ext (w.alloc (.cells #[.int .i64 x.rows, .int .i64 x.cols, .bool x.area, .slice A0 x.l.length k0] 27)) W → Ext (w.alloc (.cells #[.int .i64 x.rows, .int .i64 x.cols, .bool x.area, .slice A0 x.l.length k0] 27)) W ∧ Ext w W ∧ (W.cell? ⟨w.heap.size, 0, none⟩ = some (.int .i64 x.rows) ∧ W.cell? ⟨w.heap.size, 1, none⟩ = some (.int .i64 x.cols) ∧ W.cell? ⟨w.heap.size, 2, none⟩ = some (.bool x.area) ∧ W.cell? ⟨w.heap.size, 3, none⟩ = some (.slice A0 x.l.length k0)) ∧
      (W.cell? ⟨b, o + 4, none⟩ = some (.int .i64 y.rows) ∧ W.cell? ⟨b, o + 5, none⟩ = some (.int .i64 y.cols) ∧ W.cell? ⟨b, o + 6, none⟩ = some (.bool y.area) ∧ W.cell? ⟨b, o + 7, none⟩ = some (.slice A1 y.l.length k1))) := fun W hx => by
    have hE : Ext w W := Ext.trans ((Ext.refl w).alloc _) hx
    have hz := alloc_size w (.cells #[.int .i64 x.rows, .int .i64 x.cols, .bool x.area, .slice A0 x.l.length k0] 27)
    exact ⟨hx, hE, ⟨(hx.cell (by rw [hz]; exact Nat.lt_succ_self _)).trans (alloc_cell _ _ _ 0), (hx.cell (by rw [hz]; exact Nat.lt_succ_self _)).trans (alloc_cell _ _ _ 1), (hx.cell (by rw [hz]; exact Nat.lt_succ_self _)).trans (alloc_cell _ _ _ 2), (hx.cell (by rw [hz]; exact Nat.lt_succ_self _)).trans (alloc_cell _ _ _ 3)⟩, HC.out W hE⟩
  clear HC
  have hrange := idxS_range (fitsS 0 x.one) y.l 0
  obtain ⟨xv, hxv⟩ : ∃ xv, x.one.val = xv := ⟨_, rfl⟩
  rw [hxv] at TV TC
  have HM : Hid (matchS x y = if 0 ≤ idxS (fitsS 0 x.one) y.l 0 then .num ((idxS (fitsS 0 x.one) y.l 0 + 1) * 10000) else .fail 5) := rfl
  simp only [List.length_cons, List.length_nil, Nat.reduceAdd] at h1 ⊢
  obtain ⟨i, hi⟩ : ∃ i, idxS (fitsS 0 x.one) y.l 0 = i := ⟨_, rfl⟩
  rw [hi] at HM TC hrange
  clear hi hxv gx gy HS0 HS1
  have hcase : i = -1 ∨ ∃ n : Nat, i = n ∧ n ≤ 100000 := by
    rcases hrange with ⟨h, _⟩ | ⟨j, hj, h, _⟩
    · exact .inl h
    · exact .inr ⟨j, by simpa using h, by omega⟩
  clear hrange
  rcases hcase with rfl | ⟨n, rfl, hn⟩
  · have HM2 : Hid (matchS x y = .fail 5) := by show _ = _; rw [HM.out]; rfl
    clear HM
    go_enter Tryz.func10, Tryz.ntmps10
    go_wp2_with (go_at_call 21; refine (limits_MATCH _).mono ?_; rintro e w2 ⟨rfl, rfl⟩)
    obtain ⟨WA, hWA⟩ : ∃ WA, w.alloc (.cells #[.int .i64 x.rows, .int .i64 x.cols, .bool x.area, .slice A0 x.l.length k0] 27) = WA := ⟨_, rfl⟩
    rw [hWA] at HK ⊢
    clear hWA c0 c1 c2 c3 d0 d1 d2 d3
    go_region_held3 (fun W => Ext WA W ∧ Ext w W ∧ (W.cell? ⟨w.heap.size, 0, none⟩ = some (.int .i64 x.rows) ∧ W.cell? ⟨w.heap.size, 1, none⟩ = some (.int .i64 x.cols) ∧ W.cell? ⟨w.heap.size, 2, none⟩ = some (.bool x.area) ∧ W.cell? ⟨w.heap.size, 3, none⟩ = some (.slice A0 x.l.length k0)) ∧
        (W.cell? ⟨b, o + 4, none⟩ = some (.int .i64 y.rows) ∧ W.cell? ⟨b, o + 5, none⟩ = some (.int .i64 y.cols) ∧ W.cell? ⟨b, o + 6, none⟩ = some (.bool y.area) ∧ W.cell? ⟨b, o + 7, none⟩ = some (.slice A1 y.l.length k1)))
      (first | exact HK.out _ (Ext.drew (Ext.refl _)) | exact HK.out _ (Ext.trans (And.left (by assumption)) (by assumption)) | exact HK.out _ (Ext.refl _) | assumption)
      (first
      | (go_at_call 27; refine (TV.out _ (And.left (And.right (by assumption)))).mono ?_; rintro e w3 ⟨rfl, hx3⟩; clear TV)
      | (go_at_call 36; refine (TC.out _ (And.left (And.right (by assumption)))).mono ?_; rintro e w4 ⟨rfl, hx4⟩; clear TC))
    all_goals go_wp2
    all_goals go_ret
    all_goals rw [HM2.out]
    all_goals exact ⟨rfl, And.left (And.right (by assumption))⟩
  · have HM2 : Hid (matchS x y = .num (((n + 1) * 10000 : Nat) : Int)) := by show _ = _; rw [HM.out, if_pos (by omega)]; congr 1
    clear HM
    have TI : Hid (∀ W, Calls Tryz.prog 17 #[.int .i64 ((n + 1 : Nat) : Int)] W fun e w' => e = .returned (.tuple #[.int .i64 (((n + 1) * 10000 : Nat) : Int), .bool true]) ∧ W = w') := fun W => by
      have := int_any (n + 1) W (by omega)
      rwa [intD_small (by omega)] at this
    obtain ⟨m, hm⟩ : ∃ m : Int, (((n + 1) * 10000 : Nat) : Int) = m := ⟨_, rfl⟩
    rw [hm] at TI HM2
    have TN : Hid (∀ W, Calls Tryz.prog 25 #[.int .i64 m, .bool true] W fun e w' => e = .returned (V.num m).val ∧ W = w') := fun W => counted_true m W
    have hY : ((n + 1 : Nat) : Int) = (n : Int) + 1 := by omega
    rw [hY] at TI
    have hn' : (n : Int) ≤ 100000 := by omega
    clear hm hY
    go_enter Tryz.func10, Tryz.ntmps10
    go_wp2_with (go_at_call 21; refine (limits_MATCH _).mono ?_; rintro e w2 ⟨rfl, rfl⟩)
    obtain ⟨WA, hWA⟩ : ∃ WA, w.alloc (.cells #[.int .i64 x.rows, .int .i64 x.cols, .bool x.area, .slice A0 x.l.length k0] 27) = WA := ⟨_, rfl⟩
    rw [hWA] at HK ⊢
    clear hWA c0 c1 c2 c3 d0 d1 d2 d3
    go_region_held3 (fun W => Ext WA W ∧ Ext w W ∧ (W.cell? ⟨w.heap.size, 0, none⟩ = some (.int .i64 x.rows) ∧ W.cell? ⟨w.heap.size, 1, none⟩ = some (.int .i64 x.cols) ∧ W.cell? ⟨w.heap.size, 2, none⟩ = some (.bool x.area) ∧ W.cell? ⟨w.heap.size, 3, none⟩ = some (.slice A0 x.l.length k0)) ∧
        (W.cell? ⟨b, o + 4, none⟩ = some (.int .i64 y.rows) ∧ W.cell? ⟨b, o + 5, none⟩ = some (.int .i64 y.cols) ∧ W.cell? ⟨b, o + 6, none⟩ = some (.bool y.area) ∧ W.cell? ⟨b, o + 7, none⟩ = some (.slice A1 y.l.length k1)))
      (first | exact HK.out _ (Ext.drew (Ext.refl _)) | exact HK.out _ (Ext.trans (And.left (by assumption)) (by assumption)) | exact HK.out _ (Ext.refl _) | assumption)
      (first
      | (go_at_call 27; refine (TV.out _ (And.left (And.right (by assumption)))).mono ?_; rintro e w3 ⟨rfl, hx3⟩; clear TV)
      | (go_at_call 36; refine (TC.out _ (And.left (And.right (by assumption)))).mono ?_; rintro e w4 ⟨rfl, hx4⟩; clear TC))
    all_goals go_wp2_with (first
      | (go_at_call 17; refine (TI.out _).mono ?_; rintro e w5 ⟨rfl, rfl⟩)
      | (go_at_call 25; refine (TN.out _).mono ?_; rintro e w6 ⟨rfl, rfl⟩))
    all_goals go_ret
    all_goals rw [HM2.out]
    all_goals exact ⟨rfl, And.left (And.right (by assumption))⟩
end Go.Proofs.YtphjmbaifkneiaaGreatDoor
