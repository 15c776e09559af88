/- COUNTIF. -/
import Derived.Test.YtphjmbaifkneiaaGreatDoorC0
import Derived.Test.YtphjmbaifkneiaaGreatDoorF3
import Derived.Test.YtphjmbaifkneiaaGreatDoorB4
import Derived.Deep.RegionHeld3
namespace Go.Proofs.YtphjmbaifkneiaaGreatDoor
open Go.RowKit

set_option maxHeartbeats 4000000
set_option maxRecDepth 100000

@[go_sem] theorem field_argL (a b : Int) (c : Bool) (A : Option Addr) (n cap : Nat) (w : World) : (Instr.field 27 (.agg #[.int .i64 a, .int .i64 b, .bool c, .slice A n cap]) 3).run Tryz.prog w = .ok (.slice A n cap) w := by kernel_rfl

theorem intD_small {n : Nat} (h : n ≤ 100001) : intD n = (((n * 10000 : Nat) : Int), true) := by unfold intD; rw [if_neg (by omega)]

def countifS (x y : ArgD) : Nat := (x.l.filter (fitsR (madeS y.one).1 (madeS y.one).2)).length
theorem countif_any (av : Value) (x y : ArgD) (w : World) (hA : ASl w av [x, y]) (gx : ∀ u ∈ x.l, u.Good) (gy : ∀ u ∈ y.l, u.Good) (hs : SgIs w) (hl : x.l.length ≤ 100000) :
    Calls Tryz.prog 10 #[.string ⟨#[67, 79, 85, 78, 84, 73, 70]⟩, av] w fun e w' => e = .returned (V.num ((countifS x y * 10000 : Nat) : Int)).val ∧ Ext w w' := by
  have hn : countifS x y ≤ 100000 := Nat.le_trans (List.length_filter_le _ _) hl
  obtain ⟨A, c, rfl, h1, h2, h3⟩ := hA
  obtain ⟨b, o, s0, rfl, hb, c0, c1, c2, c3, hs0⟩ := h3 0 (by simp)
  obtain ⟨b', o', s1, hA', _, d0, d1, d2, d3, hs1⟩ := h3 1 (by simp)
  clear h3
  injection hA' with e1
  injection e1 with e1 e2
  subst e1 e2
  simp only [List.getElem_cons_zero, List.getElem_cons_succ, Nat.zero_mul, Nat.one_mul, Nat.add_zero, Nat.add_assoc, Nat.reduceAdd] at c0 c1 c2 c3 d0 d1 d2 d3 hs0 hs1
  have HS0 := Lib.hid hs0
  have HS1 := Lib.hid hs1
  obtain ⟨A0, k0, rfl, q1, q2, q3⟩ := hs0
  obtain ⟨A1, k1, rfl, r1, r2, r3⟩ := hs1
  clear q3 r3
  have TV : Hid (∀ W, Ext w W → Calls Tryz.prog 27 #[.agg #[.int .i64 y.rows, .int .i64 y.cols, .bool y.area, (.slice A1 y.l.length k1)]] W fun e w' => e = .returned y.one.val ∧ Ext W w') := fun W hx => value_any _ y W ⟨_, rfl, HS1.out.ext hx⟩
  have TC : Hid (∀ W, Ext w W → Calls Tryz.prog 35 #[.agg #[.int .i64 x.rows, .int .i64 x.cols, .bool x.area, (.slice A0 x.l.length k0)], .agg #[.int .i64 x.rows, .int .i64 x.cols, .bool x.area, (.slice A0 x.l.length k0)], y.one.val] W fun e w' => ∃ A c, e = .returned (.agg #[.int .i64 0, .int .i64 0, .bool true, .slice A (countifS x y) c]) ∧ Ext W w') := fun W hx => chosen_any _ x y.one W ⟨_, rfl, HS0.out.ext hx⟩ gx (one_good gy) (hs.ext hx) hl
  obtain ⟨n, hnn⟩ : ∃ n, countifS x y = n := ⟨_, rfl⟩
  rw [hnn] at TC hn ⊢
  have TI : Hid (∀ W, Calls Tryz.prog 17 #[.int .i64 n] W fun e w' => e = .returned (.tuple #[.int .i64 ((n * 10000 : Nat) : Int), .bool true]) ∧ W = w') := fun W => by
    have := int_any n W (by omega)
    rwa [intD_small (by omega)] at this
  obtain ⟨m, hm⟩ : ∃ m : Int, ((n * 10000 : Nat) : Int) = m := ⟨_, rfl⟩
  rw [hm] at TI ⊢
  have TN : Hid (∀ W, Calls Tryz.prog 25 #[.int .i64 m, .bool true] W fun e w' => e = .returned (V.num m).val ∧ W = w') := fun W => counted_true m W
  obtain ⟨yv, hyv⟩ : ∃ yv, y.one.val = yv := ⟨_, rfl⟩
  rw [hyv] at TV TC
  have HC : Hid (∀ W, Ext w W → W.cell? ⟨b, o + 4, none⟩ = some (.int .i64 y.rows) ∧ W.cell? ⟨b, o + 5, none⟩ = some (.int .i64 y.cols) ∧ W.cell? ⟨b, o + 6, none⟩ = some (.bool y.area) ∧ W.cell? ⟨b, o + 7, none⟩ = some (.slice A1 y.l.length k1)) := fun W hx =>
    ⟨(hx.cell hb).trans d0, (hx.cell hb).trans d1, (hx.cell hb).trans d2, (hx.cell hb).trans d3⟩
  clear hm hnn hs gx gy hyv hl HS0 HS1
  simp only [List.length_cons, List.length_nil, Nat.reduceAdd] at h1 ⊢
  go_enter Tryz.func10, Tryz.ntmps10
  go_wp2_with (go_at_call 21; refine (limits_COUNTIF _).mono ?_; rintro e w2 ⟨rfl, rfl⟩)
  have HK : Hid (∀ W, Ext (w.alloc (.cells #[.int .i64 x.rows, .int .i64 x.cols, .bool x.area, .slice A0 x.l.length k0] 27)) W → Ext (w.alloc (.cells #[.int .i64 x.rows, .int .i64 x.cols, .bool x.area, .slice A0 x.l.length k0] 27)) W ∧ Ext w W ∧ (W.cell? ⟨w.heap.size, 0, none⟩ = some (.int .i64 x.rows) ∧ W.cell? ⟨w.heap.size, 1, none⟩ = some (.int .i64 x.cols) ∧ W.cell? ⟨w.heap.size, 2, none⟩ = some (.bool x.area) ∧ W.cell? ⟨w.heap.size, 3, none⟩ = some (.slice A0 x.l.length k0)) ∧
      (W.cell? ⟨b, o + 4, none⟩ = some (.int .i64 y.rows) ∧ W.cell? ⟨b, o + 5, none⟩ = some (.int .i64 y.cols) ∧ W.cell? ⟨b, o + 6, none⟩ = some (.bool y.area) ∧ W.cell? ⟨b, o + 7, none⟩ = some (.slice A1 y.l.length k1))) := fun W hx => by
    have hE : Ext w W := Ext.trans ((Ext.refl w).alloc _) hx
    have hz := alloc_size w (.cells #[.int .i64 x.rows, .int .i64 x.cols, .bool x.area, .slice A0 x.l.length k0] 27)
    exact ⟨hx, hE, ⟨(hx.cell (by rw [hz]; exact Nat.lt_succ_self _)).trans (alloc_cell _ _ _ 0), (hx.cell (by rw [hz]; exact Nat.lt_succ_self _)).trans (alloc_cell _ _ _ 1), (hx.cell (by rw [hz]; exact Nat.lt_succ_self _)).trans (alloc_cell _ _ _ 2), (hx.cell (by rw [hz]; exact Nat.lt_succ_self _)).trans (alloc_cell _ _ _ 3)⟩, HC.out W hE⟩
  clear HC
  obtain ⟨WA, hWA⟩ : ∃ WA, w.alloc (.cells #[.int .i64 x.rows, .int .i64 x.cols, .bool x.area, .slice A0 x.l.length k0] 27) = WA := ⟨_, rfl⟩
  rw [hWA] at HK ⊢
  clear hWA c0 c1 c2 c3 d0 d1 d2 d3
  go_region_held3 (fun W => Ext WA W ∧ Ext w W ∧ (W.cell? ⟨w.heap.size, 0, none⟩ = some (.int .i64 x.rows) ∧ W.cell? ⟨w.heap.size, 1, none⟩ = some (.int .i64 x.cols) ∧ W.cell? ⟨w.heap.size, 2, none⟩ = some (.bool x.area) ∧ W.cell? ⟨w.heap.size, 3, none⟩ = some (.slice A0 x.l.length k0)) ∧
      (W.cell? ⟨b, o + 4, none⟩ = some (.int .i64 y.rows) ∧ W.cell? ⟨b, o + 5, none⟩ = some (.int .i64 y.cols) ∧ W.cell? ⟨b, o + 6, none⟩ = some (.bool y.area) ∧ W.cell? ⟨b, o + 7, none⟩ = some (.slice A1 y.l.length k1)))
    (first | exact HK.out _ (Ext.drew (Ext.refl _)) | exact HK.out _ (Ext.trans (And.left (by assumption)) (by assumption)) | exact HK.out _ (Ext.refl _) | assumption)
    (first
    | (go_at_call 27; refine (TV.out _ (And.left (And.right (by assumption)))).mono ?_; rintro e w3 ⟨rfl, hx3⟩; clear TV)
    | (go_at_call 35; refine (TC.out _ (And.left (And.right (by assumption)))).mono ?_; rintro e w4 ⟨A5, c5, rfl, hx4⟩; clear TC)
    | (go_at_call 17; refine (TI.out _).mono ?_; rintro e w5 ⟨rfl, rfl⟩; clear TI)
    | (go_at_call 25; refine (TN.out _).mono ?_; rintro e w6 ⟨rfl, rfl⟩; clear TN))
  all_goals go_wp2
  all_goals go_ret
  all_goals exact ⟨rfl, And.left (And.right (by assumption))⟩
end Go.Proofs.YtphjmbaifkneiaaGreatDoor
