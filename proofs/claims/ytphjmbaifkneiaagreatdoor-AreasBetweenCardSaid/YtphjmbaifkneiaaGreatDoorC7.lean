/- ranked, and Call of SMALL and LARGE, where the place is among the numbers. -/
import Derived.Test.YtphjmbaifkneiaaGreatDoorZ5
import Derived.Test.YtphjmbaifkneiaaGreatDoorC3
namespace Go.Proofs.YtphjmbaifkneiaaGreatDoor
open Go.RowKit Go.Shelf

set_option maxRecDepth 100000
set_option maxHeartbeats 4000000

theorem ranked_SMALL (v : Value) (l : List Int) (k : Nat) (w : World) (hv : ISl w v l) (hl : l.length ≤ 100000) (hk1 : 1 ≤ k) (hk2 : k ≤ l.length) :
    Calls Tryz.prog 32 #[.string ⟨#[83,77,65,76,76]⟩, v, .int .i64 k] w fun e w' => e = .returned (V.num ((sortS l)[(k-1)]?.getD 0)).val ∧ Ext w w' := by
  obtain ⟨A, c, rfl, h1, h2, h3⟩ := hv
  have HL : Hid (∀ W, Ext w W → Lies W.heap.size W A l) := fun W hx j hj => by
    obtain ⟨b, o, e, hb, hc⟩ := h3 j hj
    exact ⟨b, o, e, Nat.lt_of_lt_of_le hb hx.size, (hx.cell hb).trans hc⟩
  clear h3
  have TV : Hid (∀ W n, Calls Tryz.prog 60 #[.slice A n c] W fun e w' => e = .returned (.func (.func 85) #[] #[.pointer (some ⟨W.heap.size, 0, none⟩)]) ∧ w' = W.alloc (.cells #[.slice A n c] 69)) := fun W n => (callsIn_wide (n := 3)).1 (values_in Fence.wide 3 trivial rfl A n c W)
  have TS : Hid (Calls Tryz.prog 59 #[.func (.func 85) #[] #[.pointer (some ⟨w.heap.size, 0, none⟩)]] (w.alloc (.cells #[.slice A l.length c] 69)) fun e W' => ∃ v, e = .returned v ∧ ISl W' v (sortS l) ∧ Ext w W') :=
    (sorted_any w.heap.size c A l hl (w.alloc (.cells #[.slice A l.length c] 69)) (by rw [alloc_size]; omega) (alloc_cell _ _ _ 0) (HL.out _ ((Ext.refl w).alloc _))).mono fun e W' ⟨v, he, hr, hx⟩ => ⟨v, he, hr.sl, ((Ext.refl w).alloc _).trans hx⟩
  have hsl := sortS_len l
  have hki1 : (1 : Int) ≤ (k : Int) := by omega
  have hki2 : (k : Int) ≤ (l.length : Int) := by omega
  have hlb : (l.length : Int) ≤ 100000 := by omega
  obtain ⟨m, hm⟩ : ∃ m, (sortS l)[(k-1)]?.getD 0 = m := ⟨_, rfl⟩
  rw [hm]
  have HM := Lib.hid hm
  clear HL hm
  go_enter Tryz.func32, Tryz.ntmps32
  go_upto_region 4 with (first
    | (go_at_call 60; refine (TV.out _ _).mono ?_; rintro e W1 ⟨rfl, rfl⟩)
    | (go_at_call 59; refine TS.out.mono ?_; rintro e W2 ⟨v2, rfl, hs2, hx2⟩))
  obtain ⟨s, hs⟩ : ∃ s, sortS l = s := ⟨_, rfl⟩
  rw [hs] at hs2 hsl HM
  obtain ⟨A2, c2, rfl, g1, g2, g3⟩ := hs2
  clear hs TV TS
  obtain ⟨b2, o2, rfl, hb2, hc2⟩ := g3 ((k-1)) (by omega)
  have hm2 : s[(k-1)]'(by omega) = m := by
    have h := HM.out
    rwa [List.getElem?_eq_getElem (show (k-1) < s.length by omega), Option.getD_some] at h
  rw [hm2] at hc2
  clear g3 hm2 HM
  go_wp2
  go_ret
  exact ⟨rfl, hx2⟩
theorem ranked_LARGE (v : Value) (l : List Int) (k : Nat) (w : World) (hv : ISl w v l) (hl : l.length ≤ 100000) (hk1 : 1 ≤ k) (hk2 : k ≤ l.length) :
    Calls Tryz.prog 32 #[.string ⟨#[76,65,82,71,69]⟩, v, .int .i64 k] w fun e w' => e = .returned (V.num ((sortS l)[(l.length+1-k-1)]?.getD 0)).val ∧ Ext w w' := by
  obtain ⟨A, c, rfl, h1, h2, h3⟩ := hv
  have HL : Hid (∀ W, Ext w W → Lies W.heap.size W A l) := fun W hx j hj => by
    obtain ⟨b, o, e, hb, hc⟩ := h3 j hj
    exact ⟨b, o, e, Nat.lt_of_lt_of_le hb hx.size, (hx.cell hb).trans hc⟩
  clear h3
  have TV : Hid (∀ W n, Calls Tryz.prog 60 #[.slice A n c] W fun e w' => e = .returned (.func (.func 85) #[] #[.pointer (some ⟨W.heap.size, 0, none⟩)]) ∧ w' = W.alloc (.cells #[.slice A n c] 69)) := fun W n => (callsIn_wide (n := 3)).1 (values_in Fence.wide 3 trivial rfl A n c W)
  have TS : Hid (Calls Tryz.prog 59 #[.func (.func 85) #[] #[.pointer (some ⟨w.heap.size, 0, none⟩)]] (w.alloc (.cells #[.slice A l.length c] 69)) fun e W' => ∃ v, e = .returned v ∧ ISl W' v (sortS l) ∧ Ext w W') :=
    (sorted_any w.heap.size c A l hl (w.alloc (.cells #[.slice A l.length c] 69)) (by rw [alloc_size]; omega) (alloc_cell _ _ _ 0) (HL.out _ ((Ext.refl w).alloc _))).mono fun e W' ⟨v, he, hr, hx⟩ => ⟨v, he, hr.sl, ((Ext.refl w).alloc _).trans hx⟩
  have hsl := sortS_len l
  have hki1 : (1 : Int) ≤ (k : Int) := by omega
  have hki2 : (k : Int) ≤ (l.length : Int) := by omega
  have hlb : (l.length : Int) ≤ 100000 := by omega
  obtain ⟨m, hm⟩ : ∃ m, (sortS l)[(l.length+1-k-1)]?.getD 0 = m := ⟨_, rfl⟩
  rw [hm]
  have HM := Lib.hid hm
  clear HL hm
  go_enter Tryz.func32, Tryz.ntmps32
  go_upto_region 4 with (first
    | (go_at_call 60; refine (TV.out _ _).mono ?_; rintro e W1 ⟨rfl, rfl⟩)
    | (go_at_call 59; refine TS.out.mono ?_; rintro e W2 ⟨v2, rfl, hs2, hx2⟩))
  obtain ⟨s, hs⟩ : ∃ s, sortS l = s := ⟨_, rfl⟩
  rw [hs] at hs2 hsl HM
  obtain ⟨A2, c2, rfl, g1, g2, g3⟩ := hs2
  clear hs TV TS
  obtain ⟨b2, o2, rfl, hb2, hc2⟩ := g3 ((l.length+1-k-1)) (by omega)
  have hm2 : s[(l.length+1-k-1)]'(by omega) = m := by
    have h := HM.out
    rwa [List.getElem?_eq_getElem (show (l.length+1-k-1) < s.length by omega), Option.getD_some] at h
  rw [hm2] at hc2
  clear g3 hm2 HM
  go_wp2
  go_ret
  exact ⟨rfl, hx2⟩
theorem lim_SMALL (w : World) : Calls Tryz.prog 21 #[.string ⟨#[83,77,65,76,76]⟩] w fun e w' => e = .returned (.tuple #[.int .i64 2, .int .i64 2]) ∧ w = w' := by
  go_enter Tryz.func21, Tryz.ntmps21
  go_wp2
  go_ret2
  exact ⟨rfl, rfl⟩
theorem lim_LARGE (w : World) : Calls Tryz.prog 21 #[.string ⟨#[76,65,82,71,69]⟩] w fun e w' => e = .returned (.tuple #[.int .i64 2, .int .i64 2]) ∧ w = w' := by
  go_enter Tryz.func21, Tryz.ntmps21
  go_wp2
  go_ret2
  exact ⟨rfl, rfl⟩
theorem call_SMALL (av : Value) (x y : ArgD) (l : List Int) (k : Nat) (w : World) (hA : ASl w av [x, y]) (gx : ∀ u ∈ x.l, u.Good) (gy : ∀ u ∈ y.l, u.Good) (hxl : x.l.length ≤ 99999) (hrun : runS numStep (flat [x]) [] = (0, l)) (hk : wholeS y = (k : Int)) (hf : y.one.asNum.2 = 0) (hk1 : 1 ≤ k) (hk2 : k ≤ l.length) :
    Calls Tryz.prog 10 #[.string ⟨#[83,77,65,76,76]⟩, av] w fun e w' => e = .returned (V.num ((sortS l)[(k-1)]?.getD 0)).val ∧ Ext w w' := by
  have hfl : (flat [x]).length ≤ 100000 := by simp [flat]; omega
  have hlen : l.length ≤ 100000 := by
    have h := numStep_len2 (flat [x]) []
    rw [hrun] at h
    simp at h
    omega
  obtain ⟨A, c, rfl, h1, h2, h3⟩ := hA
  obtain ⟨b, o, s0, rfl, hb, c0, c1, c2, c3, hs0⟩ := h3 0 (by simp)
  obtain ⟨b', o', s1, hA', _, d0, d1, d2, d3, hs1⟩ := h3 1 (by simp)
  clear h3
  injection hA' with e1
  injection e1 with e1 e2
  subst e1 e2
  simp only [List.getElem_cons_zero, List.getElem_cons_succ, Nat.zero_mul, Nat.one_mul, Nat.add_zero, Nat.add_assoc, Nat.reduceAdd] at c0 c1 c2 c3 d0 d1 d2 d3 hs0 hs1
  have HS0 := Lib.hid hs0
  have HS1 := Lib.hid hs1
  obtain ⟨A0, k0, rfl, q1, q2, q3⟩ := hs0
  obtain ⟨A1, k1, rfl, r1, r2, r3⟩ := hs1
  clear q3 r3
  have TN : Hid (∀ W, Ext w W → Calls Tryz.prog 29 #[.slice (some ⟨b, o, none⟩) 1 c] W fun e w' => ∃ v, e = .returned (.tuple #[v, .int .i64 0]) ∧ NumRow W.heap.size l v w' ∧ Ext W w') := fun W hx => by
    have hA1 : ASl W (.slice (some ⟨b, o, none⟩) 1 c) [x] := by
      refine ⟨_, c, rfl, by simp only [List.length_cons, List.length_nil] at h1 ⊢; omega, h2, fun j hj => ?_⟩
      obtain rfl : j = 0 := by simpa using hj
      exact ⟨b, o, _, rfl, Nat.lt_of_lt_of_le hb hx.size, by simpa using (hx.cell hb).trans c0, by simpa using (hx.cell hb).trans c1, by simpa using (hx.cell hb).trans c2, by simpa using (hx.cell hb).trans c3, HS0.out.ext hx⟩
    have h := numbers_any _ [x] W hA1 (fun a ha => by rw [List.mem_singleton.1 ha]; exact gx) hfl
    rwa [hrun] at h
  have TV : Hid (∀ W, Ext w W → Calls Tryz.prog 30 #[.agg #[.int .i64 y.rows, .int .i64 y.cols, .bool y.area, (.slice A1 y.l.length k1)]] W fun e w' => e = .returned (.tuple #[.int .i64 k, .int .i64 0]) ∧ Ext W w') := fun W hx => by
    have h := wholeArg_any _ y W ⟨_, rfl, HS1.out.ext hx⟩ gy
    rwa [hk, hf] at h
  have TR : Hid (∀ W v, ISl W v l → Calls Tryz.prog 32 #[.string ⟨#[83,77,65,76,76]⟩, v, .int .i64 k] W fun e w' => e = .returned (V.num ((sortS l)[(k-1)]?.getD 0)).val ∧ Ext W w') := fun W v hv => ranked_SMALL v l k W hv hlen hk1 hk2
  obtain ⟨m, hm⟩ : ∃ m, (V.num ((sortS l)[(k-1)]?.getD 0)).val = m := ⟨_, rfl⟩
  rw [hm] at TR ⊢
  have HC : Hid (∀ W, Ext w W → W.cell? ⟨b, o + 4, none⟩ = some (.int .i64 y.rows) ∧ W.cell? ⟨b, o + 5, none⟩ = some (.int .i64 y.cols) ∧ W.cell? ⟨b, o + 6, none⟩ = some (.bool y.area) ∧ W.cell? ⟨b, o + 7, none⟩ = some (.slice A1 y.l.length k1)) := fun W hx =>
    ⟨(hx.cell hb).trans d0, (hx.cell hb).trans d1, (hx.cell hb).trans d2, (hx.cell hb).trans d3⟩
  have HK : Hid (∀ W, Ext (w.alloc (.cells #[.int .i64 x.rows, .int .i64 x.cols, .bool x.area, .slice A0 x.l.length k0] 27)) W → Ext (w.alloc (.cells #[.int .i64 x.rows, .int .i64 x.cols, .bool x.area, .slice A0 x.l.length k0] 27)) W ∧ Ext w W ∧ (W.cell? ⟨w.heap.size, 0, none⟩ = some (.int .i64 x.rows) ∧ W.cell? ⟨w.heap.size, 1, none⟩ = some (.int .i64 x.cols) ∧ W.cell? ⟨w.heap.size, 2, none⟩ = some (.bool x.area) ∧ W.cell? ⟨w.heap.size, 3, none⟩ = some (.slice A0 x.l.length k0)) ∧
      (W.cell? ⟨b, o + 4, none⟩ = some (.int .i64 y.rows) ∧ W.cell? ⟨b, o + 5, none⟩ = some (.int .i64 y.cols) ∧ W.cell? ⟨b, o + 6, none⟩ = some (.bool y.area) ∧ W.cell? ⟨b, o + 7, none⟩ = some (.slice A1 y.l.length k1))) := fun W hx => by
    have hE : Ext w W := Ext.trans ((Ext.refl w).alloc _) hx
    have hz := alloc_size w (.cells #[.int .i64 x.rows, .int .i64 x.cols, .bool x.area, .slice A0 x.l.length k0] 27)
    exact ⟨hx, hE, ⟨(hx.cell (by rw [hz]; exact Nat.lt_succ_self _)).trans (alloc_cell _ _ _ 0), (hx.cell (by rw [hz]; exact Nat.lt_succ_self _)).trans (alloc_cell _ _ _ 1), (hx.cell (by rw [hz]; exact Nat.lt_succ_self _)).trans (alloc_cell _ _ _ 2), (hx.cell (by rw [hz]; exact Nat.lt_succ_self _)).trans (alloc_cell _ _ _ 3)⟩, HC.out W hE⟩
  clear HC
  simp only [List.length_cons, List.length_nil, Nat.reduceAdd] at h1 ⊢
  have h1i : (2 : Int) ≤ (c : Int) := by omega
  clear hm gx gy HS0 HS1 hrun hk hf hk1 hk2 hfl hlen hxl
  go_enter Tryz.func10, Tryz.ntmps10
  go_wp2_with (first
    | (go_at_call 21; refine (lim_SMALL _).mono ?_; rintro e w2 ⟨rfl, rfl⟩)
    | (go_at_call 29; refine (TN.out _ ((Ext.refl _).alloc _)).mono ?_; rintro e w3 ⟨v3, rfl, hr3, hx3⟩; obtain ⟨_, hE3, ⟨k0, k1, k2, k3⟩, ⟨e0, e1, e2, e3⟩⟩ := HK.out _ hx3)
    | (go_at_call 30; refine (TV.out _ hE3).mono ?_; rintro e w4 ⟨rfl, hx4⟩)
    | (go_at_call 32; refine (TR.out _ _ (hr3.sl.ext hx4)).mono ?_; rintro e w5 ⟨rfl, hx5⟩))
  all_goals go_ret
  all_goals exact ⟨rfl, (hE3.trans hx4).trans hx5⟩
theorem call_LARGE (av : Value) (x y : ArgD) (l : List Int) (k : Nat) (w : World) (hA : ASl w av [x, y]) (gx : ∀ u ∈ x.l, u.Good) (gy : ∀ u ∈ y.l, u.Good) (hxl : x.l.length ≤ 99999) (hrun : runS numStep (flat [x]) [] = (0, l)) (hk : wholeS y = (k : Int)) (hf : y.one.asNum.2 = 0) (hk1 : 1 ≤ k) (hk2 : k ≤ l.length) :
    Calls Tryz.prog 10 #[.string ⟨#[76,65,82,71,69]⟩, av] w fun e w' => e = .returned (V.num ((sortS l)[(l.length+1-k-1)]?.getD 0)).val ∧ Ext w w' := by
  have hfl : (flat [x]).length ≤ 100000 := by simp [flat]; omega
  have hlen : l.length ≤ 100000 := by
    have h := numStep_len2 (flat [x]) []
    rw [hrun] at h
    simp at h
    omega
  obtain ⟨A, c, rfl, h1, h2, h3⟩ := hA
  obtain ⟨b, o, s0, rfl, hb, c0, c1, c2, c3, hs0⟩ := h3 0 (by simp)
  obtain ⟨b', o', s1, hA', _, d0, d1, d2, d3, hs1⟩ := h3 1 (by simp)
  clear h3
  injection hA' with e1
  injection e1 with e1 e2
  subst e1 e2
  simp only [List.getElem_cons_zero, List.getElem_cons_succ, Nat.zero_mul, Nat.one_mul, Nat.add_zero, Nat.add_assoc, Nat.reduceAdd] at c0 c1 c2 c3 d0 d1 d2 d3 hs0 hs1
  have HS0 := Lib.hid hs0
  have HS1 := Lib.hid hs1
  obtain ⟨A0, k0, rfl, q1, q2, q3⟩ := hs0
  obtain ⟨A1, k1, rfl, r1, r2, r3⟩ := hs1
  clear q3 r3
  have TN : Hid (∀ W, Ext w W → Calls Tryz.prog 29 #[.slice (some ⟨b, o, none⟩) 1 c] W fun e w' => ∃ v, e = .returned (.tuple #[v, .int .i64 0]) ∧ NumRow W.heap.size l v w' ∧ Ext W w') := fun W hx => by
    have hA1 : ASl W (.slice (some ⟨b, o, none⟩) 1 c) [x] := by
      refine ⟨_, c, rfl, by simp only [List.length_cons, List.length_nil] at h1 ⊢; omega, h2, fun j hj => ?_⟩
      obtain rfl : j = 0 := by simpa using hj
      exact ⟨b, o, _, rfl, Nat.lt_of_lt_of_le hb hx.size, by simpa using (hx.cell hb).trans c0, by simpa using (hx.cell hb).trans c1, by simpa using (hx.cell hb).trans c2, by simpa using (hx.cell hb).trans c3, HS0.out.ext hx⟩
    have h := numbers_any _ [x] W hA1 (fun a ha => by rw [List.mem_singleton.1 ha]; exact gx) hfl
    rwa [hrun] at h
  have TV : Hid (∀ W, Ext w W → Calls Tryz.prog 30 #[.agg #[.int .i64 y.rows, .int .i64 y.cols, .bool y.area, (.slice A1 y.l.length k1)]] W fun e w' => e = .returned (.tuple #[.int .i64 k, .int .i64 0]) ∧ Ext W w') := fun W hx => by
    have h := wholeArg_any _ y W ⟨_, rfl, HS1.out.ext hx⟩ gy
    rwa [hk, hf] at h
  have TR : Hid (∀ W v, ISl W v l → Calls Tryz.prog 32 #[.string ⟨#[76,65,82,71,69]⟩, v, .int .i64 k] W fun e w' => e = .returned (V.num ((sortS l)[(l.length+1-k-1)]?.getD 0)).val ∧ Ext W w') := fun W v hv => ranked_LARGE v l k W hv hlen hk1 hk2
  obtain ⟨m, hm⟩ : ∃ m, (V.num ((sortS l)[(l.length+1-k-1)]?.getD 0)).val = m := ⟨_, rfl⟩
  rw [hm] at TR ⊢
  have HC : Hid (∀ W, Ext w W → W.cell? ⟨b, o + 4, none⟩ = some (.int .i64 y.rows) ∧ W.cell? ⟨b, o + 5, none⟩ = some (.int .i64 y.cols) ∧ W.cell? ⟨b, o + 6, none⟩ = some (.bool y.area) ∧ W.cell? ⟨b, o + 7, none⟩ = some (.slice A1 y.l.length k1)) := fun W hx =>
    ⟨(hx.cell hb).trans d0, (hx.cell hb).trans d1, (hx.cell hb).trans d2, (hx.cell hb).trans d3⟩
  have HK : Hid (∀ W, Ext (w.alloc (.cells #[.int .i64 x.rows, .int .i64 x.cols, .bool x.area, .slice A0 x.l.length k0] 27)) W → Ext (w.alloc (.cells #[.int .i64 x.rows, .int .i64 x.cols, .bool x.area, .slice A0 x.l.length k0] 27)) W ∧ Ext w W ∧ (W.cell? ⟨w.heap.size, 0, none⟩ = some (.int .i64 x.rows) ∧ W.cell? ⟨w.heap.size, 1, none⟩ = some (.int .i64 x.cols) ∧ W.cell? ⟨w.heap.size, 2, none⟩ = some (.bool x.area) ∧ W.cell? ⟨w.heap.size, 3, none⟩ = some (.slice A0 x.l.length k0)) ∧
      (W.cell? ⟨b, o + 4, none⟩ = some (.int .i64 y.rows) ∧ W.cell? ⟨b, o + 5, none⟩ = some (.int .i64 y.cols) ∧ W.cell? ⟨b, o + 6, none⟩ = some (.bool y.area) ∧ W.cell? ⟨b, o + 7, none⟩ = some (.slice A1 y.l.length k1))) := fun W hx => by
    have hE : Ext w W := Ext.trans ((Ext.refl w).alloc _) hx
    have hz := alloc_size w (.cells #[.int .i64 x.rows, .int .i64 x.cols, .bool x.area, .slice A0 x.l.length k0] 27)
    exact ⟨hx, hE, ⟨(hx.cell (by rw [hz]; exact Nat.lt_succ_self _)).trans (alloc_cell _ _ _ 0), (hx.cell (by rw [hz]; exact Nat.lt_succ_self _)).trans (alloc_cell _ _ _ 1), (hx.cell (by rw [hz]; exact Nat.lt_succ_self _)).trans (alloc_cell _ _ _ 2), (hx.cell (by rw [hz]; exact Nat.lt_succ_self _)).trans (alloc_cell _ _ _ 3)⟩, HC.out W hE⟩
  clear HC
  simp only [List.length_cons, List.length_nil, Nat.reduceAdd] at h1 ⊢
  have h1i : (2 : Int) ≤ (c : Int) := by omega
  clear hm gx gy HS0 HS1 hrun hk hf hk1 hk2 hfl hlen hxl
  go_enter Tryz.func10, Tryz.ntmps10
  go_wp2_with (first
    | (go_at_call 21; refine (lim_LARGE _).mono ?_; rintro e w2 ⟨rfl, rfl⟩)
    | (go_at_call 29; refine (TN.out _ ((Ext.refl _).alloc _)).mono ?_; rintro e w3 ⟨v3, rfl, hr3, hx3⟩; obtain ⟨_, hE3, ⟨k0, k1, k2, k3⟩, ⟨e0, e1, e2, e3⟩⟩ := HK.out _ hx3)
    | (go_at_call 30; refine (TV.out _ hE3).mono ?_; rintro e w4 ⟨rfl, hx4⟩)
    | (go_at_call 32; refine (TR.out _ _ (hr3.sl.ext hx4)).mono ?_; rintro e w5 ⟨rfl, hx5⟩))
  all_goals go_ret
  all_goals exact ⟨rfl, (hE3.trans hx4).trans hx5⟩
end Go.Proofs.YtphjmbaifkneiaaGreatDoor
