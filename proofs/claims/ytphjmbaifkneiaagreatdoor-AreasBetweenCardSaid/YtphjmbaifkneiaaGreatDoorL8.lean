/- AreasBetween returns true. -/
import Derived.Deep.DeepCutAuto
import Derived.Test.YtphjmbaifkneiaaGreatDoorL5
import Derived.Test.YtphjmbaifkneiaaGreatDoorP9
namespace Go.Proofs.YtphjmbaifkneiaaGreatDoor
open Go.RowKit

set_option maxHeartbeats 8000000
set_option maxRecDepth 100000

theorem asl_one8 {W : World} {x : ArgD} {s1 : Value} (h1 : VSl W s1 x.l) :
    ASl (W.alloc (.cells #[.int .i64 x.rows, .int .i64 x.cols, .bool x.area, s1] 27)) (.slice (some ⟨W.heap.size, 0, none⟩) 1 1) [x] := by
  refine ⟨_, 1, rfl, Nat.le_refl _, by decide, fun k hk => ?_⟩
  obtain rfl : k = 0 := by simpa using hk
  have hx := (Ext.refl W).alloc (.cells #[.int .i64 x.rows, .int .i64 x.cols, .bool x.area, s1] 27)
  exact ⟨W.heap.size, 0, s1, rfl, by rw [alloc_size]; omega, alloc_cell _ _ _ 0, alloc_cell _ _ _ 1, alloc_cell _ _ _ 2, alloc_cell _ _ _ 3, h1.ext hx⟩
theorem whole_one_1 : wholeS (oneD (.num 10000)) = ((1 : Nat) : Int) := whole_one 1 (by decide)
theorem between_any (sv : Value) (a : AD) (w : World) (hs : PSl w sv a.l) (hT : Tabs w) (hG : SgIs w) :
    Calls Tryz.prog 4 #[.agg #[.bool a.one, .int .i64 a.cols, sv]] w fun e w' => e = .returned (.bool true) ∧ Ext w w' := by
  have TA : Hid (∀ W, Ext w W → Calls Tryz.prog 7 #[.agg #[.bool a.one, .int .i64 a.cols, sv]] W fun e w' => ∃ v, e = .returned v ∧ ArgF W w' v (argD a) ∧ Ext W w') := fun W hx => arg_any sv a W (hs.ext hx) (hT.ext hx)
  have TW : Hid (∀ W, Ext w W → Calls Tryz.prog 8 #[] W fun e w' => e = .returned (.bool true) ∧ Ext W w') := fun W hx => awake_any W (hT.ext hx) (hG.ext hx)
  obtain ⟨A, c, rfl, h1, h2, h3⟩ := hs
  clear h3 hT hG
  have hXg := Lib.hid (vals_good a)
  have hXl := Lib.hid (argD_len a)
  obtain ⟨y, hy⟩ : ∃ y, argD a = y := ⟨_, rfl⟩
  rw [hy] at TA hXg hXl
  clear hy
  have hpure := Lib.hid (between_pure ⟨y.rows, y.cols, true, y.l⟩ rfl hXl.out)
  have hGG : Hid (∀ a ∈ [(⟨y.rows, y.cols, true, y.l⟩ : ArgD)], ∀ v ∈ a.l, v.Good) := fun a ha v hv => by
    rw [List.mem_singleton.1 ha] at hv; exact hXg.out v hv
  have hFF : Hid ((flat [(⟨y.rows, y.cols, true, y.l⟩ : ArgD)]).length ≤ 100000) := by
    show _ ≤ _
    have := hXl.out
    simp [flat]; omega
  have hcl : countS V.counts [⟨y.rows, y.cols, true, y.l⟩] ≤ 30 := by
    refine Nat.le_trans (List.length_filter_le _ _) ?_
    simpa [flat] using hXl.out
  obtain ⟨cn, hcn⟩ : ∃ cn, countS V.counts [⟨y.rows, y.cols, true, y.l⟩] = cn := ⟨_, rfl⟩
  obtain ⟨nn, hnn⟩ : ∃ nn : Int, ((cn * 10000 : Nat) : Int) = nn := ⟨_, rfl⟩
  have hcc : (cntC [⟨y.rows, y.cols, true, y.l⟩]) = .num nn := by show V.num _ = _; rw [hcn, hnn]
  rw [hcn] at hcl
  have hnb1 : 0 ≤ nn := by omega
  have hnb2 : nn ≤ 300000 := by omega
  go_enter Tryz.func4, Tryz.ntmps4
  go_upto_region 3 with (go_at_call 7; refine (TA.out _ ((Ext.refl w).alloc _)).mono ?_; rintro e w1 ⟨v1, rfl, hv1, hx1⟩; obtain ⟨s1, rfl, hs1, _⟩ := hv1; have HS1 := Lib.hid hs1; obtain ⟨A1, c1, rfl, _, _, _⟩ := hs1; have hE1 := ((Ext.refl w).alloc _).trans hx1)
  obtain ⟨w2, hw2⟩ : ∃ w2, w1.alloc (.cells #[.int .i64 y.rows, .int .i64 y.cols, .bool true, .slice A1 y.l.length c1] 27) = w2 := ⟨_, rfl⟩
  have hx2 : Ext w1 w2 := by rw [← hw2]; exact (Ext.refl _).alloc _
  have HK : Hid (∀ W, Ext w2 W → Ext w2 W ∧ Ext w W ∧ W.cell? ⟨w1.heap.size, 0, none⟩ = some (.int .i64 y.rows) ∧ W.cell? ⟨w1.heap.size, 1, none⟩ = some (.int .i64 y.cols) ∧ W.cell? ⟨w1.heap.size, 2, none⟩ = some (.bool true) ∧ W.cell? ⟨w1.heap.size, 3, none⟩ = some (.slice A1 y.l.length c1)) := fun W hx => by
    have hh : W.heap[w1.heap.size]? = some (.cells #[.int .i64 y.rows, .int .i64 y.cols, .bool true, .slice A1 y.l.length c1] 27 (0, 0)) := by
      rw [← hw2] at hx
      exact (hx.block _ (by rw [alloc_size]; exact Nat.lt_succ_self _)).trans (heap_alloc_new w1 _)
    exact ⟨hx, hE1.trans (hx2.trans hx), heap_cell hh 0, heap_cell hh 1, heap_cell hh 2, heap_cell hh 3⟩
  have HSX : Hid (∀ W, Ext w2 W → VSl W (.slice A1 y.l.length c1) y.l) := fun W hx => HS1.out.ext (hx2.trans hx)
  rw [hw2]
  clear hw2 HS1
  obtain ⟨q0, hq0⟩ : ∃ q, numV leastS [⟨y.rows, y.cols, true, y.l⟩] = q := ⟨_, rfl⟩
  obtain ⟨q1, hq1⟩ : ∃ q, numV mostS [⟨y.rows, y.cols, true, y.l⟩] = q := ⟨_, rfl⟩
  obtain ⟨q2, hq2⟩ : ∃ q, numV meanS [⟨y.rows, y.cols, true, y.l⟩] = q := ⟨_, rfl⟩
  obtain ⟨q3, hq3⟩ : ∃ q, numV medianS [⟨y.rows, y.cols, true, y.l⟩] = q := ⟨_, rfl⟩
  have hp : Hid (_ → _) := hpure
  rw [hq0, hq1, hq2, hq3, hcn] at hp
  have T0 : Hid (∀ W, Ext w2 W → Calls Tryz.prog 11 #[.string ⟨#[67,79,85,78,84]⟩, .slice (some ⟨W.heap.size, 0, none⟩) 1 1] (W.alloc (.cells #[.int .i64 y.rows, .int .i64 y.cols, .bool true, .slice A1 y.l.length c1] 27)) fun e w' => e = .returned (.tuple #[.int .i64 nn, .bool true]) ∧ Ext W w') := fun W hx => by
    have h := number_of _ _ _ _ (call_COUNT _ [⟨y.rows, y.cols, true, y.l⟩] _ (asl_one8 (x := ⟨y.rows, y.cols, true, y.l⟩) (HSX.out W hx)) hGG.out (by simp) (by simp) hFF.out)
    rw [hcc] at h
    exact h.mono fun e w' ⟨h1, h2⟩ => ⟨h1, ((Ext.refl W).alloc _).trans h2⟩
  have T1 : Hid (∀ W, Ext w2 W → Calls Tryz.prog 11 #[.string ⟨#[77,73,78]⟩, .slice (some ⟨W.heap.size, 0, none⟩) 1 1] (W.alloc (.cells #[.int .i64 y.rows, .int .i64 y.cols, .bool true, .slice A1 y.l.length c1] 27)) fun e w' => e = .returned (.tuple #[.int .i64 q0.numN, .bool q0.isNum]) ∧ Ext W w') := fun W hx => by
    have h := number_of _ _ _ _ (call_MIN _ [⟨y.rows, y.cols, true, y.l⟩] _ (asl_one8 (x := ⟨y.rows, y.cols, true, y.l⟩) (HSX.out W hx)) hGG.out (by simp) (by simp) hFF.out)
    rw [hq0] at h
    exact h.mono fun e w' ⟨h1, h2⟩ => ⟨h1, ((Ext.refl W).alloc _).trans h2⟩
  have T2 : Hid (∀ W, Ext w2 W → Calls Tryz.prog 11 #[.string ⟨#[77,65,88]⟩, .slice (some ⟨W.heap.size, 0, none⟩) 1 1] (W.alloc (.cells #[.int .i64 y.rows, .int .i64 y.cols, .bool true, .slice A1 y.l.length c1] 27)) fun e w' => e = .returned (.tuple #[.int .i64 q1.numN, .bool q1.isNum]) ∧ Ext W w') := fun W hx => by
    have h := number_of _ _ _ _ (call_MAX _ [⟨y.rows, y.cols, true, y.l⟩] _ (asl_one8 (x := ⟨y.rows, y.cols, true, y.l⟩) (HSX.out W hx)) hGG.out (by simp) (by simp) hFF.out)
    rw [hq1] at h
    exact h.mono fun e w' ⟨h1, h2⟩ => ⟨h1, ((Ext.refl W).alloc _).trans h2⟩
  have T3 : Hid (∀ W, Ext w2 W → Calls Tryz.prog 11 #[.string ⟨#[65,86,69,82,65,71,69]⟩, .slice (some ⟨W.heap.size, 0, none⟩) 1 1] (W.alloc (.cells #[.int .i64 y.rows, .int .i64 y.cols, .bool true, .slice A1 y.l.length c1] 27)) fun e w' => e = .returned (.tuple #[.int .i64 q2.numN, .bool q2.isNum]) ∧ Ext W w') := fun W hx => by
    have h := number_of _ _ _ _ (call_AVERAGE _ [⟨y.rows, y.cols, true, y.l⟩] _ (asl_one8 (x := ⟨y.rows, y.cols, true, y.l⟩) (HSX.out W hx)) hGG.out (by simp) (by simp) hFF.out)
    rw [hq2] at h
    exact h.mono fun e w' ⟨h1, h2⟩ => ⟨h1, ((Ext.refl W).alloc _).trans h2⟩
  have T4 : Hid (∀ W, Ext w2 W → Calls Tryz.prog 11 #[.string ⟨#[77,69,68,73,65,78]⟩, .slice (some ⟨W.heap.size, 0, none⟩) 1 1] (W.alloc (.cells #[.int .i64 y.rows, .int .i64 y.cols, .bool true, .slice A1 y.l.length c1] 27)) fun e w' => e = .returned (.tuple #[.int .i64 q3.numN, .bool q3.isNum]) ∧ Ext W w') := fun W hx => by
    have h := number_of _ _ _ _ (call_MEDIAN _ [⟨y.rows, y.cols, true, y.l⟩] _ (asl_one8 (x := ⟨y.rows, y.cols, true, y.l⟩) (HSX.out W hx)) hGG.out (by simp) (by simp) hFF.out)
    rw [hq3] at h
    exact h.mono fun e w' ⟨h1, h2⟩ => ⟨h1, ((Ext.refl W).alloc _).trans h2⟩
  obtain ⟨lo, hlo⟩ : ∃ n, q0.numN = n := ⟨_, rfl⟩
  obtain ⟨hi, hhi⟩ : ∃ n, q1.numN = n := ⟨_, rfl⟩
  obtain ⟨mean, hmean⟩ : ∃ n, q2.numN = n := ⟨_, rfl⟩
  obtain ⟨mid, hmid⟩ : ∃ n, q3.numN = n := ⟨_, rfl⟩
  obtain ⟨i0, hi0⟩ : ∃ n, q0.isNum = n := ⟨_, rfl⟩
  obtain ⟨i1, hi1⟩ : ∃ n, q1.isNum = n := ⟨_, rfl⟩
  obtain ⟨i2, hi2⟩ : ∃ n, q2.isNum = n := ⟨_, rfl⟩
  obtain ⟨i3, hi3⟩ : ∃ n, q3.isNum = n := ⟨_, rfl⟩
  rw [hlo, hi0] at T1
  rw [hhi, hi1] at T2
  rw [hmean, hi2] at T3
  rw [hmid, hi3] at T4
  rw [hlo, hhi, hmean, hmid, hi0, hi1, hi2, hi3] at hp
  clear hpure hq0 hq1 hq2 hq3 hlo hhi hmean hmid hi0 hi1 hi2 hi3 hcc
  obtain ⟨_, _, k0, k1, k2, k3⟩ := HK.out w2 (Ext.refl _)
  go_upto_region 4 with (go_at_call 11; refine (T0.out _ (Ext.refl _)).mono ?_; rintro e r0 ⟨rfl, hr0⟩; have hF0 : Ext w2 r0 := hr0; obtain ⟨_, _, k00, k01, k02, k03⟩ := HK.out r0 hF0)
  clear T0 k0 k1 k2 k3
  go_upto_region 5 with (go_at_call 11; refine (T1.out _ hF0).mono ?_; rintro e r1 ⟨rfl, hr1⟩; have hF1 : Ext w2 r1 := hF0.trans hr1; obtain ⟨_, _, k10, k11, k12, k13⟩ := HK.out r1 hF1)
  clear T1 k00 k01 k02 k03
  go_upto_region 6 with (go_at_call 11; refine (T2.out _ hF1).mono ?_; rintro e r2 ⟨rfl, hr2⟩; have hF2 : Ext w2 r2 := hF1.trans hr2; obtain ⟨_, _, k20, k21, k22, k23⟩ := HK.out r2 hF2)
  clear T2 k10 k11 k12 k13
  go_upto_region 7 with (go_at_call 11; refine (T3.out _ hF2).mono ?_; rintro e r3 ⟨rfl, hr3⟩; have hF3 : Ext w2 r3 := hF2.trans hr3; obtain ⟨_, _, k30, k31, k32, k33⟩ := HK.out r3 hF3)
  clear T3 k20 k21 k22 k23
  go_upto_region 10 with (go_at_call 11; refine (T4.out _ hF3).mono ?_; rintro e r4 ⟨rfl, hr4⟩; have hF4 : Ext w2 r4 := hF3.trans hr4; obtain ⟨_, hFw, k40, k41, k42, k43⟩ := HK.out r4 hF4)
  clear T4 k30 k31 k32 k33
  cases i0 with
  | false =>
    go_wp2_with (go_at_call 8; refine (TW.out _ hFw).mono ?_; rintro e r9 ⟨rfl, hr9⟩)
    go_ret
    exact ⟨rfl, hFw.trans hr9⟩
  | true =>
  cases i1 with
  | false =>
    go_wp2_with (go_at_call 8; refine (TW.out _ hFw).mono ?_; rintro e r9 ⟨rfl, hr9⟩)
    go_ret
    exact ⟨rfl, hFw.trans hr9⟩
  | true =>
  cases i2 with
  | false =>
    go_wp2_with (go_at_call 8; refine (TW.out _ hFw).mono ?_; rintro e r9 ⟨rfl, hr9⟩)
    go_ret
    exact ⟨rfl, hFw.trans hr9⟩
  | true =>
  cases i3 with
  | false =>
    go_wp2_with (go_at_call 8; refine (TW.out _ hFw).mono ?_; rintro e r9 ⟨rfl, hr9⟩)
    go_ret
    exact ⟨rfl, hFw.trans hr9⟩
  | true =>
  by_cases hz : nn = 0
  · clear hnn hnb1 hnb2
    subst hz
    go_wp2_with (go_at_call 8; refine (TW.out _ hFw).mono ?_; rintro e r9 ⟨rfl, hr9⟩)
    go_ret
    exact ⟨rfl, hFw.trans hr9⟩
  · obtain ⟨l, hrun, hlen, hl1, hl2, e1, e2, e3, f1, f2, f3, f4⟩ := hp rfl rfl rfl rfl (by omega)
    have hzb : (nn == 0) = false := by rw [beq_eq_false_iff_ne]; exact hz
    have hwl : wholeS (oneD (.num nn)) = ((l.length : Nat) : Int) := by rw [← hnn, ← hlen]; exact whole_one l.length (by omega)
    have hg1 : (V.num 10000).Good := by show _ ≤ _ ∧ _ ≤ _; omega
    have hg2 : (V.num nn).Good := by show _ ≤ nn ∧ nn ≤ _; omega
    have R1 : Hid (∀ W b c, Ext w2 W → VSl W (.slice (some ⟨b, 0, none⟩) 1 c) [.num 10000] → Calls Tryz.prog 11 #[.string ⟨#[83,77,65,76,76]⟩, .slice (some ⟨W.heap.size, 0, none⟩) 2 2] (W.alloc (.cells #[.int .i64 y.rows, .int .i64 y.cols, .bool true, .slice A1 y.l.length c1, .int .i64 1, .int .i64 1, .bool false, .slice (some ⟨b, 0, none⟩) 1 c] 27)) fun e w' => e = .returned (.tuple #[.int .i64 lo, .bool true]) ∧ Ext W w') := fun W b c hx hs => by
      have h := number_of _ _ _ _ (call_SMALL _ ⟨y.rows, y.cols, true, y.l⟩ (oneD (.num 10000)) l 1 _ (asl_two (x := ⟨y.rows, y.cols, true, y.l⟩) (y := oneD (.num 10000)) (HSX.out W hx) hs) hXg.out (fun u hu => by rw [List.mem_singleton.1 (show u ∈ [_] from hu)]; exact hg1) (by have := hXl.out; show y.l.length ≤ 99999; omega) hrun (whole_one_1) rfl (by omega) (by omega))
      rw [e1] at h
      exact h.mono fun e w' ⟨h1, h2⟩ => ⟨h1, ((Ext.refl W).alloc _).trans h2⟩
    have R2 : Hid (∀ W b c, Ext w2 W → VSl W (.slice (some ⟨b, 0, none⟩) 1 c) [.num 10000] → Calls Tryz.prog 11 #[.string ⟨#[76,65,82,71,69]⟩, .slice (some ⟨W.heap.size, 0, none⟩) 2 2] (W.alloc (.cells #[.int .i64 y.rows, .int .i64 y.cols, .bool true, .slice A1 y.l.length c1, .int .i64 1, .int .i64 1, .bool false, .slice (some ⟨b, 0, none⟩) 1 c] 27)) fun e w' => e = .returned (.tuple #[.int .i64 hi, .bool true]) ∧ Ext W w') := fun W b c hx hs => by
      have h := number_of _ _ _ _ (call_LARGE _ ⟨y.rows, y.cols, true, y.l⟩ (oneD (.num 10000)) l 1 _ (asl_two (x := ⟨y.rows, y.cols, true, y.l⟩) (y := oneD (.num 10000)) (HSX.out W hx) hs) hXg.out (fun u hu => by rw [List.mem_singleton.1 (show u ∈ [_] from hu)]; exact hg1) (by have := hXl.out; show y.l.length ≤ 99999; omega) hrun (whole_one_1) rfl (by omega) (by omega))
      rw [e2] at h
      exact h.mono fun e w' ⟨h1, h2⟩ => ⟨h1, ((Ext.refl W).alloc _).trans h2⟩
    have R3 : Hid (∀ W b c, Ext w2 W → VSl W (.slice (some ⟨b, 0, none⟩) 1 c) [.num nn] → Calls Tryz.prog 11 #[.string ⟨#[83,77,65,76,76]⟩, .slice (some ⟨W.heap.size, 0, none⟩) 2 2] (W.alloc (.cells #[.int .i64 y.rows, .int .i64 y.cols, .bool true, .slice A1 y.l.length c1, .int .i64 1, .int .i64 1, .bool false, .slice (some ⟨b, 0, none⟩) 1 c] 27)) fun e w' => e = .returned (.tuple #[.int .i64 hi, .bool true]) ∧ Ext W w') := fun W b c hx hs => by
      have h := number_of _ _ _ _ (call_SMALL _ ⟨y.rows, y.cols, true, y.l⟩ (oneD (.num nn)) l l.length _ (asl_two (x := ⟨y.rows, y.cols, true, y.l⟩) (y := oneD (.num nn)) (HSX.out W hx) hs) hXg.out (fun u hu => by rw [List.mem_singleton.1 (show u ∈ [_] from hu)]; exact hg2) (by have := hXl.out; show y.l.length ≤ 99999; omega) hrun hwl rfl (by omega) (by omega))
      rw [e3] at h
      exact h.mono fun e w' ⟨h1, h2⟩ => ⟨h1, ((Ext.refl W).alloc _).trans h2⟩
    have O1 : Hid (∀ W, Calls Tryz.prog 12 #[.iface 43 (.int .i64 10000)] W fun e w' => ∃ c, e = .returned (.agg #[.int .i64 1, .int .i64 1, .bool false, .slice (some ⟨W.heap.size + 1, 0, none⟩) 1 c]) ∧ VSl w' (.slice (some ⟨W.heap.size + 1, 0, none⟩) 1 c) [.num 10000] ∧ Ext W w') := one_any (.num 10000)
    have O2 : Hid (∀ W, Calls Tryz.prog 12 #[.iface 43 (.int .i64 nn)] W fun e w' => ∃ c, e = .returned (.agg #[.int .i64 1, .int .i64 1, .bool false, .slice (some ⟨W.heap.size + 1, 0, none⟩) 1 c]) ∧ VSl w' (.slice (some ⟨W.heap.size + 1, 0, none⟩) 1 c) [.num nn] ∧ Ext W w') := one_any (.num nn)
    clear e1 e2 e3 hwl hg1 hg2 hrun hlen hl1 hl2 hp hXg hXl hGG hFF HSX hnn hcn hcl TA
    go_upto_region 12 with fail
    go_region_held3 (fun W => Ext w2 W ∧ Ext w W ∧ W.cell? ⟨w1.heap.size, 0, none⟩ = some (.int .i64 y.rows) ∧ W.cell? ⟨w1.heap.size, 1, none⟩ = some (.int .i64 y.cols) ∧ W.cell? ⟨w1.heap.size, 2, none⟩ = some (.bool true) ∧ W.cell? ⟨w1.heap.size, 3, none⟩ = some (.slice A1 y.l.length c1))
      (with_reducible (first | assumption | (refine HK.out _ ?_; repeat (first | assumption | exact Ext.refl _ | exact And.left (by assumption) | exact Ext.trans (And.left (by assumption)) (by assumption) | refine Ext.alloc ?_ _ | refine Ext.drew ?_))))
      (first
      | (go_at_call 12; refine (O1.out _).mono ?_; rintro e ou1 ⟨co, rfl, hvo, hxo⟩; have hEo : Ext w2 ou1 := Ext.trans (And.left (by assumption)) hxo)
      | (go_at_call 11; refine (R1.out _ _ _ hEo hvo).mono ?_; rintro e u1 ⟨rfl, hxn⟩; have hEu1 : Ext w2 u1 := hEo.trans hxn))
    clear hEo hvo hxo hxn
    go_wp2_with fail
    obtain ⟨_, _, gu10, gu11, gu12, gu13⟩ := HK.out u1 hEu1
    clear R1
    go_region_held3 (fun W => Ext w2 W ∧ Ext w W ∧ W.cell? ⟨w1.heap.size, 0, none⟩ = some (.int .i64 y.rows) ∧ W.cell? ⟨w1.heap.size, 1, none⟩ = some (.int .i64 y.cols) ∧ W.cell? ⟨w1.heap.size, 2, none⟩ = some (.bool true) ∧ W.cell? ⟨w1.heap.size, 3, none⟩ = some (.slice A1 y.l.length c1))
      (with_reducible (first | assumption | (refine HK.out _ ?_; repeat (first | assumption | exact Ext.refl _ | exact And.left (by assumption) | exact Ext.trans (And.left (by assumption)) (by assumption) | refine Ext.alloc ?_ _ | refine Ext.drew ?_))))
      (first
      | (go_at_call 12; refine (O1.out _).mono ?_; rintro e ou2 ⟨co, rfl, hvo, hxo⟩; have hEo : Ext w2 ou2 := Ext.trans (And.left (by assumption)) hxo)
      | (go_at_call 11; refine (R2.out _ _ _ hEo hvo).mono ?_; rintro e u2 ⟨rfl, hxn⟩; have hEu2 : Ext w2 u2 := hEo.trans hxn))
    clear hEo hvo hxo hxn
    go_wp2_with fail
    obtain ⟨_, _, gu20, gu21, gu22, gu23⟩ := HK.out u2 hEu2
    clear R2
    go_region_held3 (fun W => Ext w2 W ∧ Ext w W ∧ W.cell? ⟨w1.heap.size, 0, none⟩ = some (.int .i64 y.rows) ∧ W.cell? ⟨w1.heap.size, 1, none⟩ = some (.int .i64 y.cols) ∧ W.cell? ⟨w1.heap.size, 2, none⟩ = some (.bool true) ∧ W.cell? ⟨w1.heap.size, 3, none⟩ = some (.slice A1 y.l.length c1))
      (with_reducible (first | assumption | (refine HK.out _ ?_; repeat (first | assumption | exact Ext.refl _ | exact And.left (by assumption) | exact Ext.trans (And.left (by assumption)) (by assumption) | refine Ext.alloc ?_ _ | refine Ext.drew ?_))))
      (first
      | (go_at_call 12; refine (O2.out _).mono ?_; rintro e ou3 ⟨co, rfl, hvo, hxo⟩; have hEo : Ext w2 ou3 := Ext.trans (And.left (by assumption)) hxo)
      | (go_at_call 11; refine (R3.out _ _ _ hEo hvo).mono ?_; rintro e u3 ⟨rfl, hxn⟩; have hEu3 : Ext w2 u3 := hEo.trans hxn))
    clear hEo hvo hxo hxn
    obtain ⟨_, hGw, _⟩ := HK.out u3 hEu3
    go_wp2_with (go_at_call 8; refine (TW.out _ hGw).mono ?_; rintro e r9 ⟨rfl, hr9⟩)
    go_ret
    exact ⟨by simp, hGw.trans hr9⟩
end Go.Proofs.YtphjmbaifkneiaaGreatDoor
