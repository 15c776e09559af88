/- AreasFinds returns true. -/
import Derived.Test.YtphjmbaifkneiaaGreatDoorL4
import Derived.Test.YtphjmbaifkneiaaGreatDoorP5
namespace Go.Proofs.YtphjmbaifkneiaaGreatDoor
open Go.RowKit

set_option maxHeartbeats 4000000
set_option maxRecDepth 100000

theorem asl_two {W : World} {x y : ArgD} {s1 s2 : Value} (h1 : VSl W s1 x.l) (h2 : VSl W s2 y.l) :
    ASl (W.alloc (.cells #[.int .i64 x.rows, .int .i64 x.cols, .bool x.area, s1, .int .i64 y.rows, .int .i64 y.cols, .bool y.area, s2] 27)) (.slice (some ⟨W.heap.size, 0, none⟩) 2 2) [x, y] := by
  refine ⟨_, 2, rfl, Nat.le_refl _, by decide, fun k hk => ?_⟩
  have hx := (Ext.refl W).alloc (.cells #[.int .i64 x.rows, .int .i64 x.cols, .bool x.area, s1, .int .i64 y.rows, .int .i64 y.cols, .bool y.area, s2] 27)
  match k, hk with
  | 0, _ => exact ⟨W.heap.size, 0, s1, rfl, by rw [alloc_size]; omega, alloc_cell _ _ _ 0, alloc_cell _ _ _ 1, alloc_cell _ _ _ 2, alloc_cell _ _ _ 3, h1.ext hx⟩
  | 1, _ => exact ⟨W.heap.size, 0, s2, rfl, by rw [alloc_size]; omega, alloc_cell _ _ _ 4, alloc_cell _ _ _ 5, alloc_cell _ _ _ 6, alloc_cell _ _ _ 7, h2.ext hx⟩

theorem vals_good (a : AD) : ∀ u ∈ (argD a).l, u.Good := by
  have hv : ∀ u ∈ vals a, u.Good := fun u hu => by
    obtain ⟨p, _, rfl⟩ := List.mem_map.1 hu
    exact ofP_good _ _ _
  unfold argD
  split
  · intro u hu
    rw [List.mem_singleton.1 hu]
    cases h : vals a with
    | nil => trivial
    | cons x l => exact hv x (by rw [h]; exact List.mem_cons_self ..)
  · intro u hu
    rcases List.mem_append.1 (show u ∈ vals a ++ _ from hu) with h | h
    · exact hv u h
    · rw [List.eq_of_mem_replicate h]; trivial
theorem argD_len (a : AD) : (argD a).l.length ≤ 30 := by
  have hv : (vals a).length ≤ 24 := by unfold vals; rw [List.length_map, List.length_take]; omega
  have h := colsN_range a
  unfold argD
  split
  · simp
  · show (padded a).length ≤ 30
    unfold padded
    rw [List.length_append, List.length_replicate]
    have := extra_le (len := (vals a).length) ⟨h.1, h.2.1⟩
    omega
theorem finds_any (sv : Value) (a : AD) (p : PD) (w : World) (hs : PSl w sv a.l) (hT : Tabs w) (hG : SgIs w) (hp : p.s.size ≤ 9223372036854775807) :
    Calls Tryz.prog 5 #[.agg #[.bool a.one, .int .i64 a.cols, sv], .agg #[.int .i64 p.k, .int .i64 p.n, .string p.s]] w fun e w' => e = .returned (.bool true) ∧ Ext w w' := by
  have TA : Hid (∀ W, Ext w W → Calls Tryz.prog 7 #[.agg #[.bool a.one, .int .i64 a.cols, sv]] W fun e w' => ∃ v, e = .returned v ∧ ArgF W w' v (argD a) ∧ Ext W w') := fun W hx => arg_any sv a W (hs.ext hx) (hT.ext hx)
  have TW : Hid (∀ W, Ext w W → Calls Tryz.prog 8 #[] W fun e w' => e = .returned (.bool true) ∧ Ext W w') := fun W hx => awake_any W (hT.ext hx) (hG.ext hx)
  have TO : Hid (∀ W, Ext w W → Calls Tryz.prog 13 #[.agg #[.int .i64 p.k, .int .i64 p.n, .string p.s]] W fun e w' => e = .returned (ofP p.k p.n p.s).val ∧ Ext W w') := fun W hx => of_any _ _ _ W hp (hT.ext hx)
  have hvg := ofP_good p.k p.n p.s
  obtain ⟨A, c, rfl, h1, h2, h3⟩ := hs
  clear h3 hT
  obtain ⟨v, hv⟩ : ∃ v, ofP p.k p.n p.s = v := ⟨_, rfl⟩
  rw [hv] at TO hvg
  have TT : Hid (∀ W, Calls Tryz.prog 14 #[v.val] W fun e w' => e = .returned (.bool v.isText) ∧ W = w') := isText_any v
  have HG := Lib.hid hG
  have HVG := Lib.hid hvg
  have hXg := Lib.hid (vals_good a)
  have hXl := Lib.hid (argD_len a)
  obtain ⟨y, hy⟩ : ∃ y, argD a = y := ⟨_, rfl⟩
  rw [hy] at TA hXg hXl
  clear hy hv hp hG hvg
  cases htx : v.isText with
  | true =>
    rw [htx] at TT
    obtain ⟨vt, vv, hvv⟩ := v.val_iface
    rw [hvv] at TT TO
    clear hvv htx HVG hXg hXl
    go_enter Tryz.func5, Tryz.ntmps5
    go_wp2_with (first
      | (go_at_call 7; refine (TA.out _ (((Ext.refl w).alloc _).alloc _)).mono ?_; rintro e w1 ⟨v1, rfl, hv1, hx1⟩; obtain ⟨s1, rfl, hs1, _⟩ := hv1; obtain ⟨A1, c1, rfl, _, _, _⟩ := hs1; obtain ⟨q0, q1, hz1, hE1⟩ := kept2 hx1; have p0 := heap_cell q1 0; have p1 := heap_cell q1 1; have p2 := heap_cell q1 2; have hl1 : w.heap.size + 1 < w1.heap.size := hz1)
      | (go_at_call 13; refine (TO.out _ (hE1.alloc _)).mono ?_; rintro e w2 ⟨rfl, hx2⟩)
      | (go_at_call 14; refine (TT.out _).mono ?_; rintro e w3 ⟨rfl, rfl⟩)
      | (go_at_call 8; refine (TW.out _ ((hE1.alloc _).trans hx2)).mono ?_; rintro e w4 ⟨rfl, hx4⟩))
    go_ret
    exact ⟨rfl, ((hE1.alloc _).trans hx2).trans hx4⟩
  | false =>
    rw [htx] at TT
    have hpure := finds_pure ⟨y.rows, y.cols, true, y.l⟩ v (by have := hXl.out; show y.l.length ≤ 99999; omega) htx
    obtain ⟨nn, hnn⟩ : ∃ nn : Int, ((countifS ⟨y.rows, y.cols, true, y.l⟩ (oneD v) * 10000 : Nat) : Int) = nn := ⟨_, rfl⟩
    have HN := Lib.hid hnn
    rcases hpure with ⟨hM, hN⟩ | ⟨j, hj, hM, hN, u, hu, hu1, hu2, hu3⟩
    · have HM := Lib.hid hM
      obtain ⟨M, hMM⟩ : ∃ M : V, M = .fail 5 := ⟨_, rfl⟩
      rw [← hMM] at HM
      have hn0 : nn = 0 := by rw [← hnn, hN]; rfl
      clear hnn hN hM htx
      go_enter Tryz.func5, Tryz.ntmps5
      go_wp2_with (first
        | (go_at_call 7; refine (TA.out _ (((Ext.refl w).alloc _).alloc _)).mono ?_; rintro e w1 ⟨v1, rfl, hv1, hx1⟩; obtain ⟨s1, rfl, hs1, _⟩ := hv1; have HS1 := Lib.hid hs1; obtain ⟨A1, c1, rfl, _, _, _⟩ := hs1; obtain ⟨q0, q1, hz1, hE1⟩ := kept2 hx1; have p0 := heap_cell q1 0; have p1 := heap_cell q1 1; have p2 := heap_cell q1 2; have hl1 : w.heap.size + 1 < w1.heap.size := hz1)
        | (go_at_call 13; refine (TO.out _ (hE1.alloc _)).mono ?_; rintro e w2 ⟨rfl, hx2⟩)
        | (go_at_call 14; refine (TT.out _).mono ?_; rintro e w3 ⟨rfl, rfl⟩))
      have HK : Hid (∀ W, Ext w2 W → Ext w2 W ∧ Ext w W ∧ W.cell? ⟨w1.heap.size, 0, none⟩ = some (.int .i64 y.rows) ∧ W.cell? ⟨w1.heap.size, 1, none⟩ = some (.int .i64 y.cols) ∧ W.cell? ⟨w1.heap.size, 2, none⟩ = some (.bool true) ∧ W.cell? ⟨w1.heap.size, 3, none⟩ = some (.slice A1 y.l.length c1)) := fun W hx => by
        have hxx := hx2.trans hx
        have hz := alloc_size w1 (.cells #[.int .i64 y.rows, .int .i64 y.cols, .bool true, .slice A1 y.l.length c1] 27)
        exact ⟨hx, (hE1.alloc _).trans hxx, (hxx.cell (by rw [hz]; exact Nat.lt_succ_self _)).trans (alloc_cell _ _ _ 0), (hxx.cell (by rw [hz]; exact Nat.lt_succ_self _)).trans (alloc_cell _ _ _ 1), (hxx.cell (by rw [hz]; exact Nat.lt_succ_self _)).trans (alloc_cell _ _ _ 2), (hxx.cell (by rw [hz]; exact Nat.lt_succ_self _)).trans (alloc_cell _ _ _ 3)⟩
      have HSX : Hid (∀ W, Ext w2 W → VSl W (.slice A1 y.l.length c1) y.l) := fun W hx => HS1.out.ext ((((Ext.refl w1).alloc _).trans hx2).trans hx)
      have TM : Hid (∀ W b c, Ext w2 W → VSl W (.slice (some ⟨b, 0, none⟩) 1 c) [v] → Calls Tryz.prog 11 #[.string ⟨#[77, 65, 84, 67, 72]⟩, .slice (some ⟨W.heap.size, 0, none⟩) 2 2] (W.alloc (.cells #[.int .i64 1, .int .i64 1, .bool false, .slice (some ⟨b, 0, none⟩) 1 c, .int .i64 y.rows, .int .i64 y.cols, .bool true, .slice A1 y.l.length c1] 27)) fun e w' => e = .returned (.tuple #[.int .i64 M.numN, .bool M.isNum]) ∧ Ext W w') := fun W b c hx hs => by
        have h := number_of _ _ _ _ (match_any _ (oneD v) ⟨y.rows, y.cols, true, y.l⟩ _ (asl_two (x := oneD v) (y := ⟨y.rows, y.cols, true, y.l⟩) hs (HSX.out W hx)) (by simpa [oneD] using HVG.out) hXg.out (by have := hXl.out; show y.l.length ≤ 100000; omega))
        rw [HM.out] at h
        exact h.mono fun e w' ⟨h1, h2⟩ => ⟨h1, ((Ext.refl W).alloc _).trans h2⟩
      have TC : Hid (∀ W b c, Ext w2 W → VSl W (.slice (some ⟨b, 0, none⟩) 1 c) [v] → Calls Tryz.prog 11 #[.string ⟨#[67, 79, 85, 78, 84, 73, 70]⟩, .slice (some ⟨W.heap.size, 0, none⟩) 2 2] (W.alloc (.cells #[.int .i64 y.rows, .int .i64 y.cols, .bool true, .slice A1 y.l.length c1, .int .i64 1, .int .i64 1, .bool false, .slice (some ⟨b, 0, none⟩) 1 c] 27)) fun e w' => e = .returned (.tuple #[.int .i64 nn, .bool true]) ∧ Ext W w') := fun W b c hx hs => by
        have h := number_of _ _ _ _ (countif_any _ ⟨y.rows, y.cols, true, y.l⟩ (oneD v) _ (asl_two (x := ⟨y.rows, y.cols, true, y.l⟩) (y := oneD v) (HSX.out W hx) hs) hXg.out (by simpa [oneD] using HVG.out) (HG.out.ext (((HK.out W hx).2.1).alloc _)) (by have := hXl.out; show y.l.length ≤ 100000; omega))
        rw [HN.out] at h
        exact h.mono fun e w' ⟨h1, h2⟩ => ⟨h1, ((Ext.refl W).alloc _).trans h2⟩
      have T1 : Hid (∀ W, Calls Tryz.prog 12 #[v.val] W fun e w' => ∃ c, e = .returned (.agg #[.int .i64 1, .int .i64 1, .bool false, .slice (some ⟨W.heap.size + 1, 0, none⟩) 1 c]) ∧ VSl w' (.slice (some ⟨W.heap.size + 1, 0, none⟩) 1 c) [v] ∧ Ext W w') := one_any v
      clear p0 p1 p2 q0 q1
      go_region_held3 (fun W => Ext w2 W ∧ Ext w W ∧ W.cell? ⟨w1.heap.size, 0, none⟩ = some (.int .i64 y.rows) ∧ W.cell? ⟨w1.heap.size, 1, none⟩ = some (.int .i64 y.cols) ∧ W.cell? ⟨w1.heap.size, 2, none⟩ = some (.bool true) ∧ W.cell? ⟨w1.heap.size, 3, none⟩ = some (.slice A1 y.l.length c1))
        (first | exact HK.out _ (by assumption) | exact HK.out _ (Ext.drew (And.left (by assumption))) | exact HK.out _ (Ext.drew (Ext.refl _)) | exact HK.out _ (Ext.trans (And.left (by assumption)) (by assumption)) | exact HK.out _ (Ext.alloc (And.left (by assumption)) _) | exact HK.out _ (Ext.refl _) | assumption)
        (first
        | (go_at_call 12; refine (T1.out _).mono ?_; rintro e w4 ⟨c4, rfl, hv4, hx4⟩; have hE24 : Ext w2 w4 := Ext.trans (And.left (by assumption)) hx4)
        | (go_at_call 11; refine (TM.out _ _ _ hE24 hv4).mono ?_; rintro e w5 ⟨rfl, hx5⟩; have hE25 : Ext w2 w5 := hE24.trans hx5))
      clear hE24 hv4 hx4 hx5
      go_wp2_with fail
      have hcells5 := HK.out w5 hE25
      go_region_held3 (fun W => Ext w2 W ∧ Ext w W ∧ W.cell? ⟨w1.heap.size, 0, none⟩ = some (.int .i64 y.rows) ∧ W.cell? ⟨w1.heap.size, 1, none⟩ = some (.int .i64 y.cols) ∧ W.cell? ⟨w1.heap.size, 2, none⟩ = some (.bool true) ∧ W.cell? ⟨w1.heap.size, 3, none⟩ = some (.slice A1 y.l.length c1))
        (first | exact HK.out _ (by assumption) | exact HK.out _ (Ext.drew (And.left (by assumption))) | exact HK.out _ (Ext.drew (Ext.refl _)) | exact HK.out _ (Ext.trans (And.left (by assumption)) (by assumption)) | exact HK.out _ (Ext.alloc (And.left (by assumption)) _) | exact HK.out _ (Ext.refl _) | assumption)
        (first
        | (go_at_call 12; refine (T1.out _).mono ?_; rintro e w6 ⟨c6, rfl, hv6, hx6⟩; have hE26 : Ext w2 w6 := Ext.trans (And.left (by assumption)) hx6)
        | (go_at_call 11; refine (TC.out _ _ _ hE26 hv6).mono ?_; rintro e w7 ⟨rfl, hx7⟩; have hE27 : Ext w2 w7 := hE26.trans hx7))
      clear hE26 hv6 hx6 hx7
      have hq1 : (V.fail 5).isNum = false := rfl
      have hq2 : (V.fail 5).numN = 0 := rfl
      rw [hq1, hq2]
      clear hcells5 T1 TM TC HSX HN HM TT TO TA
      go_wp2_with (go_at_call 8; refine (TW.out _ (HK.out w7 hE27).2.1).mono ?_; rintro e w8 ⟨rfl, hx8⟩)
      go_ret
      exact ⟨rfl, (HK.out w7 hE27).2.1.trans hx8⟩
    · have HM := Lib.hid hM
      obtain ⟨m, hm⟩ : ∃ m : Int, (((j + 1) * 10000 : Nat) : Int) = m := ⟨_, rfl⟩
      rw [hm] at HM hu
      have hmg : (V.num m).Good := by show _ ≤ m ∧ m ≤ _; omega
      obtain ⟨M, hMM⟩ : ∃ M : V, M = .num m := ⟨_, rfl⟩
      rw [← hMM] at HM
      have hn0 : (0 : Int) < nn := by omega
      have HMG := Lib.hid hmg
      have HU := Lib.hid hu
      have T3 : Hid (∀ W, Calls Tryz.prog 9 #[u.val] W fun e w' => e = .returned (.agg #[.int .i64 v.kind, .int .i64 v.n, .string v.s]) ∧ Ext W w') := fun W => by
        have h := told_any u W
        rwa [hu1, hu2, hu3] at h
      have hEq := eq_told_raw v.kind v.kind v.n v.n v.s v.s
      have T4 : Hid (∀ W, Calls Tryz.prog 9 #[v.val] W fun e w' => e = .returned (.agg #[.int .i64 v.kind, .int .i64 v.n, .string v.s]) ∧ Ext W w') := told_any v
      clear hnn hN hM htx hmg hu hu1 hu2 hu3 hm hj
      go_enter Tryz.func5, Tryz.ntmps5
      go_wp2_with (first
        | (go_at_call 7; refine (TA.out _ (((Ext.refl w).alloc _).alloc _)).mono ?_; rintro e w1 ⟨v1, rfl, hv1, hx1⟩; obtain ⟨s1, rfl, hs1, _⟩ := hv1; have HS1 := Lib.hid hs1; obtain ⟨A1, c1, rfl, _, _, _⟩ := hs1; obtain ⟨q0, q1, hz1, hE1⟩ := kept2 hx1; have p0 := heap_cell q1 0; have p1 := heap_cell q1 1; have p2 := heap_cell q1 2; have hl1 : w.heap.size + 1 < w1.heap.size := hz1)
        | (go_at_call 13; refine (TO.out _ (hE1.alloc _)).mono ?_; rintro e w2 ⟨rfl, hx2⟩)
        | (go_at_call 14; refine (TT.out _).mono ?_; rintro e w3 ⟨rfl, rfl⟩))
      have HK : Hid (∀ W, Ext w2 W → Ext w2 W ∧ Ext w W ∧ W.cell? ⟨w1.heap.size, 0, none⟩ = some (.int .i64 y.rows) ∧ W.cell? ⟨w1.heap.size, 1, none⟩ = some (.int .i64 y.cols) ∧ W.cell? ⟨w1.heap.size, 2, none⟩ = some (.bool true) ∧ W.cell? ⟨w1.heap.size, 3, none⟩ = some (.slice A1 y.l.length c1)) := fun W hx => by
        have hxx := hx2.trans hx
        have hz := alloc_size w1 (.cells #[.int .i64 y.rows, .int .i64 y.cols, .bool true, .slice A1 y.l.length c1] 27)
        exact ⟨hx, (hE1.alloc _).trans hxx, (hxx.cell (by rw [hz]; exact Nat.lt_succ_self _)).trans (alloc_cell _ _ _ 0), (hxx.cell (by rw [hz]; exact Nat.lt_succ_self _)).trans (alloc_cell _ _ _ 1), (hxx.cell (by rw [hz]; exact Nat.lt_succ_self _)).trans (alloc_cell _ _ _ 2), (hxx.cell (by rw [hz]; exact Nat.lt_succ_self _)).trans (alloc_cell _ _ _ 3)⟩
      have HSX : Hid (∀ W, Ext w2 W → VSl W (.slice A1 y.l.length c1) y.l) := fun W hx => HS1.out.ext ((((Ext.refl w1).alloc _).trans hx2).trans hx)
      have TM : Hid (∀ W b c, Ext w2 W → VSl W (.slice (some ⟨b, 0, none⟩) 1 c) [v] → Calls Tryz.prog 11 #[.string ⟨#[77, 65, 84, 67, 72]⟩, .slice (some ⟨W.heap.size, 0, none⟩) 2 2] (W.alloc (.cells #[.int .i64 1, .int .i64 1, .bool false, .slice (some ⟨b, 0, none⟩) 1 c, .int .i64 y.rows, .int .i64 y.cols, .bool true, .slice A1 y.l.length c1] 27)) fun e w' => e = .returned (.tuple #[.int .i64 M.numN, .bool M.isNum]) ∧ Ext W w') := fun W b c hx hs => by
        have h := number_of _ _ _ _ (match_any _ (oneD v) ⟨y.rows, y.cols, true, y.l⟩ _ (asl_two (x := oneD v) (y := ⟨y.rows, y.cols, true, y.l⟩) hs (HSX.out W hx)) (by simpa [oneD] using HVG.out) hXg.out (by have := hXl.out; show y.l.length ≤ 100000; omega))
        rw [HM.out] at h
        exact h.mono fun e w' ⟨h1, h2⟩ => ⟨h1, ((Ext.refl W).alloc _).trans h2⟩
      have TC : Hid (∀ W b c, Ext w2 W → VSl W (.slice (some ⟨b, 0, none⟩) 1 c) [v] → Calls Tryz.prog 11 #[.string ⟨#[67, 79, 85, 78, 84, 73, 70]⟩, .slice (some ⟨W.heap.size, 0, none⟩) 2 2] (W.alloc (.cells #[.int .i64 y.rows, .int .i64 y.cols, .bool true, .slice A1 y.l.length c1, .int .i64 1, .int .i64 1, .bool false, .slice (some ⟨b, 0, none⟩) 1 c] 27)) fun e w' => e = .returned (.tuple #[.int .i64 nn, .bool true]) ∧ Ext W w') := fun W b c hx hs => by
        have h := number_of _ _ _ _ (countif_any _ ⟨y.rows, y.cols, true, y.l⟩ (oneD v) _ (asl_two (x := ⟨y.rows, y.cols, true, y.l⟩) (y := oneD v) (HSX.out W hx) hs) hXg.out (by simpa [oneD] using HVG.out) (HG.out.ext (((HK.out W hx).2.1).alloc _)) (by have := hXl.out; show y.l.length ≤ 100000; omega))
        rw [HN.out] at h
        exact h.mono fun e w' ⟨h1, h2⟩ => ⟨h1, ((Ext.refl W).alloc _).trans h2⟩
      have T1 : Hid (∀ W, Calls Tryz.prog 12 #[v.val] W fun e w' => ∃ c, e = .returned (.agg #[.int .i64 1, .int .i64 1, .bool false, .slice (some ⟨W.heap.size + 1, 0, none⟩) 1 c]) ∧ VSl w' (.slice (some ⟨W.heap.size + 1, 0, none⟩) 1 c) [v] ∧ Ext W w') := one_any v
      clear p0 p1 p2 q0 q1
      go_region_held3 (fun W => Ext w2 W ∧ Ext w W ∧ W.cell? ⟨w1.heap.size, 0, none⟩ = some (.int .i64 y.rows) ∧ W.cell? ⟨w1.heap.size, 1, none⟩ = some (.int .i64 y.cols) ∧ W.cell? ⟨w1.heap.size, 2, none⟩ = some (.bool true) ∧ W.cell? ⟨w1.heap.size, 3, none⟩ = some (.slice A1 y.l.length c1))
        (first | exact HK.out _ (by assumption) | exact HK.out _ (Ext.drew (And.left (by assumption))) | exact HK.out _ (Ext.drew (Ext.refl _)) | exact HK.out _ (Ext.trans (And.left (by assumption)) (by assumption)) | exact HK.out _ (Ext.alloc (And.left (by assumption)) _) | exact HK.out _ (Ext.refl _) | assumption)
        (first
        | (go_at_call 12; refine (T1.out _).mono ?_; rintro e w4 ⟨c4, rfl, hv4, hx4⟩; have hE24 : Ext w2 w4 := Ext.trans (And.left (by assumption)) hx4)
        | (go_at_call 11; refine (TM.out _ _ _ hE24 hv4).mono ?_; rintro e w5 ⟨rfl, hx5⟩; have hE25 : Ext w2 w5 := hE24.trans hx5))
      clear hE24 hv4 hx4 hx5
      go_wp2_with fail
      have hcells5 := HK.out w5 hE25
      go_region_held3 (fun W => Ext w2 W ∧ Ext w W ∧ W.cell? ⟨w1.heap.size, 0, none⟩ = some (.int .i64 y.rows) ∧ W.cell? ⟨w1.heap.size, 1, none⟩ = some (.int .i64 y.cols) ∧ W.cell? ⟨w1.heap.size, 2, none⟩ = some (.bool true) ∧ W.cell? ⟨w1.heap.size, 3, none⟩ = some (.slice A1 y.l.length c1))
        (first | exact HK.out _ (by assumption) | exact HK.out _ (Ext.drew (And.left (by assumption))) | exact HK.out _ (Ext.drew (Ext.refl _)) | exact HK.out _ (Ext.trans (And.left (by assumption)) (by assumption)) | exact HK.out _ (Ext.alloc (And.left (by assumption)) _) | exact HK.out _ (Ext.refl _) | assumption)
        (first
        | (go_at_call 12; refine (T1.out _).mono ?_; rintro e w6 ⟨c6, rfl, hv6, hx6⟩; have hE26 : Ext w2 w6 := Ext.trans (And.left (by assumption)) hx6)
        | (go_at_call 11; refine (TC.out _ _ _ hE26 hv6).mono ?_; rintro e w7 ⟨rfl, hx7⟩; have hE27 : Ext w2 w7 := hE26.trans hx7))
      clear hE26 hv6 hx6 hx7
      have hq1 : (V.num m).isNum = true := rfl
      have hq2 : (V.num m).numN = m := rfl
      rw [hq1, hq2]
      have TI : Hid (∀ W b c, Ext w2 W → VSl W (.slice (some ⟨b, 0, none⟩) 1 c) [.num m] → Calls Tryz.prog 10 #[.string ⟨#[73, 78, 68, 69, 88]⟩, .slice (some ⟨W.heap.size, 0, none⟩) 2 2] (W.alloc (.cells #[.int .i64 y.rows, .int .i64 y.cols, .bool true, .slice A1 y.l.length c1, .int .i64 1, .int .i64 1, .bool false, .slice (some ⟨b, 0, none⟩) 1 c] 27)) fun e w' => e = .returned u.val ∧ Ext W w') := fun W b c hx hs => by
        have h := indexCall_any _ ⟨y.rows, y.cols, true, y.l⟩ (oneD (.num m)) _ (asl_two (x := ⟨y.rows, y.cols, true, y.l⟩) (y := oneD (.num m)) (HSX.out W hx) hs) (by simpa [oneD] using HMG.out)
        rw [HU.out] at h
        exact h.mono fun e w' ⟨h1, h2⟩ => ⟨h1, ((Ext.refl W).alloc _).trans h2⟩
      have T5 : Hid (∀ W, Calls Tryz.prog 12 #[.iface 43 (.int .i64 m)] W fun e w' => ∃ c, e = .returned (.agg #[.int .i64 1, .int .i64 1, .bool false, .slice (some ⟨W.heap.size + 1, 0, none⟩) 1 c]) ∧ VSl w' (.slice (some ⟨W.heap.size + 1, 0, none⟩) 1 c) [.num m] ∧ Ext W w') := one_any (.num m)
      clear hcells5 T1 TM TC HSX HN HM TT TO TA HMG HU HVG hXg hXl
      have hcells7 := HK.out w7 hE27
      go_wp2_with fail
      go_region_held3 (fun W => Ext w2 W ∧ Ext w W ∧ W.cell? ⟨w1.heap.size, 0, none⟩ = some (.int .i64 y.rows) ∧ W.cell? ⟨w1.heap.size, 1, none⟩ = some (.int .i64 y.cols) ∧ W.cell? ⟨w1.heap.size, 2, none⟩ = some (.bool true) ∧ W.cell? ⟨w1.heap.size, 3, none⟩ = some (.slice A1 y.l.length c1))
        (first | exact HK.out _ (by assumption) | exact HK.out _ (Ext.drew (And.left (by assumption))) | exact HK.out _ (Ext.drew (Ext.refl _)) | exact HK.out _ (Ext.trans (And.left (by assumption)) (by assumption)) | exact HK.out _ (Ext.alloc (And.left (by assumption)) _) | exact HK.out _ (Ext.refl _) | assumption)
        (first
        | (go_at_call 12; refine (T5.out _).mono ?_; rintro e w8 ⟨c8, rfl, hv8, hx8⟩; have hE28 : Ext w2 w8 := Ext.trans (And.left (by assumption)) hx8)
        | (go_at_call 10; refine (TI.out _ _ _ hE28 hv8).mono ?_; rintro e w9 ⟨rfl, hx9⟩; have hE29 : Ext w2 w9 := hE28.trans hx9))
      go_wp2_with (first
        | (go_at_call 8; refine (TW.out _ (HK.out w9 hE29).2.1).mono ?_; rintro e wa ⟨rfl, hxa⟩)
        | (go_at_call 9; refine (T3.out _).mono ?_; rintro e wb ⟨rfl, hxb⟩; clear T3)
        | (go_at_call 9; refine (T4.out _).mono ?_; rintro e wc ⟨rfl, hxc⟩; clear T4))
      go_ret
      exact ⟨by simp, (((HK.out w9 hE29).2.1.trans hxa).trans hxb).trans hxc⟩
end Go.Proofs.YtphjmbaifkneiaaGreatDoor
