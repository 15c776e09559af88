/- AreasSplit returns true. -/
import Derived.Test.YtphjmbaifkneiaaGreatDoorL5
import Derived.Test.YtphjmbaifkneiaaGreatDoorP7
namespace Go.Proofs.YtphjmbaifkneiaaGreatDoor
open Go.RowKit

set_option maxHeartbeats 8000000
set_option maxRecDepth 100000

theorem asl_one {W : World} {x : ArgD} {s1 : Value} (h1 : VSl W s1 x.l) :
    ASl (W.alloc (.cells #[.int .i64 x.rows, .int .i64 x.cols, .bool x.area, s1] 27)) (.slice (some ⟨W.heap.size, 0, none⟩) 1 1) [x] := by
  refine ⟨_, 1, rfl, Nat.le_refl _, by decide, fun k hk => ?_⟩
  obtain rfl : k = 0 := by simpa using hk
  have hx := (Ext.refl W).alloc (.cells #[.int .i64 x.rows, .int .i64 x.cols, .bool x.area, s1] 27)
  exact ⟨W.heap.size, 0, s1, rfl, by rw [alloc_size]; omega, alloc_cell _ _ _ 0, alloc_cell _ _ _ 1, alloc_cell _ _ _ 2, alloc_cell _ _ _ 3, h1.ext hx⟩

theorem add_str (a b : ByteArray) (h : a.size + b.size ≤ 9223372036854775807) (W : World) : (binOp .add 9 (.string a) (.string b)).run Tryz.prog W = .ok (.string (a ++ b)) W := by
  have e := run_string_add_sum (P := Tryz.prog) (w := W) a b h
  simp [binOp, go_sem, e]
theorem split_any (sv : Value) (a : AD) (n : Int) (w : World) (hs : PSl w sv a.l) (hT : Tabs w) (hG : SgIs w) (hP : Lib.TabIs Tryz.prog w "internal/strconv.uint64pow10" .u64 Lib.pow10Tab) :
    Calls Tryz.prog 6 #[.agg #[.bool a.one, .int .i64 a.cols, sv], .int .i64 n] w fun e w' => e = .returned (.bool true) ∧ Ext w w' := by
  have TA : Hid (∀ W, Ext w W → Calls Tryz.prog 7 #[.agg #[.bool a.one, .int .i64 a.cols, sv]] W fun e w' => ∃ v, e = .returned v ∧ ArgF W w' v (argD a) ∧ Ext W w') := fun W hx => arg_any sv a W (hs.ext hx) (hT.ext hx)
  have TW : Hid (∀ W, Ext w W → Calls Tryz.prog 8 #[] W fun e w' => e = .returned (.bool true) ∧ Ext W w') := fun W hx => awake_any W (hT.ext hx) (hG.ext hx)
  obtain ⟨A, c, rfl, h1, h2, h3⟩ := hs
  clear h3 hT
  have HG := Lib.hid hG
  have hXg := Lib.hid (vals_good a)
  have hXl := Lib.hid (argD_len a)
  obtain ⟨y, hy⟩ : ∃ y, argD a = y := ⟨_, rfl⟩
  rw [hy] at TA hXg hXl
  clear hy hG
  by_cases hn : Num n
  · have TGd : Hid (∀ W, Calls Tryz.prog 15 #[.int .i64 n] W fun e w' => e = .returned (.bool true) ∧ W = w') := fun W => good_yes n W hn
    have hpure := split_pure ⟨y.rows, y.cols, true, y.l⟩ n hn rfl
    have hts := text_short n hn
    have TX : Hid (∀ W, Ext w W → Calls Tryz.prog 16 #[.int .i64 n] W fun e w' => e = .returned (.string ⟨(textL n).toArray⟩) ∧ Ext W w') := fun W hx => text_any n W hn (Lib.tabBelow_of_tabIs hP W hx)
    have T1 : Hid (∀ (s : ByteArray) W, Calls Tryz.prog 12 #[.iface 52 (.string s)] W fun e w' => ∃ c, e = .returned (.agg #[.int .i64 1, .int .i64 1, .bool false, .slice (some ⟨W.heap.size + 1, 0, none⟩) 1 c]) ∧ VSl w' (.slice (some ⟨W.heap.size + 1, 0, none⟩) 1 c) [.text s] ∧ Ext W w') := fun s W => one_any (.text s) W
    have hTs : (⟨(textL n).toArray⟩ : ByteArray).size ≤ 30 := by show (List.toArray _).size ≤ 30; rw [List.size_toArray]; exact hts
    obtain ⟨hp1, hp2⟩ := hpure
    unfold ruleT at hp1 hp2
    obtain ⟨T, hTe⟩ : ∃ T : ByteArray, (⟨(textL n).toArray⟩ : ByteArray) = T := ⟨_, rfl⟩
    rw [hTe] at TX hTs hp1 hp2
    have HTS := Lib.hid hTs
    have hadd3 := add_str ⟨#[60]⟩ T (by have h2 : (⟨#[60]⟩ : ByteArray).size ≤ 2 := by decide
                                        omega)
    have hadd4 := add_str ⟨#[62, 61]⟩ T (by have h2 : (⟨#[62, 61]⟩ : ByteArray).size ≤ 2 := by decide
                                            omega)
    have hTi : (T.size : Int) ≤ 30 := by omega
    obtain ⟨m1, hm1⟩ : ∃ m : Int, ((countifS ⟨y.rows, y.cols, true, y.l⟩ (oneD (.text ((⟨#[61]⟩ : ByteArray) ++ T))) * 10000 : Nat) : Int) = m := ⟨_, rfl⟩
    obtain ⟨m2, hm2⟩ : ∃ m : Int, ((countifS ⟨y.rows, y.cols, true, y.l⟩ (oneD (.text ((⟨#[60, 62]⟩ : ByteArray) ++ T))) * 10000 : Nat) : Int) = m := ⟨_, rfl⟩
    obtain ⟨m3, hm3⟩ : ∃ m : Int, ((countifS ⟨y.rows, y.cols, true, y.l⟩ (oneD (.text ((⟨#[60]⟩ : ByteArray) ++ T))) * 10000 : Nat) : Int) = m := ⟨_, rfl⟩
    obtain ⟨m4, hm4⟩ : ∃ m : Int, ((countifS ⟨y.rows, y.cols, true, y.l⟩ (oneD (.text ((⟨#[62, 61]⟩ : ByteArray) ++ T))) * 10000 : Nat) : Int) = m := ⟨_, rfl⟩
    obtain ⟨m5, hm5⟩ : ∃ m : Int, ((countS V.counts [⟨y.rows, y.cols, true, y.l⟩] * 10000 : Nat) : Int) = m := ⟨_, rfl⟩
    have Hm1 := Lib.hid hm1
    have Hm2 := Lib.hid hm2
    have Hm3 := Lib.hid hm3
    have Hm4 := Lib.hid hm4
    have Hm5 := Lib.hid hm5
    have hl30 := hXl.out
    have hp1' : countifS ⟨y.rows, y.cols, true, y.l⟩ (oneD (.text ((⟨#[61]⟩ : ByteArray) ++ T))) + countifS ⟨y.rows, y.cols, true, y.l⟩ (oneD (.text ((⟨#[60, 62]⟩ : ByteArray) ++ T))) = y.l.length := hp1
    have hs12 : m1 + m2 = ((y.l.length * 10000 : Nat) : Int) := by omega
    have hs34 : m3 + m4 = m5 := by omega
    have hm5b : countS V.counts [⟨y.rows, y.cols, true, y.l⟩] ≤ 30 := by
      refine Nat.le_trans (List.length_filter_le _ _) ?_
      simpa [flat] using hl30
    have hb : 0 ≤ m1 ∧ 0 ≤ m2 ∧ 0 ≤ m3 ∧ 0 ≤ m4 ∧ m5 ≤ 300000 := by omega
    obtain ⟨b1, b2, b3, b4, b5⟩ := hb
    have TI : Hid (∀ W, Calls Tryz.prog 17 #[.int .i64 y.l.length] W fun e w' => e = .returned (.tuple #[.int .i64 ((y.l.length * 10000 : Nat) : Int), .bool true]) ∧ W = w') := fun W => by
      have := int_any y.l.length W (by omega)
      rwa [intD_small (by omega)] at this
    obtain ⟨L, hL⟩ : ∃ L : Int, ((y.l.length * 10000 : Nat) : Int) = L := ⟨_, rfl⟩
    have hLb : L ≤ 300000 := by omega
    rw [hL] at TI hs12
    clear hp1 hp2 hp1' hm1 hm2 hm3 hm4 hm5 hTe hTs hn hts hm5b hl30 hL hP
    go_enter Tryz.func6, Tryz.ntmps6
    go_wp2_with (first
      | (go_at_call 7; refine (TA.out _ ((Ext.refl w).alloc _)).mono ?_; rintro e w1 ⟨v1, rfl, hv1, hx1⟩; obtain ⟨s1, rfl, hs1, _⟩ := hv1; have HS1 := Lib.hid hs1; obtain ⟨A1, c1, rfl, _, _, _⟩ := hs1; have hE1 := ((Ext.refl w).alloc _).trans hx1)
      | (go_at_call 15; refine (TGd.out _).mono ?_; rintro e w2 ⟨rfl, rfl⟩)
      | (go_at_call 16; refine (TX.out _ ((hE1.alloc _).trans hxa)).mono ?_; rintro e w2 ⟨rfl, hxb⟩; have hx2 := Ext.trans hxa hxb)
      | (go_at_call 16; refine (TX.out _ (hE1.alloc _)).mono ?_; rintro e wa ⟨rfl, hxa⟩))
    have HK : Hid (∀ W, Ext w2 W → Ext w2 W ∧ Ext w W ∧ W.cell? ⟨w1.heap.size, 0, none⟩ = some (.int .i64 y.rows) ∧ W.cell? ⟨w1.heap.size, 1, none⟩ = some (.int .i64 y.cols) ∧ W.cell? ⟨w1.heap.size, 2, none⟩ = some (.bool true) ∧ W.cell? ⟨w1.heap.size, 3, none⟩ = some (.slice A1 y.l.length c1)) := fun W hx => by
      have hxx := hx2.trans hx
      have hz := alloc_size w1 (.cells #[.int .i64 y.rows, .int .i64 y.cols, .bool true, .slice A1 y.l.length c1] 27)
      exact ⟨hx, (hE1.alloc _).trans hxx, (hxx.cell (by rw [hz]; exact Nat.lt_succ_self _)).trans (alloc_cell _ _ _ 0), (hxx.cell (by rw [hz]; exact Nat.lt_succ_self _)).trans (alloc_cell _ _ _ 1), (hxx.cell (by rw [hz]; exact Nat.lt_succ_self _)).trans (alloc_cell _ _ _ 2), (hxx.cell (by rw [hz]; exact Nat.lt_succ_self _)).trans (alloc_cell _ _ _ 3)⟩
    have HSX : Hid (∀ W, Ext w2 W → VSl W (.slice A1 y.l.length c1) y.l) := fun W hx => HS1.out.ext ((((Ext.refl w1).alloc _).trans hx2).trans hx)
    have TC1 : Hid (∀ W b c, Ext w2 W → VSl W (.slice (some ⟨b, 0, none⟩) 1 c) [.text (⟨#[61]⟩ ++ T)] → Calls Tryz.prog 11 #[.string ⟨#[67, 79, 85, 78, 84, 73, 70]⟩, .slice (some ⟨W.heap.size, 0, none⟩) 2 2] (W.alloc (.cells #[.int .i64 y.rows, .int .i64 y.cols, .bool true, .slice A1 y.l.length c1, .int .i64 1, .int .i64 1, .bool false, .slice (some ⟨b, 0, none⟩) 1 c] 27)) fun e w' => e = .returned (.tuple #[.int .i64 m1, .bool true]) ∧ Ext W w') := fun W b c hx hs => by
      have h := number_of _ _ _ _ (countif_any _ ⟨y.rows, y.cols, true, y.l⟩ (oneD (.text (⟨#[61]⟩ ++ T))) _ (asl_two (x := ⟨y.rows, y.cols, true, y.l⟩) (y := oneD (.text (⟨#[61]⟩ ++ T))) (HSX.out W hx) hs) hXg.out (fun u hu => by
        rw [List.mem_singleton.1 (show u ∈ [_] from hu)]
        show (⟨#[61]⟩ ++ T).size ≤ 2000
        rw [ByteArray.size_append]
        have := HTS.out
        have h2 : (⟨#[61]⟩ : ByteArray).size ≤ 2 := by decide
        omega) (HG.out.ext (((HK.out W hx).2.1).alloc _)) (by have := hXl.out; show y.l.length ≤ 100000; omega))
      rw [show ((countifS ⟨y.rows, y.cols, true, y.l⟩ (oneD (.text (⟨#[61]⟩ ++ T))) * 10000 : Nat) : Int) = m1 from Hm1.out] at h
      exact h.mono fun e w' ⟨h1, h2⟩ => ⟨h1, ((Ext.refl W).alloc _).trans h2⟩
    have TC2 : Hid (∀ W b c, Ext w2 W → VSl W (.slice (some ⟨b, 0, none⟩) 1 c) [.text (⟨#[60,62]⟩ ++ T)] → Calls Tryz.prog 11 #[.string ⟨#[67, 79, 85, 78, 84, 73, 70]⟩, .slice (some ⟨W.heap.size, 0, none⟩) 2 2] (W.alloc (.cells #[.int .i64 y.rows, .int .i64 y.cols, .bool true, .slice A1 y.l.length c1, .int .i64 1, .int .i64 1, .bool false, .slice (some ⟨b, 0, none⟩) 1 c] 27)) fun e w' => e = .returned (.tuple #[.int .i64 m2, .bool true]) ∧ Ext W w') := fun W b c hx hs => by
      have h := number_of _ _ _ _ (countif_any _ ⟨y.rows, y.cols, true, y.l⟩ (oneD (.text (⟨#[60,62]⟩ ++ T))) _ (asl_two (x := ⟨y.rows, y.cols, true, y.l⟩) (y := oneD (.text (⟨#[60,62]⟩ ++ T))) (HSX.out W hx) hs) hXg.out (fun u hu => by
        rw [List.mem_singleton.1 (show u ∈ [_] from hu)]
        show (⟨#[60,62]⟩ ++ T).size ≤ 2000
        rw [ByteArray.size_append]
        have := HTS.out
        have h2 : (⟨#[60,62]⟩ : ByteArray).size ≤ 2 := by decide
        omega) (HG.out.ext (((HK.out W hx).2.1).alloc _)) (by have := hXl.out; show y.l.length ≤ 100000; omega))
      rw [show ((countifS ⟨y.rows, y.cols, true, y.l⟩ (oneD (.text (⟨#[60,62]⟩ ++ T))) * 10000 : Nat) : Int) = m2 from Hm2.out] at h
      exact h.mono fun e w' ⟨h1, h2⟩ => ⟨h1, ((Ext.refl W).alloc _).trans h2⟩
    have TC3 : Hid (∀ W b c, Ext w2 W → VSl W (.slice (some ⟨b, 0, none⟩) 1 c) [.text (⟨#[60]⟩ ++ T)] → Calls Tryz.prog 11 #[.string ⟨#[67, 79, 85, 78, 84, 73, 70]⟩, .slice (some ⟨W.heap.size, 0, none⟩) 2 2] (W.alloc (.cells #[.int .i64 y.rows, .int .i64 y.cols, .bool true, .slice A1 y.l.length c1, .int .i64 1, .int .i64 1, .bool false, .slice (some ⟨b, 0, none⟩) 1 c] 27)) fun e w' => e = .returned (.tuple #[.int .i64 m3, .bool true]) ∧ Ext W w') := fun W b c hx hs => by
      have h := number_of _ _ _ _ (countif_any _ ⟨y.rows, y.cols, true, y.l⟩ (oneD (.text (⟨#[60]⟩ ++ T))) _ (asl_two (x := ⟨y.rows, y.cols, true, y.l⟩) (y := oneD (.text (⟨#[60]⟩ ++ T))) (HSX.out W hx) hs) hXg.out (fun u hu => by
        rw [List.mem_singleton.1 (show u ∈ [_] from hu)]
        show (⟨#[60]⟩ ++ T).size ≤ 2000
        rw [ByteArray.size_append]
        have := HTS.out
        have h2 : (⟨#[60]⟩ : ByteArray).size ≤ 2 := by decide
        omega) (HG.out.ext (((HK.out W hx).2.1).alloc _)) (by have := hXl.out; show y.l.length ≤ 100000; omega))
      rw [show ((countifS ⟨y.rows, y.cols, true, y.l⟩ (oneD (.text (⟨#[60]⟩ ++ T))) * 10000 : Nat) : Int) = m3 from Hm3.out] at h
      exact h.mono fun e w' ⟨h1, h2⟩ => ⟨h1, ((Ext.refl W).alloc _).trans h2⟩
    have TC4 : Hid (∀ W b c, Ext w2 W → VSl W (.slice (some ⟨b, 0, none⟩) 1 c) [.text (⟨#[62,61]⟩ ++ T)] → Calls Tryz.prog 11 #[.string ⟨#[67, 79, 85, 78, 84, 73, 70]⟩, .slice (some ⟨W.heap.size, 0, none⟩) 2 2] (W.alloc (.cells #[.int .i64 y.rows, .int .i64 y.cols, .bool true, .slice A1 y.l.length c1, .int .i64 1, .int .i64 1, .bool false, .slice (some ⟨b, 0, none⟩) 1 c] 27)) fun e w' => e = .returned (.tuple #[.int .i64 m4, .bool true]) ∧ Ext W w') := fun W b c hx hs => by
      have h := number_of _ _ _ _ (countif_any _ ⟨y.rows, y.cols, true, y.l⟩ (oneD (.text (⟨#[62,61]⟩ ++ T))) _ (asl_two (x := ⟨y.rows, y.cols, true, y.l⟩) (y := oneD (.text (⟨#[62,61]⟩ ++ T))) (HSX.out W hx) hs) hXg.out (fun u hu => by
        rw [List.mem_singleton.1 (show u ∈ [_] from hu)]
        show (⟨#[62,61]⟩ ++ T).size ≤ 2000
        rw [ByteArray.size_append]
        have := HTS.out
        have h2 : (⟨#[62,61]⟩ : ByteArray).size ≤ 2 := by decide
        omega) (HG.out.ext (((HK.out W hx).2.1).alloc _)) (by have := hXl.out; show y.l.length ≤ 100000; omega))
      rw [show ((countifS ⟨y.rows, y.cols, true, y.l⟩ (oneD (.text (⟨#[62,61]⟩ ++ T))) * 10000 : Nat) : Int) = m4 from Hm4.out] at h
      exact h.mono fun e w' ⟨h1, h2⟩ => ⟨h1, ((Ext.refl W).alloc _).trans h2⟩
    have TC5 : Hid (∀ W, Ext w2 W → Calls Tryz.prog 11 #[.string ⟨#[67, 79, 85, 78, 84]⟩, .slice (some ⟨W.heap.size, 0, none⟩) 1 1] (W.alloc (.cells #[.int .i64 y.rows, .int .i64 y.cols, .bool true, .slice A1 y.l.length c1] 27)) fun e w' => e = .returned (.tuple #[.int .i64 m5, .bool true]) ∧ Ext W w') := fun W hx => by
      have h := number_of _ _ _ _ (count_any _ ⟨y.rows, y.cols, true, y.l⟩ _ (asl_one (x := ⟨y.rows, y.cols, true, y.l⟩) (HSX.out W hx)) hXg.out (by have := hXl.out; show y.l.length ≤ 100000; omega))
      rw [show ((countS V.counts [⟨y.rows, y.cols, true, y.l⟩] * 10000 : Nat) : Int) = m5 from Hm5.out] at h
      exact h.mono fun e w' ⟨h1, h2⟩ => ⟨h1, ((Ext.refl W).alloc _).trans h2⟩
    clear Hm1 Hm2 Hm3 Hm4 Hm5 HG hXg hXl HTS HS1 HSX TA TGd
    go_region_held3 (fun W => Ext w2 W ∧ Ext w W ∧ W.cell? ⟨w1.heap.size, 0, none⟩ = some (.int .i64 y.rows) ∧ W.cell? ⟨w1.heap.size, 1, none⟩ = some (.int .i64 y.cols) ∧ W.cell? ⟨w1.heap.size, 2, none⟩ = some (.bool true) ∧ W.cell? ⟨w1.heap.size, 3, none⟩ = some (.slice A1 y.l.length c1))
      (first | exact HK.out _ (by assumption) | exact HK.out _ (Ext.drew (And.left (by assumption))) | exact HK.out _ (Ext.drew (Ext.refl _)) | exact HK.out _ (Ext.trans (And.left (by assumption)) (by assumption)) | exact HK.out _ (Ext.alloc (And.left (by assumption)) _) | exact HK.out _ (Ext.refl _) | assumption)
      (first
      | (go_at_call 16; refine (TX.out _ (And.left (And.right (by assumption)))).mono ?_; rintro e wt ⟨rfl, hxt⟩; have hEt : Ext w2 wt := Ext.trans (And.left (by assumption)) hxt)
      | (go_at_call 12; refine (T1.out _ _).mono ?_; rintro e wo ⟨co, rfl, hvo, hxo⟩; have hEo : Ext w2 wo := Ext.trans (And.left (by assumption)) hxo)
      | (go_at_call 11; refine (TC1.out _ _ _ hEo hvo).mono ?_; rintro e r1 ⟨rfl, hxn⟩; have hEr1 : Ext w2 r1 := hEo.trans hxn))
    clear TC1
    go_wp2_with fail
    have hcells1 := HK.out r1 hEr1
    go_region_held3 (fun W => Ext w2 W ∧ Ext w W ∧ W.cell? ⟨w1.heap.size, 0, none⟩ = some (.int .i64 y.rows) ∧ W.cell? ⟨w1.heap.size, 1, none⟩ = some (.int .i64 y.cols) ∧ W.cell? ⟨w1.heap.size, 2, none⟩ = some (.bool true) ∧ W.cell? ⟨w1.heap.size, 3, none⟩ = some (.slice A1 y.l.length c1))
      (first | exact HK.out _ (by assumption) | exact HK.out _ (Ext.drew (And.left (by assumption))) | exact HK.out _ (Ext.drew (Ext.refl _)) | exact HK.out _ (Ext.trans (And.left (by assumption)) (by assumption)) | exact HK.out _ (Ext.alloc (And.left (by assumption)) _) | exact HK.out _ (Ext.refl _) | assumption)
      (first
      | (go_at_call 16; refine (TX.out _ (And.left (And.right (by assumption)))).mono ?_; rintro e wt ⟨rfl, hxt⟩; have hEt : Ext w2 wt := Ext.trans (And.left (by assumption)) hxt)
      | (go_at_call 12; refine (T1.out _ _).mono ?_; rintro e wo ⟨co, rfl, hvo, hxo⟩; have hEo : Ext w2 wo := Ext.trans (And.left (by assumption)) hxo)
      | (go_at_call 11; refine (TC2.out _ _ _ hEo hvo).mono ?_; rintro e r2 ⟨rfl, hxn⟩; have hEr2 : Ext w2 r2 := hEo.trans hxn))
    clear TC2
    go_wp2_with fail
    have hcells2 := HK.out r2 hEr2
    go_region_held (fun W => Ext w2 W ∧ Ext w W ∧ W.cell? ⟨w1.heap.size, 0, none⟩ = some (.int .i64 y.rows) ∧ W.cell? ⟨w1.heap.size, 1, none⟩ = some (.int .i64 y.cols) ∧ W.cell? ⟨w1.heap.size, 2, none⟩ = some (.bool true) ∧ W.cell? ⟨w1.heap.size, 3, none⟩ = some (.slice A1 y.l.length c1))
      (first | exact HK.out _ (by assumption) | exact HK.out _ (Ext.drew (And.left (by assumption))) | exact HK.out _ (Ext.drew (Ext.refl _)) | exact HK.out _ (Ext.trans (And.left (by assumption)) (by assumption)) | exact HK.out _ (Ext.alloc (And.left (by assumption)) _) | exact HK.out _ (Ext.refl _) | assumption)
      (first
      | (go_at_call 16; refine (TX.out _ (And.left (And.right (by assumption)))).mono ?_; rintro e wt ⟨rfl, hxt⟩; have hEt : Ext w2 wt := Ext.trans (And.left (by assumption)) hxt)
      | (go_at_call 12; refine (T1.out _ _).mono ?_; rintro e wo ⟨co, rfl, hvo, hxo⟩; have hEo : Ext w2 wo := Ext.trans (And.left (by assumption)) hxo)
      | (go_at_call 11; refine (TC3.out _ _ _ hEo hvo).mono ?_; rintro e r3 ⟨rfl, hxn⟩; have hEr3 : Ext w2 r3 := hEo.trans hxn))
    clear TC3
    go_wp2_with fail
    have hcells3 := HK.out r3 hEr3
    go_region_held (fun W => Ext w2 W ∧ Ext w W ∧ W.cell? ⟨w1.heap.size, 0, none⟩ = some (.int .i64 y.rows) ∧ W.cell? ⟨w1.heap.size, 1, none⟩ = some (.int .i64 y.cols) ∧ W.cell? ⟨w1.heap.size, 2, none⟩ = some (.bool true) ∧ W.cell? ⟨w1.heap.size, 3, none⟩ = some (.slice A1 y.l.length c1))
      (first | exact HK.out _ (by assumption) | exact HK.out _ (Ext.drew (And.left (by assumption))) | exact HK.out _ (Ext.drew (Ext.refl _)) | exact HK.out _ (Ext.trans (And.left (by assumption)) (by assumption)) | exact HK.out _ (Ext.alloc (And.left (by assumption)) _) | exact HK.out _ (Ext.refl _) | assumption)
      (first
      | (go_at_call 16; refine (TX.out _ (And.left (And.right (by assumption)))).mono ?_; rintro e wt ⟨rfl, hxt⟩; have hEt : Ext w2 wt := Ext.trans (And.left (by assumption)) hxt)
      | (go_at_call 12; refine (T1.out _ _).mono ?_; rintro e wo ⟨co, rfl, hvo, hxo⟩; have hEo : Ext w2 wo := Ext.trans (And.left (by assumption)) hxo)
      | (go_at_call 11; refine (TC4.out _ _ _ hEo hvo).mono ?_; rintro e r4 ⟨rfl, hxn⟩; have hEr4 : Ext w2 r4 := hEo.trans hxn))
    clear TC4 T1 TX
    obtain ⟨_, hEw4, k0, k1, k2, k3⟩ := HK.out r4 hEr4
    clear hcells1 hcells2 hcells3
    go_wp2_with (first
      | (go_at_call 11; refine (TC5.out _ hEr4).mono ?_; rintro e r5 ⟨rfl, hx5⟩; obtain ⟨_, hEw5, l0, l1, l2, l3⟩ := HK.out r5 (hEr4.trans hx5))
      | (go_at_call 17; refine (TI.out _).mono ?_; rintro e r6 ⟨rfl, rfl⟩)
      | (go_at_call 8; refine (TW.out _ hEw5).mono ?_; rintro e r7 ⟨rfl, hx7⟩))
    go_ret
    exact ⟨rfl, hEw5.trans hx7⟩
  · have TGd : Hid (∀ W, Calls Tryz.prog 15 #[.int .i64 n] W fun e w' => e = .returned (.bool false) ∧ W = w') := fun W => good_no n W hn
    clear hn hXg hXl hP
    go_enter Tryz.func6, Tryz.ntmps6
    go_wp2_with (first
      | (go_at_call 7; refine (TA.out _ ((Ext.refl w).alloc _)).mono ?_; rintro e w1 ⟨v1, rfl, hv1, hx1⟩; obtain ⟨s1, rfl, hs1, _⟩ := hv1; obtain ⟨A1, c1, rfl, _, _, _⟩ := hs1; have hE1 := ((Ext.refl w).alloc _).trans hx1)
      | (go_at_call 15; refine (TGd.out _).mono ?_; rintro e w2 ⟨rfl, rfl⟩)
      | (go_at_call 8; refine (TW.out _ (hE1.alloc _)).mono ?_; rintro e w4 ⟨rfl, hx4⟩))
    go_ret
    exact ⟨rfl, (hE1.alloc _).trans hx4⟩
end Go.Proofs.YtphjmbaifkneiaaGreatDoor
