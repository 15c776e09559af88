/- The statements' opening call: awake. -/
import Derived.Test.YtphjmbaifkneiaaGreatDoorL3
import Derived.Test.YtphjmbaifkneiaaGreatDoorC4
namespace Go.Proofs.YtphjmbaifkneiaaGreatDoor
open Go.RowKit

set_option maxHeartbeats 4000000
set_option maxRecDepth 100000

def adA : AD := ⟨false, 1, [⟨1, 10000, ⟨#[]⟩⟩, ⟨2, 0, ⟨#[120]⟩⟩, ⟨0, 0, ⟨#[]⟩⟩, ⟨1, 30000, ⟨#[]⟩⟩]⟩
def adB : AD := ⟨true, 0, [⟨2, 0, ⟨#[62, 49]⟩⟩]⟩
theorem v_num (n : Int) (s : ByteArray) (h : Num n) : PD.v ⟨1, n, s⟩ = .num n := by unfold PD.v ofP; rw [if_pos rfl, if_pos h]
theorem v_zero (s : ByteArray) : PD.v ⟨0, 0, s⟩ = .blank := by unfold PD.v ofP; simp
theorem v_x : PD.v ⟨2, 0, ⟨#[120]⟩⟩ = .text ⟨#[120]⟩ := by
  unfold PD.v ofP
  rw [if_neg (by simp), if_pos rfl]
  have e : (⟨#[120]⟩ : ByteArray).extract 0 (min 40 (⟨#[120]⟩ : ByteArray).size) = ⟨#[120]⟩ := by decide +kernel
  show (if (signs ((⟨#[120]⟩ : ByteArray).extract 0 (min 40 (⟨#[120]⟩ : ByteArray).size))).2 = true ∧ _ then V.text ((⟨#[120]⟩ : ByteArray).extract 0 (min 40 (⟨#[120]⟩ : ByteArray).size)) else V.blank) = _
  rw [e, if_pos ⟨by decide +kernel, by decide +kernel⟩]
theorem v_gt : PD.v ⟨2, 0, ⟨#[62, 49]⟩⟩ = .text ⟨#[62, 49]⟩ := by
  unfold PD.v ofP
  rw [if_neg (by simp), if_pos rfl]
  have e : (⟨#[62, 49]⟩ : ByteArray).extract 0 (min 40 (⟨#[62, 49]⟩ : ByteArray).size) = ⟨#[62, 49]⟩ := by decide +kernel
  show (if (signs ((⟨#[62, 49]⟩ : ByteArray).extract 0 (min 40 (⟨#[62, 49]⟩ : ByteArray).size))).2 = true ∧ _ then V.text ((⟨#[62, 49]⟩ : ByteArray).extract 0 (min 40 (⟨#[62, 49]⟩ : ByteArray).size)) else V.blank) = _
  rw [e, if_pos ⟨by decide +kernel, by decide +kernel⟩]
def argA : ArgD := ⟨4, 1, true, [.num 10000, .text ⟨#[120]⟩, .blank, .num 30000]⟩
def argB : ArgD := ⟨1, 1, false, [.text ⟨#[62, 49]⟩]⟩
theorem argD_A : argD adA = argA := by
  have hv : vals adA = argA.l := by
    unfold vals adA
    simp only [List.take, List.map]
    rw [v_num _ _ ⟨by decide, by decide⟩, v_num _ _ ⟨by decide, by decide⟩, v_x, v_zero]
    rfl
  have hp : padded adA = argA.l := by
    unfold padded; rw [hv]; rfl
  unfold argD
  rw [if_neg (by simp [adA]), hp]
  rfl
theorem argD_B : argD adB = argB := by
  have hv : vals adB = argB.l := by
    unfold vals adB
    simp only [List.take, List.map]
    rw [v_gt]
    rfl
  unfold argD
  rw [if_pos (by rfl), hv]
  rfl
theorem avgA : averageS [argA] = .num 20000 := by kernel_rfl
theorem cntAB : countifS argA argB = 1 := by kernel_rfl

theorem psl_A {w W : World} (h : W.heap[w.heap.size]? = some (.cells #[.int .i64 1, .int .i64 10000, .string ⟨#[]⟩, .int .i64 2, .int .i64 0, .string ⟨#[120]⟩, .int .i64 0, .int .i64 0, .string ⟨#[]⟩, .int .i64 1, .int .i64 30000, .string ⟨#[]⟩] 46 (0, 0))) :
    PSl W (.slice (some ⟨w.heap.size, 0, none⟩) 4 4) adA.l := by
  refine ⟨_, 4, rfl, Nat.le_refl _, by decide, fun j hj => ⟨w.heap.size, 0, rfl, (Array.getElem?_eq_some_iff.1 h).1, ?_⟩⟩
  match j, hj with
  | 0, _ => exact ⟨heap_cell h 0, heap_cell h 1, heap_cell h 2⟩
  | 1, _ => exact ⟨heap_cell h 3, heap_cell h 4, heap_cell h 5⟩
  | 2, _ => exact ⟨heap_cell h 6, heap_cell h 7, heap_cell h 8⟩
  | 3, _ => exact ⟨heap_cell h 9, heap_cell h 10, heap_cell h 11⟩
theorem gsl_1 {W : World} {b : Nat} {sv : Value} (h : W.heap[b]? = some (.cells #[.bool false, .int .i64 1, sv] 24 (0, 0))) (hp : PSl W sv adA.l) : GSl W (.slice (some ⟨b, 0, none⟩) 1 1) [adA] := by
  refine ⟨_, 1, rfl, Nat.le_refl _, by decide, fun j hj => ?_⟩
  obtain rfl : j = 0 := by simpa using hj
  exact ⟨b, 0, sv, rfl, (Array.getElem?_eq_some_iff.1 h).1, heap_cell h 0, heap_cell h 1, heap_cell h 2, hp⟩
theorem gsl_2 {W : World} {b : Nat} {sv tv : Value} (h : W.heap[b]? = some (.cells #[.bool false, .int .i64 1, sv, .bool true, .int .i64 0, tv] 24 (0, 0))) (hp : PSl W sv adA.l) (hq : PSl W tv adB.l) : GSl W (.slice (some ⟨b, 0, none⟩) 2 2) [adA, adB] := by
  refine ⟨_, 2, rfl, Nat.le_refl _, by decide, fun j hj => ?_⟩
  match j, hj with
  | 0, _ => exact ⟨b, 0, sv, rfl, (Array.getElem?_eq_some_iff.1 h).1, heap_cell h 0, heap_cell h 1, heap_cell h 2, hp⟩
  | 1, _ => exact ⟨b, 0, tv, rfl, (Array.getElem?_eq_some_iff.1 h).1, heap_cell h 3, heap_cell h 4, heap_cell h 5, hq⟩
theorem psl_B {W : World} {b : Nat} (h : W.heap[b]? = some (.cells #[.int .i64 2, .int .i64 0, .string ⟨#[62, 49]⟩] 46 (0, 0))) : PSl W (.slice (some ⟨b, 0, none⟩) 1 1) adB.l := by
  refine ⟨_, 1, rfl, Nat.le_refl _, by decide, fun j hj => ?_⟩
  obtain rfl : j = 0 := by simpa [adB] using hj
  exact ⟨b, 0, rfl, (Array.getElem?_eq_some_iff.1 h).1, heap_cell h 0, heap_cell h 1, heap_cell h 2⟩

theorem good_A : ∀ u ∈ argA.l, u.Good := by
  intro u hu
  simp [argA] at hu
  rcases hu with rfl | rfl | rfl | rfl
  · exact ⟨by decide, by decide⟩
  · show (⟨#[120]⟩ : ByteArray).size ≤ 2000; decide
  · trivial
  · exact ⟨by decide, by decide⟩
theorem good_B : ∀ u ∈ argB.l, u.Good := by
  intro u hu
  simp [argB] at hu
  subst hu
  show (⟨#[62, 49]⟩ : ByteArray).size ≤ 2000; decide

theorem kept2 {w w1 : World} {a b : Obj} (hx : Ext ((w.alloc a).alloc b) w1) : w1.heap[w.heap.size]? = some a ∧ w1.heap[w.heap.size + 1]? = some b ∧ w.heap.size + 2 ≤ w1.heap.size ∧ Ext w w1 := by
  have hz := hx.size
  have s1 := alloc_size w a
  have s2 := alloc_size (w.alloc a) b
  refine ⟨?_, ?_, by omega, Ext.trans (((Ext.refl w).alloc a).alloc b) hx⟩
  · rw [hx.block _ (by omega), heap_alloc_old _ _ (by omega), heap_alloc_new]
  · rw [hx.block _ (by omega), ← s1, heap_alloc_new]

theorem awake_any (w : World) (hT : Tabs w) (hS : SgIs w) : Calls Tryz.prog 8 #[] w fun e w' => e = .returned (.bool true) ∧ Ext w w' := by
  have HT := Lib.hid hT
  have HS := Lib.hid hS
  have M1 : Hid (∀ gv W, Ext w W → GSl W gv [adA] → Calls Tryz.prog 19 #[gv] W fun e w' => ∃ v, e = .returned v ∧ ASl w' v [argA] ∧ Ext W w') := fun gv W hx hg => by
    have h := args_any gv [adA] W hg (HT.out.ext hx) (by decide)
    rwa [show [adA].map argD = [argA] by simp [argD_A]] at h
  have M2 : Hid (∀ gv W, Ext w W → GSl W gv [adA, adB] → Calls Tryz.prog 19 #[gv] W fun e w' => ∃ v, e = .returned v ∧ ASl w' v [argA, argB] ∧ Ext W w') := fun gv W hx hg => by
    have h := args_any gv [adA, adB] W hg (HT.out.ext hx) (by decide)
    rwa [show [adA, adB].map argD = [argA, argB] by simp [argD_A, argD_B]] at h
  have C1 : Hid (∀ av W, ASl W av [argA] → Calls Tryz.prog 10 #[.string ⟨#[65, 86, 69, 82, 65, 71, 69]⟩, av] W fun e w' => e = .returned (V.num 20000).val ∧ Ext W w') := fun av W ha => by
    have h := average_any av argA W ha good_A (by decide)
    rwa [avgA] at h
  have C2 : Hid (∀ av W, Ext w W → ASl W av [argA, argB] → Calls Tryz.prog 10 #[.string ⟨#[67, 79, 85, 78, 84, 73, 70]⟩, av] W fun e w' => e = .returned (V.num 10000).val ∧ Ext W w') := fun av W hx ha => by
    have h := countif_any av argA argB W ha good_A good_B (HS.out.ext hx) (by decide)
    rwa [cntAB] at h
  have T1 : Hid (∀ W, Calls Tryz.prog 20 #[(V.num 20000).val] W fun e w' => e = .returned (.agg #[.int .i64 1, .int .i64 20000, .string ⟨#[]⟩]) ∧ Ext W w') := tell_any (.num 20000)
  have T2 : Hid (∀ W, Calls Tryz.prog 20 #[(V.num 10000).val] W fun e w' => e = .returned (.agg #[.int .i64 1, .int .i64 10000, .string ⟨#[]⟩]) ∧ Ext W w') := tell_any (.num 10000)
  obtain ⟨n1, hn1⟩ : ∃ n, (V.num 20000).val = n := ⟨_, rfl⟩
  obtain ⟨n2, hn2⟩ : ∃ n, (V.num 10000).val = n := ⟨_, rfl⟩
  rw [hn1] at C1 T1
  rw [hn2] at C2 T2
  clear hn1 hn2 hT hS
  have hEq1 := eq_plain_raw 1 1 20000 20000 ⟨#[]⟩ ⟨#[]⟩
  have hEq2 := eq_plain_raw 1 1 10000 10000 ⟨#[]⟩ ⟨#[]⟩
  go_enter Tryz.func8, Tryz.ntmps8
  have K : ∀ P A G : Obj, _ := fun P A G => kept3 (w := w) (a := P) (b := A) (c := G) (Ext.refl _)
  have KK := Lib.hid K
  clear K
  have K2 : ∀ (w4 : World) (P G : Obj), _ := fun w4 P G => kept2 (w := w4) (a := P) (b := G) (Ext.refl _)
  have K2 := Lib.hid K2
  go_wp2_with (first
    | (go_at_call 19; refine (M1.out _ _ (KK.out _ _ _).2.2.2.2 (gsl_1 (KK.out _ _ _).2.2.1 (psl_A (KK.out _ _ _).1))).mono ?_; rintro e w3 ⟨v3, rfl, ha3, hx3⟩; clear M1; obtain ⟨A3, c3, rfl, _⟩ := id ha3)
    | (go_at_call 10; refine (C1.out _ _ ha3).mono ?_; rintro e w4 ⟨rfl, hx4⟩; clear C1; obtain ⟨q0, q1, q2, hz4, hE4⟩ := kept3 (hx3.trans hx4); have p0 := heap_cell q1 0; have p1 := heap_cell q1 1; have p2 := heap_cell q1 2; have hl4 : w.heap.size + 1 < w4.heap.size := by omega)
    | (go_at_call 19; refine (M2.out _ _ ((hE4.alloc _).alloc _) (gsl_2 (K2.out w4 _ _).2.1 (psl_A ((((Ext.refl w4).alloc _).alloc _).block _ (Array.getElem?_eq_some_iff.1 q0).1 |>.trans q0)) (psl_B (K2.out w4 _ _).1))).mono ?_; rintro e w5 ⟨v5, rfl, ha5, hx5⟩; clear M2; obtain ⟨A5, c5, rfl, _⟩ := id ha5)
    | (go_at_call 10; refine (C2.out _ _ (((hE4.alloc _).alloc _).trans hx5) ha5).mono ?_; rintro e w6 ⟨rfl, hx6⟩; clear C2)
    | (go_at_call 20; refine (T1.out _).mono ?_; rintro e w7 ⟨rfl, hx7⟩; clear T1)
    | (go_at_call 20; refine (T2.out _).mono ?_; rintro e w8 ⟨rfl, hx8⟩; clear T2))
  go_ret
  exact ⟨rfl, (((((hE4.alloc _).alloc _).trans hx5).trans hx6).trans hx7).trans hx8⟩
end Go.Proofs.YtphjmbaifkneiaaGreatDoor
