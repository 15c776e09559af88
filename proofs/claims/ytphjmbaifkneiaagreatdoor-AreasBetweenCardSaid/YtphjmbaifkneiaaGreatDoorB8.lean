/- COUNTA whole; AND whole. -/
import Derived.Test.YtphjmbaifkneiaaGreatDoorB7
namespace Go.Proofs.YtphjmbaifkneiaaGreatDoor
open Go.RowKit

set_option maxHeartbeats 4000000
set_option maxRecDepth 100000

theorem counts_COUNTA (av : Value) (args : List ArgD) (w : World) (hA : ASl w av args) (hgood : ∀ a ∈ args, ∀ v ∈ a.l, v.Good) (hlen : (flat args).length ≤ 100000) :
    Calls Tryz.prog 22 #[.string ⟨#[67,79,85,78,84,65]⟩, av] w fun e w' => e = .returned (V.num ((countS V.filled args * 10000 : Nat) : Int)).val ∧ Ext w w' := by
  have HA := Lib.hid hA
  have HL := Lib.hid hlen
  have hcl : countS V.filled args ≤ 100000 := Nat.le_trans (List.length_filter_le _ _) hlen
  have hz1 := alloc_size1 w (.cells #[.string ⟨#[67,79,85,78,84,65]⟩] 9)
  have hz2 := alloc_size1 (w.alloc (.cells #[.string ⟨#[67,79,85,78,84,65]⟩] 9)) (.cells #[.int .i64 0] 3)
  have hE : Ext w ((w.alloc (.cells #[.string ⟨#[67,79,85,78,84,65]⟩] 9)).alloc (.cells #[.int .i64 0] 3)) := ((Ext.refl w).alloc _).alloc _
  have T := all_any 49 #[.pointer (some ⟨w.heap.size, 0, none⟩), .pointer (some ⟨w.heap.size + 1, 0, none⟩)] (CntBox w.heap.size (w.heap.size + 1) ⟨#[67,79,85,78,84,65]⟩) (countStep V.filled) w.heap.size av args w ((w.alloc (.cells #[.string ⟨#[67,79,85,78,84,65]⟩] 9)).alloc (.cells #[.int .i64 0] 3)) 0
    HA.out (Nat.le_refl _) hE hE.size ⟨(Boxed.new w _ _).alloc _, by rw [← hz1]; exact Boxed.new _ _ _⟩ hgood
    (fun s v area wr hv ⟨pre, post, he, hs⟩ hI hw => step_COUNTA v area _ _ _ s wr hv hI hw (Nat.le_succ _) (by
      rw [runS_count] at hs
      have h1 := (Prod.mk.inj hs).2
      have h2 : (pre.filter fun q => V.filled q.1 q.2).length ≤ pre.length := List.length_filter_le _ _
      have h3 := HL.out
      rw [he] at h3
      simp at h3
      omega)) (fun s wr o h _ => ⟨h.1.alloc o, h.2.alloc o⟩) (enters rfl rfl rfl)
  rw [runS_count] at T
  simp only [Nat.zero_add] at T
  have TT := Lib.hid T
  clear T hE hz1 hz2 hgood hA hlen
  have HC : Hid (((flat args).filter fun q => V.filled q.1 q.2).length = countS V.filled args) := rfl
  obtain ⟨n, hn⟩ : ∃ n, countS V.filled args = n := ⟨_, rfl⟩
  rw [hn] at HC hcl ⊢
  rw [HC.out] at TT
  have TI : Hid (∀ W, Calls Tryz.prog 17 #[.int .i64 n] W fun e w' => e = .returned (.tuple #[.int .i64 ((n * 10000 : Nat) : Int), .bool true]) ∧ W = w') := fun W => by
    have := int_any n W (by omega)
    rwa [show intD n = (((n * 10000 : Nat) : Int), true) by unfold intD; rw [if_neg (by omega)]] at this
  obtain ⟨m, hm⟩ : ∃ m : Int, ((n * 10000 : Nat) : Int) = m := ⟨_, rfl⟩
  rw [hm] at TI ⊢
  have TN : Hid (∀ W, Calls Tryz.prog 25 #[.int .i64 m, .bool true] W fun e w' => e = .returned (V.num m).val ∧ W = w') := fun W => counted_true m W
  clear hm hn HC
  go_enter Tryz.func22, Tryz.ntmps22
  go_wp2_with (first
    | (go_at_call 48; refine TT.out.mono ?_; rintro e w1 ⟨rfl, hbx, hx1⟩; have c1 := hbx.2.cell)
    | (go_at_call 17; refine (TI.out _).mono ?_; rintro e w5 ⟨rfl, rfl⟩)
    | (go_at_call 25; refine (TN.out _).mono ?_; rintro e w6 ⟨rfl, rfl⟩))
  go_ret
  exact ⟨rfl, Below.trans (((Ext.refl w).alloc _).alloc _) hx1⟩

theorem truth_len : ∀ (l : List (V × Bool)) (s : Nat × Nat), (runS truthStep l s).2.1 ≤ s.1 + l.length ∧ (runS truthStep l s).2.2 ≤ s.2 + l.length
  | [], s => by simp [runS]
  | (v, a) :: l, s => by
    have h1 : (truthStep s v a).2.1 ≤ s.1 + 1 ∧ (truthStep s v a).2.2 ≤ s.2 + 1 := by
      unfold truthStep
      split
      · exact ⟨by simp, by simp⟩
      · refine ⟨by simp, ?_⟩
        show (if v.asBool.1 = true then s.2 + 1 else s.2) ≤ s.2 + 1
        split <;> omega
    unfold runS
    split
    · have := truth_len l (truthStep s v a).2
      simp only [List.length_cons]
      omega
    · simp only [List.length_cons]
      omega
def andS (args : List ArgD) : V :=
  if (runS truthStep (flat args) (0, 0)).1 ≠ 0 then .fail (runS truthStep (flat args) (0, 0)).1 else
  if (runS truthStep (flat args) (0, 0)).2.1 = 0 then .fail 3 else .bool ((runS truthStep (flat args) (0, 0)).2.2 == (runS truthStep (flat args) (0, 0)).2.1)
theorem truths_AND (av : Value) (args : List ArgD) (w : World) (hA : ASl w av args) (hgood : ∀ a ∈ args, ∀ v ∈ a.l, v.Good) (hlen : (flat args).length ≤ 100000) :
    Calls Tryz.prog 23 #[.string ⟨#[65, 78, 68]⟩, av] w fun e w' => e = .returned (andS args).val ∧ Ext w w' := by
  have HA := Lib.hid hA
  have HL := Lib.hid hlen
  have hz1 := alloc_size1 w (.cells #[.int .i64 0] 3)
  have hE : Ext w ((w.alloc (.cells #[.int .i64 0] 3)).alloc (.cells #[.int .i64 0] 3)) := ((Ext.refl w).alloc _).alloc _
  have T := all_any 51 #[.pointer (some ⟨w.heap.size, 0, none⟩), .pointer (some ⟨w.heap.size + 1, 0, none⟩)] (TwoBox w.heap.size) truthStep w.heap.size av args w ((w.alloc (.cells #[.int .i64 0] 3)).alloc (.cells #[.int .i64 0] 3)) (0, 0)
    HA.out (Nat.le_refl _) hE hE.size ⟨(Boxed.new w _ _).alloc _, by rw [← hz1]; exact Boxed.new _ _ _⟩ hgood
    (fun s v area wr hv ⟨pre, post, he, hs⟩ hI hw => by
      have h1 := truth_len pre (0, 0)
      rw [hs] at h1
      have h3 := HL.out
      rw [he] at h3
      simp at h3 h1
      exact step_truths v area _ _ s.1 s.2 wr hv hI hw (Nat.le_refl _) (by omega) (by omega)) (fun s wr o h _ => ⟨h.1.alloc o, h.2.alloc o⟩) (enters rfl rfl rfl)
  have HS : Hid (andS args = if (runS truthStep (flat args) (0, 0)).1 ≠ 0 then .fail (runS truthStep (flat args) (0, 0)).1 else
    if (runS truthStep (flat args) (0, 0)).2.1 = 0 then .fail 3 else .bool ((runS truthStep (flat args) (0, 0)).2.2 == (runS truthStep (flat args) (0, 0)).2.1)) := rfl
  obtain ⟨f, n, y, hr⟩ : ∃ f n y, runS truthStep (flat args) (0, 0) = (f, (n, y)) := ⟨_, _, _, rfl⟩
  rw [hr] at T HS
  have TT := Lib.hid T
  clear T hE hz1 hgood hA hlen hr
  by_cases hf : f = 0
  · subst hf
    by_cases hn : n = 0
    · subst hn
      have HV : Hid (andS args = .fail 3) := by show _ = _; rw [HS.out]; simp
      rw [HV.out]
      clear HS
      go_enter Tryz.func23, Tryz.ntmps23
      go_wp2_with (go_at_call 48; refine TT.out.mono ?_; rintro e w1 ⟨rfl, hbx, hx1⟩; have c1 := hbx.1.cell; have c2 := hbx.2.cell)
      go_ret
      exact ⟨rfl, Below.trans (((Ext.refl w).alloc _).alloc _) hx1⟩
    · have HV : Hid (andS args = .bool (y == n)) := by show _ = _; rw [HS.out]; simp [hn]
      rw [HV.out]
      have hni : ((n : Int) == 0) = false := by simp; omega
      have hyn : ((y : Int) == (n : Int)) = (y == n) := by
        cases h : y == n
        · have : ¬ y = n := by simpa using h
          simp; omega
        · have : y = n := by simpa using h
          simp [this]
      clear HS
      go_enter Tryz.func23, Tryz.ntmps23
      go_wp2_with (go_at_call 48; refine TT.out.mono ?_; rintro e w1 ⟨rfl, hbx, hx1⟩; have c1 := hbx.1.cell; have c2 := hbx.2.cell)
      go_ret
      exact ⟨rfl, Below.trans (((Ext.refl w).alloc _).alloc _) hx1⟩
  · have hfb : (f != 0) = true := by simpa using hf
    have HV : Hid (andS args = .fail f) := by show _ = _; rw [HS.out]; simp [hf]
    rw [HV.out]
    clear HS hf
    go_enter Tryz.func23, Tryz.ntmps23
    go_wp2_with (go_at_call 48; refine TT.out.mono ?_; rintro e w1 ⟨rfl, hbx, hx1⟩; have c1 := hbx.1.cell; have c2 := hbx.2.cell)
    go_ret
    exact ⟨rfl, Below.trans (((Ext.refl w).alloc _).alloc _) hx1⟩
end Go.Proofs.YtphjmbaifkneiaaGreatDoor
