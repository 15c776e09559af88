/- What layer 18's COUNT and COUNTA come to. -/
import Derived.Test.YtphjmbaifkneiaaGreatDoorB4
namespace Go.Proofs.YtphjmbaifkneiaaGreatDoor
open Go.RowKit

set_option maxHeartbeats 2000000
set_option maxRecDepth 100000

/-- Does a value count? -/
def V.counts (v : V) (area : Bool) : Bool := v.isNum || (!area && !v.isBlank && v.asNum.2 == 0)
def countStep (p : V → Bool → Bool) (s : Nat) (v : V) (area : Bool) : Int × Nat := (0, if p v area then s + 1 else s)
/-- The boxes of the name and of the count. -/
def CntBox (Bn Bc : Nat) (nm : ByteArray) (s : Nat) (w : World) : Prop := Boxed w Bn 9 (.string nm) ∧ Boxed w Bc 3 (.int .i64 s)
theorem CntBox.ext {Bn Bc : Nat} {nm : ByteArray} {s : Nat} {w w' : World} (h : CntBox Bn Bc nm s w) (hx : Ext w w') : CntBox Bn Bc nm s w' :=
  ⟨(hx.block _ h.1.lt).trans h.1, (hx.block _ h.2.lt).trans h.2⟩
theorem CntBox.set {Bn Bc : Nat} {nm : ByteArray} {s : Nat} (s' : Nat) {w : World} (h : CntBox Bn Bc nm s w) : CntBox Bn Bc nm s' (w.setCell ⟨Bc, 0, none⟩ (.int .i64 s')) := by
  refine ⟨?_, h.2.set _⟩
  have hne : Bn ≠ Bc := fun e => by
    subst e
    have h1 := h.1
    have h2 := h.2
    unfold Boxed at h1 h2
    rw [h1] at h2
    simp at h2
  exact (Below.heap_setCell _ _ _ _ hne).trans h.1
theorem Kp.set {w : World} {Bc : Nat} {u v : Value} (h : Boxed w Bc 3 u) : Kp w (w.setCell ⟨Bc, 0, none⟩ v) := by
  have hg := grownBy_setCell' w Bc v
  refine ⟨hg.size, fun k cs fz hk => ?_⟩
  have hne : k ≠ Bc := fun e => by
    subst e
    unfold Boxed at h
    rw [h] at hk
    simp at hk
  exact (Below.heap_setCell _ _ _ _ hne).trans hk
theorem step_COUNT (v : V) (area : Bool) (n0 Bn Bc s : Nat) (w : World) (hv : v.Good) (hb : CntBox Bn Bc ⟨#[67,79,85,78,84]⟩ s w) (h0 : n0 ≤ w.heap.size) (hc : n0 ≤ Bc) (hs : s ≤ 1000000) :
    Calls Tryz.prog 49 #[v.val, .bool area, .pointer (some ⟨Bn, 0, none⟩), .pointer (some ⟨Bc, 0, none⟩)] w fun e w' => e = .returned (.int .i64 (countStep V.counts s v area).1) ∧ CntBox Bn Bc ⟨#[67,79,85,78,84]⟩ (countStep V.counts s v area).2 w' ∧ Below n0 w w' ∧ Kp w w' := by
  have HB := Lib.hid hb
  have HV := Lib.hid hv
  clear hb hv
  have T1 : Hid (∀ W, Calls Tryz.prog 40 #[v.val] W fun e w' => e = .returned (.tuple #[.int .i64 v.numN, .bool v.isNum]) ∧ W = w') := given_any v
  have T2 : Hid (∀ W, Calls Tryz.prog 50 #[v.val] W fun e w' => e = .returned (.bool v.isBlank) ∧ Ext W w') := isBlank_any v
  have T3 : Hid (∀ W, Calls Tryz.prog 33 #[v.val] W fun e w' => e = .returned (.tuple #[.int .i64 v.asNum.1, .int .i64 v.asNum.2]) ∧ Ext W w') := fun W => asNumber_any v W HV.out
  have fin : Hid (∀ (c : Bool) (W : World), Ext w W → (V.counts v area) = c → CntBox Bn Bc ⟨#[67,79,85,78,84]⟩ s W ∧ Below n0 w W ∧ Kp w W ∧ (c = true → CntBox Bn Bc ⟨#[67,79,85,78,84]⟩ (s + 1) (W.setCell ⟨Bc, 0, none⟩ (.int .i64 ((s : Int) + 1))) ∧ Below n0 w (W.setCell ⟨Bc, 0, none⟩ (.int .i64 ((s : Int) + 1))) ∧ Kp w (W.setCell ⟨Bc, 0, none⟩ (.int .i64 ((s : Int) + 1))))) := fun c W hx hc' => by
    have hbx := HB.out.ext hx
    exact ⟨hbx, hx.mono h0, Kp.of_ext hx, fun _ => ⟨hbx.set (s + 1), Below.setCell (hx.mono h0) hc _, (Kp.of_ext hx).trans (Kp.set hbx.2)⟩⟩
  have b1 := HB.out.1.cell
  have b2 := HB.out.2.cell
  have b3 := HB.out.2.frozen
  have hsi : (s : Int) ≤ 1000000 := by omega
  obtain ⟨f, n, hfn⟩ : ∃ f n, v.asNum = (n, f) := ⟨_, _, rfl⟩
  rw [hfn] at T3
  cases hnum : v.isNum with
  | true =>
    have hp : v.counts area = true := by simp [V.counts, hnum]
    have HST : Hid (countStep V.counts s v area = (0, s + 1)) := by show _ = _; simp [countStep, hp]
    have HF := Lib.hid (fin.out true w (Ext.refl w) hp)
    rw [hnum] at T1
    clear hfn hnum hp fin
    go_enter Tryz.func49, Tryz.ntmps49
    go_wp2_with (first
      | (go_at_call 40; refine (T1.out _).mono ?_; rintro e w1 ⟨rfl, rfl⟩)
      | (go_at_call 50; refine (T2.out _).mono ?_; rintro e w2 ⟨rfl, hx2⟩; have hb2 := HB.out.ext (hx2); have c1 := hb2.1.cell; have c2 := hb2.2.cell; have c3 := hb2.2.frozen)
      | (go_at_call 33; refine (T3.out _).mono ?_; rintro e w3 ⟨rfl, hx3⟩; have hb3 := HB.out.ext (hx2.trans hx3); have d1 := hb3.1.cell; have d2 := hb3.2.cell; have d3 := hb3.2.frozen))
    go_ret
    rw [HST.out]
    exact ⟨rfl, HF.out.2.2.2 trivial⟩
  | false =>
    rw [hnum] at T1
    cases area with
    | true =>
      have hp : v.counts true = false := by simp [V.counts, hnum]
      have HST : Hid (countStep V.counts s v true = (0, s)) := by show _ = _; simp [countStep, hp]
      have HF := Lib.hid (fin.out false w (Ext.refl w) hp)
      clear hfn hnum hp fin
      go_enter Tryz.func49, Tryz.ntmps49
      go_wp2_with (first
        | (go_at_call 40; refine (T1.out _).mono ?_; rintro e w1 ⟨rfl, rfl⟩)
        | (go_at_call 50; refine (T2.out _).mono ?_; rintro e w2 ⟨rfl, hx2⟩; have hb2 := HB.out.ext (hx2); have c1 := hb2.1.cell; have c2 := hb2.2.cell; have c3 := hb2.2.frozen)
        | (go_at_call 33; refine (T3.out _).mono ?_; rintro e w3 ⟨rfl, hx3⟩; have hb3 := HB.out.ext (hx2.trans hx3); have d1 := hb3.1.cell; have d2 := hb3.2.cell; have d3 := hb3.2.frozen))
      go_ret
      rw [HST.out]
      exact ⟨rfl, HF.out.1, HF.out.2.1, HF.out.2.2.1⟩
    | false =>
      cases hbl : v.isBlank with
      | true =>
        have hp : v.counts false = false := by simp [V.counts, hnum, hbl]
        have HST : Hid (countStep V.counts s v false = (0, s)) := by show _ = _; simp [countStep, hp]
        rw [hbl] at T2
        have HF : Hid (∀ W, Ext w W → _) := fun W hx => fin.out false W hx hp
        clear hfn hnum hp hbl fin
        go_enter Tryz.func49, Tryz.ntmps49
        go_wp2_with (first
          | (go_at_call 40; refine (T1.out _).mono ?_; rintro e w1 ⟨rfl, rfl⟩)
          | (go_at_call 50; refine (T2.out _).mono ?_; rintro e w2 ⟨rfl, hx2⟩; have hb2 := HB.out.ext (hx2); have c1 := hb2.1.cell; have c2 := hb2.2.cell; have c3 := hb2.2.frozen)
          | (go_at_call 33; refine (T3.out _).mono ?_; rintro e w3 ⟨rfl, hx3⟩; have hb3 := HB.out.ext (hx2.trans hx3); have d1 := hb3.1.cell; have d2 := hb3.2.cell; have d3 := hb3.2.frozen))
        go_ret
        rw [HST.out]
        exact ⟨rfl, (HF.out w2 hx2).1, (HF.out w2 hx2).2.1, (HF.out w2 hx2).2.2.1⟩
      | false =>
        rw [hbl] at T2
        by_cases hf : f = 0
        · subst hf
          have hp : v.counts false = true := by simp [V.counts, hnum, hbl, hfn]
          have HST : Hid (countStep V.counts s v false = (0, s + 1)) := by show _ = _; simp [countStep, hp]
          have HF : Hid (∀ W, Ext w W → _) := fun W hx => fin.out true W hx hp
          clear hfn hnum hp hbl fin
          go_enter Tryz.func49, Tryz.ntmps49
          go_wp2_with (first
            | (go_at_call 40; refine (T1.out _).mono ?_; rintro e w1 ⟨rfl, rfl⟩)
            | (go_at_call 50; refine (T2.out _).mono ?_; rintro e w2 ⟨rfl, hx2⟩; have hb2 := HB.out.ext (hx2); have c1 := hb2.1.cell; have c2 := hb2.2.cell; have c3 := hb2.2.frozen)
            | (go_at_call 33; refine (T3.out _).mono ?_; rintro e w3 ⟨rfl, hx3⟩; have hb3 := HB.out.ext (hx2.trans hx3); have d1 := hb3.1.cell; have d2 := hb3.2.cell; have d3 := hb3.2.frozen))
          go_ret
          rw [HST.out]
          exact ⟨rfl, (HF.out w3 (hx2.trans hx3)).2.2.2 trivial⟩
        · have hfb : (f == 0) = false := by simpa using hf
          have hp : v.counts false = false := by simp [V.counts, hnum, hbl, hfn, hf]
          have HST : Hid (countStep V.counts s v false = (0, s)) := by show _ = _; simp [countStep, hp]
          have HF : Hid (∀ W, Ext w W → _) := fun W hx => fin.out false W hx hp
          clear hfn hnum hp hbl fin hf
          go_enter Tryz.func49, Tryz.ntmps49
          go_wp2_with (first
            | (go_at_call 40; refine (T1.out _).mono ?_; rintro e w1 ⟨rfl, rfl⟩)
            | (go_at_call 50; refine (T2.out _).mono ?_; rintro e w2 ⟨rfl, hx2⟩; have hb2 := HB.out.ext (hx2); have c1 := hb2.1.cell; have c2 := hb2.2.cell; have c3 := hb2.2.frozen)
            | (go_at_call 33; refine (T3.out _).mono ?_; rintro e w3 ⟨rfl, hx3⟩; have hb3 := HB.out.ext (hx2.trans hx3); have d1 := hb3.1.cell; have d2 := hb3.2.cell; have d3 := hb3.2.frozen))
          go_ret
          rw [HST.out]
          exact ⟨rfl, (HF.out w3 (hx2.trans hx3)).1, (HF.out w3 (hx2.trans hx3)).2.1, (HF.out w3 (hx2.trans hx3)).2.2.1⟩

theorem runS_count (p : V → Bool → Bool) : ∀ (l : List (V × Bool)) (s : Nat), runS (countStep p) l s = (0, s + (l.filter fun q => p q.1 q.2).length)
  | [], s => rfl
  | (v, a) :: l, s => by
    have h0 : (countStep p s v a).1 = 0 := rfl
    simp only [runS, h0, if_true]
    rw [runS_count p l]
    show ((0 : Int), (if p v a then s + 1 else s) + _) = _
    cases h : p v a
    · simp [h]
    · simp [h]; omega
def countS (p : V → Bool → Bool) (args : List ArgD) : Nat := ((flat args).filter fun q => p q.1 q.2).length
theorem alloc_size1 (w : World) (o : Obj) : (w.alloc o).heap.size = w.heap.size + 1 := by
  show (Array.push _ _).size = _; simp
theorem counts_COUNT (av : Value) (args : List ArgD) (w : World) (hA : ASl w av args) (hgood : ∀ a ∈ args, ∀ v ∈ a.l, v.Good) (hlen : (flat args).length ≤ 100000) :
    Calls Tryz.prog 22 #[.string ⟨#[67,79,85,78,84]⟩, av] w fun e w' => e = .returned (V.num ((countS V.counts args * 10000 : Nat) : Int)).val ∧ Ext w w' := by
  have HA := Lib.hid hA
  have HL := Lib.hid hlen
  have hcl : countS V.counts args ≤ 100000 := Nat.le_trans (List.length_filter_le _ _) hlen
  have hz1 := alloc_size1 w (.cells #[.string ⟨#[67,79,85,78,84]⟩] 9)
  have hz2 := alloc_size1 (w.alloc (.cells #[.string ⟨#[67,79,85,78,84]⟩] 9)) (.cells #[.int .i64 0] 3)
  have hE : Ext w ((w.alloc (.cells #[.string ⟨#[67,79,85,78,84]⟩] 9)).alloc (.cells #[.int .i64 0] 3)) := ((Ext.refl w).alloc _).alloc _
  have T := all_any 49 #[.pointer (some ⟨w.heap.size, 0, none⟩), .pointer (some ⟨w.heap.size + 1, 0, none⟩)] (CntBox w.heap.size (w.heap.size + 1) ⟨#[67,79,85,78,84]⟩) (countStep V.counts) w.heap.size av args w ((w.alloc (.cells #[.string ⟨#[67,79,85,78,84]⟩] 9)).alloc (.cells #[.int .i64 0] 3)) 0
    HA.out (Nat.le_refl _) hE hE.size ⟨(Boxed.new w _ _).alloc _, by rw [← hz1]; exact Boxed.new _ _ _⟩ hgood
    (fun s v area wr hv ⟨pre, post, he, hs⟩ hI hw => step_COUNT v area _ _ _ s wr hv hI hw (Nat.le_succ _) (by
      rw [runS_count] at hs
      have h1 := (Prod.mk.inj hs).2
      have h2 : (pre.filter fun q => V.counts q.1 q.2).length ≤ pre.length := List.length_filter_le _ _
      have h3 := HL.out
      rw [he] at h3
      simp at h3
      omega)) (fun s wr o h _ => ⟨h.1.alloc o, h.2.alloc o⟩) (enters rfl rfl rfl)
  rw [runS_count] at T
  simp only [Nat.zero_add] at T
  have TT := Lib.hid T
  clear T hE hz1 hz2 hgood hA hlen
  have HC : Hid (((flat args).filter fun q => V.counts q.1 q.2).length = countS V.counts args) := rfl
  obtain ⟨n, hn⟩ : ∃ n, countS V.counts args = n := ⟨_, rfl⟩
  rw [hn] at HC hcl ⊢
  rw [HC.out] at TT
  have TI : Hid (∀ W, Calls Tryz.prog 17 #[.int .i64 n] W fun e w' => e = .returned (.tuple #[.int .i64 ((n * 10000 : Nat) : Int), .bool true]) ∧ W = w') := fun W => by
    have := int_any n W (by omega)
    rwa [show intD n = (((n * 10000 : Nat) : Int), true) by unfold intD; rw [if_neg (by omega)]] at this
  obtain ⟨m, hm⟩ : ∃ m : Int, ((n * 10000 : Nat) : Int) = m := ⟨_, rfl⟩
  rw [hm] at TI ⊢
  have TN : Hid (∀ W, Calls Tryz.prog 25 #[.int .i64 m, .bool true] W fun e w' => e = .returned (V.num m).val ∧ W = w') := fun W => counted_true m W
  clear hm hn HC
  go_enter Tryz.func22, Tryz.ntmps22
  go_wp2_with (first
    | (go_at_call 48; refine TT.out.mono ?_; rintro e w1 ⟨rfl, hbx, hx1⟩; have c1 := hbx.2.cell)
    | (go_at_call 17; refine (TI.out _).mono ?_; rintro e w5 ⟨rfl, rfl⟩)
    | (go_at_call 25; refine (TN.out _).mono ?_; rintro e w6 ⟨rfl, rfl⟩))
  go_ret
  exact ⟨rfl, Below.trans (((Ext.refl w).alloc _).alloc _) hx1⟩
end Go.Proofs.YtphjmbaifkneiaaGreatDoor
