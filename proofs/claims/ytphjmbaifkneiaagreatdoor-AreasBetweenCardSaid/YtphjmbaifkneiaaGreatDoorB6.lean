/- What layer 18's COUNTA comes to. -/
import Derived.Test.YtphjmbaifkneiaaGreatDoorB5
namespace Go.Proofs.YtphjmbaifkneiaaGreatDoor
open Go.RowKit

set_option maxHeartbeats 2000000
set_option maxRecDepth 100000

def V.filled (v : V) (_area : Bool) : Bool := !v.isBlank
theorem step_COUNTA (v : V) (area : Bool) (n0 Bn Bc s : Nat) (w : World) (hv : v.Good) (hb : CntBox Bn Bc ⟨#[67, 79, 85, 78, 84, 65]⟩ s w) (h0 : n0 ≤ w.heap.size) (hc : n0 ≤ Bc) (hs : s ≤ 1000000) :
    Calls Tryz.prog 49 #[v.val, .bool area, .pointer (some ⟨Bn, 0, none⟩), .pointer (some ⟨Bc, 0, none⟩)] w fun e w' => e = .returned (.int .i64 (countStep V.filled s v area).1) ∧ CntBox Bn Bc ⟨#[67, 79, 85, 78, 84, 65]⟩ (countStep V.filled s v area).2 w' ∧ Below n0 w w' ∧ Kp w w' := by
  have HB := Lib.hid hb
  have HV := Lib.hid hv
  clear hb hv
  have T1 : Hid (∀ W, Calls Tryz.prog 40 #[v.val] W fun e w' => e = .returned (.tuple #[.int .i64 v.numN, .bool v.isNum]) ∧ W = w') := given_any v
  have T2 : Hid (∀ W, Calls Tryz.prog 50 #[v.val] W fun e w' => e = .returned (.bool v.isBlank) ∧ Ext W w') := isBlank_any v
  have T3 : Hid (∀ W, Calls Tryz.prog 33 #[v.val] W fun e w' => e = .returned (.tuple #[.int .i64 v.asNum.1, .int .i64 v.asNum.2]) ∧ Ext W w') := fun W => asNumber_any v W HV.out
  have fin : Hid (∀ (W : World), Ext w W → CntBox Bn Bc ⟨#[67, 79, 85, 78, 84, 65]⟩ s W ∧ Below n0 w W ∧ Kp w W ∧ (CntBox Bn Bc ⟨#[67, 79, 85, 78, 84, 65]⟩ (s + 1) (W.setCell ⟨Bc, 0, none⟩ (.int .i64 ((s : Int) + 1))) ∧ Below n0 w (W.setCell ⟨Bc, 0, none⟩ (.int .i64 ((s : Int) + 1))) ∧ Kp w (W.setCell ⟨Bc, 0, none⟩ (.int .i64 ((s : Int) + 1))))) := fun W hx => by
    have hbx := HB.out.ext hx
    exact ⟨hbx, hx.mono h0, Kp.of_ext hx, hbx.set (s + 1), Below.setCell (hx.mono h0) hc _, (Kp.of_ext hx).trans (Kp.set hbx.2)⟩
  have HF := Lib.hid fin.out
  have b1 := HB.out.1.cell
  have b2 := HB.out.2.cell
  have b3 := HB.out.2.frozen
  have hsi : (s : Int) ≤ 1000000 := by omega
  have hE := Ext.refl w
  obtain ⟨f, n, hfn⟩ : ∃ f n, v.asNum = (n, f) := ⟨_, _, rfl⟩
  rw [hfn] at T3
  clear hfn
  cases hbl : v.isBlank with
  | true =>
    have HST : Hid (countStep V.filled s v area = (0, s)) := by show _ = _; simp [countStep, V.filled, hbl]
    rw [hbl] at T2
    obtain ⟨nm, hnm⟩ : ∃ b, v.isNum = b := ⟨_, rfl⟩
    rw [hnm] at T1
    clear hnm hbl
    cases nm <;> cases area
    · clear fin
      go_enter Tryz.func49, Tryz.ntmps49
      go_wp2_with (first
        | (go_at_call 40; refine (T1.out _).mono ?_; rintro e w1 ⟨rfl, rfl⟩)
        | (go_at_call 50; refine (T2.out _).mono ?_; rintro e w2 ⟨rfl, hx2⟩; have hE := Ext.trans hE hx2; have hb2 := HB.out.ext hE; have c1 := hb2.1.cell; have c2 := hb2.2.cell; have c3 := hb2.2.frozen)
        | (go_at_call 33; refine (T3.out _).mono ?_; rintro e w3 ⟨rfl, hx3⟩; have hE := Ext.trans hE hx3; have hb3 := HB.out.ext hE; have d1 := hb3.1.cell; have d2 := hb3.2.cell; have d3 := hb3.2.frozen))
      go_ret
      rw [HST.out]
      exact ⟨rfl, (HF.out _ hE).1, (HF.out _ hE).2.1, (HF.out _ hE).2.2.1⟩
    · clear fin
      go_enter Tryz.func49, Tryz.ntmps49
      go_wp2_with (first
        | (go_at_call 40; refine (T1.out _).mono ?_; rintro e w1 ⟨rfl, rfl⟩)
        | (go_at_call 50; refine (T2.out _).mono ?_; rintro e w2 ⟨rfl, hx2⟩; have hE := Ext.trans hE hx2; have hb2 := HB.out.ext hE; have c1 := hb2.1.cell; have c2 := hb2.2.cell; have c3 := hb2.2.frozen)
        | (go_at_call 33; refine (T3.out _).mono ?_; rintro e w3 ⟨rfl, hx3⟩; have hE := Ext.trans hE hx3; have hb3 := HB.out.ext hE; have d1 := hb3.1.cell; have d2 := hb3.2.cell; have d3 := hb3.2.frozen))
      go_ret
      rw [HST.out]
      exact ⟨rfl, (HF.out _ hE).1, (HF.out _ hE).2.1, (HF.out _ hE).2.2.1⟩
    · clear fin
      go_enter Tryz.func49, Tryz.ntmps49
      go_wp2_with (first
        | (go_at_call 40; refine (T1.out _).mono ?_; rintro e w1 ⟨rfl, rfl⟩)
        | (go_at_call 50; refine (T2.out _).mono ?_; rintro e w2 ⟨rfl, hx2⟩; have hE := Ext.trans hE hx2; have hb2 := HB.out.ext hE; have c1 := hb2.1.cell; have c2 := hb2.2.cell; have c3 := hb2.2.frozen)
        | (go_at_call 33; refine (T3.out _).mono ?_; rintro e w3 ⟨rfl, hx3⟩; have hE := Ext.trans hE hx3; have hb3 := HB.out.ext hE; have d1 := hb3.1.cell; have d2 := hb3.2.cell; have d3 := hb3.2.frozen))
      go_ret
      rw [HST.out]
      exact ⟨rfl, (HF.out _ hE).1, (HF.out _ hE).2.1, (HF.out _ hE).2.2.1⟩
    · clear fin
      go_enter Tryz.func49, Tryz.ntmps49
      go_wp2_with (first
        | (go_at_call 40; refine (T1.out _).mono ?_; rintro e w1 ⟨rfl, rfl⟩)
        | (go_at_call 50; refine (T2.out _).mono ?_; rintro e w2 ⟨rfl, hx2⟩; have hE := Ext.trans hE hx2; have hb2 := HB.out.ext hE; have c1 := hb2.1.cell; have c2 := hb2.2.cell; have c3 := hb2.2.frozen)
        | (go_at_call 33; refine (T3.out _).mono ?_; rintro e w3 ⟨rfl, hx3⟩; have hE := Ext.trans hE hx3; have hb3 := HB.out.ext hE; have d1 := hb3.1.cell; have d2 := hb3.2.cell; have d3 := hb3.2.frozen))
      go_ret
      rw [HST.out]
      exact ⟨rfl, (HF.out _ hE).1, (HF.out _ hE).2.1, (HF.out _ hE).2.2.1⟩
  | false =>
    have HST : Hid (countStep V.filled s v area = (0, s + 1)) := by show _ = _; simp [countStep, V.filled, hbl]
    rw [hbl] at T2
    obtain ⟨nm, hnm⟩ : ∃ b, v.isNum = b := ⟨_, rfl⟩
    rw [hnm] at T1
    clear hnm hbl
    cases nm <;> cases area
    · clear fin
      go_enter Tryz.func49, Tryz.ntmps49
      go_wp2_with (first
        | (go_at_call 40; refine (T1.out _).mono ?_; rintro e w1 ⟨rfl, rfl⟩)
        | (go_at_call 50; refine (T2.out _).mono ?_; rintro e w2 ⟨rfl, hx2⟩; have hE := Ext.trans hE hx2; have hb2 := HB.out.ext hE; have c1 := hb2.1.cell; have c2 := hb2.2.cell; have c3 := hb2.2.frozen)
        | (go_at_call 33; refine (T3.out _).mono ?_; rintro e w3 ⟨rfl, hx3⟩; have hE := Ext.trans hE hx3; have hb3 := HB.out.ext hE; have d1 := hb3.1.cell; have d2 := hb3.2.cell; have d3 := hb3.2.frozen))
      go_ret
      rw [HST.out]
      exact ⟨rfl, (HF.out _ hE).2.2.2⟩
    · clear fin
      go_enter Tryz.func49, Tryz.ntmps49
      go_wp2_with (first
        | (go_at_call 40; refine (T1.out _).mono ?_; rintro e w1 ⟨rfl, rfl⟩)
        | (go_at_call 50; refine (T2.out _).mono ?_; rintro e w2 ⟨rfl, hx2⟩; have hE := Ext.trans hE hx2; have hb2 := HB.out.ext hE; have c1 := hb2.1.cell; have c2 := hb2.2.cell; have c3 := hb2.2.frozen)
        | (go_at_call 33; refine (T3.out _).mono ?_; rintro e w3 ⟨rfl, hx3⟩; have hE := Ext.trans hE hx3; have hb3 := HB.out.ext hE; have d1 := hb3.1.cell; have d2 := hb3.2.cell; have d3 := hb3.2.frozen))
      go_ret
      rw [HST.out]
      exact ⟨rfl, (HF.out _ hE).2.2.2⟩
    · clear fin
      go_enter Tryz.func49, Tryz.ntmps49
      go_wp2_with (first
        | (go_at_call 40; refine (T1.out _).mono ?_; rintro e w1 ⟨rfl, rfl⟩)
        | (go_at_call 50; refine (T2.out _).mono ?_; rintro e w2 ⟨rfl, hx2⟩; have hE := Ext.trans hE hx2; have hb2 := HB.out.ext hE; have c1 := hb2.1.cell; have c2 := hb2.2.cell; have c3 := hb2.2.frozen)
        | (go_at_call 33; refine (T3.out _).mono ?_; rintro e w3 ⟨rfl, hx3⟩; have hE := Ext.trans hE hx3; have hb3 := HB.out.ext hE; have d1 := hb3.1.cell; have d2 := hb3.2.cell; have d3 := hb3.2.frozen))
      go_ret
      rw [HST.out]
      exact ⟨rfl, (HF.out _ hE).2.2.2⟩
    · clear fin
      go_enter Tryz.func49, Tryz.ntmps49
      go_wp2_with (first
        | (go_at_call 40; refine (T1.out _).mono ?_; rintro e w1 ⟨rfl, rfl⟩)
        | (go_at_call 50; refine (T2.out _).mono ?_; rintro e w2 ⟨rfl, hx2⟩; have hE := Ext.trans hE hx2; have hb2 := HB.out.ext hE; have c1 := hb2.1.cell; have c2 := hb2.2.cell; have c3 := hb2.2.frozen)
        | (go_at_call 33; refine (T3.out _).mono ?_; rintro e w3 ⟨rfl, hx3⟩; have hE := Ext.trans hE hx3; have hb3 := HB.out.ext hE; have d1 := hb3.1.cell; have d2 := hb3.2.cell; have d3 := hb3.2.frozen))
      go_ret
      rw [HST.out]
      exact ⟨rfl, (HF.out _ hE).2.2.2⟩
end Go.Proofs.YtphjmbaifkneiaaGreatDoor
