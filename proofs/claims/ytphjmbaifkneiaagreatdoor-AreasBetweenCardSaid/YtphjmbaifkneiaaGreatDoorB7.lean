/- COUNTA whole; what layer 18's AND, OR, XOR come to. -/
import Derived.Test.YtphjmbaifkneiaaGreatDoorB6
namespace Go.Proofs.YtphjmbaifkneiaaGreatDoor
open Go.RowKit

set_option maxHeartbeats 4000000
set_option maxRecDepth 100000

def truthStep (s : Nat × Nat) (v : V) (area : Bool) : Int × (Nat × Nat) :=
  if (area && (v.isBlank || v.isText)) = true then (0, s) else (v.asBool.2, (s.1 + 1, if v.asBool.1 then s.2 + 1 else s.2))
/-- The boxes of how many there are and of how many are true. -/
def TwoBox (B : Nat) (s : Nat × Nat) (w : World) : Prop := Boxed w B 3 (.int .i64 s.1) ∧ Boxed w (B + 1) 3 (.int .i64 s.2)
theorem TwoBox.ext {B : Nat} {s : Nat × Nat} {w w' : World} (h : TwoBox B s w) (hx : Ext w w') : TwoBox B s w' :=
  ⟨(hx.block _ h.1.lt).trans h.1, (hx.block _ h.2.lt).trans h.2⟩
theorem TwoBox.set1 {B : Nat} {a b : Nat} (a' : Nat) {w : World} (h : TwoBox B (a, b) w) : TwoBox B (a', b) (w.setCell ⟨B, 0, none⟩ (.int .i64 a')) :=
  ⟨h.1.set _, (Below.heap_setCell _ _ _ _ (by show B + 1 ≠ B; omega)).trans h.2⟩
theorem TwoBox.set2 {B : Nat} {a b : Nat} (b' : Nat) {w : World} (h : TwoBox B (a, b) w) : TwoBox B (a, b') (w.setCell ⟨B + 1, 0, none⟩ (.int .i64 b')) :=
  ⟨(Below.heap_setCell _ _ _ _ (by show B ≠ B + 1; omega)).trans h.1, h.2.set _⟩
theorem step_truths (v : V) (area : Bool) (n0 B a b : Nat) (w : World) (hv : v.Good) (hb : TwoBox B (a, b) w) (h0 : n0 ≤ w.heap.size) (hc : n0 ≤ B) (ha : a ≤ 1000000) (hbb : b ≤ 1000000) :
    Calls Tryz.prog 51 #[v.val, .bool area, .pointer (some ⟨B, 0, none⟩), .pointer (some ⟨B + 1, 0, none⟩)] w fun e w' => e = .returned (.int .i64 (truthStep (a, b) v area).1) ∧ TwoBox B (truthStep (a, b) v area).2 w' ∧ Below n0 w w' ∧ Kp w w' := by
  have HB := Lib.hid hb
  have T1 : Hid (∀ W, Calls Tryz.prog 50 #[v.val] W fun e w' => e = .returned (.bool v.isBlank) ∧ Ext W w') := isBlank_any v
  have T2 : Hid (∀ W, Calls Tryz.prog 14 #[v.val] W fun e w' => e = .returned (.bool v.isText) ∧ W = w') := isText_any v
  have T3 : Hid (∀ W, Calls Tryz.prog 26 #[v.val] W fun e w' => e = .returned (.tuple #[.bool v.asBool.1, .int .i64 v.asBool.2]) ∧ Ext W w') := fun W => asBool_any v W hv
  have hai : (a : Int) ≤ 1000000 := by omega
  have hbi : (b : Int) ≤ 1000000 := by omega
  have hE := Ext.refl w
  clear hb hv
  obtain ⟨tb, f, hab⟩ : ∃ b f, v.asBool = (b, f) := ⟨_, _, rfl⟩
  rw [hab] at T3
  cases area with
  | false =>
    cases tb with
    | true =>
      have HST : Hid (truthStep (a, b) v false = (f, (a + 1, b + 1))) := by show _ = _; simp [truthStep, hab,truthStep]
      clear hab
      go_enter Tryz.func51, Tryz.ntmps51
      go_wp2_with (first
        | (go_at_call 50; refine (T1.out _).mono ?_; rintro e w1 ⟨rfl, hx1⟩; have hE := Ext.trans hE hx1)
        | (go_at_call 14; refine (T2.out _).mono ?_; rintro e w2 ⟨rfl, rfl⟩)
        | (go_at_call 26; refine (T3.out _).mono ?_; rintro e w3 ⟨rfl, hx3⟩; have hE := Ext.trans hE hx3; have hb3 := HB.out.ext hE; have d1 := hb3.1.cell; have d2 := hb3.2.cell; have d3 := hb3.1.frozen; have d4 := hb3.2.frozen))
      go_ret
      rw [HST.out]
      have hbx := HB.out.ext hE
      exact ⟨rfl, (hbx.set1 (a + 1)).set2 (b + 1), Below.setCell (Below.setCell (hE.mono h0) hc _) (by show n0 ≤ B + 1; omega) _, ((Kp.of_ext hE).trans (Kp.set hbx.1)).trans (Kp.set (hbx.set1 (a + 1)).2)⟩
    | false =>
      have HST : Hid (truthStep (a, b) v false = (f, (a + 1, b))) := by show _ = _; simp [truthStep, hab,truthStep]
      clear hab
      go_enter Tryz.func51, Tryz.ntmps51
      go_wp2_with (first
        | (go_at_call 50; refine (T1.out _).mono ?_; rintro e w1 ⟨rfl, hx1⟩; have hE := Ext.trans hE hx1)
        | (go_at_call 14; refine (T2.out _).mono ?_; rintro e w2 ⟨rfl, rfl⟩)
        | (go_at_call 26; refine (T3.out _).mono ?_; rintro e w3 ⟨rfl, hx3⟩; have hE := Ext.trans hE hx3; have hb3 := HB.out.ext hE; have d1 := hb3.1.cell; have d2 := hb3.2.cell; have d3 := hb3.1.frozen; have d4 := hb3.2.frozen))
      go_ret
      rw [HST.out]
      have hbx := HB.out.ext hE
      exact ⟨rfl, hbx.set1 (a + 1), Below.setCell (hE.mono h0) hc _, (Kp.of_ext hE).trans (Kp.set hbx.1)⟩
  | true =>
    cases hbl : v.isBlank with
    | true =>
      have HST : Hid (truthStep (a, b) v true = (0, (a, b))) := by show _ = _; simp [truthStep, hbl]
      rw [hbl] at T1
      clear hab hbl
      go_enter Tryz.func51, Tryz.ntmps51
      go_wp2_with (first
        | (go_at_call 50; refine (T1.out _).mono ?_; rintro e w1 ⟨rfl, hx1⟩; have hE := Ext.trans hE hx1)
        | (go_at_call 14; refine (T2.out _).mono ?_; rintro e w2 ⟨rfl, rfl⟩)
        | (go_at_call 26; refine (T3.out _).mono ?_; rintro e w3 ⟨rfl, hx3⟩; have hE := Ext.trans hE hx3; have hb3 := HB.out.ext hE; have d1 := hb3.1.cell; have d2 := hb3.2.cell; have d3 := hb3.1.frozen; have d4 := hb3.2.frozen))
      go_ret
      rw [HST.out]
      exact ⟨rfl, HB.out.ext hE, hE.mono h0, Kp.of_ext hE⟩
    | false =>
      rw [hbl] at T1
      cases htx : v.isText with
      | true =>
        have HST : Hid (truthStep (a, b) v true = (0, (a, b))) := by show _ = _; simp [truthStep, htx]
        rw [htx] at T2
        clear hab hbl htx
        go_enter Tryz.func51, Tryz.ntmps51
        go_wp2_with (first
          | (go_at_call 50; refine (T1.out _).mono ?_; rintro e w1 ⟨rfl, hx1⟩; have hE := Ext.trans hE hx1)
          | (go_at_call 14; refine (T2.out _).mono ?_; rintro e w2 ⟨rfl, rfl⟩)
          | (go_at_call 26; refine (T3.out _).mono ?_; rintro e w3 ⟨rfl, hx3⟩; have hE := Ext.trans hE hx3; have hb3 := HB.out.ext hE; have d1 := hb3.1.cell; have d2 := hb3.2.cell; have d3 := hb3.1.frozen; have d4 := hb3.2.frozen))
        go_ret
        rw [HST.out]
        exact ⟨rfl, HB.out.ext hE, hE.mono h0, Kp.of_ext hE⟩
      | false =>
        rw [htx] at T2
        cases tb with
        | true =>
          have HST : Hid (truthStep (a, b) v true = (f, (a + 1, b + 1))) := by show _ = _; simp [truthStep, hab,hbl,htx]
          clear hab
          go_enter Tryz.func51, Tryz.ntmps51
          go_wp2_with (first
            | (go_at_call 50; refine (T1.out _).mono ?_; rintro e w1 ⟨rfl, hx1⟩; have hE := Ext.trans hE hx1)
            | (go_at_call 14; refine (T2.out _).mono ?_; rintro e w2 ⟨rfl, rfl⟩)
            | (go_at_call 26; refine (T3.out _).mono ?_; rintro e w3 ⟨rfl, hx3⟩; have hE := Ext.trans hE hx3; have hb3 := HB.out.ext hE; have d1 := hb3.1.cell; have d2 := hb3.2.cell; have d3 := hb3.1.frozen; have d4 := hb3.2.frozen))
          go_ret
          rw [HST.out]
          have hbx := HB.out.ext hE
          exact ⟨rfl, (hbx.set1 (a + 1)).set2 (b + 1), Below.setCell (Below.setCell (hE.mono h0) hc _) (by show n0 ≤ B + 1; omega) _, ((Kp.of_ext hE).trans (Kp.set hbx.1)).trans (Kp.set (hbx.set1 (a + 1)).2)⟩
        | false =>
          have HST : Hid (truthStep (a, b) v true = (f, (a + 1, b))) := by show _ = _; simp [truthStep, hab,hbl,htx]
          clear hab
          go_enter Tryz.func51, Tryz.ntmps51
          go_wp2_with (first
            | (go_at_call 50; refine (T1.out _).mono ?_; rintro e w1 ⟨rfl, hx1⟩; have hE := Ext.trans hE hx1)
            | (go_at_call 14; refine (T2.out _).mono ?_; rintro e w2 ⟨rfl, rfl⟩)
            | (go_at_call 26; refine (T3.out _).mono ?_; rintro e w3 ⟨rfl, hx3⟩; have hE := Ext.trans hE hx3; have hb3 := HB.out.ext hE; have d1 := hb3.1.cell; have d2 := hb3.2.cell; have d3 := hb3.1.frozen; have d4 := hb3.2.frozen))
          go_ret
          rw [HST.out]
          have hbx := HB.out.ext hE
          exact ⟨rfl, hbx.set1 (a + 1), Below.setCell (hE.mono h0) hc _, (Kp.of_ext hE).trans (Kp.set hbx.1)⟩
end Go.Proofs.YtphjmbaifkneiaaGreatDoor
