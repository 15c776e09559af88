/- Layer 18's 'where', 'whole', 'index' and what they call. -/
import Derived.Test.YtphjmbaifkneiaaGreatDoorF1
import Derived.BigQuiet
namespace Go.Proofs.YtphjmbaifkneiaaGreatDoor
open Go.RowKit

set_option maxHeartbeats 2000000
set_option maxRecDepth 100000

def idxS (p : V → Bool) : List V → Nat → Int
  | [], _ => -1
  | u :: l, k => if p u then (k : Int) else idxS p l (k + 1)

theorem indexFunc_any (sv : Value) (l : List V) (r : V) (w : World) (hs : VSl w sv l) (hr : r.Good) (hgood : ∀ u ∈ l, u.Good) :
    Calls Tryz.prog 65 #[sv, .func (.func 64) #[.agg #[.int .i64 0, r.val]] #[]] w fun e w' => e = .returned (.int .i64 (idxS (fitsS 0 r) l 0)) ∧ Ext w w' := by
  have FT : Hid (∀ (u : V) (W : World), u ∈ l → Calls Tryz.prog 64 #[.agg #[.int .i64 0, r.val], u.val] W fun e w' => e = .returned (.bool (fitsS 0 r u)) ∧ Ext W w') := fun u W hu => fits_base 0 r u W (by omega) (by omega) (by omega) hr (hgood u hu)
  have HS := Lib.hid hs
  obtain ⟨A, c, rfl, h1, h2, h3⟩ := hs
  clear h3 hr hgood
  go_enter Tryz.func65, Tryz.ntmps65
  go_wp2
  go_loopw [8] (fun i wr => ∃ k : Nat, k ≤ l.length ∧ i = .int .i64 k ∧ Hid (idxS (fitsS 0 r) l 0 = idxS (fitsS 0 r) (l.drop k) k) ∧ Hid (Ext w wr)) (fun i _ => l.length - (intOf i).toNat)
  case atStart => exact ⟨0, Nat.zero_le _, rfl, rfl, Ext.refl _⟩
  case round =>
    obtain ⟨k, hk, rfl, hm, hx⟩ := hrel
    by_cases hlt : k < l.length
    · obtain ⟨A', c', hAc, _, _, h6⟩ := HS.out
      obtain ⟨b, o, hAA, hb, hc⟩ := h6 k hlt
      clear h6
      injection hAc with e1 e2 e3
      subst e1 e3
      subst hAA
      clear e2
      rw [← hx.out.cell hb] at hc
      have hft : Hid (∀ W, Calls Tryz.prog 64 #[.agg #[.int .i64 0, r.val], l[k].val] W fun e w' => e = .returned (.bool (fitsS 0 r l[k])) ∧ Ext W w') := fun W => FT.out l[k] W (List.getElem_mem hlt)
      have hd : idxS (fitsS 0 r) (l.drop k) k = if fitsS 0 r l[k] then (k : Int) else idxS (fitsS 0 r) (l.drop (k + 1)) (k + 1) := by
        rw [List.drop_eq_getElem_cons hlt]; rfl
      obtain ⟨u, hu⟩ : ∃ u, l[k] = u := ⟨_, rfl⟩
      rw [hu] at hc hft hd
      obtain ⟨ft, hfe⟩ : ∃ ft, fitsS 0 r u = ft := ⟨_, rfl⟩
      rw [hfe] at hft hd
      clear hu hfe FT hb
      cases ft with
      | false =>
        have HD : Hid (idxS (fitsS 0 r) (l.drop k) k = idxS (fitsS 0 r) (l.drop (k + 1)) (k + 1)) := hd
        clear hd
        go_wp2_with (go_at_call 64; refine (hft.out _).mono ?_; rintro e w2 ⟨rfl, hx2⟩)
        go_roundw
        case rel => exact ⟨k + 1, by omega, by go_num, by rw [hm.out, HD.out]; rfl, hx.out.trans hx2⟩
        case measure => simp [intOf]; omega
      | true =>
        have HD : Hid (idxS (fitsS 0 r) l 0 = (k : Int)) := by show _ = _; rw [hm.out, hd]; rfl
        clear hd
        go_wp2_with (go_at_call 64; refine (hft.out _).mono ?_; rintro e w2 ⟨rfl, hx2⟩)
        go_ret
        rw [HD.out]
        exact ⟨rfl, hx.out.trans hx2⟩
    · have HD : Hid (idxS (fitsS 0 r) l 0 = -1) := by show _ = _; rw [hm.out, List.drop_of_length_le (by omega)]; rfl
      go_wp2
      go_ret
      rw [HD.out]
      exact ⟨rfl, hx.out⟩

theorem where_any (sv : Value) (l : List V) (r : V) (w : World) (hs : VSl w sv l) (hr : r.Good) (hgood : ∀ u ∈ l, u.Good) :
    Calls Tryz.prog 36 #[r.val, sv] w fun e w' => e = .returned (.int .i64 (idxS (fitsS 0 r) l 0)) ∧ Ext w w' := by
  have T : Hid (∀ W, Ext w W → Calls Tryz.prog 65 #[sv, .func (.func 64) #[.agg #[.int .i64 0, r.val]] #[]] W fun e w' => e = .returned (.int .i64 (idxS (fitsS 0 r) l 0)) ∧ Ext W w') := fun W hx => indexFunc_any sv l r W (hs.ext hx) hr hgood
  obtain ⟨rt, rv, hrv⟩ := r.val_iface
  rw [hrv] at T ⊢
  clear hrv hs hr hgood
  go_enter Tryz.func36, Tryz.ntmps36
  go_wp2_with (go_at_call 65; refine (T.out _ (by repeat (first | exact Ext.refl _ | exact Ext.trans (by assumption) (by assumption) | assumption | refine Ext.alloc ?_ _ | refine Ext.drew ?_ | refine Ext.drewN ?_ _ | refine Ext.setCell ?_ (by simp) _))).mono ?_; rintro e w2 ⟨rfl, hx2⟩)
  go_ret
  exact ⟨rfl, by repeat (first | exact Ext.refl _ | exact Ext.trans (by assumption) (by assumption) | assumption | refine Ext.alloc ?_ _ | refine Ext.drew ?_ | refine Ext.drewN ?_ _ | refine Ext.setCell ?_ (by simp) _)⟩

/-- The one value of an argument. -/
def ArgD.one (x : ArgD) : V := if h : x.l.length = 1 then x.l[0] else .fail 3
theorem value_any (av : Value) (x : ArgD) (w : World) (ha : ArgIs w av x) : Calls Tryz.prog 27 #[av] w fun e w' => e = .returned x.one.val ∧ Ext w w' := by
  obtain ⟨s, rfl, A, c, rfl, h1, h2, h3⟩ := ha
  by_cases hl : x.l.length = 1
  · obtain ⟨b, o, hA, hb, hc⟩ := h3 0 (by omega)
    subst hA
    have HO : Hid (x.one = x.l[0]) := by show x.one = _; unfold ArgD.one; rw [dif_pos hl]
    obtain ⟨u, hu⟩ : ∃ u, x.l[0] = u := ⟨_, rfl⟩
    rw [hu] at hc HO
    rw [HO.out]
    rw [hl] at h1 ⊢
    clear h3 hu hl HO
    rw [Nat.add_zero] at hc
    go_enter Tryz.func27, Tryz.ntmps27
    go_wp2
    go_ret
    exact ⟨rfl, by repeat (first | exact Ext.refl _ | exact Ext.trans (by assumption) (by assumption) | assumption | refine Ext.alloc ?_ _ | refine Ext.drew ?_ | refine Ext.drewN ?_ _ | refine Ext.setCell ?_ (by simp) _)⟩
  · have hlb : ((x.l.length : Int) == 1) = false := by simp; omega
    have hlb2 : ((x.l.length : Int) != 1) = true := by simp; omega
    have HO : Hid (x.one = .fail 3) := by show x.one = _; unfold ArgD.one; rw [dif_neg hl]
    clear h3 hl
    go_enter Tryz.func27, Tryz.ntmps27
    go_wp2
    go_ret
    rw [HO.out]
    exact ⟨rfl, by repeat (first | exact Ext.refl _ | exact Ext.trans (by assumption) (by assumption) | assumption | refine Ext.alloc ?_ _ | refine Ext.drew ?_ | refine Ext.drewN ?_ _ | refine Ext.setCell ?_ (by simp) _)⟩

theorem one_good {x : ArgD} (h : ∀ u ∈ x.l, u.Good) : x.one.Good := by
  unfold ArgD.one
  split
  · exact h _ (List.getElem_mem _)
  · exact ⟨by omega, by omega⟩
/-- An argument as a whole number. -/
def wholeS (x : ArgD) : Int := max (min (x.one.asNum.1.tdiv 10000) 100000) (-100000)
theorem wholeArg_any (av : Value) (x : ArgD) (w : World) (ha : ArgIs w av x) (hg : ∀ u ∈ x.l, u.Good) : Calls Tryz.prog 30 #[av] w fun e w' => e = .returned (.tuple #[.int .i64 (wholeS x), .int .i64 x.one.asNum.2]) ∧ Ext w w' := by
  have T1 : Hid (∀ W, Ext w W → Calls Tryz.prog 27 #[av] W fun e w' => e = .returned x.one.val ∧ Ext W w') := fun W hx => value_any av x W (ha.ext hx)
  have T2 : Hid (∀ W, Calls Tryz.prog 58 #[x.one.val] W fun e w' => e = .returned (.tuple #[.int .i64 (x.one.asNum.1.tdiv 10000), .int .i64 x.one.asNum.2]) ∧ Ext W w') := fun W => asInt_any _ W (one_good hg)
  have HW : Hid (wholeS x = max (min (x.one.asNum.1.tdiv 10000) 100000) (-100000)) := rfl
  obtain ⟨n, hn⟩ : ∃ n, x.one.asNum.1.tdiv 10000 = n := ⟨_, rfl⟩
  rw [hn] at T2 HW
  obtain ⟨s, rfl, _⟩ := ha
  clear hn hg
  go_enter Tryz.func30, Tryz.ntmps30
  go_wp2_with (first
    | (go_at_call 27; refine (T1.out _ (by repeat (first | exact Ext.refl _ | exact Ext.trans (by assumption) (by assumption) | assumption | refine Ext.alloc ?_ _ | refine Ext.drew ?_ | refine Ext.drewN ?_ _ | refine Ext.setCell ?_ (by simp) _))).mono ?_; rintro e w2 ⟨rfl, hx2⟩)
    | (go_at_call 58; refine (T2.out _).mono ?_; rintro e w3 ⟨rfl, hx3⟩))
  go_ret2
  rw [HW.out]
  exact ⟨rfl, (((Ext.refl w).alloc _).trans hx2).trans hx3⟩

def firstS (f g : Int) : V := if f ≠ 0 then .fail f else .fail g
theorem first_any (f g : Int) (w : World) : Calls Tryz.prog 31 #[.int .i64 f, .int .i64 g] w fun e w' => e = .returned (firstS f g).val ∧ w = w' := by
  by_cases h : f = 0
  · subst h
    have HF : Hid (firstS 0 g = .fail g) := by show _ = _; simp [firstS]
    go_enter Tryz.func31, Tryz.ntmps31
    go_wp2
    go_ret
    rw [HF.out]
    exact ⟨rfl, rfl⟩
  · have hb : (f != 0) = true := by simpa using h
    have HF : Hid (firstS f g = .fail f) := by show _ = _; simp [firstS, h]
    clear h
    go_enter Tryz.func31, Tryz.ntmps31
    go_wp2
    go_ret
    rw [HF.out]
    exact ⟨rfl, rfl⟩

/-- A value of an area by its place, from 1 on. -/
def indexS (x : ArgD) (row : Int) : V := if row < 1 ∨ (x.l.length : Int) < row then .fail 4 else x.l.getD (row - 1).toNat .blank
theorem index_any (av : Value) (x : ArgD) (row col : Int) (w : World) (ha : ArgIs w av x) (h0 : -100000 ≤ row) (h1 : row ≤ 100000) : Calls Tryz.prog 37 #[av, .int .i64 row, .int .i64 col, .bool false] w fun e w' => e = .returned (indexS x row).val ∧ Ext w w' := by
  obtain ⟨s, rfl, A, c, rfl, h3, h4, h5⟩ := ha
  by_cases hr : row < 1
  · have HI : Hid (indexS x row = .fail 4) := by show _ = _; simp [indexS, hr]
    have hrb : decide (row < 1) = true := by simpa using hr
    clear h5 hr
    go_enter Tryz.func37, Tryz.ntmps37
    go_wp2
    go_ret
    rw [HI.out]
    exact ⟨rfl, by repeat (first | exact Ext.refl _ | exact Ext.trans (by assumption) (by assumption) | assumption | refine Ext.alloc ?_ _ | refine Ext.drew ?_ | refine Ext.drewN ?_ _ | refine Ext.setCell ?_ (by simp) _)⟩
  · have hrb : decide (row < 1) = false := by simpa using hr
    by_cases hr2 : (x.l.length : Int) < row
    · have HI : Hid (indexS x row = .fail 4) := by show _ = _; simp [indexS, hr2]
      have hrb2 : decide ((x.l.length : Int) < row) = true := by simpa using hr2
      clear h5 hr
      go_enter Tryz.func37, Tryz.ntmps37
      go_wp2
      go_ret
      rw [HI.out]
      exact ⟨rfl, by repeat (first | exact Ext.refl _ | exact Ext.trans (by assumption) (by assumption) | assumption | refine Ext.alloc ?_ _ | refine Ext.drew ?_ | refine Ext.drewN ?_ _ | refine Ext.setCell ?_ (by simp) _)⟩
    · have hrb2 : decide ((x.l.length : Int) < row) = false := by simpa using hr2
      obtain ⟨k, rfl⟩ : ∃ k : Nat, row = (k : Int) + 1 := ⟨(row - 1).toNat, by omega⟩
      have hk : k < x.l.length := by omega
      have HI : Hid (indexS x ((k : Int) + 1) = x.l[k]) := by
        show _ = _
        unfold indexS
        rw [if_neg (by omega)]
        simp [List.getD, hk]
      obtain ⟨b, o, hA, hb, hc⟩ := h5 k hk
      subst hA
      obtain ⟨u, hu⟩ : ∃ u, x.l[k] = u := ⟨_, rfl⟩
      rw [hu] at hc HI
      have hY : (k : Int) + 1 - 1 = (k : Int) := by omega
      have hka : (k : Int) < (x.l.length : Int) := by omega
      clear h5 hr hr2 hu
      go_enter Tryz.func37, Tryz.ntmps37
      go_wp2
      go_ret
      rw [HI.out]
      exact ⟨rfl, by repeat (first | exact Ext.refl _ | exact Ext.trans (by assumption) (by assumption) | assumption | refine Ext.alloc ?_ _ | refine Ext.drew ?_ | refine Ext.drewN ?_ _ | refine Ext.setCell ?_ (by simp) _)⟩
end Go.Proofs.YtphjmbaifkneiaaGreatDoor
