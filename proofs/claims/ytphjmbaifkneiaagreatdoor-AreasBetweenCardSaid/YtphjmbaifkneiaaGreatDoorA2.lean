/- What layer 15 makes of plain data. -/
import Derived.Test.YtphjmbaifkneiaaGreatDoorA1
import Derived.Test.YtphjmbaifkneiaaGreatDoorS3
import Derived.RegionTactic
import Derived.Deep.RegionWith
namespace Go.Proofs.YtphjmbaifkneiaaGreatDoor
open Go.RowKit

set_option maxHeartbeats 400000
set_option maxRecDepth 100000

open Classical in
/-- The value of plain data. -/
noncomputable def ofP (k n : Int) (s : ByteArray) : V :=
  if k = 1 then (if Num n then .num n else .blank) else
  if k = 2 then (if (signs s).2 = true ∧ s.size ≤ 2000 then .text s else .blank) else
  if k = 3 then .bool (n == 1) else
  if k = 4 then (if 1 ≤ n ∧ n ≤ 7 then .fail n else .blank) else .blank

theorem mkI_num (n : Int) (w : World) : (Instr.makeInterface 43 (.int .i64 n)).run Tryz.prog w = .ok (.iface 43 (.int .i64 n)) w := by kernel_rfl

theorem of_any (k n : Int) (s : ByteArray) (w : World) (hs : s.size ≤ 9223372036854775807) (hT : Tabs w) :
    Calls Tryz.prog 13 #[.agg #[.int .i64 k, .int .i64 n, .string s]] w fun e w' => e = .returned (ofP k n s).val ∧ Ext w w' := by
  have HT := Lib.hid hT
  clear hT
  have SG : Hid (∀ W : World, Ext w W → Calls Tryz.prog 41 #[.string s] W fun e W' => e = .returned (.tuple #[.int .i64 (signs s).1, .bool (signs s).2]) ∧ Ext W W') := fun W hW => signs_any s W hs (HT.out.ext hW)
  by_cases k1 : k = 1
  · subst k1
    by_cases hn : Num n
    · have e : Hid (ofP 1 n s = .num n) := by show ofP 1 n s = _; unfold ofP; rw [if_pos rfl, if_pos hn]
      have G : Hid (∀ W : World, Calls Tryz.prog 15 #[.int .i64 n] W fun e w' => e = .returned (.bool true) ∧ W = w') := fun W => good_yes n W hn
      clear hn
      go_enter Tryz.func13, Tryz.ntmps13
      go_wp2_with (go_at_call 15; refine (G.out _).mono ?_; rintro e w' ⟨rfl, rfl⟩)
      go_ret
      rw [e.out]
      exact ⟨rfl, by repeat (first | exact Ext.refl _ | exact Ext.trans (by assumption) (by assumption) | assumption | refine Ext.alloc ?_ _ | refine Ext.drew ?_ | refine Ext.drewN ?_ _ | refine Ext.setCell ?_ (by simp) _)⟩
    · have e : Hid (ofP 1 n s = .blank) := by show ofP 1 n s = _; unfold ofP; rw [if_pos rfl, if_neg hn]
      have G : Hid (∀ W : World, Calls Tryz.prog 15 #[.int .i64 n] W fun e w' => e = .returned (.bool false) ∧ W = w') := fun W => good_no n W hn
      clear hn
      go_enter Tryz.func13, Tryz.ntmps13
      go_wp2_with (go_at_call 15; refine (G.out _).mono ?_; rintro e w' ⟨rfl, rfl⟩)
      go_ret
      rw [e.out]
      exact ⟨rfl, by repeat (first | exact Ext.refl _ | exact Ext.trans (by assumption) (by assumption) | assumption | refine Ext.alloc ?_ _ | refine Ext.drew ?_ | refine Ext.drewN ?_ _ | refine Ext.setCell ?_ (by simp) _)⟩
  · have k1b : (k == 1) = false := by simpa using k1
    by_cases k2 : k = 2
    · subst k2
      obtain ⟨c, ok, hsg⟩ : ∃ c ok, signs s = (c, ok) := ⟨_, _, rfl⟩
      rw [hsg] at SG
      have e : Hid (ofP 2 n s = if ok = true ∧ s.size ≤ 2000 then .text s else .blank) := by show ofP 2 n s = _; unfold ofP; rw [if_neg (by decide), if_pos rfl, hsg]
      clear hsg
      go_enter Tryz.func13, Tryz.ntmps13
      go_wp2_with (go_at_call 41; refine (SG.out _ (by repeat (first | exact Ext.refl _ | exact Ext.trans (by assumption) (by assumption) | assumption | refine Ext.alloc ?_ _ | refine Ext.drew ?_ | refine Ext.drewN ?_ _ | refine Ext.setCell ?_ (by simp) _))).mono ?_; rintro e w1 ⟨rfl, hx⟩; obtain ⟨hc, hf⟩ := hx.reads)
      · go_ret
        rw [e.out, if_pos ⟨by assumption, by omega⟩]
        exact ⟨rfl, Ext.trans (by repeat (first | exact Ext.refl _ | exact Ext.trans (by assumption) (by assumption) | assumption | refine Ext.alloc ?_ _ | refine Ext.drew ?_ | refine Ext.drewN ?_ _ | refine Ext.setCell ?_ (by simp) _)) hx⟩
      · go_ret
        rw [e.out, if_neg (by omega)]
        exact ⟨rfl, Ext.trans (by repeat (first | exact Ext.refl _ | exact Ext.trans (by assumption) (by assumption) | assumption | refine Ext.alloc ?_ _ | refine Ext.drew ?_ | refine Ext.drewN ?_ _ | refine Ext.setCell ?_ (by simp) _)) hx⟩
      · go_ret
        rw [e.out, if_neg (fun h => absurd h.1 (by assumption))]
        exact ⟨rfl, Ext.trans (by repeat (first | exact Ext.refl _ | exact Ext.trans (by assumption) (by assumption) | assumption | refine Ext.alloc ?_ _ | refine Ext.drew ?_ | refine Ext.drewN ?_ _ | refine Ext.setCell ?_ (by simp) _)) hx⟩
    · have k2b : (k == 2) = false := by simpa using k2
      by_cases k3 : k = 3
      · subst k3
        have e : Hid (ofP 3 n s = .bool (n == 1)) := by show ofP 3 n s = _; unfold ofP; rw [if_neg (by decide), if_neg (by decide), if_pos rfl]
        go_enter Tryz.func13, Tryz.ntmps13
        go_wp2
        go_ret
        rw [e.out]
        exact ⟨rfl, by repeat (first | exact Ext.refl _ | exact Ext.trans (by assumption) (by assumption) | assumption | refine Ext.alloc ?_ _ | refine Ext.drew ?_ | refine Ext.drewN ?_ _ | refine Ext.setCell ?_ (by simp) _)⟩
      · have k3b : (k == 3) = false := by simpa using k3
        by_cases k4 : k = 4
        · subst k4
          by_cases h1 : 1 ≤ n
          · by_cases h7 : n ≤ 7
            · have e : Hid (ofP 4 n s = .fail n) := by show ofP 4 n s = _; unfold ofP; rw [if_neg (by decide), if_neg (by decide), if_neg (by decide), if_pos rfl, if_pos ⟨h1, h7⟩]
              go_enter Tryz.func13, Tryz.ntmps13
              go_wp2
              go_region_with (go_at_call 42; refine (errors_any _).mono ?_; rintro e w' ⟨rfl, rfl⟩)
              all_goals go_wp2
              all_goals go_ret
              all_goals rw [e.out]
              all_goals exact ⟨rfl, by repeat (first | exact Ext.refl _ | exact Ext.trans (by assumption) (by assumption) | assumption | refine Ext.alloc ?_ _ | refine Ext.drew ?_ | refine Ext.drewN ?_ _ | refine Ext.setCell ?_ (by simp) _)⟩
            · have e : Hid (ofP 4 n s = .blank) := by show ofP 4 n s = _; unfold ofP; rw [if_neg (by decide), if_neg (by decide), if_neg (by decide), if_pos rfl, if_neg (by omega)]
              go_enter Tryz.func13, Tryz.ntmps13
              go_wp2
              go_region_with (go_at_call 42; refine (errors_any _).mono ?_; rintro e w' ⟨rfl, rfl⟩)
              all_goals go_wp2
              all_goals go_ret
              all_goals rw [e.out]
              all_goals exact ⟨rfl, by repeat (first | exact Ext.refl _ | exact Ext.trans (by assumption) (by assumption) | assumption | refine Ext.alloc ?_ _ | refine Ext.drew ?_ | refine Ext.drewN ?_ _ | refine Ext.setCell ?_ (by simp) _)⟩
          · have h1b : decide (1 ≤ n) = false := by simpa using h1
            have e : Hid (ofP 4 n s = .blank) := by show ofP 4 n s = _; unfold ofP; rw [if_neg (by decide), if_neg (by decide), if_neg (by decide), if_pos rfl, if_neg (by omega)]
            go_enter Tryz.func13, Tryz.ntmps13
            go_wp2
            go_quiet (fail)
            go_wp2
            go_ret
            rw [e.out]
            exact ⟨rfl, by repeat (first | exact Ext.refl _ | exact Ext.trans (by assumption) (by assumption) | assumption | refine Ext.alloc ?_ _ | refine Ext.drew ?_ | refine Ext.drewN ?_ _ | refine Ext.setCell ?_ (by simp) _)⟩
        · have k4b : (k == 4) = false := by simpa using k4
          have e : Hid (ofP k n s = .blank) := by show ofP k n s = _; unfold ofP; rw [if_neg k1, if_neg k2, if_neg k3, if_neg k4]
          clear k1 k2 k3 k4
          go_enter Tryz.func13, Tryz.ntmps13
          go_wp2
          go_ret
          rw [e.out]
          exact ⟨rfl, by repeat (first | exact Ext.refl _ | exact Ext.trans (by assumption) (by assumption) | assumption | refine Ext.alloc ?_ _ | refine Ext.drew ?_ | refine Ext.drewN ?_ _ | refine Ext.setCell ?_ (by simp) _)⟩

theorem ofP_good (k n : Int) (s : ByteArray) : (ofP k n s).Good := by
  unfold ofP
  repeat' split
  all_goals simp_all [V.Good, Num]

/-- A value as a number, or why not. -/
def V.asNum : V → Int × Int
  | .num n => (n, 0)
  | .bool b => (if b then 10000 else 0, 0)
  | .text s => if (parseS (trimS s)).2 then ((parseS (trimS s)).1, 0) else (0, 3)
  | .fail f => (0, f)
  | .blank => (0, 0)

theorem trimS_size (s : ByteArray) : (trimS s).size ≤ s.size := by
  unfold trimS Lib.trimB Lib.trimLeftB Lib.trimRightB
  have h1 := (List.dropWhile_sublist (fun x => x == (32 : UInt8)) (l := (List.dropWhile (fun x => x == (32 : UInt8)) s.data.toList.reverse).reverse)).length_le
  have h2 := (List.dropWhile_sublist (fun x => x == (32 : UInt8)) (l := s.data.toList.reverse)).length_le
  simp only [List.length_reverse, Array.length_toList] at h1 h2
  show Array.size _ ≤ s.data.size
  simp only [List.size_toArray]
  omega

theorem asNumber_any (v : V) (w : World) (hg : v.Good) : Calls Tryz.prog 33 #[v.val] w fun e w' => e = .returned (.tuple #[.int .i64 v.asNum.1, .int .i64 v.asNum.2]) ∧ Ext w w' := by
  cases v with
  | text s =>
    have hs : s.size ≤ 2000 := hg
    clear hg
    have ht := trimS_size s
    have TR : Hid (∀ W : World, Calls Tryz.prog 56 #[.string s] W fun e W' => e = .returned (.string (trimS s)) ∧ Ext W W') := fun W => trim_any s W (by omega)
    obtain ⟨t, htt⟩ : ∃ t, trimS s = t := ⟨_, rfl⟩
    have PA : Hid (∀ W : World, Calls Tryz.prog 61 #[.string t] W fun e W' => e = .returned (.tuple #[.int .i64 (parseS t).1, .bool (parseS t).2]) ∧ Ext W W') := fun W => parse_any t W (by rw [← htt]; omega)
    obtain ⟨n, ok, hp⟩ : ∃ n ok, parseS t = (n, ok) := ⟨_, _, rfl⟩
    have e : Hid ((V.text s).asNum = if ok then (n, 0) else (0, 3)) := by show (V.text s).asNum = _; simp only [V.asNum, htt, hp]
    rw [hp] at PA
    rw [htt] at TR
    clear hp htt ht
    simp only [V.val]
    go_enter Tryz.func33, Tryz.ntmps33
    go_wp2_with (first
      | (go_at_call 56; refine (TR.out _).mono ?_; rintro e w1 ⟨rfl, hx1⟩)
      | (go_at_call 61; refine (PA.out _).mono ?_; rintro e w2 ⟨rfl, hx2⟩))
    · go_ret2
      rw [e.out, if_pos (by assumption)]
      exact ⟨rfl, hx1.trans hx2⟩
    · go_ret2
      rw [e.out, if_neg (by simp [*])]
      exact ⟨rfl, hx1.trans hx2⟩
  | bool b => cases b <;> (simp only [V.val]; go_enter Tryz.func33, Tryz.ntmps33; go_wp2; go_ret2; exact ⟨rfl, by repeat (first | exact Ext.refl _ | exact Ext.trans (by assumption) (by assumption) | assumption | refine Ext.alloc ?_ _ | refine Ext.drew ?_ | refine Ext.drewN ?_ _ | refine Ext.setCell ?_ (by simp) _)⟩)
  | blank => simp only [V.val]; go_enter Tryz.func33, Tryz.ntmps33; go_wp2; go_ret2; exact ⟨rfl, by repeat (first | exact Ext.refl _ | exact Ext.trans (by assumption) (by assumption) | assumption | refine Ext.alloc ?_ _ | refine Ext.drew ?_ | refine Ext.drewN ?_ _ | refine Ext.setCell ?_ (by simp) _)⟩
  | num n => simp only [V.val]; go_enter Tryz.func33, Tryz.ntmps33; go_wp2; go_ret2; exact ⟨rfl, by repeat (first | exact Ext.refl _ | exact Ext.trans (by assumption) (by assumption) | assumption | refine Ext.alloc ?_ _ | refine Ext.drew ?_ | refine Ext.drewN ?_ _ | refine Ext.setCell ?_ (by simp) _)⟩
  | fail n => simp only [V.val]; go_enter Tryz.func33, Tryz.ntmps33; go_wp2; go_ret2; exact ⟨rfl, by repeat (first | exact Ext.refl _ | exact Ext.trans (by assumption) (by assumption) | assumption | refine Ext.alloc ?_ _ | refine Ext.drew ?_ | refine Ext.drewN ?_ _ | refine Ext.setCell ?_ (by simp) _)⟩
end Go.Proofs.YtphjmbaifkneiaaGreatDoor
