/- What a number of layer 1 comes to as a text. -/
import Derived.Test.YtphjmbaifkneiaaGreatDoorT1
import Derived.Test.YtphjmbaifkneiaaGreatDoorD1
namespace Go.Proofs.YtphjmbaifkneiaaGreatDoor
open Go.RowKit

set_option maxHeartbeats 4000000
set_option maxRecDepth 100000

/-- The number's text, without its sign. -/
def bodyL (u : Nat) : List UInt8 := Lib.decDigits (u / 10000) ++ (if 0 < u % 10000 then 46 :: Lib.trimRightB ((Lib.decDigits (10000 + u % 10000)).drop 1) 48 else [])
def textL (n : Int) : List UInt8 := if n < 0 then 45 :: bodyL n.natAbs else bodyL n.natAbs
theorem catL (a b : List UInt8) : (⟨a.toArray⟩ : ByteArray) ++ ⟨b.toArray⟩ = ⟨(a ++ b).toArray⟩ := by
  apply ByteArray.ext
  apply Array.toList_inj.1
  simp [ByteArray.data_append]
theorem trimRight_le (l : List UInt8) (c : UInt8) : (Lib.trimRightB l c).length ≤ l.length := by
  unfold Lib.trimRightB
  rw [List.length_reverse]
  refine Nat.le_trans (List.dropWhile_sublist _).length_le ?_
  rw [List.length_reverse]
  exact Nat.le_refl _
theorem digits_short {u : Nat} (h : u < 18446744073709551616) : (Lib.decDigits u).length ≤ 20 := by
  rw [Lib.decDigits_length]
  by_cases h0 : u = 0
  · subst h0; rw [Lib.nDigits_small (by omega)]; omega
  · have := Lib.numDigits_eq u (by omega) h
    split at this <;> omega
theorem text_any (n : Int) (w : World) (hn : Num n) (htab : Lib.TabIs Tryz.prog w "internal/strconv.uint64pow10" .u64 Lib.pow10Tab) :
    Calls Tryz.prog 16 #[.int .i64 n] w fun e w' => e = .returned (.string ⟨(textL n).toArray⟩) ∧ Ext w w' := by
  obtain ⟨h1, h2⟩ := hn
  have hTB : ∀ W, Ext w W → Lib.TabIs Tryz.prog W "internal/strconv.uint64pow10" .u64 Lib.pow10Tab := fun W hx => Lib.tabBelow_of_tabIs htab W hx
  have TS : Hid (∀ W, Calls Tryz.prog 43 #[.int .i64 n] W fun e w' => e = .returned (.int .u64 (n.natAbs : Nat)) ∧ W = w') := fun W => size_any n W (by omega) (by omega)
  obtain ⟨u, hu⟩ : ∃ u, n.natAbs = u := ⟨_, rfl⟩
  have hub : u ≤ 999999999999999999 := by omega
  have TF : Hid (∀ W, Ext w W → Calls Tryz.prog 44 #[.int .u64 ((u / 10000 : Nat) : Int), .int .i64 10] W fun e w' => e = .returned (.string ⟨(Lib.decDigits (u / 10000)).toArray⟩) ∧ Ext W w') := fun W hx => formatUint_any _ (by omega) W (hTB W hx)
  have eq1 : ((u / 10000 : Nat) : Int) = (u : Int) / 10000 := by omega
  rw [eq1] at TF
  rw [hu] at TS
  have HT : Hid (textL n = if n < 0 then 45 :: bodyL u else bodyL u) := by show _ = _; unfold textL; rw [hu]
  have hubi : (u : Int) ≤ 999999999999999999 := by omega
  obtain ⟨q, hq⟩ : ∃ q : ByteArray, (⟨(Lib.decDigits (u / 10000)).toArray⟩ : ByteArray) = q := ⟨_, rfl⟩
  have HQ := Lib.hid hq
  have hqs : q.size ≤ 20 := by rw [← hq]; show (List.toArray _).size ≤ 20; rw [List.size_toArray]; exact digits_short (by omega)
  have hqi : (q.size : Int) ≤ 20 := by omega
  rw [hq] at TF
  by_cases hp : u % 10000 = 0
  · have hpi : (u : Int) % 10000 = 0 := by omega
    have HB : Hid (bodyL u = Lib.decDigits (u / 10000)) := by show _ = _; unfold bodyL; rw [if_neg (by omega), List.append_nil]
    clear hTB htab hu hq eq1
    by_cases hneg : n < 0
    · rw [HT.out, if_pos hneg, HB.out]
      clear HT
      go_enter Tryz.func16, Tryz.ntmps16
      go_wp2_with (first
        | (go_at_call 43; refine (TS.out _).mono ?_; rintro e w' ⟨rfl, rfl⟩)
        | (go_at_call 44; refine (TF.out _ (Ext.refl _)).mono ?_; rintro e w2 ⟨rfl, hx2⟩))
      go_ret
      refine ⟨?_, hx2⟩
      rw [← HQ.out]
      exact congrArg (fun x => Ending.returned (.string x)) (catL [45] _)
    · rw [HT.out, if_neg hneg, HB.out]
      clear HT
      go_enter Tryz.func16, Tryz.ntmps16
      go_wp2_with (first
        | (go_at_call 43; refine (TS.out _).mono ?_; rintro e w' ⟨rfl, rfl⟩)
        | (go_at_call 44; refine (TF.out _ (Ext.refl _)).mono ?_; rintro e w2 ⟨rfl, hx2⟩))
      go_ret
      exact ⟨by rw [HQ.out]; rfl, hx2⟩
  · have TF2 : Hid (∀ W, Ext w W → Calls Tryz.prog 44 #[.int .u64 ((10000 + u % 10000 : Nat) : Int), .int .i64 10] W fun e w' => e = .returned (.string ⟨(Lib.decDigits (10000 + u % 10000)).toArray⟩) ∧ Ext W w') := fun W hx => formatUint_any _ (by omega) W (hTB W hx)
    have eq2 : ((10000 + u % 10000 : Nat) : Int) = 10000 + (u : Int) % 10000 := by omega
    rw [eq2] at TF2
    have hpi : 0 < (u : Int) % 10000 := by omega
    have hpi2 : (u : Int) % 10000 < 10000 := by omega
    have hlen5 : (Lib.decDigits (10000 + u % 10000)).length = 5 := by
      rw [Lib.decDigits_length]
      exact Lib.nDigits_unique 4 _ (by omega) (by omega)
    obtain ⟨r, hr⟩ : ∃ r : ByteArray, (⟨(Lib.decDigits (10000 + u % 10000)).toArray⟩ : ByteArray) = r := ⟨_, rfl⟩
    have HR := Lib.hid hr
    have hrs : r.size = 5 := by rw [← hr]; show (List.toArray _).size = 5; rw [List.size_toArray, hlen5]
    rw [hr] at TF2
    have hre : (r.extract 1 5).data.toList = (Lib.decDigits (10000 + u % 10000)).drop 1 := by
      rw [← hr, Lib.extract_data]
      rw [List.take_of_length_le (by show (List.drop 1 _).length ≤ _; rw [List.length_drop]; simp; omega)]
    obtain ⟨z, hz⟩ : ∃ z : ByteArray, (⟨(Lib.trimRightB (r.extract 1 5).data.toList 48).toArray⟩ : ByteArray) = z := ⟨_, rfl⟩
    have TR : Hid (∀ W, Calls Tryz.prog 45 #[.string (r.extract 1 5), .string ⟨#[48]⟩] W fun e w' => e = .returned (.string z) ∧ w' = W) := fun W => by
      have h := Tryz.strings_TrimRight_one (r.extract 1 5) 48 (by decide) W (by rw [ByteArray.size_extract]; omega)
      rwa [hz] at h
    have hzs : z.size ≤ 5 := by
      rw [← hz]
      show (List.toArray _).size ≤ 5
      rw [List.size_toArray]
      refine Nat.le_trans (trimRight_le _ _) ?_
      rw [hre, List.length_drop]; omega
    have HZ : Hid ((⟨(Lib.trimRightB ((Lib.decDigits (10000 + u % 10000)).drop 1) 48).toArray⟩ : ByteArray) = z) := by show _ = _; rw [← hre, hz]
    have hzi : (z.size : Int) ≤ 5 := by omega
    have HB : Hid (bodyL u = Lib.decDigits (u / 10000) ++ 46 :: Lib.trimRightB ((Lib.decDigits (10000 + u % 10000)).drop 1) 48) := by show _ = _; unfold bodyL; rw [if_pos (by omega)]
    clear hTB htab hu hq eq1 eq2 hp hr hlen5 hre hz
    by_cases hneg : n < 0
    · rw [HT.out, if_pos hneg, HB.out]
      clear HT
      go_enter Tryz.func16, Tryz.ntmps16
      go_wp2_with (first
        | (go_at_call 43; refine (TS.out _).mono ?_; rintro e w' ⟨rfl, rfl⟩; clear TS)
        | (go_at_call 44; refine (TF.out _ (Ext.refl _)).mono ?_; rintro e w2 ⟨rfl, hx2⟩; clear TF)
        | (go_at_call 44; refine (TF2.out _ hx2).mono ?_; rintro e w3 ⟨rfl, hx3⟩; clear TF2)
        | (go_at_call 45; refine (TR.out _).mono ?_; rintro e w4 ⟨rfl, rfl⟩))
      go_ret
      refine ⟨?_, hx2.trans hx3⟩
      rw [← HQ.out, ← HZ.out]
      exact congrArg (fun x => Ending.returned (.string x)) ((congrArg (fun x => (⟨[45].toArray⟩ : ByteArray) ++ ((⟨(Lib.decDigits (u / 10000)).toArray⟩ : ByteArray) ++ x)) (catL [46] _)).trans ((congrArg (fun x => (⟨[45].toArray⟩ : ByteArray) ++ x) (catL _ _)).trans (catL [45] _)))
    · rw [HT.out, if_neg hneg, HB.out]
      clear HT
      go_enter Tryz.func16, Tryz.ntmps16
      go_wp2_with (first
        | (go_at_call 43; refine (TS.out _).mono ?_; rintro e w' ⟨rfl, rfl⟩; clear TS)
        | (go_at_call 44; refine (TF.out _ (Ext.refl _)).mono ?_; rintro e w2 ⟨rfl, hx2⟩; clear TF)
        | (go_at_call 44; refine (TF2.out _ hx2).mono ?_; rintro e w3 ⟨rfl, hx3⟩; clear TF2)
        | (go_at_call 45; refine (TR.out _).mono ?_; rintro e w4 ⟨rfl, rfl⟩))
      go_ret
      refine ⟨?_, hx2.trans hx3⟩
      rw [← HQ.out, ← HZ.out]
      exact congrArg (fun x => Ending.returned (.string x)) ((congrArg (fun x => (⟨(Lib.decDigits (u / 10000)).toArray⟩ : ByteArray) ++ x) (catL [46] _)).trans (catL _ _))
end Go.Proofs.YtphjmbaifkneiaaGreatDoor
