/- The rule that a value says. -/
import Derived.Test.YtphjmbaifkneiaaGreatDoorF1
namespace Go.Proofs.YtphjmbaifkneiaaGreatDoor
open Go.RowKit

set_option maxHeartbeats 1000000
set_option maxRecDepth 100000

def sgn (k : Nat) : ByteArray := [⟨#[60, 62]⟩, ⟨#[60, 61]⟩, ⟨#[62, 61]⟩, ⟨#[61]⟩, ⟨#[60]⟩, ⟨#[62]⟩].getD k ⟨#[]⟩
def sgnOp (k : Nat) : Int := [1, 3, 5, 0, 2, 4].getD k 0
/-- layer 18's signs as they lie. -/
def SgIs (w : World) : Prop :=
  ∃ b o c, w.cell? ⟨0, 0, none⟩ = some (.slice (some ⟨b, o, none⟩) 6 c) ∧ 6 ≤ c ∧ c ≤ 9223372036854775807 ∧ b < w.heap.size ∧ 0 < w.heap.size ∧ ∀ k, k < 6 → w.cell? ⟨b, o + k, none⟩ = some (.string (sgn k))
theorem SgIs.ext {w w' : World} (h : SgIs w) (hx : Ext w w') : SgIs w' := by
  obtain ⟨b, o, c, h1, h2, h3, h4, h5, h6⟩ := h
  exact ⟨b, o, c, (hx.cell (p := ⟨0, 0, none⟩) h5).trans h1, h2, h3, Nat.lt_of_lt_of_le h4 hx.size, Nat.lt_of_lt_of_le h5 hx.size, fun k hk => (hx.cell h4).trans (h6 k hk)⟩

def madeT (s : ByteArray) : Nat → Nat → Int × V
  | 0, _ => (0, inputS s)
  | f + 1, k => if Lib.hasPrefix s.data.toList (sgn k).data.toList = true then (sgnOp k, inputS ⟨(Lib.trimPrefix s.data.toList (sgn k).data.toList).toArray⟩) else madeT s f (k + 1)
/-- The rule that a value says. -/
def madeS : V → Int × V
  | .text s => madeT s 6 0
  | v => (0, v)

theorem trimPrefix_size (s p : List UInt8) : (Lib.trimPrefix s p).length ≤ s.length := by
  unfold Lib.trimPrefix; split <;> simp

theorem made_other (v : V) (w : World) (hv : v.isText = false) : Calls Tryz.prog 63 #[v.val] w fun e w' => e = .returned (.agg #[.int .i64 (madeS v).1, (madeS v).2.val]) ∧ Ext w w' := by
  cases v with
  | text s => simp [V.isText] at hv
  | blank => simp only [V.val, madeS]; go_enter Tryz.func63, Tryz.ntmps63; go_wp2; refine bodyPost_ret (v := .agg #[_, _]) (by simp [results, Tryz.results63, go_sem ]) rfl ⟨rfl, ?_⟩; repeat (first | exact Ext.refl _ | exact Ext.trans (by assumption) (by assumption) | assumption | refine Ext.alloc ?_ _ | refine Ext.drew ?_ | refine Ext.drewN ?_ _ | refine Ext.setCell ?_ (by simp) _)
  | num n => simp only [V.val, madeS]; go_enter Tryz.func63, Tryz.ntmps63; go_wp2; refine bodyPost_ret (v := .agg #[_, _]) (by simp [results, Tryz.results63, go_sem ]) rfl ⟨rfl, ?_⟩; repeat (first | exact Ext.refl _ | exact Ext.trans (by assumption) (by assumption) | assumption | refine Ext.alloc ?_ _ | refine Ext.drew ?_ | refine Ext.drewN ?_ _ | refine Ext.setCell ?_ (by simp) _)
  | bool b => simp only [V.val, madeS]; go_enter Tryz.func63, Tryz.ntmps63; go_wp2; refine bodyPost_ret (v := .agg #[_, _]) (by simp [results, Tryz.results63, go_sem ]) rfl ⟨rfl, ?_⟩; repeat (first | exact Ext.refl _ | exact Ext.trans (by assumption) (by assumption) | assumption | refine Ext.alloc ?_ _ | refine Ext.drew ?_ | refine Ext.drewN ?_ _ | refine Ext.setCell ?_ (by simp) _)
  | fail n => simp only [V.val, madeS]; go_enter Tryz.func63, Tryz.ntmps63; go_wp2; refine bodyPost_ret (v := .agg #[_, _]) (by simp [results, Tryz.results63, go_sem ]) rfl ⟨rfl, ?_⟩; repeat (first | exact Ext.refl _ | exact Ext.trans (by assumption) (by assumption) | assumption | refine Ext.alloc ?_ _ | refine Ext.drew ?_ | refine Ext.drewN ?_ _ | refine Ext.setCell ?_ (by simp) _)

set_option maxHeartbeats 8000000
theorem made_text (s : ByteArray) (w : World) (hs : s.size ≤ 2000) (hg : SgIs w) : Calls Tryz.prog 63 #[(V.text s).val] w fun e w' => e = .returned (.agg #[.int .i64 (madeS (.text s)).1, (madeS (.text s)).2.val]) ∧ Ext w w' := by
  obtain ⟨b, o, c, g1, g2, g3, g4, g5, g6⟩ := hg
  have G6 := Lib.hid g6
  clear g6
  have HP : Hid (madeT s 6 0 = madeS (.text s)) := rfl
  obtain ⟨p, hp⟩ : ∃ p, madeS (.text s) = p := ⟨_, rfl⟩
  rw [hp] at HP ⊢
  clear hp
  obtain ⟨pv, hpv⟩ : ∃ pv, p.2.val = pv := ⟨_, rfl⟩
  have HPV := Lib.hid hpv
  rw [hpv]
  clear hpv
  simp only [V.val]
  go_enter Tryz.func63, Tryz.ntmps63
  go_wp2
  go_loopw [20] (fun i wr => ∃ k : Nat, k ≤ 6 ∧ i = .int .i64 k ∧ Hid (madeT s 6 0 = madeT s (6 - k) k) ∧ Hid (Ext w wr) ∧ Hid (wr.heap[w.heap.size]? = some (Obj.cells #[.int .i64 0, .nilIface] 114 (0, 0)))) (fun i _ => 6 - (intOf i).toNat)
  case atStart => exact ⟨0, by omega, rfl, rfl, (Ext.refl w).alloc _, heap_alloc_new w _⟩
  case round =>
    obtain ⟨k, hk, rfl, hm, hxw, hbx⟩ := hrel
    have HK : Hid (∀ W, Ext wr W → Ext wr W ∧ W.cell? ⟨w.heap.size, 0, none⟩ = some (.int .i64 0) ∧ W.cell? ⟨w.heap.size, 1, none⟩ = some .nilIface ∧ W.frozen? ⟨w.heap.size, 0, none⟩ = false ∧ W.frozen? ⟨w.heap.size, 1, none⟩ = false ∧ w.heap.size < W.heap.size) := fun W hx => by
      have hlt := (Array.getElem?_eq_some_iff.1 hbx.out).1
      refine ⟨hx, ?_, ?_, ?_, ?_, Nat.lt_of_lt_of_le hlt hx.size⟩
      · rw [hx.cell (p := ⟨w.heap.size, 0, none⟩) hlt]; unfold World.cell?; rw [hbx.out]; rfl
      · rw [hx.cell (p := ⟨w.heap.size, 1, none⟩) hlt]; unfold World.cell?; rw [hbx.out]; rfl
      · rw [hx.frozen (p := ⟨w.heap.size, 0, none⟩) hlt]; unfold World.frozen?; rw [hbx.out]; rfl
      · rw [hx.frozen (p := ⟨w.heap.size, 1, none⟩) hlt]; unfold World.frozen?; rw [hbx.out]; rfl
    by_cases hlt : k < 6
    · have hc : wr.cell? ⟨b, o + k, none⟩ = some (.string (sgn k)) := (hxw.out.cell (p := ⟨b, o + k, none⟩) g4).trans (G6.out k hlt)
      have CP : Hid (∀ w : World, Calls Tryz.prog 86 #[.string s, .string (sgn k)] w fun e w' => e = .returned (.tuple #[.string ⟨(Lib.trimPrefix s.data.toList (sgn k).data.toList).toArray⟩, .bool (Lib.hasPrefix s.data.toList (sgn k).data.toList)]) ∧ w = w') := fun w =>
        (Tryz.strings_CutPrefix s (sgn k) w).mono fun _ _ ⟨a, b⟩ => ⟨a, b.symm⟩
      have hd : madeT s (6 - k) k = if Lib.hasPrefix s.data.toList (sgn k).data.toList = true then (sgnOp k, inputS ⟨(Lib.trimPrefix s.data.toList (sgn k).data.toList).toArray⟩) else madeT s (6 - (k + 1)) (k + 1) := by
        rw [show 6 - k = (6 - (k + 1)) + 1 by omega]; rfl
      have IN : Hid (∀ w : World, Calls Tryz.prog 89 #[.string ⟨(Lib.trimPrefix s.data.toList (sgn k).data.toList).toArray⟩] w fun e w' => e = .returned (inputS ⟨(Lib.trimPrefix s.data.toList (sgn k).data.toList).toArray⟩).val ∧ Ext w w') := fun w =>
        input_any _ w (Nat.le_trans (by show (List.toArray _).size ≤ 2000; rw [List.size_toArray]; refine Nat.le_trans (trimPrefix_size _ _) ?_; rw [Array.length_toList]; exact hs) (by decide))
      have hop : Hid ((#[.int .i64 1, .int .i64 3, .int .i64 5, .int .i64 0, .int .i64 2, .int .i64 4] : Array Value)[k]? = some (.int .i64 (sgnOp k))) := by
        show _ = _
        have : k = 0 ∨ k = 1 ∨ k = 2 ∨ k = 3 ∨ k = 4 ∨ k = 5 := by omega
        rcases this with rfl | rfl | rfl | rfl | rfl | rfl <;> rfl
      obtain ⟨rest, hrest⟩ : ∃ rest : ByteArray, (⟨(Lib.trimPrefix s.data.toList (sgn k).data.toList).toArray⟩ : ByteArray) = rest := ⟨_, rfl⟩
      obtain ⟨sg, hsg⟩ : ∃ sg, sgn k = sg := ⟨_, rfl⟩
      obtain ⟨hp, hhp⟩ : ∃ hp, Lib.hasPrefix s.data.toList sg.data.toList = hp := ⟨_, rfl⟩
      rw [hrest] at CP IN hd
      rw [hsg] at CP hd hc
      rw [hhp] at CP hd
      clear hrest hsg hhp
      cases hp with
      | false =>
        have HD : Hid (madeT s (6 - k) k = madeT s (6 - (k + 1)) (k + 1)) := by show _ = _; rw [hd]; rfl
        clear hd

        go_wp2_with (go_at_call 86; refine (CP.out _).mono ?_; rintro e w1 ⟨rfl, rfl⟩)
        go_roundw
        case rel => exact ⟨k + 1, by omega, by go_num, by rw [hm.out, HD.out]; rfl, hxw, hbx⟩
        case measure => simp [intOf]; omega
      | true =>
        have HD : Hid (madeT s 6 0 = (sgnOp k, inputS rest)) := by show _ = _; rw [hm.out, hd]; rfl
        obtain ⟨iv, hiv⟩ : ∃ iv, inputS rest = iv := ⟨_, rfl⟩
        rw [hiv] at HD IN
        obtain ⟨rt, rv, hrv⟩ := iv.val_iface
        have HV := Lib.hid hrv
        rw [hrv] at IN
        clear hrv hiv
        clear hd
        go_wp2_with (go_at_call 86; refine (CP.out _).mono ?_; rintro e w1 ⟨rfl, rfl⟩)
        have hcs : k = 0 ∨ k = 1 ∨ k = 2 ∨ k = 3 ∨ k = 4 ∨ k = 5 := by omega
        clear hop CP hc hm G6 hbx
        rcases hcs with rfl | rfl | rfl | rfl | rfl | rfl
        all_goals go_region_with (go_at_call 89; refine (IN.out _).mono ?_; rintro e w3 ⟨rfl, hx3⟩; (first | (have hE : Ext wr w3 := Ext.trans (Ext.drew (Ext.refl _)) hx3) | (have hE : Ext wr w3 := Ext.trans (Ext.alloc (Ext.drew (Ext.refl _)) _) hx3) | (have hE : Ext wr w3 := hx3) | (have hE : Ext wr w3 := Ext.trans (Ext.alloc (Ext.refl _) _) hx3)); obtain ⟨_, hk0, hk1, hk2, hk3, hl3⟩ := HK.out w3 hE; obtain ⟨hc3, hf3⟩ := hx3.reads)
        all_goals go_wp2
        all_goals obtain rfl := HP.out.symm.trans HD.out
        all_goals rw [← HPV.out, HV.out]
        all_goals refine bodyPost_ret (v := .agg #[_, _]) (by simp [results, Tryz.results63, go_sem , hk0, hk1, hl3, sgnOp]) rfl ⟨rfl, ?_⟩
        all_goals first
          | exact Ext.setCell (Ext.setCell (hxw.out.trans (by assumption)) (Nat.le_refl _) _) (Nat.le_refl _) _
          | exact Ext.alloc (Ext.setCell (Ext.setCell (hxw.out.trans (by assumption)) (Nat.le_refl _) _) (Nat.le_refl _) _) _
    · have HD : Hid (madeT s 6 0 = (0, inputS s)) := by show _ = _; rw [hm.out, show k = 6 by omega]; rfl
      have IN : Hid (∀ w : World, Calls Tryz.prog 89 #[.string s] w fun e w' => e = .returned (inputS s).val ∧ Ext w w') := fun w => input_any _ w (by omega)
      obtain ⟨iv, hiv⟩ : ∃ iv, inputS s = iv := ⟨_, rfl⟩
      rw [hiv] at HD IN
      obtain ⟨rt, rv, hrv⟩ := iv.val_iface
      have HV := Lib.hid hrv
      rw [hrv] at IN
      clear hrv hiv
      go_wp2_with (go_at_call 89; refine (IN.out _).mono ?_; rintro e w3 ⟨rfl, hx3⟩; obtain ⟨_, hk0, hk1, hk2, hk3, hl3⟩ := HK.out w3 hx3)
      obtain rfl := HP.out.symm.trans HD.out
      rw [← HPV.out, HV.out]
      refine bodyPost_ret (v := .agg #[_, _]) (by simp [results, Tryz.results63, go_sem , hk0, hk1]) rfl ⟨rfl, ?_⟩
      refine Ext.setCell (Ext.setCell (hxw.out.trans hx3) (Nat.le_refl _) _) (Nat.le_refl _) _

theorem rule_any (v : V) (w : World) (hv : v.Good) (hg : SgIs w) : Calls Tryz.prog 63 #[v.val] w fun e w' => e = .returned (.agg #[.int .i64 (madeS v).1, (madeS v).2.val]) ∧ Ext w w' := by
  cases v with
  | text s => exact made_text s w hv hg
  | blank => exact made_other _ w rfl
  | num n => exact made_other _ w rfl
  | bool b => exact made_other _ w rfl
  | fail n => exact made_other _ w rfl
theorem errAt_le (g : ByteArray) : ∀ f k m, errAt g f k = some m → m < k + f
  | 0, k, m, h => by simp [errAt] at h
  | f + 1, k, m, h => by
    unfold errAt at h
    split at h
    · simp at h; omega
    · have := errAt_le g f (k + 1) m h; omega
theorem inputS_good (s : ByteArray) (hs : s.size ≤ 2000) : (inputS s).Good := by
  unfold inputS
  split
  · show (List.toArray _).size ≤ 2000
    rw [List.size_toArray]
    refine Nat.le_trans (trimPrefix_size _ _) ?_
    rw [Array.length_toList]; exact hs
  · split
    · exact parse_num _
    · unfold inputT
      split
      · trivial
      · split
        · trivial
        · split
          · trivial
          · split
            · rename_i k hk
              have := errAt_le _ _ _ _ hk
              show (1 : Int) ≤ (k + 1 : Int) ∧ (k + 1 : Int) ≤ 7
              omega
            · exact hs
theorem madeT_good (s : ByteArray) (hs : s.size ≤ 2000) : ∀ f k, (0 ≤ (madeT s f k).1 ∧ (madeT s f k).1 ≤ 5) ∧ (madeT s f k).2.Good
  | 0, k => ⟨⟨by simp [madeT], by simp [madeT]⟩, inputS_good s hs⟩
  | f + 1, k => by
    unfold madeT
    split
    · refine ⟨?_, inputS_good _ ?_⟩
      · show 0 ≤ sgnOp k ∧ sgnOp k ≤ 5
        unfold sgnOp
        match k with
        | 0 => decide
        | 1 => decide
        | 2 => decide
        | 3 => decide
        | 4 => decide
        | 5 => decide
        | k + 6 => simp
      · show (List.toArray _).size ≤ 2000
        rw [List.size_toArray]
        refine Nat.le_trans (trimPrefix_size _ _) ?_
        rw [Array.length_toList]; exact hs
    · exact madeT_good s hs f (k + 1)
theorem madeS_good (v : V) (hv : v.Good) : (0 ≤ (madeS v).1 ∧ (madeS v).1 ≤ 5) ∧ (madeS v).2.Good := by
  cases v with
  | text s => exact madeT_good s hv 6 0
  | blank => exact ⟨⟨by simp [madeS], by simp [madeS]⟩, hv⟩
  | num n => exact ⟨⟨by simp [madeS], by simp [madeS]⟩, hv⟩
  | bool b => exact ⟨⟨by simp [madeS], by simp [madeS]⟩, hv⟩
  | fail n => exact ⟨⟨by simp [madeS], by simp [madeS]⟩, hv⟩
end Go.Proofs.YtphjmbaifkneiaaGreatDoor
