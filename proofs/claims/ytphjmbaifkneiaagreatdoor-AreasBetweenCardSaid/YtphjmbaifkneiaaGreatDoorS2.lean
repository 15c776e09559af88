/- What layer 11's Signs and Errors come to: are a text's bytes signs? -/
import Derived.Test.YtphjmbaifkneiaaGreatDoorS1
import Derived.Deep.LoopGhost
import Derived.Lib.OthersKept
import Derived.Lib.TrimU
namespace Go.Proofs.YtphjmbaifkneiaaGreatDoor
open Go.RowKit

set_option maxHeartbeats 400000
set_option maxRecDepth 100000

/-- The tables of package unicode/utf8, as they lie. -/
def Tabs (w : World) : Prop := Lib.Utf8Tabs 1 2 w ∧ 3 ≤ w.heap.size
theorem Tabs.ext {w w' : World} (h : Tabs w) (hx : Ext w w') : Tabs w' := by
  refine ⟨⟨fun c hc => ?_, fun i hi => ⟨?_, ?_⟩⟩, Nat.le_trans h.2 hx.size⟩
  · rw [hx.cell (by have := h.2; dsimp only; omega)]; exact h.1.1 c hc
  · rw [hx.cell (by have := h.2; dsimp only; omega)]; exact (h.1.2 i hi).1
  · rw [hx.cell (by have := h.2; dsimp only; omega)]; exact (h.1.2 i hi).2

/-- Signs, from place pos on, n of them counted; by at most so many rounds. -/
def signsFrom (s : ByteArray) : Nat → Nat → Nat → Int × Bool
  | 0, _, _ => (0, false)
  | f + 1, pos, n => if pos < s.size then (if (Utf8.decode s pos).1 = 65533 ∧ (Lib.decodeGo (s.extract pos s.size)).2 = 1 then (0, false) else signsFrom s f (pos + (Utf8.decode s pos).2) (n + 1)) else (n, true)
def signs (s : ByteArray) : Int × Bool := signsFrom s (s.size + 1) 0 0

theorem iter_round {w wr : World} {s : ByteArray} {pos : Nat} (hx : Ext w wr) (hi : wr.heap[w.heap.size]? = some (.stringIter s pos)) (hp : pos < s.size) :
    ∃ w2, (∀ ty, (Instr.next (.pointer (some ⟨w.heap.size, 0, none⟩)) true ty).run Tryz.prog wr = .ok (.tuple #[.bool true, .int .i64 pos, .int .i32 (Utf8.decode s pos).1]) w2) ∧ Ext w w2 ∧ w2.heap[w.heap.size]? = some (.stringIter s (pos + (Utf8.decode s pos).2)) := by
  refine ⟨_, fun ty => Lib.run_next_any_at wr w.heap.size s pos ty hi hp, Lib.below_iterAt hx (Nat.le_refl _) _ _, Lib.iterAt_heap wr w.heap.size s pos _ hi⟩

theorem signs_any (s : ByteArray) (w : World) (hs : s.size ≤ 9223372036854775807) (hT : Tabs w) : Calls Tryz.prog 41 #[.string s] w fun e w' => e = .returned (.tuple #[.int .i64 (signs s).1, .bool (signs s).2]) ∧ Ext w w' := by
  have HT := Lib.hid hT
  clear hT
  go_enter Tryz.func41, Tryz.ntmps41
  go_wp2
  go_loopg [4] (s.size + 1) (fun kq v wr => ∃ pos n : Nat, v = .int .i64 n ∧ n ≤ pos ∧ Hid (signsFrom s kq pos n = signs s) ∧ Hid (s.size < pos + kq ∧ 1 ≤ kq) ∧ Ext w wr ∧ Hid (wr.heap[w.heap.size]? = some (.stringIter s pos)))
  case atStart => exact ⟨0, 0, rfl, Nat.le_refl _, rfl, ⟨by omega, by omega⟩, by repeat (first | exact Ext.refl _ | exact Ext.trans (by assumption) (by assumption) | assumption | refine Ext.alloc ?_ _ | refine Ext.drew ?_ | refine Ext.drewN ?_ _ | refine Ext.setCell ?_ (by simp) _), World.iter_heap w s 0⟩
  case round =>
    obtain ⟨pos, n, rfl, hnp, hsg, hk, hext, hit⟩ := hrel
    by_cases hp : pos < s.size
    · obtain ⟨w2, hnext, hx2, hi2⟩ := iter_round hext hit.out hp
      have HX := Lib.hid hx2
      have HI := Lib.hid hi2
      clear hext hit hx2 hi2
      have hw := Lib.width_pos s pos
      cases gk with
      | zero => exact absurd hk.out.2 (by omega)
      | succ f =>
        have hsg' := hsg.out
        simp only [signsFrom] at hsg'
        rw [if_pos hp] at hsg'
        by_cases h6 : ((Utf8.decode s pos).1 : Int) = 65533
        · have h6b : (((Utf8.decode s pos).1 : Int) == 65533) = true := by simpa using h6
          have DR : Hid (∀ W : World, Ext w W → Calls Tryz.prog 74 #[.string (s.extract pos s.size)] W fun e W' => e = .returned (.tuple #[.int .i32 (Lib.decodeGo (s.extract pos s.size)).1, .int .i64 (Lib.decodeGo (s.extract pos s.size)).2]) ∧ Ext W W') :=
            fun W hW => Tryz.utf8_DecodeRuneInString _ W (HT.out.ext hW).1
          by_cases h1 : ((Lib.decodeGo (s.extract pos s.size)).2 : Int) = 1
          · have h1b : (((Lib.decodeGo (s.extract pos s.size)).2 : Int) == 1) = true := by simpa using h1
            rw [if_pos ⟨by omega, by omega⟩] at hsg'
            have e := Lib.hid hsg'
            clear hsg' hsg h1 h6
            go_wp2_with (go_at_call 74; refine (DR.out _ HX.out).mono ?_; rintro e w' ⟨rfl, hb⟩)
            go_ret2
            rw [← e.out]
            exact ⟨rfl, HX.out.trans hb⟩
          · have h1b : (((Lib.decodeGo (s.extract pos s.size)).2 : Int) == 1) = false := by simpa using h1
            rw [if_neg (by omega)] at hsg'
            have e := Lib.hid hsg'
            clear hsg' hsg h1 h6
            go_wp2_with (go_at_call 74; refine (DR.out _ HX.out).mono ?_; rintro e w' ⟨rfl, hb⟩)
            go_roundg f
            case measure => omega
            case rel => exact ⟨pos + (Utf8.decode s pos).2, n + 1, by go_num, by omega, e, by have := hk.out; exact ⟨by omega, by omega⟩, HX.out.trans hb, (hb.block _ (Array.getElem?_eq_some_iff.1 HI.out).1).trans HI.out⟩
        · have h6b : (((Utf8.decode s pos).1 : Int) == 65533) = false := by simpa using h6
          rw [if_neg (by omega)] at hsg'
          have e := Lib.hid hsg'
          clear hsg' hsg h6
          go_wp2
          go_roundg f
          case measure => omega
          case rel => exact ⟨pos + (Utf8.decode s pos).2, n + 1, by go_num, by omega, e, by have := hk.out; exact ⟨by omega, by omega⟩, HX.out, HI.out⟩
    · have hnext := fun ty => Lib.run_next_end_at (P := Tryz.prog) wr w.heap.size s pos ty hit.out hp
      have HX := Lib.hid hext
      have e : Hid (signs s = ((n : Int), true)) := by
        cases gk with
        | zero => exact absurd hk.out.2 (by omega)
        | succ f => have := hsg.out; simp only [signsFrom] at this; rw [if_neg hp] at this; exact this.symm
      clear hsg hit hext
      go_wp2
      go_ret2
      rw [e.out]
      exact ⟨rfl, HX.out⟩

/-- The errors' names. -/
def errNames : List ByteArray := [⟨#[35, 68, 73, 86, 47, 48, 33]⟩, ⟨#[35, 78, 85, 77, 33]⟩, ⟨#[35, 86, 65, 76, 85, 69, 33]⟩, ⟨#[35, 82, 69, 70, 33]⟩, ⟨#[35, 78, 47, 65]⟩, ⟨#[35, 78, 65, 77, 69, 63]⟩, ⟨#[35, 67, 89, 67, 76, 69, 33]⟩]
theorem errors_any (w : World) : Calls Tryz.prog 42 #[] w fun e w' => e = .returned (.slice (some ⟨w.heap.size, 0, none⟩) 7 7) ∧ w.alloc (.cells (errNames.map Value.string).toArray 9) = w' := by
  go_enter Tryz.func42, Tryz.ntmps42
  go_wp2
  go_ret
  exact ⟨rfl, rfl⟩
end Go.Proofs.YtphjmbaifkneiaaGreatDoor
