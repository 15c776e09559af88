/- What layer 15's Great and trim come to, and how a test cuts a text. -/
import Derived.Test.YtphjmbaifkneiaaGreatDoorD1
import Derived.Laws.IdiomStrings
import Derived.Lib.ConvBytes
namespace Go.Proofs.YtphjmbaifkneiaaGreatDoor
open Go.RowKit

set_option maxHeartbeats 400000
set_option maxRecDepth 100000

def up (c : UInt8) : UInt8 := if 97 ≤ c.toNat ∧ c.toNat ≤ 122 then c - 32 else c
def upTo (l : List UInt8) (k : Nat) : List UInt8 := (l.take k).map up ++ l.drop k
def greatS (s : ByteArray) : ByteArray := ⟨(s.data.toList.map up).toArray⟩
def trimS (s : ByteArray) : ByteArray := ⟨(Lib.trimB s.data.toList 32).toArray⟩

theorem upTo_length (l : List UInt8) (k : Nat) : (upTo l k).length = l.length := by simp [upTo]; omega
theorem upTo_get (l : List UInt8) (k j : Nat) (h : j < l.length) : (upTo l k)[j]? = some (if j < k then up l[j] else l[j]) := by
  unfold upTo
  rw [List.getElem?_append]
  simp only [List.length_map, List.length_take]
  by_cases hj : j < k
  · rw [if_pos (by omega), if_pos hj]; simp [hj, h]
  · rw [if_neg (by omega), if_neg hj, List.getElem?_drop]
    rw [show k + (j - min k l.length) = j by omega]; simp [h]
theorem upTo_all (l : List UInt8) (k : Nat) (h : l.length ≤ k) : upTo l k = l.map up := by
  simp [upTo, List.take_of_length_le h, List.drop_eq_nil_of_le h]

/-- A row of bytes, not marked. -/
def ByteRow (w : World) (g : Nat) (l : List UInt8) : Prop := ∀ j (h : j < l.length), w.cell? ⟨g, j, none⟩ = some (.int .u8 (l[j].toNat : Int)) ∧ w.frozen? ⟨g, j, none⟩ = false

theorem trim_any (s : ByteArray) (w : World) (hs : s.size ≤ 9223372036854775807) : Calls Tryz.prog 56 #[.string s] w fun e w' => e = .returned (.string (trimS s)) ∧ Ext w w' := by
  have M : Hid (∀ w : World, Calls Tryz.prog 81 #[.string s, .string ⟨#[32]⟩] w fun e w' => e = .returned (.string (trimS s)) ∧ Ext w w') := fun w =>
    (Tryz.strings_Trim_one s 32 (by decide) w hs).mono fun _ _ ⟨a, b⟩ => ⟨a, by rcases b with rfl | rfl <;> repeat (first | exact Ext.refl _ | exact Ext.trans (by assumption) (by assumption) | assumption | refine Ext.alloc ?_ _ | refine Ext.drew ?_ | refine Ext.drewN ?_ _ | refine Ext.setCell ?_ (by simp) _)⟩
  go_enter Tryz.func56, Tryz.ntmps56
  go_wp2_with (go_at_call 81; refine (M.out _).mono ?_; rintro e w' ⟨rfl, hb⟩)
  go_ret
  exact ⟨rfl, hb⟩

theorem cut_any (s : ByteArray) (n : Nat) (w : World) (hn : n ≤ 10000) :
    Calls Tryz.prog 18 #[.string s, .int .i64 n] w fun e w' => e = .returned (.string (s.extract 0 (min n s.size))) ∧ w = w' := by
  by_cases h : (n : Int) < (s.size : Int)
  · have e : min n s.size = n := by omega
    rw [e]
    go_enter Tryz.func18, Tryz.ntmps18
    go_wp2
    go_ret
    exact ⟨rfl, rfl⟩
  · have e : s.extract 0 (min n s.size) = s := by rw [show min n s.size = s.size by omega]; simp
    have E := Lib.hid e
    clear e
    go_enter Tryz.func18, Tryz.ntmps18
    go_wp2
    go_ret
    rw [E.out]
    exact ⟨rfl, rfl⟩

theorem bytes_row (w : World) (s : ByteArray) : ByteRow (Lib.bytesWorld w 5 s) w.heap.size s.data.toList := by
  intro j hj
  have hj' : j < s.size := by simpa using hj
  refine ⟨?_, ?_⟩
  · rw [Lib.bytesWorld_cell w 5 s j hj']
    simp [List.getD, List.getElem?_eq_getElem hj]
  · unfold World.frozen?
    simp only [Lib.bytesWorld_at_new]
    have : s.size ≤ (Lib.bytesCells w 5 s).size := by simp [Lib.bytesCells]
    simp; omega
theorem bytes_ext (w : World) (s : ByteArray) : Ext w (Lib.bytesWorld w 5 s) :=
  ⟨by simp [Lib.bytesWorld, World.freeze, World.alloc, World.drew, -World.alloc_eq, -World.drew_eq], by simp [Lib.bytesWorld, World.freeze, World.alloc, World.drew, -World.alloc_eq, -World.drew_eq], by simp [Lib.bytesWorld, World.freeze, World.alloc, World.drew, -World.alloc_eq, -World.drew_eq], by rw [Lib.bytesWorld_size]; omega, fun k hk => Lib.bytesWorld_at_old w 5 s k hk⟩

/-- One byte more is raised. -/
theorem ByteRow.step {w : World} {g : Nat} {l : List UInt8} {k : Nat} (h : ByteRow w g (upTo l k)) (hk : k < l.length) (hup : up l[k] = l[k]) : ByteRow w g (upTo l (k + 1)) := by
  have e : upTo l (k + 1) = upTo l k := by
    refine List.ext_getElem? fun j => ?_
    rcases Nat.lt_or_ge j l.length with hj | hj
    · rw [upTo_get _ _ _ hj, upTo_get _ _ _ hj]
      by_cases h1 : j < k
      · rw [if_pos h1, if_pos (by omega)]
      · by_cases h2 : j = k
        · subst h2; rw [if_pos (by omega), if_neg h1, hup]
        · rw [if_neg h1, if_neg (by omega)]
    · rw [List.getElem?_eq_none (by rw [upTo_length]; exact hj), List.getElem?_eq_none (by rw [upTo_length]; exact hj)]
  rw [e]; exact h
theorem ByteRow.store {w : World} {g : Nat} {l : List UInt8} {k : Nat} (h : ByteRow w g (upTo l k)) (hk : k < l.length) :
    ByteRow (w.setCell ⟨g, k, none⟩ (.int .u8 ((up l[k]).toNat : Int))) g (upTo l (k + 1)) := by
  intro j hj
  rw [upTo_length] at hj
  have hjl : j < (upTo l k).length := by rw [upTo_length]; exact hj
  obtain ⟨h1, h2⟩ := h j hjl
  have e1 : (upTo l (k + 1))[j]'(by rw [upTo_length]; exact hj) = if j < k + 1 then up l[j] else l[j] := by
    have := upTo_get l (k + 1) j hj
    rw [List.getElem?_eq_getElem (by rw [upTo_length]; exact hj)] at this
    exact Option.some.inj this
  have e2 : (upTo l k)[j] = if j < k then up l[j] else l[j] := by
    have := upTo_get l k j hj
    rw [List.getElem?_eq_getElem hjl] at this
    exact Option.some.inj this
  rw [e1]
  rw [e2] at h1
  refine ⟨?_, by rw [World.frozen?_setCell]; exact h2⟩
  by_cases hjk : j = k
  · subst hjk
    rw [if_pos (by omega)]
    exact World.cell?_setCell_same _ _ _ h1
  · rw [World.cell?_setCell_other _ _ _ _ (by intro e; injection e; omega)]
    by_cases h3 : j < k
    · rw [if_pos h3] at h1; rw [if_pos (by omega)]; exact h1
    · rw [if_neg h3] at h1; rw [if_neg (by omega)]; exact h1

theorem great_any (s : ByteArray) (w : World) (hs : s.size ≤ 9223372036854775807) : Calls Tryz.prog 55 #[.string s] w fun e w' => e = .returned (.string (greatS s)) ∧ Ext w w' := by
  obtain ⟨w1, cap, hconv, hrow, hext⟩ : ∃ (w1 : World) (cap : Nat), (∀ u : World, u = w → (convert 9 135 (.string s)).run Tryz.prog u = .ok (.slice (some ⟨w.heap.size, 0, none⟩) s.size cap) w1) ∧ ByteRow w1 w.heap.size s.data.toList ∧ Ext w w1 :=
    ⟨_, _, fun u hu => by subst hu; exact Lib.run_convert_string_bytes u _ _ _ s Tryz.underlying9 Tryz.underlying135 Tryz.underlying5, bytes_row w s, bytes_ext w s⟩
  have hc := hconv w rfl
  clear hconv
  have hsz : Hid (s.data.toList.length = s.size) := by show s.data.toList.length = s.size; simp
  go_enter Tryz.func55, Tryz.ntmps55
  go_wp2
  go_loopw [10] (fun i wr => ∃ k : Nat, k ≤ s.size ∧ i = .int .i64 k ∧ ByteRow wr w.heap.size (upTo s.data.toList k) ∧ Ext w wr) (fun i _ => s.size - (intOf i).toNat)
  case atStart => exact ⟨0, Nat.zero_le _, rfl, by simpa [upTo] using hrow, hext⟩
  case round =>
    clear hc hrow hext
    obtain ⟨k, hk, rfl, hrow, hext⟩ := hrel
    by_cases hlt : k < s.size
    · have hkl : k < s.data.toList.length := by rw [hsz.out]; exact hlt
      have hkl2 : k < (upTo s.data.toList k).length := by rw [upTo_length]; exact hkl
      obtain ⟨h1, h2⟩ := hrow k hkl2
      have e2 : (upTo s.data.toList k)[k] = s.data.toList[k] := by
        have := upTo_get s.data.toList k k hkl
        rw [List.getElem?_eq_getElem hkl2, if_neg (by omega)] at this
        exact Option.some.inj this
      rw [e2] at h1
      have HR := Lib.hid hrow
      have HX := Lib.hid hext
      clear hrow hext e2
      obtain ⟨c, hcc⟩ : ∃ c, s.data.toList[k] = c := ⟨_, rfl⟩
      rw [hcc] at h1
      have HC := Lib.hid hcc
      clear hcc
      have hb := c.toNat_lt
      by_cases hup : (97 : Int) ≤ (c.toNat : Int) ∧ (c.toNat : Int) ≤ 122
      · have hst := HR.out.store hkl
        rw [HC.out] at hst
        have e : ((up c).toNat : Int) = (c.toNat : Int) - 32 := by
          unfold up; rw [if_pos (by omega), UInt8.toNat_sub_of_le _ _ (by rw [UInt8.le_iff_toNat_le]; show 32 ≤ _; omega)]; simp; omega
        rw [e] at hst
        have HS := Lib.hid hst
        clear hst e
        obtain ⟨u1, u2⟩ := hup
        go_wp2
        go_roundw
        case rel => exact ⟨k + 1, by omega, by go_num, HS.out, HX.out.setCell (Nat.le_refl _) _⟩
        case measure => simp [intOf]; omega
      · have HS := Lib.hid (HR.out.step hkl (by rw [HC.out]; unfold up; rw [if_neg (by omega)]))
        by_cases u1 : (97 : Int) ≤ (c.toNat : Int)
        · have u2 : ¬ (c.toNat : Int) ≤ 122 := fun h => hup ⟨u1, h⟩
          clear hup
          go_wp2
          go_roundw
          case rel => exact ⟨k + 1, by omega, by go_num, HS.out, HX.out⟩
          case measure => simp [intOf]; omega
        · clear hup
          go_wp2
          go_roundw
          case rel => exact ⟨k + 1, by omega, by go_num, HS.out, HX.out⟩
          case measure => simp [intOf]; omega
    · have e := upTo_all s.data.toList k (by rw [hsz.out]; omega)
      rw [e] at hrow
      have hl : (s.data.toList.map up).length = s.size := by rw [List.length_map, hsz.out]
      have hback := run_convert_bytes_back (P := Tryz.prog) wr 135 9 5 ⟨w.heap.size, 0, none⟩ cap (s.data.toList.map up) Tryz.underlying135 Tryz.underlying5 Tryz.underlying9 (fun j hj => by
        have := (hrow j hj).1
        by_cases h0 : j = 0
        · subst h0; simpa [Addr.add] using this
        · simpa [Addr.add, h0] using this)
      rw [hl] at hback
      have HX := Lib.hid hext
      clear hrow e hl hext
      go_wp2
      go_ret
      exact ⟨rfl, HX.out⟩
end Go.Proofs.YtphjmbaifkneiaaGreatDoor
