/- What strings.Cut at a full stop and layer 1's Parse come to, of any text. -/
import Derived.Test.YtphjmbaifkneiaaGreatDoorS2
import Derived.Test.YtphjmbaifkneiaaGreatDoorD5
import Derived.Deep.QuietTactic
import Derived.BigQuiet
namespace Go.Proofs.YtphjmbaifkneiaaGreatDoor
open Go.RowKit

set_option maxHeartbeats 400000
set_option maxRecDepth 100000

def dotCut (l : List UInt8) : List UInt8 × List UInt8 × Bool :=
  if 0 ≤ Lib.indexByte l 46 then (l.take (Lib.indexByte l 46).toNat, l.drop ((Lib.indexByte l 46).toNat + 1), true) else (l, [], false)

theorem ext_take (s : ByteArray) (k : Nat) : s.extract 0 k = ⟨(s.data.toList.take k).toArray⟩ := by
  apply ByteArray.ext; apply Array.toList_inj.1; rw [Lib.extract_data]; simp
theorem ext_drop (s : ByteArray) (k : Nat) : s.extract k s.size = ⟨(s.data.toList.drop k).toArray⟩ := by
  apply ByteArray.ext; apply Array.toList_inj.1; rw [Lib.extract_data]
  rw [List.take_of_length_le (by simp)]
theorem indexByte_lt (s : ByteArray) (c : UInt8) : Lib.indexByte s.data.toList c < (s.size : Int) := by
  have h1 := Lib.indexByte_ge s.data.toList c
  by_cases h : 0 ≤ Lib.indexByte s.data.toList c
  · obtain ⟨k, hk⟩ := Int.eq_ofNat_of_zero_le h
    have := (Lib.indexByte_some (o := k) hk).1
    have := (List.getElem?_eq_some_iff.1 this).1
    rw [hk]; simp at this; omega
  · omega
theorem eta (s : ByteArray) : s = ⟨s.data.toList.toArray⟩ := by apply ByteArray.ext; simp

theorem dotCut_length (l : List UInt8) : (dotCut l).1.length + (dotCut l).2.1.length ≤ l.length := by
  unfold dotCut; split
  · simp; omega
  · simp
theorem dotCut_none (l : List UInt8) : (dotCut l).2.2 = false → (dotCut l).2.1 = [] := by
  unfold dotCut; split <;> simp

theorem dotCut_any (s : ByteArray) (w : World) (hs : s.size ≤ 100000) :
    Calls Tryz.prog 109 #[.string s, .string ⟨#[46]⟩] w fun e w' => e = .returned (.tuple #[.string ⟨(dotCut s.data.toList).1.toArray⟩, .string ⟨(dotCut s.data.toList).2.1.toArray⟩, .bool (dotCut s.data.toList).2.2]) ∧ Ext w w' := by
  have M : Hid (∀ w : World, Calls Tryz.prog 130 #[.string s, .string ⟨#[46]⟩] w fun e w' => e = .returned (.int .i64 (Lib.indexByte s.data.toList 46)) ∧ w = w') := fun w =>
    (Tryz.stringslite_Index_one s 46 w).mono fun _ _ ⟨a, b⟩ => ⟨a, b.symm⟩
  obtain ⟨i, hi⟩ : ∃ i, Lib.indexByte s.data.toList 46 = i := ⟨_, rfl⟩
  rw [hi] at M
  have hlt : i < (s.size : Int) := by rw [← hi]; exact indexByte_lt s 46
  have F : Hid (dotCut s.data.toList = if 0 ≤ i then (s.data.toList.take i.toNat, s.data.toList.drop (i.toNat + 1), true) else (s.data.toList, [], false)) := by
    show dotCut s.data.toList = _
    unfold dotCut; rw [hi]
  clear hi
  by_cases h0 : 0 ≤ i
  · obtain ⟨k, rfl⟩ := Int.eq_ofNat_of_zero_le h0
    have l1 : (k : Int) + 1 ≤ (s.size : Int) := by omega
    have l2 : IntKind.i64.wrap ((k : Int) + 1) = (k : Int) + 1 := IntWalk.i64_in _ (by omega)
    have l3 : ((k : Int) + 1).toNat = k + 1 := by omega
    go_enter Tryz.func109, Tryz.ntmps109
    go_wp2_with (go_at_call 130; refine (M.out _).mono ?_; rintro e w' ⟨rfl, rfl⟩)
    go_quiet (fail)
    go_wp2
    go_ret3
    rw [F.out, if_pos h0]
    refine ⟨?_, by repeat (first | exact Ext.refl _ | exact Ext.trans (by assumption) (by assumption) | assumption | refine Ext.alloc ?_ _ | refine Ext.drew ?_ | refine Ext.drewN ?_ _ | refine Ext.setCell ?_ (by simp) _)⟩
    show Ending.returned (.tuple #[.string (s.extract 0 k), .string (s.extract (k + 1) s.size), .bool true]) = _
    rw [ext_take, ext_drop]; rfl
  · go_enter Tryz.func109, Tryz.ntmps109
    go_wp2_with (go_at_call 130; refine (M.out _).mono ?_; rintro e w' ⟨rfl, rfl⟩)
    go_ret3
    rw [F.out, if_neg (by omega)]
    refine ⟨?_, by repeat (first | exact Ext.refl _ | exact Ext.trans (by assumption) (by assumption) | assumption | refine Ext.alloc ?_ _ | refine Ext.drew ?_ | refine Ext.drewN ?_ _ | refine Ext.setCell ?_ (by simp) _)⟩
    show Ending.returned (.tuple #[.string s, .string ⟨#[]⟩, .bool false]) = _
    rw [eta s]

theorem sdotCut_any (s : ByteArray) (w : World) (hs : s.size ≤ 100000) :
    Calls Tryz.prog 87 #[.string s, .string ⟨#[46]⟩] w fun e w' => e = .returned (.tuple #[.string ⟨(dotCut s.data.toList).1.toArray⟩, .string ⟨(dotCut s.data.toList).2.1.toArray⟩, .bool (dotCut s.data.toList).2.2]) ∧ Ext w w' := by
  go_enter Tryz.func87, Tryz.ntmps87
  go_wp2_with (go_at_call 109; refine (dotCut_any _ _ hs).mono ?_; rintro e w' ⟨rfl, hb⟩)
  go_ret3
  exact ⟨rfl, hb⟩

/-- The digits' number; none: a byte is no digit, or the number is too great. -/
def digitsN : List UInt8 → Nat → Option Nat
  | [], n => some n
  | c :: l, n => if c.toNat < 48 ∨ 57 < c.toNat ∨ 99999999999999999 < n then none else digitsN l (10 * n + (c.toNat - 48))
/-- Parse, of the bytes behind the sign. -/
def parseBody (minus : Bool) (b : List UInt8) : Int × Bool :=
  if (dotCut b).1 = [] ∨ ((dotCut b).2.2 = true ∧ ((dotCut b).2.1 = [] ∨ 4 < (dotCut b).2.1.length)) then (0, false) else
    match digitsN ((dotCut b).1 ++ (dotCut b).2.1 ++ List.replicate (4 - (dotCut b).2.1.length) 48) 0 with
    | none => (0, false)
    | some n => madeD minus n
def parseS (s : ByteArray) : Int × Bool := parseBody (Lib.hasPrefix s.data.toList [45]) (Lib.trimPrefix s.data.toList [45])

theorem conv_any (s : ByteArray) (w : World) : ∃ (w1 : World) (cap : Nat), (convert 9 135 (.string s)).run Tryz.prog w = .ok (.slice (some ⟨w.heap.size, 0, none⟩) s.size cap) w1 ∧ ByteRow w1 w.heap.size s.data.toList ∧ Ext w w1 :=
  ⟨_, _, Lib.run_convert_string_bytes w _ _ _ s Tryz.underlying9 Tryz.underlying135 Tryz.underlying5, bytes_row w s, bytes_ext w s⟩
theorem parse_text {wl pl : List UInt8} (h : (pl.length : Int) ≤ 4) : ∃ X : ByteArray, ((⟨wl.toArray⟩ : ByteArray) ++ ⟨pl.toArray⟩ ++ (⟨#[48, 48, 48, 48]⟩ : ByteArray).extract pl.length 4) = X ∧ X.data.toList = wl ++ pl ++ List.replicate (4 - pl.length) 48 := by
  refine ⟨_, rfl, ?_⟩
  have e : ((⟨#[48, 48, 48, 48]⟩ : ByteArray).extract pl.length 4).data.toList = List.replicate (4 - pl.length) 48 := by
    rw [Lib.extract_data]
    have h4 : pl.length = 0 ∨ pl.length = 1 ∨ pl.length = 2 ∨ pl.length = 3 ∨ pl.length = 4 := by omega
    rcases h4 with h4 | h4 | h4 | h4 | h4 <;> rw [h4] <;> rfl
  simp only [ByteArray.data_append, Array.toList_append, e]
/-- What a digit does. -/
theorem digits_step {l : List UInt8} {k n : Nat} {c : UInt8} (hk : l[k]? = some c) (h1 : 48 ≤ c.toNat) (h2 : c.toNat ≤ 57) (h3 : n ≤ 99999999999999999) : digitsN (l.drop k) n = digitsN (l.drop (k + 1)) (10 * n + (c.toNat - 48)) := by
  obtain ⟨hlt, rfl⟩ := List.getElem?_eq_some_iff.1 hk
  rw [List.drop_eq_getElem_cons hlt]
  simp only [digitsN]
  rw [if_neg (by omega)]
theorem digits_bad {l : List UInt8} {k n : Nat} {c : UInt8} (hk : l[k]? = some c) (h : c.toNat < 48 ∨ 57 < c.toNat ∨ 99999999999999999 < n) : digitsN (l.drop k) n = none := by
  obtain ⟨hlt, rfl⟩ := List.getElem?_eq_some_iff.1 hk
  rw [List.drop_eq_getElem_cons hlt]
  simp only [digitsN]
  rw [if_pos h]

theorem parse_any (s : ByteArray) (w : World) (hs : s.size ≤ 100000) : Calls Tryz.prog 61 #[.string s] w fun e w' => e = .returned (.tuple #[.int .i64 (parseS s).1, .bool (parseS s).2]) ∧ Ext w w' := by
  have M1 : Hid (∀ w : World, Calls Tryz.prog 86 #[.string s, .string ⟨#[45]⟩] w fun e w' => e = .returned (.tuple #[.string ⟨(Lib.trimPrefix s.data.toList [45]).toArray⟩, .bool (Lib.hasPrefix s.data.toList [45])]) ∧ w = w') := fun w =>
    (Tryz.strings_CutPrefix s ⟨#[45]⟩ w).mono fun _ _ ⟨a, b⟩ => ⟨a, b.symm⟩
  obtain ⟨b, hb⟩ : ∃ b, Lib.trimPrefix s.data.toList [45] = b := ⟨_, rfl⟩
  obtain ⟨m, hm⟩ : ∃ m, Lib.hasPrefix s.data.toList [45] = m := ⟨_, rfl⟩
  have hbl : b.length ≤ 100000 := by
    rw [← hb]; unfold Lib.trimPrefix; split
    · simp; omega
    · simpa using hs
  have F : Hid (parseS s = parseBody m b) := by show parseS s = _; unfold parseS; rw [hb, hm]
  rw [hb, hm] at M1
  clear hb hm
  have M2 : Hid (∀ w : World, Calls Tryz.prog 87 #[.string ⟨b.toArray⟩, .string ⟨#[46]⟩] w fun e w' => e = .returned (.tuple #[.string ⟨(dotCut b).1.toArray⟩, .string ⟨(dotCut b).2.1.toArray⟩, .bool (dotCut b).2.2]) ∧ Ext w w') := fun w => by
    have := sdotCut_any ⟨b.toArray⟩ w (by simpa [ByteArray.size] using hbl)
    simpa using this
  obtain ⟨wl, pl, d, hd⟩ : ∃ wl pl d, dotCut b = (wl, pl, d) := ⟨_, _, _, rfl⟩
  have hl : wl.length + pl.length ≤ 100000 := by have := dotCut_length b; rw [hd] at this; dsimp only at this; omega
  rw [hd] at M2
  have F2 : Hid (parseS s = if wl = [] ∨ (d = true ∧ (pl = [] ∨ 4 < pl.length)) then (0, false) else
    match digitsN (wl ++ pl ++ List.replicate (4 - pl.length) 48) 0 with
    | none => (0, false)
    | some n => madeD m n) := by
    show parseS s = _
    rw [F.out]; unfold parseBody; rw [hd]
  have hpl : d = false → pl = [] := by have := dotCut_none b; rw [hd] at this; exact this
  clear hd F
  by_cases h1 : wl = []
  · subst h1
    go_enter Tryz.func61, Tryz.ntmps61
    go_wp2_with (first
      | (go_at_call 86; refine (M1.out _).mono ?_; rintro e w' ⟨rfl, rfl⟩)
      | (go_at_call 87; refine (M2.out _).mono ?_; rintro e w1 ⟨rfl, hx1⟩))
    go_ret2
    rw [F2.out, if_pos (by simp)]
    exact ⟨rfl, hx1⟩
  · have h1b : wl.isEmpty = false := by simpa using h1
    by_cases hbad : d = true ∧ (pl = [] ∨ 4 < pl.length)
    · have e : Hid (parseS s = (0, false)) := by show parseS s = _; rw [F2.out, if_pos (.inr hbad)]
      obtain ⟨rfl, h2⟩ := hbad
      clear hpl
      by_cases h3 : pl = []
      · subst h3
        go_enter Tryz.func61, Tryz.ntmps61
        go_wp2_with (first
          | (go_at_call 86; refine (M1.out _).mono ?_; rintro e w' ⟨rfl, rfl⟩)
          | (go_at_call 87; refine (M2.out _).mono ?_; rintro e w1 ⟨rfl, hx1⟩))
        go_ret2
        rw [e.out]
        exact ⟨rfl, hx1⟩
      · have h3b : pl.isEmpty = false := by simpa using h3
        have h4 : (4 : Int) < (pl.length : Int) := by rcases h2 with h2 | h2; exact absurd h2 h3; omega
        clear h2
        go_enter Tryz.func61, Tryz.ntmps61
        go_wp2_with (first
          | (go_at_call 86; refine (M1.out _).mono ?_; rintro e w' ⟨rfl, rfl⟩)
          | (go_at_call 87; refine (M2.out _).mono ?_; rintro e w1 ⟨rfl, hx1⟩))
        go_ret2
        rw [e.out]
        exact ⟨rfl, hx1⟩
    · have h4 : (pl.length : Int) ≤ 4 := by
        cases d with
        | false => rw [hpl rfl]; simp
        | true => have : ¬ 4 < pl.length := fun h => hbad ⟨rfl, .inr h⟩; omega
      have hdp : d = true → pl.isEmpty = false := fun h => by
        have : ¬ pl = [] := fun h5 => hbad ⟨h, .inl h5⟩
        simpa using this
      have F3 : Hid (parseS s = match digitsN (wl ++ pl ++ List.replicate (4 - pl.length) 48) 0 with
        | none => (0, false)
        | some n => madeD m n) := by show parseS s = _; rw [F2.out, if_neg (by rintro (h | h); exact h1 h; exact hbad h)]
      clear hpl hbad
      cases d
      · clear hdp
        go_enter Tryz.func61, Tryz.ntmps61
        go_wp2_with (first
          | (go_at_call 86; refine (M1.out _).mono ?_; rintro e w' ⟨rfl, rfl⟩)
          | (go_at_call 87; refine (M2.out _).mono ?_; rintro e w1 ⟨rfl, hx1⟩))
        obtain ⟨X, hX, hXl⟩ := parse_text (wl := wl) h4
        rw [hX]
        clear hX
        obtain ⟨w2, cap, hconv, hrow, hext⟩ := conv_any X w1
        rw [← hXl] at F3
        have hsz : X.size = X.data.toList.length := by simp
        have hXs : X.size ≤ 100010 := by rw [hsz, hXl]; simp only [List.length_append, List.length_replicate]; omega
        obtain ⟨dl, hdl⟩ : ∃ dl, X.data.toList = dl := ⟨_, rfl⟩
        rw [hdl] at F3 hrow hsz
        have HX := Lib.hid (hx1.trans hext)
        have HR := Lib.hid hrow
        have HS := Lib.hid hsz
        clear hdl hXl hext hrow hsz
        rw [hconv]
        go_wp2
        go_loop [9, 46] (fun x i => ∃ k n : Nat, k ≤ X.size ∧ i = .int .i64 k ∧ x = .int .u64 n ∧ (n : Int) ≤ 999999999999999999 ∧ Hid (digitsN (dl.drop k) n = digitsN dl 0)) (fun _ i => X.size - (intOf i).toNat)
        case atStart => exact ⟨0, 0, Nat.zero_le _, rfl, rfl, by decide, rfl⟩
        case round =>
          clear hconv
          obtain ⟨k, n, hk, rfl, rfl, hn, hdg⟩ := hrel
          by_cases hlt : k < X.size
          · have hkl : k < dl.length := by rw [← HS.out]; exact hlt
            obtain ⟨h7, h8⟩ := HR.out k hkl
            have hcc0 : dl[k]? = some dl[k] := List.getElem?_eq_getElem hkl
            obtain ⟨c, hcc⟩ : ∃ c, dl[k] = c := ⟨_, rfl⟩
            rw [hcc] at h7 hcc0
            have HC := Lib.hid hcc0
            clear hcc hcc0
            have hb := c.toNat_lt
            by_cases g1 : (c.toNat : Int) < 48
            · have e : Hid (parseS s = (0, false)) := by
                show parseS s = _
                rw [F3.out, ← hdg.out, digits_bad HC.out (.inl (by omega))]
              go_wp2
              go_ret2
              rw [e.out]
              exact ⟨rfl, HX.out⟩
            · by_cases g2 : (57 : Int) < (c.toNat : Int)
              · have e : Hid (parseS s = (0, false)) := by
                  show parseS s = _
                  rw [F3.out, ← hdg.out, digits_bad HC.out (.inr (.inl (by omega)))]
                go_wp2
                go_ret2
                rw [e.out]
                exact ⟨rfl, HX.out⟩
              · by_cases g3 : (99999999999999999 : Int) < (n : Int)
                · have e : Hid (parseS s = (0, false)) := by
                    show parseS s = _
                    rw [F3.out, ← hdg.out, digits_bad HC.out (.inr (.inr (by omega)))]
                  go_wp2
                  go_ret2
                  rw [e.out]
                  exact ⟨rfl, HX.out⟩
                · have e := digits_step (n := n) HC.out (by omega) (by omega) (by omega)
                  rw [hdg.out] at e
                  have E := Lib.hid e.symm
                  clear e
                  go_wp2
                  go_round
                  case rel => exact ⟨k + 1, 10 * n + (c.toNat - 48), by omega, by go_num, by go_num, by omega, E⟩
                  case measure => simp [intOf]; omega
          · have e : Hid (parseS s = madeD m n) := by
              show parseS s = _
              have := hdg.out
              rw [List.drop_eq_nil_of_le (by rw [← HS.out]; omega)] at this
              rw [F3.out, ← this]; rfl
            go_wp2_with (go_at_call 47; refine (made_any _ _ _ (by omega)).mono ?_; rintro e w' ⟨rfl, rfl⟩)
            go_ret2
            rw [e.out]
            exact ⟨rfl, HX.out⟩
      · have h5 := hdp rfl
        clear hdp
        go_enter Tryz.func61, Tryz.ntmps61
        go_wp2_with (first
          | (go_at_call 86; refine (M1.out _).mono ?_; rintro e w' ⟨rfl, rfl⟩)
          | (go_at_call 87; refine (M2.out _).mono ?_; rintro e w1 ⟨rfl, hx1⟩))
        obtain ⟨X, hX, hXl⟩ := parse_text (wl := wl) h4
        rw [hX]
        clear hX
        obtain ⟨w2, cap, hconv, hrow, hext⟩ := conv_any X w1
        rw [← hXl] at F3
        have hsz : X.size = X.data.toList.length := by simp
        have hXs : X.size ≤ 100010 := by rw [hsz, hXl]; simp only [List.length_append, List.length_replicate]; omega
        obtain ⟨dl, hdl⟩ : ∃ dl, X.data.toList = dl := ⟨_, rfl⟩
        rw [hdl] at F3 hrow hsz
        have HX := Lib.hid (hx1.trans hext)
        have HR := Lib.hid hrow
        have HS := Lib.hid hsz
        clear hdl hXl hext hrow hsz
        rw [hconv]
        go_wp2
        go_loop [9, 46] (fun x i => ∃ k n : Nat, k ≤ X.size ∧ i = .int .i64 k ∧ x = .int .u64 n ∧ (n : Int) ≤ 999999999999999999 ∧ Hid (digitsN (dl.drop k) n = digitsN dl 0)) (fun _ i => X.size - (intOf i).toNat)
        case atStart => exact ⟨0, 0, Nat.zero_le _, rfl, rfl, by decide, rfl⟩
        case round =>
          clear hconv
          obtain ⟨k, n, hk, rfl, rfl, hn, hdg⟩ := hrel
          by_cases hlt : k < X.size
          · have hkl : k < dl.length := by rw [← HS.out]; exact hlt
            obtain ⟨h7, h8⟩ := HR.out k hkl
            have hcc0 : dl[k]? = some dl[k] := List.getElem?_eq_getElem hkl
            obtain ⟨c, hcc⟩ : ∃ c, dl[k] = c := ⟨_, rfl⟩
            rw [hcc] at h7 hcc0
            have HC := Lib.hid hcc0
            clear hcc hcc0
            have hb := c.toNat_lt
            by_cases g1 : (c.toNat : Int) < 48
            · have e : Hid (parseS s = (0, false)) := by
                show parseS s = _
                rw [F3.out, ← hdg.out, digits_bad HC.out (.inl (by omega))]
              go_wp2
              go_ret2
              rw [e.out]
              exact ⟨rfl, HX.out⟩
            · by_cases g2 : (57 : Int) < (c.toNat : Int)
              · have e : Hid (parseS s = (0, false)) := by
                  show parseS s = _
                  rw [F3.out, ← hdg.out, digits_bad HC.out (.inr (.inl (by omega)))]
                go_wp2
                go_ret2
                rw [e.out]
                exact ⟨rfl, HX.out⟩
              · by_cases g3 : (99999999999999999 : Int) < (n : Int)
                · have e : Hid (parseS s = (0, false)) := by
                    show parseS s = _
                    rw [F3.out, ← hdg.out, digits_bad HC.out (.inr (.inr (by omega)))]
                  go_wp2
                  go_ret2
                  rw [e.out]
                  exact ⟨rfl, HX.out⟩
                · have e := digits_step (n := n) HC.out (by omega) (by omega) (by omega)
                  rw [hdg.out] at e
                  have E := Lib.hid e.symm
                  clear e
                  go_wp2
                  go_round
                  case rel => exact ⟨k + 1, 10 * n + (c.toNat - 48), by omega, by go_num, by go_num, by omega, E⟩
                  case measure => simp [intOf]; omega
          · have e : Hid (parseS s = madeD m n) := by
              show parseS s = _
              have := hdg.out
              rw [List.drop_eq_nil_of_le (by rw [← HS.out]; omega)] at this
              rw [F3.out, ← this]; rfl
            go_wp2_with (go_at_call 47; refine (made_any _ _ _ (by omega)).mono ?_; rintro e w' ⟨rfl, rfl⟩)
            go_ret2
            rw [e.out]
            exact ⟨rfl, HX.out⟩
end Go.Proofs.YtphjmbaifkneiaaGreatDoor
