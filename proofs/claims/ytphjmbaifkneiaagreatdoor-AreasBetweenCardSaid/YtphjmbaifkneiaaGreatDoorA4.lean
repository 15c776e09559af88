/- What layer 15's Input comes to, of any text. -/
import Derived.Test.YtphjmbaifkneiaaGreatDoorA3
namespace Go.Proofs.YtphjmbaifkneiaaGreatDoor
open Go.RowKit

set_option maxHeartbeats 400000
set_option maxRecDepth 100000

def errN (k : Nat) : ByteArray := errNames.getD k ⟨#[]⟩
/-- Which error's name it is, from the k-th on; by at most so many looks. -/
def errAt (g : ByteArray) : Nat → Nat → Option Nat
  | 0, _ => none
  | f + 1, k => if (g.toList == (errN k).toList) = true then some k else errAt g f (k + 1)
def inputT (s g : ByteArray) : V :=
  if g.toList.isEmpty = true then .blank else if (g.toList == [84, 82, 85, 69]) = true then .bool true else if (g.toList == [70, 65, 76, 83, 69]) = true then .bool false else
  match errAt g 7 0 with | some k => .fail (k + 1) | none => .text s
/-- What somebody types into a cell. -/
def inputS (s : ByteArray) : V :=
  if Lib.hasPrefix s.data.toList [39] = true then .text ⟨(Lib.trimPrefix s.data.toList [39]).toArray⟩ else
  if (parseS (trimS s)).2 = true then .num (parseS (trimS s)).1 else inputT s (greatS (trimS s))

theorem errors_cells (w : World) : Calls Tryz.prog 42 #[] w fun e w' => e = .returned (.slice (some ⟨w.heap.size, 0, none⟩) 7 7) ∧ Ext w w' ∧ ∀ k, k < 7 → w'.cell? ⟨w.heap.size, k, none⟩ = some (.string (errN k)) := by
  refine (errors_any w).mono ?_
  rintro e w' ⟨rfl, rfl⟩
  refine ⟨rfl, by repeat (first | exact Ext.refl _ | exact Ext.trans (by assumption) (by assumption) | assumption | refine Ext.alloc ?_ _ | refine Ext.drew ?_ | refine Ext.drewN ?_ _ | refine Ext.setCell ?_ (by simp) _), fun k hk => ?_⟩
  rw [World.cell?_alloc_new]
  have h : k = 0 ∨ k = 1 ∨ k = 2 ∨ k = 3 ∨ k = 4 ∨ k = 5 ∨ k = 6 := by omega
  rcases h with rfl | rfl | rfl | rfl | rfl | rfl | rfl <;> rfl

theorem greatS_size (s : ByteArray) : (greatS s).size = s.size := by
  show Array.size _ = s.data.size
  simp only [List.size_toArray, List.length_map, Array.length_toList]

theorem input_any (s : ByteArray) (w : World) (hs : s.size ≤ 100000) : Calls Tryz.prog 89 #[.string s] w fun e w' => e = .returned (inputS s).val ∧ Ext w w' := by
  have M1 : Hid (∀ w : World, Calls Tryz.prog 86 #[.string s, .string ⟨#[39]⟩] w fun e w' => e = .returned (.tuple #[.string ⟨(Lib.trimPrefix s.data.toList [39]).toArray⟩, .bool (Lib.hasPrefix s.data.toList [39])]) ∧ w = w') := fun w =>
    (Tryz.strings_CutPrefix s ⟨#[39]⟩ w).mono fun _ _ ⟨a, b⟩ => ⟨a, b.symm⟩
  have e : Hid (inputS s = if Lib.hasPrefix s.data.toList [39] = true then .text ⟨(Lib.trimPrefix s.data.toList [39]).toArray⟩ else if (parseS (trimS s)).2 = true then .num (parseS (trimS s)).1 else inputT s (greatS (trimS s))) := rfl
  have TR : Hid (∀ W : World, Calls Tryz.prog 56 #[.string s] W fun e W' => e = .returned (.string (trimS s)) ∧ Ext W W') := fun W => trim_any s W (by omega)
  have ht := trimS_size s
  obtain ⟨t, htt⟩ : ∃ t, trimS s = t := ⟨_, rfl⟩
  rw [htt] at e TR ht
  have PA : Hid (∀ W : World, Calls Tryz.prog 61 #[.string t] W fun e W' => e = .returned (.tuple #[.int .i64 (parseS t).1, .bool (parseS t).2]) ∧ Ext W W') := fun W => parse_any t W (by omega)
  have GR : Hid (∀ W : World, Calls Tryz.prog 55 #[.string t] W fun e W' => e = .returned (.string (greatS t)) ∧ Ext W W') := fun W => great_any t W (by omega)
  obtain ⟨n, ok, hp⟩ : ∃ n ok, parseS t = (n, ok) := ⟨_, _, rfl⟩
  obtain ⟨g, hg⟩ : ∃ g, greatS t = g := ⟨_, rfl⟩
  obtain ⟨pre, hpre⟩ : ∃ pre, Lib.hasPrefix s.data.toList [39] = pre := ⟨_, rfl⟩
  obtain ⟨rest, hrest⟩ : ∃ rest : ByteArray, ⟨(Lib.trimPrefix s.data.toList [39]).toArray⟩ = rest := ⟨_, rfl⟩
  obtain ⟨r, hr⟩ : ∃ r, inputS s = r := ⟨_, rfl⟩
  rw [hpre, hrest, hp, hg, hr] at e
  rw [hpre, hrest] at M1
  rw [hp] at PA
  rw [hg] at GR
  rw [hr]
  clear hpre hrest hp hg hr htt ht hs
  cases pre with
  | true =>
    go_enter Tryz.func89, Tryz.ntmps89
    go_wp2_with (go_at_call 86; refine (M1.out _).mono ?_; rintro e1 w' ⟨rfl, rfl⟩)
    go_ret
    rw [e.out]
    exact ⟨rfl, by repeat (first | exact Ext.refl _ | exact Ext.trans (by assumption) (by assumption) | assumption | refine Ext.alloc ?_ _ | refine Ext.drew ?_ | refine Ext.drewN ?_ _ | refine Ext.setCell ?_ (by simp) _)⟩
  | false =>
    cases ok with
    | true =>
      go_enter Tryz.func89, Tryz.ntmps89
      go_wp2_with (first
        | (go_at_call 86; refine (M1.out _).mono ?_; rintro e1 w' ⟨rfl, rfl⟩)
        | (go_at_call 56; refine (TR.out _).mono ?_; rintro e1 w1 ⟨rfl, hx1⟩)
        | (go_at_call 61; refine (PA.out _).mono ?_; rintro e1 w2 ⟨rfl, hx2⟩))
      go_ret
      rw [e.out]
      exact ⟨rfl, hx1.trans hx2⟩
    | false =>
      have e2 : Hid (r = inputT s g) := e.out
      clear e
      go_enter Tryz.func89, Tryz.ntmps89
      go_wp2_with (first
        | (go_at_call 86; refine (M1.out _).mono ?_; rintro e1 w' ⟨rfl, rfl⟩)
        | (go_at_call 56; refine (TR.out _).mono ?_; rintro e1 w1 ⟨rfl, hx1⟩)
        | (go_at_call 61; refine (PA.out _).mono ?_; rintro e1 w2 ⟨rfl, hx2⟩)
        | (go_at_call 55; refine (GR.out _).mono ?_; rintro e1 w3 ⟨rfl, hx3⟩)
        | (go_at_call 42; refine (errors_cells _).mono ?_; rintro e1 w4 ⟨rfl, hx4, hcells⟩; have HC := Lib.hid hcells; clear hcells))
      · go_ret
        have e3 : r = .blank := by rw [e2.out]; unfold inputT; rw [if_pos (by assumption)]
        rw [e3]
        exact ⟨rfl, (hx1.trans hx2).trans hx3⟩
      · go_ret
        have e3 : r = .bool true := by rw [e2.out]; unfold inputT; rw [if_neg (by simp [*]), if_pos (by assumption)]
        rw [e3]
        exact ⟨rfl, (hx1.trans hx2).trans hx3⟩
      · go_ret
        have e3 : r = .bool false := by rw [e2.out]; unfold inputT; rw [if_neg (by simp [*]), if_neg (by simp [*]), if_pos (by assumption)]
        rw [e3]
        exact ⟨rfl, (hx1.trans hx2).trans hx3⟩
      · have e3 : Hid (r = match errAt g 7 0 with | some k => V.fail (k + 1) | none => .text s) := by
          show r = _
          rw [e2.out]; unfold inputT; rw [if_neg (by simp [*]), if_neg (by simp [*]), if_neg (by simp [*])]
        have HX := Lib.hid (((hx1.trans hx2).trans hx3).trans hx4)
        go_loop [44] (fun i => ∃ k : Nat, k ≤ 7 ∧ i = .int .i64 k ∧ Hid (errAt g 7 0 = errAt g (7 - k) k)) (fun i => 7 - (intOf i).toNat)
        case atStart => exact ⟨0, by omega, rfl, rfl⟩
        case round =>
          obtain ⟨k, hk, rfl, hE⟩ := hrel
          by_cases hlt : k < 7
          · have h1 := HC.out k hlt
            obtain ⟨f, hf⟩ : ∃ f, 7 - k = f + 1 := ⟨6 - k, by omega⟩
            cases htest : (g.toList == (errN k).toList) with
            | true =>
              have e4 : Hid (r = .fail (k + 1)) := by show r = _; rw [e3.out, hE.out, hf]; simp only [errAt]; rw [if_pos htest]
              clear hf
              go_wp2
              go_ret
              rw [e4.out]
              exact ⟨rfl, HX.out⟩
            | false =>
              have e4 : Hid (errAt g 7 0 = errAt g (7 - (k + 1)) (k + 1)) := by
                show errAt g 7 0 = _
                rw [hE.out, hf]; simp only [errAt]; rw [if_neg (by simp [htest])]
                congr 1; omega
              clear hf
              go_wp2
              go_round
              case rel => exact ⟨k + 1, by omega, by go_num, e4⟩
              case measure => simp [intOf]; omega
          · have e4 : Hid (r = .text s) := by
              show r = _
              rw [e3.out, hE.out, show 7 - k = 0 by omega]; rfl
            go_wp2
            go_ret
            rw [e4.out]
            exact ⟨rfl, HX.out⟩
end Go.Proofs.YtphjmbaifkneiaaGreatDoor
