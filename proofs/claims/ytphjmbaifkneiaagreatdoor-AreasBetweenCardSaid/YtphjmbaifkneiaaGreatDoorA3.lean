/- What layer 15's AsBool, AsInt, Compare, Hold come to. -/
import Derived.Test.YtphjmbaifkneiaaGreatDoorA2
namespace Go.Proofs.YtphjmbaifkneiaaGreatDoor
open Go.RowKit

set_option maxHeartbeats 400000
set_option maxRecDepth 100000

@[go_sem] theorem must_text (v : Value) (w : World) : (Instr.typeAssert (.iface 52 v) 35 52 false).run Tryz.prog w = .ok v w := by kernel_rfl
@[go_sem] theorem must_bool (v : Value) (w : World) : (Instr.typeAssert (.iface 67 v) 35 67 false).run Tryz.prog w = .ok v w := by kernel_rfl

theorem made_num {m : Bool} {n : Nat} : Num (madeD m n).1 := by
  unfold madeD Num; split
  · exact ⟨by decide, by decide⟩
  · cases m <;> simp <;> omega
theorem parse_num (s : ByteArray) : Num (parseS s).1 := by
  unfold parseS parseBody
  split
  · exact ⟨by decide, by decide⟩
  · split
    · exact ⟨by decide, by decide⟩
    · exact made_num
theorem asNum_num {v : V} (h : v.Good) : Num v.asNum.1 := by
  cases v with
  | num n => exact h
  | bool b => cases b <;> exact ⟨by decide, by decide⟩
  | text s => simp only [V.asNum]; split; exact parse_num _; exact ⟨by decide, by decide⟩
  | fail f => exact ⟨by simp [V.asNum], by simp [V.asNum]⟩
  | blank => exact ⟨by simp [V.asNum], by simp [V.asNum]⟩

theorem asInt_any (v : V) (w : World) (hg : v.Good) : Calls Tryz.prog 58 #[v.val] w fun e w' => e = .returned (.tuple #[.int .i64 (v.asNum.1.tdiv 10000), .int .i64 v.asNum.2]) ∧ Ext w w' := by
  have hn := asNum_num hg
  have AN : Hid (∀ W : World, Calls Tryz.prog 33 #[v.val] W fun e W' => e = .returned (.tuple #[.int .i64 v.asNum.1, .int .i64 v.asNum.2]) ∧ Ext W W') := fun W => asNumber_any v W hg
  clear hg
  obtain ⟨n, f, hnf⟩ : ∃ n f, v.asNum = (n, f) := ⟨_, _, rfl⟩
  rw [hnf] at AN hn ⊢
  clear hnf
  have WH : Hid (∀ W : World, Calls Tryz.prog 82 #[.int .i64 n] W fun e w' => e = .returned (.int .i64 (n.tdiv 10000)) ∧ W = w') := fun W => whole_any n W hn
  go_enter Tryz.func58, Tryz.ntmps58
  go_wp2_with (first
    | (go_at_call 33; refine (AN.out _).mono ?_; rintro e w1 ⟨rfl, hx1⟩)
    | (go_at_call 82; refine (WH.out _).mono ?_; rintro e w2 ⟨rfl, rfl⟩))
  go_ret2
  exact ⟨rfl, hx1⟩

def V.asBool : V → Bool × Int
  | .num n => (n != 0, 0)
  | .bool b => (b, 0)
  | .text s => if ((greatS (trimS s)).toList == [84, 82, 85, 69]) = true then (true, 0) else if ((greatS (trimS s)).toList == [70, 65, 76, 83, 69]) = true then (false, 0) else (false, 3)
  | .fail f => (false, f)
  | .blank => (false, 0)

theorem asBool_any (v : V) (w : World) (hg : v.Good) : Calls Tryz.prog 26 #[v.val] w fun e w' => e = .returned (.tuple #[.bool v.asBool.1, .int .i64 v.asBool.2]) ∧ Ext w w' := by
  cases v with
  | text s =>
    have hs : s.size ≤ 2000 := hg
    clear hg
    have ht := trimS_size s
    have TR : Hid (∀ W : World, Calls Tryz.prog 56 #[.string s] W fun e W' => e = .returned (.string (trimS s)) ∧ Ext W W') := fun W => trim_any s W (by omega)
    obtain ⟨t, htt⟩ : ∃ t, trimS s = t := ⟨_, rfl⟩
    have GR : Hid (∀ W : World, Calls Tryz.prog 55 #[.string t] W fun e W' => e = .returned (.string (greatS t)) ∧ Ext W W') := fun W => great_any t W (by rw [← htt]; omega)
    obtain ⟨g, hg⟩ : ∃ g, greatS t = g := ⟨_, rfl⟩
    have e : Hid ((V.text s).asBool = if (g.toList == [84, 82, 85, 69]) = true then (true, 0) else if (g.toList == [70, 65, 76, 83, 69]) = true then (false, 0) else (false, 3)) := by show (V.text s).asBool = _; simp only [V.asBool, htt, hg]
    rw [hg] at GR
    rw [htt] at TR
    clear hg htt ht
    simp only [V.val]
    go_enter Tryz.func26, Tryz.ntmps26
    go_wp2_with (first
      | (go_at_call 56; refine (TR.out _).mono ?_; rintro e w1 ⟨rfl, hx1⟩)
      | (go_at_call 55; refine (GR.out _).mono ?_; rintro e w2 ⟨rfl, hx2⟩))
    · go_ret2
      rw [e.out, if_pos (by assumption)]
      exact ⟨rfl, hx1.trans hx2⟩
    · go_ret2
      rw [e.out, if_neg (by simp [*]), if_pos (by assumption)]
      exact ⟨rfl, hx1.trans hx2⟩
    · go_ret2
      rw [e.out, if_neg (by simp [*]), if_neg (by simp [*])]
      exact ⟨rfl, hx1.trans hx2⟩
  | bool b => cases b <;> (simp only [V.val]; go_enter Tryz.func26, Tryz.ntmps26; go_wp2; go_ret2; exact ⟨rfl, by repeat (first | exact Ext.refl _ | exact Ext.trans (by assumption) (by assumption) | assumption | refine Ext.alloc ?_ _ | refine Ext.drew ?_ | refine Ext.drewN ?_ _ | refine Ext.setCell ?_ (by simp) _)⟩)
  | blank => simp only [V.val]; go_enter Tryz.func26, Tryz.ntmps26; go_wp2; go_ret2; exact ⟨rfl, by repeat (first | exact Ext.refl _ | exact Ext.trans (by assumption) (by assumption) | assumption | refine Ext.alloc ?_ _ | refine Ext.drew ?_ | refine Ext.drewN ?_ _ | refine Ext.setCell ?_ (by simp) _)⟩
  | num n => simp only [V.val]; go_enter Tryz.func26, Tryz.ntmps26; go_wp2; go_ret2; exact ⟨rfl, by repeat (first | exact Ext.refl _ | exact Ext.trans (by assumption) (by assumption) | assumption | refine Ext.alloc ?_ _ | refine Ext.drew ?_ | refine Ext.drewN ?_ _ | refine Ext.setCell ?_ (by simp) _)⟩
  | fail n => simp only [V.val]; go_enter Tryz.func26, Tryz.ntmps26; go_wp2; go_ret2; exact ⟨rfl, by repeat (first | exact Ext.refl _ | exact Ext.trans (by assumption) (by assumption) | assumption | refine Ext.alloc ?_ _ | refine Ext.drew ?_ | refine Ext.drewN ?_ _ | refine Ext.setCell ?_ (by simp) _)⟩

/-- Nothing, as what it is held against. -/
def V.asK : V → V → V
  | .blank, .text _ => .text ⟨#[]⟩
  | .blank, .bool _ => .bool false
  | .blank, _ => .num 0
  | v, _ => v
def V.rank : V → Int | .text _ => 1 | .bool _ => 2 | _ => 0
def cmpInt (x y : Int) : Int := if x < y then -1 else if y < x then 1 else 0
def V.cmp' (a b : V) : Int :=
  if a.rank ≠ b.rank then (if a.rank < b.rank then -1 else 1) else
  match a, b with
  | .text s, .text t => Lib.compareBytes (greatS s).data.toList (greatS t).data.toList
  | .bool x, .bool y => if x = y then 0 else if y then -1 else 1
  | a, b => cmpInt a.numN b.numN
def V.cmp (a b : V) : Int := (a.asK b).cmp' (b.asK a)

theorem as_any (a b : V) (w : World) : Calls Tryz.prog 131 #[a.val, b.val] w fun e w' => e = .returned (a.asK b).val ∧ Ext w w' := by
  cases a with
  | blank =>
    cases b <;> (simp only [V.val, V.asK]; go_enter Tryz.func131, Tryz.ntmps131; go_wp2_with (go_at_call 50; refine (isBlank_any V.blank _).mono ?_; rintro e w1 ⟨rfl, hx1⟩); go_ret; exact ⟨rfl, by repeat (first | exact Ext.refl _ | exact Ext.trans (by assumption) (by assumption) | assumption | refine Ext.alloc ?_ _ | refine Ext.drew ?_ | refine Ext.drewN ?_ _ | refine Ext.setCell ?_ (by simp) _)⟩)
  | num n =>
    obtain ⟨bv, hbv⟩ : ∃ bv, b.val = bv := ⟨_, rfl⟩
    rw [hbv, show (V.num n).asK b = .num n from by cases b <;> rfl]
    clear hbv
    show Calls _ _ #[.iface 43 (.int .i64 n), bv] w _
    go_enter Tryz.func131, Tryz.ntmps131
    go_wp2_with (go_at_call 50; refine (isBlank_any (V.num n) _).mono ?_; rintro e w1 ⟨rfl, hx1⟩)
    all_goals (first | (go_ret; exact ⟨rfl, by repeat (first | exact Ext.refl _ | exact Ext.trans (by assumption) (by assumption) | assumption | refine Ext.alloc ?_ _ | refine Ext.drew ?_ | refine Ext.drewN ?_ _ | refine Ext.setCell ?_ (by simp) _)⟩) | (rename_i hq; exact absurd hq (by simp [V.isBlank])))
  | text n =>
    obtain ⟨bv, hbv⟩ : ∃ bv, b.val = bv := ⟨_, rfl⟩
    rw [hbv, show (V.text n).asK b = .text n from by cases b <;> rfl]
    clear hbv
    show Calls _ _ #[.iface 52 (.string n), bv] w _
    go_enter Tryz.func131, Tryz.ntmps131
    go_wp2_with (go_at_call 50; refine (isBlank_any (V.text n) _).mono ?_; rintro e w1 ⟨rfl, hx1⟩)
    all_goals (first | (go_ret; exact ⟨rfl, by repeat (first | exact Ext.refl _ | exact Ext.trans (by assumption) (by assumption) | assumption | refine Ext.alloc ?_ _ | refine Ext.drew ?_ | refine Ext.drewN ?_ _ | refine Ext.setCell ?_ (by simp) _)⟩) | (rename_i hq; exact absurd hq (by simp [V.isBlank])))
  | bool n =>
    obtain ⟨bv, hbv⟩ : ∃ bv, b.val = bv := ⟨_, rfl⟩
    rw [hbv, show (V.bool n).asK b = .bool n from by cases b <;> rfl]
    clear hbv
    show Calls _ _ #[.iface 67 (.bool n), bv] w _
    go_enter Tryz.func131, Tryz.ntmps131
    go_wp2_with (go_at_call 50; refine (isBlank_any (V.bool n) _).mono ?_; rintro e w1 ⟨rfl, hx1⟩)
    all_goals (first | (go_ret; exact ⟨rfl, by repeat (first | exact Ext.refl _ | exact Ext.trans (by assumption) (by assumption) | assumption | refine Ext.alloc ?_ _ | refine Ext.drew ?_ | refine Ext.drewN ?_ _ | refine Ext.setCell ?_ (by simp) _)⟩) | (rename_i hq; exact absurd hq (by simp [V.isBlank])))
  | fail n =>
    obtain ⟨bv, hbv⟩ : ∃ bv, b.val = bv := ⟨_, rfl⟩
    rw [hbv, show (V.fail n).asK b = .fail n from by cases b <;> rfl]
    clear hbv
    show Calls _ _ #[.iface 61 (.int .i64 n), bv] w _
    go_enter Tryz.func131, Tryz.ntmps131
    go_wp2_with (go_at_call 50; refine (isBlank_any (V.fail n) _).mono ?_; rintro e w1 ⟨rfl, hx1⟩)
    all_goals (first | (go_ret; exact ⟨rfl, by repeat (first | exact Ext.refl _ | exact Ext.trans (by assumption) (by assumption) | assumption | refine Ext.alloc ?_ _ | refine Ext.drew ?_ | refine Ext.drewN ?_ _ | refine Ext.setCell ?_ (by simp) _)⟩) | (rename_i hq; exact absurd hq (by simp [V.isBlank])))
theorem rank_any (a : V) (w : World) : Calls Tryz.prog 132 #[a.val] w fun e w' => e = .returned (.int .i64 a.rank) ∧ w = w' := by
  cases a <;> (simp only [V.val]; go_enter Tryz.func132, Tryz.ntmps132; go_wp2; go_ret; exact ⟨rfl, rfl⟩)

theorem V.asK_good {a b : V} (h : a.Good) : (a.asK b).Good := by
  cases a <;> cases b <;> first | exact h | (simp [V.asK, V.Good, ByteArray.size])
theorem V.cmp_diff {x y : V} (h : x.rank ≠ y.rank) : x.cmp' y = if x.rank < y.rank then -1 else 1 := by unfold V.cmp'; rw [if_pos h]
theorem V.cmp_low {x y : V} (hx : x.rank = 0) (hy : y.rank = 0) : x.cmp' y = cmpInt x.numN y.numN := by
  unfold V.cmp'
  rw [if_neg (by omega)]
  cases x <;> cases y <;> simp_all [V.rank]
theorem V.rank_cases (x : V) : (x.rank = 0 ∧ ∀ s, x ≠ .text s) ∨ (∃ s, x = .text s) ∨ (∃ b, x = .bool b) := by
  cases x <;> simp [V.rank]
theorem V.rank_range (x : V) : 0 ≤ x.rank ∧ x.rank ≤ 2 := by cases x <;> simp [V.rank]

/-- Compare. -/
theorem compare_any (a b : V) (w : World) (ha : a.Good) (hb : b.Good) : Calls Tryz.prog 110 #[a.val, b.val] w fun e w' => e = .returned (.int .i64 (a.cmp b)) ∧ Ext w w' := by
  have gx := V.asK_good (b := b) ha
  have gy := V.asK_good (b := a) hb
  obtain ⟨x, hx⟩ : ∃ x, a.asK b = x := ⟨_, rfl⟩
  obtain ⟨y, hy⟩ : ∃ y, b.asK a = y := ⟨_, rfl⟩
  rw [hx] at gx
  rw [hy] at gy
  have A1 : Hid (∀ W : World, Calls Tryz.prog 131 #[a.val, b.val] W fun e w' => e = .returned x.val ∧ Ext W w') := fun W => by have := as_any a b W; rw [hx] at this; exact this
  have A2 : Hid (∀ W : World, Calls Tryz.prog 131 #[b.val, a.val] W fun e w' => e = .returned y.val ∧ Ext W w') := fun W => by have := as_any b a W; rw [hy] at this; exact this
  have e : Hid (a.cmp b = x.cmp' y) := by show a.cmp b = _; unfold V.cmp; rw [hx, hy]
  clear hx hy ha hb
  obtain ⟨av, hav⟩ : ∃ av, a.val = av := ⟨_, rfl⟩
  obtain ⟨bv, hbv⟩ : ∃ bv, b.val = bv := ⟨_, rfl⟩
  rw [hav, hbv] at A1 A2 ⊢
  clear hav hbv
  by_cases hr : x.rank = y.rank
  · rcases V.rank_cases x with ⟨h0, hnt⟩ | ⟨s, rfl⟩ | ⟨p, rfl⟩
    · have h1 := V.cmp_low h0 (by omega : y.rank = 0)
      have RX : Hid (∀ W : World, Calls Tryz.prog 132 #[x.val] W fun e w' => e = .returned (.int .i64 0) ∧ W = w') := fun W => by have := rank_any x W; rw [h0] at this; exact this
      have RY : Hid (∀ W : World, Calls Tryz.prog 132 #[y.val] W fun e w' => e = .returned (.int .i64 0) ∧ W = w') := fun W => by have := rank_any y W; rw [← hr, h0] at this; exact this
      have GX : Hid (∀ W : World, Calls Tryz.prog 40 #[x.val] W fun e w' => e = .returned (.tuple #[.int .i64 x.numN, .bool x.isNum]) ∧ W = w') := fun W => given_any x W
      have GY : Hid (∀ W : World, Calls Tryz.prog 40 #[y.val] W fun e w' => e = .returned (.tuple #[.int .i64 y.numN, .bool y.isNum]) ∧ W = w') := fun W => given_any y W
      have e2 : Hid (a.cmp b = cmpInt x.numN y.numN) := by show a.cmp b = _; rw [e.out, h1]
      clear e h1 hr gx gy
      obtain ⟨yv, hyv⟩ : ∃ yv, y.val = yv := ⟨_, rfl⟩
      rw [hyv] at A2 RY GY
      clear hyv
      cases x with
      | text s => exact absurd rfl (hnt s)
      | bool p => simp [V.rank] at h0
      | num n =>
        clear h0 hnt
        simp only [V.val] at A1 RX GX
        go_enter Tryz.func110, Tryz.ntmps110
        go_wp2_with fail
        refine (A1.out _).mono ?_
        rintro e1 w1 ⟨rfl, hx1⟩
        go_wp2_with fail
        refine (A2.out _).mono ?_
        rintro e1 w2 ⟨rfl, hx2⟩
        go_wp2_with fail
        refine (RX.out _).mono ?_
        rintro e1 w' ⟨rfl, rfl⟩
        go_wp2_with fail
        refine (RY.out _).mono ?_
        rintro e1 w' ⟨rfl, rfl⟩
        go_wp2_with fail
        refine (GX.out _).mono ?_
        rintro e1 w' ⟨rfl, rfl⟩
        go_wp2_with fail
        refine (GY.out _).mono ?_
        rintro e1 w' ⟨rfl, rfl⟩
        go_wp2_with fail
        all_goals go_ret
        all_goals rw [e2.out]
        all_goals refine ⟨?_, hx1.trans hx2⟩
        all_goals unfold cmpInt
        all_goals first | (rw [if_pos (by omega)]; rfl) | (rw [if_neg (by omega), if_pos (by omega)]; rfl) | (rw [if_neg (by omega), if_neg (by omega)]; rfl)
      | blank =>
        clear h0 hnt
        simp only [V.val] at A1 RX GX
        go_enter Tryz.func110, Tryz.ntmps110
        go_wp2_with fail
        refine (A1.out _).mono ?_
        rintro e1 w1 ⟨rfl, hx1⟩
        go_wp2_with fail
        refine (A2.out _).mono ?_
        rintro e1 w2 ⟨rfl, hx2⟩
        go_wp2_with fail
        refine (RX.out _).mono ?_
        rintro e1 w' ⟨rfl, rfl⟩
        go_wp2_with fail
        refine (RY.out _).mono ?_
        rintro e1 w' ⟨rfl, rfl⟩
        go_wp2_with fail
        refine (GX.out _).mono ?_
        rintro e1 w' ⟨rfl, rfl⟩
        go_wp2_with fail
        refine (GY.out _).mono ?_
        rintro e1 w' ⟨rfl, rfl⟩
        go_wp2_with fail
        all_goals go_ret
        all_goals rw [e2.out]
        all_goals refine ⟨?_, hx1.trans hx2⟩
        all_goals unfold cmpInt
        all_goals first | (rw [if_pos (by omega)]; rfl) | (rw [if_neg (by omega), if_pos (by omega)]; rfl) | (rw [if_neg (by omega), if_neg (by omega)]; rfl)
      | fail n =>
        clear h0 hnt
        simp only [V.val] at A1 RX GX
        go_enter Tryz.func110, Tryz.ntmps110
        go_wp2_with fail
        refine (A1.out _).mono ?_
        rintro e1 w1 ⟨rfl, hx1⟩
        go_wp2_with fail
        refine (A2.out _).mono ?_
        rintro e1 w2 ⟨rfl, hx2⟩
        go_wp2_with fail
        refine (RX.out _).mono ?_
        rintro e1 w' ⟨rfl, rfl⟩
        go_wp2_with fail
        refine (RY.out _).mono ?_
        rintro e1 w' ⟨rfl, rfl⟩
        go_wp2_with fail
        refine (GX.out _).mono ?_
        rintro e1 w' ⟨rfl, rfl⟩
        go_wp2_with fail
        refine (GY.out _).mono ?_
        rintro e1 w' ⟨rfl, rfl⟩
        go_wp2_with fail
        all_goals go_ret
        all_goals rw [e2.out]
        all_goals refine ⟨?_, hx1.trans hx2⟩
        all_goals unfold cmpInt
        all_goals first | (rw [if_pos (by omega)]; rfl) | (rw [if_neg (by omega), if_pos (by omega)]; rfl) | (rw [if_neg (by omega), if_neg (by omega)]; rfl)
    · obtain ⟨t, rfl⟩ : ∃ t, y = .text t := by cases y <;> simp_all [V.rank]
      have gs : s.size ≤ 2000 := gx
      have gt : t.size ≤ 2000 := gy
      have RX : Hid (∀ W : World, Calls Tryz.prog 132 #[(V.text s).val] W fun e w' => e = .returned (.int .i64 1) ∧ W = w') := fun W => rank_any _ W
      have RY : Hid (∀ W : World, Calls Tryz.prog 132 #[(V.text t).val] W fun e w' => e = .returned (.int .i64 1) ∧ W = w') := fun W => rank_any _ W
      have e2 : Hid (a.cmp b = Lib.compareBytes (greatS s).data.toList (greatS t).data.toList) := by show a.cmp b = _; rw [e.out]; unfold V.cmp'; rw [if_neg (by simp [V.rank])]
      clear e hr gx gy
      simp only [V.val] at A1 A2 RX RY
      go_enter Tryz.func110, Tryz.ntmps110
      go_wp2_with fail
      refine (A1.out _).mono ?_
      rintro e1 w1 ⟨rfl, hx1⟩
      go_wp2_with fail
      refine (A2.out _).mono ?_
      rintro e1 w2 ⟨rfl, hx2⟩
      go_wp2_with fail
      refine (RX.out _).mono ?_
      rintro e1 w' ⟨rfl, rfl⟩
      go_wp2_with fail
      refine (RY.out _).mono ?_
      rintro e1 w' ⟨rfl, rfl⟩
      go_wp2_with fail
      go_region_with (first
        | (go_at_call 55; refine (great_any _ _ (by omega)).mono ?_; rintro e1 w3 ⟨rfl, hx3⟩)
        | (go_at_call 133; refine (Tryz.strings_Compare _ _ _).mono ?_; rintro e1 w4 ⟨rfl, rfl⟩))
      all_goals go_wp2
      all_goals go_ret
      all_goals rw [e2.out]
      all_goals exact ⟨rfl, ((hx1.trans hx2).drew.trans (by assumption)).trans (by assumption)⟩
    · obtain ⟨q, rfl⟩ : ∃ q, y = .bool q := by cases y <;> simp_all [V.rank]
      have RX : Hid (∀ W : World, Calls Tryz.prog 132 #[(V.bool p).val] W fun e w' => e = .returned (.int .i64 2) ∧ W = w') := fun W => rank_any _ W
      have RY : Hid (∀ W : World, Calls Tryz.prog 132 #[(V.bool q).val] W fun e w' => e = .returned (.int .i64 2) ∧ W = w') := fun W => rank_any _ W
      have e2 : Hid (a.cmp b = if p = q then 0 else if q then -1 else 1) := by show a.cmp b = _; rw [e.out]; unfold V.cmp'; rw [if_neg (by simp [V.rank])]
      clear e hr gx gy
      simp only [V.val] at A1 A2 RX RY
      cases p <;> cases q
      all_goals
        go_enter Tryz.func110, Tryz.ntmps110
        go_wp2_with fail
        refine (A1.out _).mono ?_
        rintro e1 w1 ⟨rfl, hx1⟩
        go_wp2_with fail
        refine (A2.out _).mono ?_
        rintro e1 w2 ⟨rfl, hx2⟩
        go_wp2_with fail
        refine (RX.out _).mono ?_
        rintro e1 w' ⟨rfl, rfl⟩
        go_wp2_with fail
        refine (RY.out _).mono ?_
        rintro e1 w' ⟨rfl, rfl⟩
        go_wp2_with fail
        go_ret
        rw [e2.out]
        exact ⟨rfl, hx1.trans hx2⟩
  · have h1 := V.cmp_diff hr
    have rx := x.rank_range
    have ry := y.rank_range
    obtain ⟨i, hi⟩ : ∃ i, x.rank = i := ⟨_, rfl⟩
    obtain ⟨j, hj⟩ : ∃ j, y.rank = j := ⟨_, rfl⟩
    have RX : Hid (∀ W : World, Calls Tryz.prog 132 #[x.val] W fun e w' => e = .returned (.int .i64 i) ∧ W = w') := fun W => by have := rank_any x W; rw [hi] at this; exact this
    have RY : Hid (∀ W : World, Calls Tryz.prog 132 #[y.val] W fun e w' => e = .returned (.int .i64 j) ∧ W = w') := fun W => by have := rank_any y W; rw [hj] at this; exact this
    rw [hi, hj] at hr h1
    rw [hi] at rx
    rw [hj] at ry
    have e2 : Hid (a.cmp b = if i < j then -1 else 1) := by show a.cmp b = _; rw [e.out, h1]
    clear e h1 gx gy hi hj
    obtain ⟨xv, hxv⟩ : ∃ xv, x.val = xv := ⟨_, rfl⟩
    obtain ⟨yv, hyv⟩ : ∃ yv, y.val = yv := ⟨_, rfl⟩
    rw [hxv] at A1 RX
    rw [hyv] at A2 RY
    clear hxv hyv
    have hne : ((i - j) == 0) = false := by simp; omega
    have hne2 : ((i - j) != 0) = true := by simp; omega
    have HR := Lib.hid hr
    clear hr
    go_enter Tryz.func110, Tryz.ntmps110
    go_wp2_with fail
    refine (A1.out _).mono ?_
    rintro e1 w1 ⟨rfl, hx1⟩
    go_wp2_with fail
    refine (A2.out _).mono ?_
    rintro e1 w2 ⟨rfl, hx2⟩
    go_wp2_with fail
    refine (RX.out _).mono ?_
    rintro e1 w' ⟨rfl, rfl⟩
    go_wp2_with fail
    refine (RY.out _).mono ?_
    rintro e1 w' ⟨rfl, rfl⟩
    go_wp2_with fail
    go_ret
    rw [e2.out]
    refine ⟨?_, hx1.trans hx2⟩
    exact congrArg (fun n => Ending.returned (.int .i64 n)) (by have := HR.out; split <;> omega)

/-- Hold: = <> < <= > >= (0 to 5) of two values. -/
def holdC (op c : Int) : Bool := if op = 0 then c == 0 else if op = 1 then c != 0 else if op = 2 then decide (c < 0) else if op = 3 then decide (c ≤ 0) else if op = 4 then decide (0 < c) else decide (0 ≤ c)
def V.hold (op : Int) (a b : V) : V := if a.isFail then .fail a.failN else if b.isFail then .fail b.failN else .bool (holdC op (a.cmp b))

theorem hold_any (op : Int) (a b : V) (w : World) (ha : a.Good) (hb : b.Good) (h0 : 0 ≤ op) (h5 : op ≤ 5) : Calls Tryz.prog 91 #[.int .i64 op, a.val, b.val] w fun e w' => e = .returned (V.hold op a b).val ∧ Ext w w' := by
  have CP : Hid (∀ W : World, Calls Tryz.prog 110 #[a.val, b.val] W fun e w' => e = .returned (.int .i64 (a.cmp b)) ∧ Ext W w') := fun W => compare_any a b W ha hb
  have FA : Hid (∀ W : World, Calls Tryz.prog 52 #[a.val] W fun e w' => e = .returned (.tuple #[.int .i64 a.failN, .bool a.isFail]) ∧ W = w') := fun W => failed_any a W
  have FB : Hid (∀ W : World, Calls Tryz.prog 52 #[b.val] W fun e w' => e = .returned (.tuple #[.int .i64 b.failN, .bool b.isFail]) ∧ W = w') := fun W => failed_any b W
  have e : Hid (V.hold op a b = if a.isFail then .fail a.failN else if b.isFail then .fail b.failN else .bool (holdC op (a.cmp b))) := rfl
  obtain ⟨av, hav⟩ : ∃ av, a.val = av := ⟨_, rfl⟩
  obtain ⟨bv, hbv⟩ : ∃ bv, b.val = bv := ⟨_, rfl⟩
  obtain ⟨c, hc⟩ : ∃ c, a.cmp b = c := ⟨_, rfl⟩
  obtain ⟨fa, hfa⟩ : ∃ f, a.isFail = f := ⟨_, rfl⟩
  obtain ⟨fb, hfb⟩ : ∃ f, b.isFail = f := ⟨_, rfl⟩
  obtain ⟨na, hna⟩ : ∃ f, a.failN = f := ⟨_, rfl⟩
  obtain ⟨nb, hnb⟩ : ∃ f, b.failN = f := ⟨_, rfl⟩
  obtain ⟨r, hr⟩ : ∃ r, V.hold op a b = r := ⟨_, rfl⟩
  rw [hav, hbv, hc] at CP
  rw [hav, hfa, hna] at FA
  rw [hbv, hfb, hnb] at FB
  rw [hr, hfa, hfb, hna, hnb, hc] at e
  rw [hav, hbv, hr]
  clear hav hbv hc hfa hfb hna hnb hr ha hb
  cases fa with
  | true =>
    go_enter Tryz.func91, Tryz.ntmps91
    go_wp2_with fail
    refine (FA.out _).mono ?_
    rintro e1 w' ⟨rfl, rfl⟩
    go_wp2_with fail
    go_ret
    rw [e.out]
    exact ⟨rfl, by repeat (first | exact Ext.refl _ | exact Ext.trans (by assumption) (by assumption) | assumption | refine Ext.alloc ?_ _ | refine Ext.drew ?_ | refine Ext.drewN ?_ _ | refine Ext.setCell ?_ (by simp) _)⟩
  | false =>
    cases fb with
    | true =>
      go_enter Tryz.func91, Tryz.ntmps91
      go_wp2_with fail
      refine (FA.out _).mono ?_
      rintro e1 w' ⟨rfl, rfl⟩
      go_wp2_with fail
      refine (FB.out _).mono ?_
      rintro e1 w' ⟨rfl, rfl⟩
      go_wp2_with fail
      go_ret
      rw [e.out]
      exact ⟨rfl, by repeat (first | exact Ext.refl _ | exact Ext.trans (by assumption) (by assumption) | assumption | refine Ext.alloc ?_ _ | refine Ext.drew ?_ | refine Ext.drewN ?_ _ | refine Ext.setCell ?_ (by simp) _)⟩
    | false =>
      have hop : op = 0 ∨ op = 1 ∨ op = 2 ∨ op = 3 ∨ op = 4 ∨ op = 5 := by omega
      clear h0 h5
      rcases hop with rfl | rfl | rfl | rfl | rfl | rfl
      all_goals
        go_enter Tryz.func91, Tryz.ntmps91
        go_wp2_with fail
        refine (FA.out _).mono ?_
        rintro e1 w' ⟨rfl, rfl⟩
        go_wp2_with fail
        refine (FB.out _).mono ?_
        rintro e1 w' ⟨rfl, rfl⟩
        go_wp2_with fail
        refine (CP.out _).mono ?_
        rintro e1 w1 ⟨rfl, hx1⟩
        go_wp2_with fail
        go_ret
        rw [e.out]
        exact ⟨rfl, hx1⟩
end Go.Proofs.YtphjmbaifkneiaaGreatDoor
