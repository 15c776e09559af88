/- AreasSplit: that what is computed answers as the statement says. -/
import Derived.Test.YtphjmbaifkneiaaGreatDoorC5
import Derived.Test.YtphjmbaifkneiaaGreatDoorP6
import Derived.Test.YtphjmbaifkneiaaGreatDoorP5
namespace Go.Proofs.YtphjmbaifkneiaaGreatDoor
open Go.RowKit

set_option maxRecDepth 100000

theorem filter_split {α : Type} (p q s : α → Bool) (h : ∀ v, (p v).toNat + (q v).toNat = (s v).toNat) : ∀ l : List α, (l.filter p).length + (l.filter q).length = (l.filter s).length
  | [] => rfl
  | v :: l => by
    have ih := filter_split p q s h l
    have hv := h v
    cases hp : p v <;> cases hq : q v <;> cases hs : s v <;> simp [hp, hq, hs] at hv ⊢ <;> omega
theorem split_all (X : ArgD) (r : V) : (X.l.filter (fitsR 0 r)).length + (X.l.filter (fitsR 1 r)).length = X.l.length := by
  have h := filter_split (fitsR 0 r) (fitsR 1 r) (fun _ => true) (fun v => by
    have e0 : fitsR 0 r v = fitsS 0 r v := by simp [fitsR]
    have e1 : fitsR 1 r v = !(fitsS 0 r v) := by simp [fitsR]
    rw [e0, e1]
    cases fitsS 0 r v <;> rfl) X.l
  rw [h]
  congr 1
  exact List.filter_eq_self.2 (fun _ _ => rfl)
theorem split_num (X : ArgD) (m : Int) (ha : X.area = true) : (X.l.filter (fitsR 2 (.num m))).length + (X.l.filter (fitsR 5 (.num m))).length = countS V.counts [X] := by
  have h := filter_split (fitsR 2 (.num m)) (fitsR 5 (.num m)) V.isNum (fun v => by
    have e0 : fitsR 2 (.num m) v = fitsS 2 (.num m) v := by simp [fitsR]
    have e1 : fitsR 5 (.num m) v = fitsS 5 (.num m) v := by simp [fitsR]
    rw [e0, e1]
    cases v with
    | num k =>
      have f2 : fitsS 2 (.num m) (.num k) = decide (cmpInt k m < 0) := rfl
      have f5 : fitsS 5 (.num m) (.num k) = decide (0 ≤ cmpInt k m) := rfl
      rw [f2, f5]
      by_cases hc : cmpInt k m < 0
      · have : ¬ 0 ≤ cmpInt k m := by omega
        simp [hc, this, V.isNum]
      · have : 0 ≤ cmpInt k m := by omega
        simp [hc, this, V.isNum]
    | blank => rfl
    | text s => rfl
    | bool b => rfl
    | fail f => rfl) X.l
  rw [h]
  unfold countS flat
  simp only [List.flatMap_cons, List.flatMap_nil, List.append_nil, List.filter_map, List.length_map]
  congr 1
  refine List.filter_congr (fun v _ => ?_)
  show v.isNum = v.counts X.area
  rw [ha]
  simp [V.counts]

/-- The rule's text: a sign, and the number's text. -/
def ruleT (pre : ByteArray) (n : Int) : ByteArray := pre ++ ⟨(textL n).toArray⟩
theorem ruleT_list (pre : List UInt8) (n : Int) : ruleT ⟨pre.toArray⟩ n = ⟨(pre ++ textL n).toArray⟩ := catL _ _
theorem head_ne {c : UInt8} (h : isDig c ∨ c = 45) (x : UInt8) (h1 : x.toNat < 48 ∨ 57 < x.toNat) (h2 : x ≠ 45) : ¬ x = c := fun e => by
  subst e
  rcases h with h | h
  · rcases h1 with h1 | h1
    · exact absurd h.1 (by omega)
    · exact absurd h.2 (by omega)
  · exact h2 h
theorem made_eq (n : Int) : madeS (.text (ruleT ⟨#[61]⟩ n)) = (0, inputS ⟨(textL n).toArray⟩) := by
  rw [show ruleT ⟨#[61]⟩ n = ⟨([61] ++ textL n).toArray⟩ from ruleT_list [61] n]
  simp [madeS, madeT, sgn, sgnOp, Lib.hasPrefix, Lib.trimPrefix]
theorem made_ne (n : Int) : madeS (.text (ruleT ⟨#[60, 62]⟩ n)) = (1, inputS ⟨(textL n).toArray⟩) := by
  rw [show ruleT ⟨#[60, 62]⟩ n = ⟨([60, 62] ++ textL n).toArray⟩ from ruleT_list [60, 62] n]
  simp [madeS, madeT, sgn, sgnOp, Lib.hasPrefix, Lib.trimPrefix]
theorem made_ge (n : Int) : madeS (.text (ruleT ⟨#[62, 61]⟩ n)) = (5, inputS ⟨(textL n).toArray⟩) := by
  rw [show ruleT ⟨#[62, 61]⟩ n = ⟨([62, 61] ++ textL n).toArray⟩ from ruleT_list [62, 61] n]
  simp [madeS, madeT, sgn, sgnOp, Lib.hasPrefix, Lib.trimPrefix]
theorem made_lt (n : Int) : madeS (.text (ruleT ⟨#[60]⟩ n)) = (2, inputS ⟨(textL n).toArray⟩) := by
  obtain ⟨c, l, hb, hd⟩ := text_head n
  have h1 := head_ne hd 62 (by decide) (by decide)
  have h2 := head_ne hd 61 (by decide) (by decide)
  rw [show ruleT ⟨#[60]⟩ n = ⟨([60] ++ textL n).toArray⟩ from ruleT_list [60] n, hb]
  simp [madeS, madeT, sgn, sgnOp, Lib.hasPrefix, Lib.trimPrefix, h1, h2]
theorem text_short (n : Int) (hn : Num n) : (textL n).length ≤ 30 := by
  obtain ⟨h1, h2⟩ := hn
  have hb : (bodyL n.natAbs).length ≤ 25 := by
    unfold bodyL
    rw [List.length_append]
    have := digits_short (u := n.natAbs / 10000) (by omega)
    split
    · have := frac_len (n.natAbs % 10000) (Nat.mod_lt _ (by omega))
      unfold fracL at this
      rw [List.length_cons]; omega
    · simp; omega
  unfold textL
  split
  · rw [List.length_cons]; omega
  · omega
theorem ruleT_size (pre : ByteArray) (n : Int) (hn : Num n) (hp : pre.size ≤ 2) : (ruleT pre n).size ≤ 32 := by
  unfold ruleT
  rw [ByteArray.size_append]
  have := text_short n hn
  show pre.size + (List.toArray _).size ≤ 32
  rw [List.size_toArray]; omega
theorem split_pure (X : ArgD) (n : Int) (hn : Num n) (ha : X.area = true) :
    countifS X (oneD (.text (ruleT ⟨#[61]⟩ n))) + countifS X (oneD (.text (ruleT ⟨#[60, 62]⟩ n))) = X.l.length ∧
    countifS X (oneD (.text (ruleT ⟨#[60]⟩ n))) + countifS X (oneD (.text (ruleT ⟨#[62, 61]⟩ n))) = countS V.counts [X] := by
  obtain ⟨m, hm⟩ := input_text n hn
  unfold countifS
  rw [one_oneD, one_oneD, one_oneD, one_oneD, made_eq, made_ne, made_lt, made_ge, hm]
  exact ⟨split_all X _, split_num X m ha⟩
end Go.Proofs.YtphjmbaifkneiaaGreatDoor
