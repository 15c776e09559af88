/- A number's text, typed, is a number. -/
import Derived.Test.YtphjmbaifkneiaaGreatDoorT2
import Derived.Test.YtphjmbaifkneiaaGreatDoorF2
namespace Go.Proofs.YtphjmbaifkneiaaGreatDoor
open Go.RowKit

set_option maxRecDepth 100000

def isDig (c : UInt8) : Prop := 48 ≤ c.toNat ∧ c.toNat ≤ 57
theorem dg_dig (u j : Nat) : isDig (Lib.dg u j) := by
  unfold isDig Lib.dg
  have h : u / 10 ^ j % 10 < 10 := Nat.mod_lt _ (by omega)
  have e : (UInt8.ofNat (48 + u / 10 ^ j % 10)).toNat = 48 + u / 10 ^ j % 10 := by
    rw [UInt8.toNat_ofNat']; omega
  rw [e]; omega
theorem dec_dig (u : Nat) : ∀ c ∈ Lib.decDigits u, isDig c := by
  intro c hc
  rw [Lib.decDigits_eq] at hc
  obtain ⟨t, _, rfl⟩ := List.mem_map.1 hc
  exact dg_dig _ _
theorem nDigits_le : ∀ (k u : Nat), u < 10 ^ (k + 1) → Lib.nDigits u ≤ k + 1
  | 0, u, h => by rw [Lib.nDigits_small (by simpa using h)]; omega
  | k + 1, u, h => by
    by_cases h1 : u < 10
    · rw [Lib.nDigits_small h1]; omega
    · rw [Lib.nDigits_big h1]
      have := nDigits_le k (u / 10) (by rw [Nat.pow_succ] at h; omega)
      omega
theorem dec_ne (u : Nat) : Lib.decDigits u ≠ [] := fun h => by
  have := Lib.decDigits_length u
  have h2 := Lib.nDigits_pos u
  rw [h] at this
  simp at this
  omega
theorem index_none : ∀ (l : List UInt8), (∀ c ∈ l, isDig c) → Lib.indexByte l 46 = -1
  | [], _ => rfl
  | b :: l, h => by
    have hb := h b (List.mem_cons_self ..)
    have hne : (b == 46) = false := by
      cases hh : b == 46
      · rfl
      · have : b = 46 := by simpa using hh
        subst this
        exact absurd hb.1 (by decide)
    have := index_none l (fun c hc => h c (List.mem_cons_of_mem _ hc))
    simp [Lib.indexByte, hne, this]
theorem index_at : ∀ (l m : List UInt8), (∀ c ∈ l, isDig c) → Lib.indexByte (l ++ 46 :: m) 46 = (l.length : Int)
  | [], m, _ => by simp [Lib.indexByte]
  | b :: l, m, h => by
    have hb := h b (List.mem_cons_self ..)
    have hne : (b == 46) = false := by
      cases hh : b == 46
      · rfl
      · have : b = 46 := by simpa using hh
        subst this
        exact absurd hb.1 (by decide)
    have := index_at l m (fun c hc => h c (List.mem_cons_of_mem _ hc))
    have hn : ¬ ((l.length : Int) = -1) := by omega
    simp [Lib.indexByte, hne, this, hn]
theorem digits_ok : ∀ (l : List UInt8) (n k : Nat), (∀ c ∈ l, isDig c) → n < 10 ^ k → k + l.length ≤ 18 → ∃ m, digitsN l n = some m ∧ m < 10 ^ (k + l.length)
  | [], n, k, _, hn, _ => ⟨n, rfl, by simpa using hn⟩
  | c :: l, n, k, h, hn, hk => by
    have hc := h c (List.mem_cons_self ..)
    rw [List.length_cons] at hk
    have hk17 : 10 ^ k ≤ 10 ^ 17 := Nat.pow_le_pow_right (by omega) (by omega)
    have hn17 : n < 100000000000000000 := Nat.lt_of_lt_of_le hn hk17
    obtain ⟨c1, c2⟩ := hc
    have h2 : 10 * n + (c.toNat - 48) < 10 ^ (k + 1) := by rw [Nat.pow_succ]; omega
    obtain ⟨m, hm, hb⟩ := digits_ok l _ (k + 1) (fun c hc => h c (List.mem_cons_of_mem _ hc)) h2 (by omega)
    refine ⟨m, ?_, by rw [List.length_cons, show k + (l.length + 1) = k + 1 + l.length by omega]; exact hb⟩
    unfold digitsN
    rw [if_neg (by omega)]
    exact hm
theorem parse_body (minus : Bool) (D F : List UInt8) (hD : D ≠ []) (hDd : ∀ c ∈ D, isDig c) (hFd : ∀ c ∈ F, isDig c) (hl : D.length ≤ 14) (hF : F.length ≤ 4) (b : List UInt8) (hb : (b = D ∧ F = []) ∨ (b = D ++ 46 :: F ∧ F ≠ [])) : (parseBody minus b).2 = true := by
  have hc : dotCut b = (D, F, decide (F ≠ [])) := by
    rcases hb with ⟨rfl, rfl⟩ | ⟨rfl, hne⟩
    · unfold dotCut
      rw [index_none _ hDd]
      simp
    · unfold dotCut
      rw [index_at _ _ hDd, if_pos (by omega)]
      simp [hne]
  unfold parseBody
  rw [hc]
  rw [if_neg (by
    simp only [not_or, not_and]
    refine ⟨hD, fun h => ?_⟩
    have hFne : F ≠ [] := by simpa using h
    exact ⟨hFne, by omega⟩)]
  have hall : ∀ c ∈ D ++ F ++ List.replicate (4 - F.length) 48, isDig c := by
    intro c hc
    rcases List.mem_append.1 hc with hc | hc
    · rcases List.mem_append.1 hc with hc | hc
      · exact hDd c hc
      · exact hFd c hc
    · rw [List.eq_of_mem_replicate hc]; exact ⟨by decide, by decide⟩
  obtain ⟨m, hm, hmb⟩ := digits_ok (D ++ F ++ List.replicate (4 - F.length) 48) 0 0 hall (by omega) (by simp; omega)
  have hlen : (D ++ F ++ List.replicate (4 - F.length) 48).length ≤ 18 := by simp; omega
  have h18 : m < 10 ^ 18 := Nat.lt_of_lt_of_le hmb (Nat.pow_le_pow_right (by omega) (by omega))
  show (match digitsN (D ++ F ++ List.replicate (4 - F.length) 48) 0 with | none => ((0 : Int), false) | some n => madeD minus n).2 = true
  rw [hm]
  show (madeD minus (m : Int)).2 = true
  unfold madeD
  rw [if_neg (by omega)]

def fracL (p : Nat) : List UInt8 := Lib.trimRightB ((Lib.decDigits (10000 + p)).drop 1) 48
theorem trimRight_sub (l : List UInt8) (c : UInt8) : ∀ x ∈ Lib.trimRightB l c, x ∈ l := by
  intro x hx
  unfold Lib.trimRightB at hx
  rw [List.mem_reverse] at hx
  exact List.mem_reverse.1 ((List.dropWhile_sublist _).subset hx)
theorem frac_dig (p : Nat) : ∀ c ∈ fracL p, isDig c := fun c hc => dec_dig _ c (List.mem_of_mem_drop (trimRight_sub _ _ c hc))
theorem dec5 (p : Nat) (h : p < 10000) : Lib.decDigits (10000 + p) = [Lib.dg (10000 + p) 4, Lib.dg (10000 + p) 3, Lib.dg (10000 + p) 2, Lib.dg (10000 + p) 1, Lib.dg (10000 + p) 0] := by
  rw [Lib.decDigits_eq, show Lib.nDigits (10000 + p) = 5 from Lib.nDigits_unique 4 _ (by omega) (by omega)]
  rfl
theorem frac_len (p : Nat) (h : p < 10000) : (fracL p).length ≤ 4 := by
  refine Nat.le_trans (trimRight_le _ _) ?_
  rw [dec5 p h]
  simp
theorem dg_zero {u j : Nat} (h : Lib.dg u j = 48) : u / 10 ^ j % 10 = 0 := by
  have h1 := congrArg UInt8.toNat h
  unfold Lib.dg at h1
  rw [UInt8.toNat_ofNat'] at h1
  have : u / 10 ^ j % 10 < 10 := Nat.mod_lt _ (by omega)
  have h2 : (48 : UInt8).toNat = 48 := rfl
  omega
theorem drop_nil {p : UInt8 → Bool} : ∀ {l : List UInt8}, l.dropWhile p = [] → ∀ c ∈ l, p c = true
  | [], _, c, hc => by cases hc
  | a :: l, h, c, hc => by
    rw [List.dropWhile_cons] at h
    cases ha : p a with
    | true =>
      rw [ha] at h
      rcases List.mem_cons.1 hc with rfl | hc
      · exact ha
      · exact drop_nil (by simpa using h) c hc
    | false => rw [ha] at h; simp at h
theorem frac_ne (p : Nat) (h0 : 0 < p) (h : p < 10000) : fracL p ≠ [] := by
  intro he
  unfold fracL Lib.trimRightB at he
  rw [List.reverse_eq_nil_iff] at he
  have hall := drop_nil he
  rw [dec5 p h] at hall
  have e : ∀ j, j = 0 ∨ j = 1 ∨ j = 2 ∨ j = 3 → (10000 + p) / 10 ^ j % 10 = 0 := fun j hj => by
    refine dg_zero ?_
    have := hall (Lib.dg (10000 + p) j) (by rw [List.mem_reverse]; rcases hj with rfl | rfl | rfl | rfl <;> simp)
    simpa using this
  have e0 := e 0 (by simp)
  have e1 := e 1 (by simp)
  have e2 := e 2 (by simp)
  have e3 := e 3 (by simp)
  simp only [Nat.pow_zero, Nat.div_one, Nat.reducePow] at e0 e1 e2 e3
  omega

theorem body_form (u : Nat) : (bodyL u = Lib.decDigits (u / 10000) ∧ (if 0 < u % 10000 then fracL (u % 10000) else []) = []) ∨ (bodyL u = Lib.decDigits (u / 10000) ++ 46 :: (if 0 < u % 10000 then fracL (u % 10000) else []) ∧ (if 0 < u % 10000 then fracL (u % 10000) else []) ≠ []) := by
  unfold bodyL
  by_cases hp : 0 < u % 10000
  · simp only [if_pos hp]
    exact .inr ⟨rfl, frac_ne _ hp (Nat.mod_lt _ (by omega))⟩
  · simp only [if_neg hp]
    exact .inl ⟨by simp, trivial⟩
theorem body_parse (u : Nat) (hu : u ≤ 999999999999999999) (minus : Bool) : (parseBody minus (bodyL u)).2 = true := by
  refine parse_body minus (Lib.decDigits (u / 10000)) (if 0 < u % 10000 then fracL (u % 10000) else []) (dec_ne _) (dec_dig _) ?_ ?_ ?_ (bodyL u) (body_form u)
  · intro c hc
    split at hc
    · exact frac_dig _ c hc
    · cases hc
  · rw [Lib.decDigits_length]
    exact nDigits_le 13 _ (by omega)
  · split
    · exact frac_len _ (Nat.mod_lt _ (by omega))
    · simp
/-- A byte of a number's text. -/
def isTxt (c : UInt8) : Prop := isDig c ∨ c = 45 ∨ c = 46
theorem body_head (u : Nat) : ∃ c l, bodyL u = c :: l ∧ isDig c := by
  unfold bodyL
  have h := dec_dig (u / 10000)
  cases hd : Lib.decDigits (u / 10000) with
  | nil => exact absurd hd (dec_ne _)
  | cons c l => exact ⟨c, _, rfl, h c (by rw [hd]; exact List.mem_cons_self ..)⟩
theorem text_head (n : Int) : ∃ c l, textL n = c :: l ∧ (isDig c ∨ c = 45) := by
  unfold textL
  split
  · exact ⟨45, _, rfl, .inr rfl⟩
  · obtain ⟨c, l, h, hd⟩ := body_head n.natAbs
    exact ⟨c, l, h, .inl hd⟩
theorem body_txt (u : Nat) : ∀ c ∈ bodyL u, isTxt c := by
  intro c hc
  unfold bodyL at hc
  rcases List.mem_append.1 hc with hc | hc
  · exact .inl (dec_dig _ c hc)
  · split at hc
    · rcases List.mem_cons.1 hc with rfl | hc
      · exact .inr (.inr rfl)
      · exact .inl (frac_dig _ c hc)
    · cases hc
theorem text_txt (n : Int) : ∀ c ∈ textL n, isTxt c := by
  intro c hc
  unfold textL at hc
  split at hc
  · rcases List.mem_cons.1 hc with rfl | hc
    · exact .inr (.inl rfl)
    · exact body_txt _ c hc
  · exact body_txt _ c hc
theorem trim_none (l : List UInt8) (h : ∀ c ∈ l, (c == 32) = false) : Lib.trimB l 32 = l := by
  have e : ∀ m : List UInt8, (∀ c ∈ m, (c == 32) = false) → m.dropWhile (· == 32) = m := fun m hm => by
    cases m with
    | nil => rfl
    | cons c m => rw [List.dropWhile_cons, hm c (List.mem_cons_self ..)]; rfl
  unfold Lib.trimB Lib.trimLeftB Lib.trimRightB
  rw [e l.reverse (fun c hc => h c (List.mem_reverse.1 hc)), List.reverse_reverse]
  exact e l h
theorem txt_space {c : UInt8} (h : isTxt c) : (c == 32) = false := by
  cases hh : c == 32
  · rfl
  · have : c = 32 := by simpa using hh
    subst this
    rcases h with h | h | h
    · exact absurd h.1 (by decide)
    · exact absurd h (by decide)
    · exact absurd h (by decide)
theorem input_text (n : Int) (hn : Num n) : ∃ m, inputS ⟨(textL n).toArray⟩ = .num m := by
  obtain ⟨h1, h2⟩ := hn
  have hl : (⟨(textL n).toArray⟩ : ByteArray).data.toList = textL n := by simp
  have ht : trimS ⟨(textL n).toArray⟩ = ⟨(textL n).toArray⟩ := by
    unfold trimS
    rw [hl, trim_none _ (fun c hc => txt_space (text_txt n c hc))]
  have hp : (parseS ⟨(textL n).toArray⟩).2 = true := by
    unfold parseS
    rw [hl]
    by_cases hneg : n < 0
    · have e : textL n = 45 :: bodyL n.natAbs := by unfold textL; rw [if_pos hneg]
      have e2 : Lib.trimPrefix (45 :: bodyL n.natAbs) [45] = bodyL n.natAbs := by simp [Lib.trimPrefix, Lib.hasPrefix]
      rw [e, e2]
      exact body_parse _ (by omega) _
    · have e : textL n = bodyL n.natAbs := by unfold textL; rw [if_neg hneg]
      obtain ⟨c, l, hb, hd⟩ := body_head n.natAbs
      have e2 : Lib.trimPrefix (bodyL n.natAbs) [45] = bodyL n.natAbs := by
        have hc : (c == 45) = false := by
          cases hh : c == 45
          · rfl
          · have : c = 45 := by simpa using hh
            subst this
            exact absurd hd.1 (by decide)
        have hc2 : ¬ (45 : UInt8) = c := fun h => by rw [← h] at hc; exact absurd hc (by decide)
        rw [hb]; simp [Lib.trimPrefix, Lib.hasPrefix, hc2]
      rw [e, e2]
      exact body_parse _ (by omega) _
  obtain ⟨c, l, hb, hd⟩ := text_head n
  have hq : ¬ Lib.hasPrefix (textL n) [39] = true := by
    have hc2 : ¬ (39 : UInt8) = c := fun h => by
      subst h
      rcases hd with hd | hd
      · exact absurd hd.1 (by decide)
      · exact absurd hd (by decide)
    rw [hb]; simp [Lib.hasPrefix, hc2]
  unfold inputS
  rw [hl, if_neg hq, ht, if_pos hp]
  exact ⟨_, rfl⟩
end Go.Proofs.YtphjmbaifkneiaaGreatDoor
