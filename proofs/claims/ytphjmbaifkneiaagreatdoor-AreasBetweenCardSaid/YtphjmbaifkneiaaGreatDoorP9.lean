/- AreasBetween, the plain law: the mean and the middle of numbers lie between the least and the greatest. -/
import Derived.Test.YtphjmbaifkneiaaGreatDoorC7
import Derived.Test.YtphjmbaifkneiaaGreatDoorP5
namespace Go.Proofs.YtphjmbaifkneiaaGreatDoor

theorem minS_le : ∀ (l : List Int) (m : Int), minS l m ≤ m ∧ ∀ n ∈ l, minS l m ≤ n
  | [], m => ⟨Int.le_refl _, fun _ h => by cases h⟩
  | k :: l, m => by
    obtain ⟨h1, h2⟩ := minS_le l (min m k)
    refine ⟨Int.le_trans h1 (Int.min_le_left _ _), fun n hn => ?_⟩
    rcases List.mem_cons.1 hn with rfl | hn
    · exact Int.le_trans h1 (Int.min_le_right _ _)
    · exact h2 n hn
theorem minS_mem : ∀ (l : List Int) (m : Int), minS l m = m ∨ minS l m ∈ l
  | [], _ => .inl rfl
  | k :: l, m => by
    rcases minS_mem l (min m k) with h | h
    · by_cases hk : m ≤ k
      · exact .inl (by show minS l (min m k) = m; rw [h]; omega)
      · exact .inr (by show minS l (min m k) ∈ _; rw [h, show min m k = k by omega]; exact List.mem_cons_self ..)
    · exact .inr (List.mem_cons_of_mem _ h)
theorem maxS_le : ∀ (l : List Int) (m : Int), m ≤ maxS l m ∧ ∀ n ∈ l, n ≤ maxS l m
  | [], m => ⟨Int.le_refl _, fun _ h => by cases h⟩
  | k :: l, m => by
    obtain ⟨h1, h2⟩ := maxS_le l (max m k)
    refine ⟨Int.le_trans (Int.le_max_left _ _) h1, fun n hn => ?_⟩
    rcases List.mem_cons.1 hn with rfl | hn
    · exact Int.le_trans (Int.le_max_right _ _) h1
    · exact h2 n hn
theorem maxS_mem : ∀ (l : List Int) (m : Int), maxS l m = m ∨ maxS l m ∈ l
  | [], _ => .inl rfl
  | k :: l, m => by
    rcases maxS_mem l (max m k) with h | h
    · by_cases hk : k ≤ m
      · exact .inl (by show maxS l (max m k) = m; rw [h]; omega)
      · exact .inr (by show maxS l (max m k) ∈ _; rw [h, show max m k = k by omega]; exact List.mem_cons_self ..)
    · exact .inr (List.mem_cons_of_mem _ h)

theorem roundQ_le {N d : Nat} (B : Nat) (hd : 0 < d) (h : N ≤ B * d) : roundQ N d ≤ B := by
  have h1 := Nat.div_add_mod N d
  have h2 := Nat.mod_lt N hd
  have hq : N / d ≤ B := Nat.div_le_of_le_mul (by rw [Nat.mul_comm]; exact h)
  unfold roundQ
  split
  · have : N / d < B := by
      apply Nat.lt_of_not_le
      intro hc
      have : B = N / d := Nat.le_antisymm hc hq
      have h3 : d * (N / d) = B * d := by rw [← this, Nat.mul_comm]
      omega
    omega
  · exact hq
theorem le_roundQ {N d : Nat} (B : Nat) (hd : 0 < d) (h : B * d ≤ N) : B ≤ roundQ N d := by
  have hq : B ≤ N / d := (Nat.le_div_iff_mul_le hd).2 h
  unfold roundQ
  split <;> omega

/-- A sum lies between so many times the least and so many times the greatest. -/
theorem sumS_between {lo hi : Int} : ∀ (l : List Int) (s : Int), (∀ n ∈ l, lo ≤ n ∧ n ≤ hi) → (sumS l s).2 = true → s + l.length * lo ≤ (sumS l s).1 ∧ (sumS l s).1 ≤ s + l.length * hi
  | [], s, _, _ => by simp [sumS]
  | n :: l, s, h, hk => by
    have hn := h n (List.mem_cons_self ..)
    have h' : ∀ m ∈ l, lo ≤ m ∧ m ≤ hi := fun m hm => h m (List.mem_cons_of_mem _ hm)
    unfold sumS at hk ⊢
    by_cases ha : (addD s n).2 = true
    · rw [if_pos ha] at hk ⊢
      have e : (addD s n).1 = s + n := by
        unfold addD at ha ⊢
        split at ha
        · exact absurd ha (by simp)
        · rename_i h1; rw [if_neg h1]
      have ih := sumS_between l _ h' hk
      rw [e] at ih ⊢
      rw [List.length_cons]
      have e1 : ((l.length + 1 : Nat) : Int) * lo = l.length * lo + lo := by rw [Int.natCast_add, Int.add_mul]; simp
      have e2 : ((l.length + 1 : Nat) : Int) * hi = l.length * hi + hi := by rw [Int.natCast_add, Int.add_mul]; simp
      rw [e1, e2]
      omega
    · rw [if_neg ha] at hk
      exact absurd hk (by simp)

theorem mean_between {lo hi m : Int} {l : List Int} (h : ∀ n ∈ l, lo ≤ n ∧ n ≤ hi) (hm : meanS l = .num m) : lo ≤ m ∧ m ≤ hi := by
  unfold meanS at hm
  by_cases h0 : l.length = 0
  · rw [if_pos h0] at hm; cases hm
  rw [if_neg h0] at hm
  by_cases hs : (sumS l 0).2 = true
  · rw [if_pos hs] at hm
    have hb := sumS_between l 0 h hs
    obtain ⟨S, hS⟩ : ∃ S, (sumS l 0).1 = S := ⟨_, rfl⟩
    rw [hS] at hb hm
    obtain ⟨b1, b2⟩ := hb
    rw [Int.zero_add] at b1 b2
    unfold cnt divD signed at hm
    obtain ⟨L, hL⟩ : ∃ L, l.length = L := ⟨_, rfl⟩
    rw [hL] at hm b1 b2 h0
    have hLp : 0 < L := by omega
    have hd : 0 < L * 10000 := by omega
    have e1 : (((L * 10000 : Nat) : Int)).natAbs = L * 10000 := by omega
    have e2 : decide (((L * 10000 : Nat) : Int) < 0) = false := by simp; omega
    rw [e1, e2] at hm
    obtain ⟨q, hq⟩ : ∃ q, roundQ (S.natAbs * 10000) (L * 10000) = q := ⟨_, rfl⟩
    rw [hq] at hm
    have up : ∀ B : Nat, S.natAbs ≤ B * L → q ≤ B := fun B hB => by
      rw [← hq]; exact roundQ_le B hd (by rw [← Nat.mul_assoc]; exact Nat.mul_le_mul_right _ hB)
    have dn : ∀ B : Nat, B * L ≤ S.natAbs → B ≤ q := fun B hB => by
      rw [← hq]; exact le_roundQ B hd (by rw [← Nat.mul_assoc]; exact Nat.mul_le_mul_right _ hB)
    by_cases hbig : 999999999999999999 < q
    · rw [if_pos hbig] at hm; cases hm
    rw [if_neg hbig] at hm
    by_cases hneg : S < 0
    · have hdn : (decide (S < 0) != false) = true := by simp [hneg]
      rw [hdn] at hm
      have hm' : m = -(q : Int) := by
        injection hm with e; exact e.symm
      have hlo : lo < 0 := by
        apply Int.lt_of_not_ge
        intro hc
        have := Int.mul_nonneg (Int.natCast_nonneg L) hc
        omega
      have u := up lo.natAbs (by
        have : ((lo.natAbs * L : Nat) : Int) = -(L * lo) := by
          rw [Int.natCast_mul, show ((lo.natAbs : Nat) : Int) = -lo by omega, Int.neg_mul, Int.mul_comm]
        omega)
      refine ⟨by omega, ?_⟩
      by_cases hh : 0 ≤ hi
      · omega
      · have d := dn hi.natAbs (by
          have : ((hi.natAbs * L : Nat) : Int) = -(L * hi) := by
            rw [Int.natCast_mul, show ((hi.natAbs : Nat) : Int) = -hi by omega, Int.neg_mul, Int.mul_comm]
          omega)
        omega
    · have hdn : (decide (S < 0) != false) = false := by simp [hneg]
      rw [hdn] at hm
      have hm' : m = (q : Int) := by
        injection hm with e; exact e.symm
      have hhi : 0 ≤ hi := by
        apply Int.le_of_not_gt
        intro hc
        have := Int.mul_neg_of_pos_of_neg (show (0 : Int) < L by omega) hc
        omega
      have u := up hi.natAbs (by
        have : ((hi.natAbs * L : Nat) : Int) = L * hi := by
          rw [Int.natCast_mul, show ((hi.natAbs : Nat) : Int) = hi by omega, Int.mul_comm]
        omega)
      refine ⟨?_, by omega⟩
      by_cases hh : lo ≤ 0
      · omega
      · have d := dn lo.natAbs (by
          have : ((lo.natAbs * L : Nat) : Int) = L * lo := by
            rw [Int.natCast_mul, show ((lo.natAbs : Nat) : Int) = lo by omega, Int.mul_comm]
          omega)
        omega
  · rw [if_neg hs] at hm; cases hm

theorem sortS_le (l : List Int) {i j : Nat} (hij : i ≤ j) (hj : j < (sortS l).length) : (sortS l)[i]'(Nat.lt_of_le_of_lt hij hj) ≤ (sortS l)[j] := by
  have hp : (sortS l).Pairwise fun a b => decide (a ≤ b) = true := List.pairwise_mergeSort (fun a b c h1 h2 => by simp at h1 h2 ⊢; omega) (fun a b => by simp; omega) l
  rcases Nat.lt_or_eq_of_le hij with h | rfl
  · simpa using List.pairwise_iff_getElem.1 hp i j _ hj h
  · exact Int.le_refl _
theorem median_between {lo hi m : Int} {l : List Int} (h : ∀ n ∈ l, lo ≤ n ∧ n ≤ hi) (hm : medianS l = .num m) : lo ≤ m ∧ m ≤ hi := by
  unfold medianS at hm
  have hl := sortS_len l
  by_cases h0 : l.length = 0
  · rw [if_pos h0] at hm; cases hm
  rw [if_neg h0] at hm
  by_cases ho : l.length % 2 = 1
  · rw [if_pos ho, List.getElem?_eq_getElem (by omega)] at hm
    injection hm with e
    rw [← e]
    exact h _ ((sortS_mem l _).1 (List.getElem_mem _))
  · rw [if_neg ho] at hm
    exact mean_between (fun n hn => h n ((sortS_mem l n).1 (List.mem_of_mem_drop (List.mem_of_mem_take hn)))) hm
theorem sortS_first {x : Int} {l : List Int} (h : 0 < (sortS (x :: l)).length) : (sortS (x :: l))[0] = minS l x := by
  have hin : minS l x ∈ x :: l := by
    rcases minS_mem l x with e | e
    · rw [e]; exact List.mem_cons_self ..
    · exact List.mem_cons_of_mem _ e
  have hle : ∀ n ∈ x :: l, minS l x ≤ n := fun n hn => by
    rcases List.mem_cons.1 hn with rfl | hn
    · exact (minS_le l n).1
    · exact (minS_le l x).2 n hn
  obtain ⟨j, hj, e⟩ := List.mem_iff_getElem.1 ((sortS_mem _ _).2 hin)
  have h1 := sortS_le (x :: l) (Nat.zero_le j) hj
  have h2 := hle _ ((sortS_mem _ _).1 (List.getElem_mem h))
  omega
theorem sortS_last {x : Int} {l : List Int} {k : Nat} (hk : k + 1 = (sortS (x :: l)).length) : (sortS (x :: l))[k]'(by omega) = maxS l x := by
  have hin : maxS l x ∈ x :: l := by
    rcases maxS_mem l x with e | e
    · rw [e]; exact List.mem_cons_self ..
    · exact List.mem_cons_of_mem _ e
  have hle : ∀ n ∈ x :: l, n ≤ maxS l x := fun n hn => by
    rcases List.mem_cons.1 hn with rfl | hn
    · exact (maxS_le l n).1
    · exact (maxS_le l x).2 n hn
  obtain ⟨j, hj, e⟩ := List.mem_iff_getElem.1 ((sortS_mem _ _).2 hin)
  have h1 := sortS_le (x :: l) (i := j) (j := k) (by omega) (by omega)
  have h2 := hle _ ((sortS_mem _ _).1 (List.getElem_mem (l := sortS (x :: l)) (n := k) (by omega)))
  omega
theorem run_count (l : List (V × Bool)) : ∀ (ns : List Int), (∀ q ∈ l, q.2 = true) → (runS numStep l ns).1 = 0 → (runS numStep l ns).2.length = ns.length + (l.filter fun q => V.counts q.1 q.2).length := by
  induction l with
  | nil => intro ns _ _; simp [runS]
  | cons q l ih =>
    obtain ⟨v, a⟩ := q
    intro ns ha h0
    obtain rfl : a = true := ha _ (List.mem_cons_self ..)
    have ha' : ∀ q ∈ l, q.2 = true := fun q hq => ha q (List.mem_cons_of_mem _ hq)
    have hc : V.counts v true = v.isNum := by unfold V.counts; simp
    unfold runS at h0 ⊢
    by_cases hs : (numStep ns v true).1 = 0
    · rw [if_pos hs] at h0 ⊢
      rw [ih _ ha' h0, List.filter_cons]
      show _ = _ + (if V.counts v true then (v, true) :: _ else _).length
      rw [hc]
      unfold numStep
      cases v.isNum with
      | true => simp; omega
      | false => simp
    · rw [if_neg hs] at h0
      exact absurd h0 hs

theorem whole_one (k : Nat) (hk : k ≤ 100000) : wholeS (oneD (.num ((k * 10000 : Nat) : Int))) = (k : Int) := by
  unfold wholeS
  rw [one_oneD]
  show max (min (((k * 10000 : Nat) : Int).tdiv 10000) 100000) (-100000) = _
  rw [show ((k * 10000 : Nat) : Int) = (k : Int) * 10000 by omega, Int.mul_tdiv_cancel _ (by decide)]
  omega

theorem isNum_num {v : V} (h : v.isNum = true) : v = .num v.numN := by cases v <;> first | rfl | (simp [V.isNum] at h)
theorem numV_num {g : List Int → V} {args : List ArgD} (h : (numV g args).isNum = true) : (runS numStep (flat args) []).1 = 0 ∧ numV g args = g (runS numStep (flat args) []).2 := by
  unfold numV at h ⊢
  by_cases h0 : (runS numStep (flat args) []).1 = 0
  · exact ⟨h0, by simp [h0]⟩
  · rw [if_pos h0] at h
    simp [V.isNum] at h

/-- What the law asks, of the numbers of one area. -/
theorem between_pure (y : ArgD) (hy : y.area = true) (hl : y.l.length ≤ 30) (h1 : (numV leastS [y]).isNum = true) (h2 : (numV mostS [y]).isNum = true) (h3 : (numV meanS [y]).isNum = true) (h4 : (numV medianS [y]).isNum = true) (h5 : countS V.counts [y] ≠ 0) :
    ∃ l, runS numStep (flat [y]) [] = (0, l) ∧ l.length = countS V.counts [y] ∧ 1 ≤ l.length ∧ l.length ≤ 30 ∧
      (sortS l)[1 - 1]?.getD 0 = (numV leastS [y]).numN ∧ (sortS l)[l.length + 1 - 1 - 1]?.getD 0 = (numV mostS [y]).numN ∧ (sortS l)[l.length - 1]?.getD 0 = (numV mostS [y]).numN ∧
      (numV leastS [y]).numN ≤ (numV meanS [y]).numN ∧ (numV meanS [y]).numN ≤ (numV mostS [y]).numN ∧ (numV leastS [y]).numN ≤ (numV medianS [y]).numN ∧ (numV medianS [y]).numN ≤ (numV mostS [y]).numN := by
  obtain ⟨z, e1⟩ := numV_num h1
  obtain ⟨_, e2⟩ := numV_num h2
  obtain ⟨_, e3⟩ := numV_num h3
  obtain ⟨_, e4⟩ := numV_num h4
  rw [e3] at h3
  rw [e4] at h4
  rw [e1, e2, e3, e4]
  have hc := run_count (flat [y]) [] (fun q hq => by
    simp only [flat, List.flatMap_cons, List.flatMap_nil, List.append_nil, List.mem_map] at hq
    obtain ⟨v, _, rfl⟩ := hq
    exact hy) z
  have hcl : countS V.counts [y] ≤ 30 := by
    refine Nat.le_trans (List.length_filter_le _ _) ?_
    simpa [flat] using hl
  obtain ⟨l, hr⟩ : ∃ l, (runS numStep (flat [y]) []).2 = l := ⟨_, rfl⟩
  rw [hr] at hc h3 h4 ⊢
  have hrun : runS numStep (flat [y]) [] = (0, l) := Prod.ext z hr
  have hlen : l.length = countS V.counts [y] := by simpa [countS] using hc
  cases l with
  | nil => exact absurd hlen.symm (by simpa using h5)
  | cons x t =>
    have hle : ∀ n ∈ x :: t, minS t x ≤ n ∧ n ≤ maxS t x := fun n hn => by
      rcases List.mem_cons.1 hn with rfl | hn
      · exact ⟨(minS_le t n).1, (maxS_le t n).1⟩
      · exact ⟨(minS_le t x).2 n hn, (maxS_le t x).2 n hn⟩
    have hsl := sortS_len (x :: t)
    have hm := mean_between hle (isNum_num h3)
    have hd := median_between hle (isNum_num h4)
    have hs0 : (sortS (x :: t))[0]?.getD 0 = minS t x := by
      rw [List.getElem?_eq_getElem (by rw [hsl]; simp), Option.getD_some]
      exact sortS_first _
    have hs1 : (sortS (x :: t))[t.length]?.getD 0 = maxS t x := by
      rw [List.getElem?_eq_getElem (by rw [hsl]; simp), Option.getD_some]
      exact sortS_last (by rw [hsl]; simp)
    refine ⟨x :: t, hrun, hlen, by simp, by omega, hs0, ?_, ?_, hm.1, hm.2, hd.1, hd.2⟩
    · show _ = maxS t x
      simpa using hs1
    · show _ = maxS t x
      simpa using hs1
end Go.Proofs.YtphjmbaifkneiaaGreatDoor
