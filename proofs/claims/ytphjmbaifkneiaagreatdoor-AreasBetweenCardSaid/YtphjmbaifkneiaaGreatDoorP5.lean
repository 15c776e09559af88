/- AreasFinds: that what is computed answers as the statement says. -/
import Derived.Test.YtphjmbaifkneiaaGreatDoorC2
import Derived.Test.YtphjmbaifkneiaaGreatDoorC3
namespace Go.Proofs.YtphjmbaifkneiaaGreatDoor
open Go.RowKit

theorem cmpInt_zero {x y : Int} (h : (cmpInt x y == 0) = true) : x = y := by
  unfold cmpInt at h
  split at h
  · simp at h
  · split at h
    · simp at h
    · omega
theorem fits_told {u v : V} (hv : v.isText = false) (h : fitsS 0 v u = true) : u.kind = v.kind ∧ u.n = v.n ∧ u.s = v.s := by
  unfold fitsS at h
  split at h
  · rename_i hk
    refine ⟨hk, ?_⟩
    cases v with
    | text t => simp [V.isText] at hv
    | blank => cases u <;> simp [V.kind] at hk <;> exact ⟨rfl, rfl⟩
    | num n =>
      cases u <;> simp [V.kind] at hk
      rename_i m
      have h2 : (cmpInt m n == 0) = true := h
      exact ⟨cmpInt_zero h2, rfl⟩
    | bool b =>
      cases u <;> simp [V.kind] at hk
      rename_i m
      cases m <;> cases b <;> first | exact ⟨rfl, rfl⟩ | exact absurd h (by decide +kernel)
    | fail n =>
      cases u <;> simp [V.kind] at hk
      rename_i m
      have h2 : ((0 : Int) == 0 && m == n) = true := h
      simp at h2
      exact ⟨h2, rfl⟩
  · simp at h

def oneD (v : V) : ArgD := ⟨1, 1, false, [v]⟩
theorem one_oneD (v : V) : (oneD v).one = v := rfl
theorem madeS_nt {v : V} (hv : v.isText = false) : madeS v = (0, v) := by cases v <;> first | rfl | (simp [V.isText] at hv)
theorem countif_nt {X : ArgD} {v : V} (hv : v.isText = false) : countifS X (oneD v) = (X.l.filter (fitsS 0 v)).length := by
  unfold countifS
  rw [one_oneD, madeS_nt hv]
  congr 1

theorem finds_pure (X : ArgD) (v : V) (hl : X.l.length ≤ 99999) (hv : v.isText = false) :
    (matchS (oneD v) X = .fail 5 ∧ countifS X (oneD v) = 0) ∨ ∃ j : Nat, j ≤ 99999 ∧ matchS (oneD v) X = .num (((j + 1) * 10000 : Nat) : Int) ∧ 0 < countifS X (oneD v) ∧
      ∃ u, indexC X (oneD (.num (((j + 1) * 10000 : Nat) : Int))) = u ∧ u.kind = v.kind ∧ u.n = v.n ∧ u.s = v.s := by
  rw [countif_nt hv]
  have hm : matchS (oneD v) X = if 0 ≤ idxS (fitsS 0 v) X.l 0 then .num ((idxS (fitsS 0 v) X.l 0 + 1) * 10000) else .fail 5 := rfl
  rcases idxS_range (fitsS 0 v) X.l 0 with ⟨h1, h2⟩ | ⟨j, hj, h1, h2⟩
  · refine .inl ⟨by rw [hm, h1]; rfl, ?_⟩
    rw [List.filter_eq_nil_iff.2 (fun u hu => by simp [h2 u hu])]
    rfl
  · have h1' : idxS (fitsS 0 v) X.l 0 = (j : Int) := by rw [h1]; congr 1; omega
    refine .inr ⟨j, by omega, ?_, ?_, X.l[j], ?_, fits_told hv h2⟩
    · rw [hm, h1', if_pos (by omega)]
      congr 1
    · exact List.length_pos_of_mem (List.mem_filter.2 ⟨List.getElem_mem hj, h2⟩)
    · unfold indexC
      rw [one_oneD]
      have e0 : (V.num (((j + 1) * 10000 : Nat) : Int)).asNum = ((((j + 1) * 10000 : Nat) : Int), 0) := rfl
      rw [e0, if_neg (by simp)]
      have ew : wholeS (oneD (.num (((j + 1) * 10000 : Nat) : Int))) = (j : Int) + 1 := by
        unfold wholeS
        rw [one_oneD, e0]
        have : ((((j + 1) * 10000 : Nat) : Int)).tdiv 10000 = (j : Int) + 1 := by
          rw [Int.tdiv_eq_ediv_of_nonneg (by omega)]; omega
        show max (min ((((j + 1) * 10000 : Nat) : Int).tdiv 10000) 100000) (-100000) = _
        rw [this]; omega
      rw [ew]
      unfold indexS
      rw [if_neg (by omega)]
      simp [List.getD, hj]
end Go.Proofs.YtphjmbaifkneiaaGreatDoor
