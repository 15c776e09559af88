/- AreasShared, the plain law: what hangs on the flat list of values alone does not see how values are shared out. (MEDIAN and the walk are still to come.) -/
import Derived.Test.YtphjmbaifkneiaaGreatDoorC6
namespace Go.Proofs.YtphjmbaifkneiaaGreatDoor
open Go.RowKit

theorem flat_shared (x y both : ArgD) (hx : x.area = true) (hy : y.area = true) (hb : both.area = true) (hl : both.l = x.l ++ y.l) : flat [x, y] = flat [both] := by
  unfold flat
  simp only [List.flatMap_cons, List.flatMap_nil, List.append_nil]
  rw [hl, hx, hy, hb, List.map_append]
theorem num_shared (g : List Int → V) {a b : List ArgD} (h : flat a = flat b) : numV g a = numV g b := by unfold numV; rw [h]
theorem cnt_shared (p : V → Bool → Bool) {a b : List ArgD} (h : flat a = flat b) : cntV p a = cntV p b := by unfold cntV countS; rw [h]
theorem and_shared {a b : List ArgD} (h : flat a = flat b) : andS a = andS b := by unfold andS; rw [h]
end Go.Proofs.YtphjmbaifkneiaaGreatDoor
