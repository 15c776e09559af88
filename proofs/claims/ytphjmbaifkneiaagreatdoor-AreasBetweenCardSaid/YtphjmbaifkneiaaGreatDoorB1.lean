/- How layer 18's arguments lie in memory: slices of values, arguments, slices of arguments. -/
import Derived.Test.YtphjmbaifkneiaaGreatDoorA4
namespace Go.Proofs.YtphjmbaifkneiaaGreatDoor
open Go.RowKit

/-- A slice that reads as these values. -/
def VSl (w : World) (v : Value) (xs : List V) : Prop :=
  ∃ A c, v = .slice A xs.length c ∧ xs.length ≤ c ∧ c ≤ 9223372036854775807 ∧ ∀ k (h : k < xs.length), ∃ b o, A = some ⟨b, o, none⟩ ∧ b < w.heap.size ∧ w.cell? ⟨b, o + k, none⟩ = some xs[k].val
/-- An argument of layer 15. -/
structure ArgD where
  rows : Int
  cols : Int
  area : Bool
  l : List V
def ArgIs (w : World) (v : Value) (x : ArgD) : Prop := ∃ s, v = .agg #[.int .i64 x.rows, .int .i64 x.cols, .bool x.area, s] ∧ VSl w s x.l
/-- A slice that reads as these arguments. -/
def ASl (w : World) (v : Value) (xs : List ArgD) : Prop :=
  ∃ A c, v = .slice A xs.length c ∧ xs.length ≤ c ∧ c ≤ 9223372036854775807 ∧ ∀ k (h : k < xs.length), ∃ b o s, A = some ⟨b, o, none⟩ ∧ b < w.heap.size ∧
    w.cell? ⟨b, o + k * 4, none⟩ = some (.int .i64 xs[k].rows) ∧ w.cell? ⟨b, o + k * 4 + 1, none⟩ = some (.int .i64 xs[k].cols) ∧ w.cell? ⟨b, o + k * 4 + 2, none⟩ = some (.bool xs[k].area) ∧ w.cell? ⟨b, o + k * 4 + 3, none⟩ = some s ∧ VSl w s xs[k].l

theorem VSl.ext {w w' : World} {v : Value} {xs : List V} (h : VSl w v xs) (hx : Ext w w') : VSl w' v xs := by
  obtain ⟨A, c, rfl, h1, h2, h3⟩ := h
  refine ⟨A, c, rfl, h1, h2, fun k hk => ?_⟩
  obtain ⟨b, o, hA, hb, hc⟩ := h3 k hk
  exact ⟨b, o, hA, Nat.lt_of_lt_of_le hb hx.size, (hx.cell hb).trans hc⟩
theorem ArgIs.ext {w w' : World} {v : Value} {x : ArgD} (h : ArgIs w v x) (hx : Ext w w') : ArgIs w' v x := by
  obtain ⟨s, rfl, h⟩ := h
  exact ⟨s, rfl, h.ext hx⟩
theorem ASl.ext {w w' : World} {v : Value} {xs : List ArgD} (h : ASl w v xs) (hx : Ext w w') : ASl w' v xs := by
  obtain ⟨A, c, rfl, h1, h2, h3⟩ := h
  refine ⟨A, c, rfl, h1, h2, fun k hk => ?_⟩
  obtain ⟨b, o, s, hA, hb, c0, c1, c2, c3, hs⟩ := h3 k hk
  exact ⟨b, o, s, hA, Nat.lt_of_lt_of_le hb hx.size, (hx.cell hb).trans c0, (hx.cell hb).trans c1, (hx.cell hb).trans c2, (hx.cell hb).trans c3, hs.ext hx⟩
end Go.Proofs.YtphjmbaifkneiaaGreatDoor
