/- How the statements' inputs lie, out of the row's reading; what the row's list of variables gives. The two general lemmas 'open_slice_fields' and 'post_of_below' are the kit's (howto/extra-structs, extra-small: texts to copy). -/
import Derived.Test.YtphjmbaifkneiaaGreatDoorL5
import Derived.Test.YtphjmbaifkneiaaGreatDoorCards
import Derived.Test.YtphjmbaifkneiaaGreatDoorTie
import Derived.ProofKit
import Derived.OpenShut
import Derived.Deep.DeepHandedRow
import Derived.Deep.DeepWitnessRowRef
import Derived.Deep.Slices
import Derived.Deep.Fields
import Derived.Lib.LaidU8
import Derived.Lib.SmallJoins
import Derived.SliceStrings
import Derived.Carry
import Derived.ChangeSame
namespace Go.Proofs.YtphjmbaifkneiaaGreatDoor
open Go.RowKit Go.WideShapes Go.ChangeShapes Go.ChangeAt Go.Deep Go.Joins

set_option maxRecDepth 100000

section
variable {H : Type} {enc : TypeId × Value → H} {P : Program}
theorem post_of_below {f : Func} {s : ChangeSpec} {apart fresh handsOn again : Bool} {W W' : World} {args : Array Value} {v : Value} {ds gs : List (DataW H)} {before pa pv : List MemPlace}
    (hW : DataW.Whole enc P f.params.toList s.vars apart W args.toList ds gs before)
    (hres : ∀ (b : Nat) (sp : Nat → Bool) (hd : Bool), DataW.TrodAll enc P W' b sp hd f.resultTypes.toList (v.resultList f.resultTypes.size) (s.fn H (ds ++ gs)).results [])
    (hargs : ∀ sp : Nat → Bool, (∀ p ∈ before, sp p.block = true) → DataW.TrodAll enc P W' 0 sp true f.params.toList args.toList (s.fn H (ds ++ gs)).args pa)
    (hvars : ∀ sp : Nat → Bool, (∀ p ∈ before, sp p.block = true) → DataW.TrodVars enc P W' sp s.vars (s.fn H (ds ++ gs)).vars pv)
    (hps : before = pa ++ pv) (hb : Below W.heap.size W W')
    (hok : ∀ (j : Nat) (t : TypeId) (r : Value), f.resultTypes[j]? = some t → (v.resultList f.resultTypes.size)[j]? = some r → Value.okWide P W' .any 0 t r) :
    s.post enc P f apart fresh handsOn again W args v W' := by
  have hlt : ∀ p ∈ before, p.block < W.heap.size := fun p hp => hW.lt p hp
  have hold : ∀ p ∈ before, (fun b => decide (b < W.heap.size)) p.block = true := fun p hp => by simpa using hlt p hp
  refine ⟨ds, gs, before, [], pa, pv, hW, hres _ _ _, hargs _ hold, hvars _ hold, World.keptBut_mono (fun p hp => ⟨hp, ?_⟩) (hb.frame (· ∈ before)), fun _ => ?_⟩
  · rw [hps, List.mem_append] at hp
    exact Or.inr hp
  · obtain ⟨_, _, _, _, _, hz, hn⟩ := hW
    refine ⟨hok, _, _, ([] ++ pa) ++ pv, ⟨[] ++ pa, pv, trodAll_append (hargs _ (fun _ _ => rfl)) (hres _ _ _), hvars _ (fun _ _ => rfl), rfl, ?_, ?_⟩, ?_⟩
    · intro b off hp
      have hin : MemPlace.cell b off ∈ before := by rw [hps]; simpa using hp
      rw [hb.frozen (hlt _ hin)]
      exact hz b off hin
    · intro ha
      have := hn ha
      rw [hps] at this
      simpa using this
    · intro p hp _
      rw [hps]
      simpa using hp
end
section
variable {H : Type} {enc : TypeId × Value → H} {P : Program} {w : World} {base : Nat} {spare : Nat → Bool} {held : Bool}
theorem open_slice_fields {t e : TypeId} {fs : Array Field} {fuel : Nat} {cs : List Value} {x : DataW H × List MemPlace} (ht : P.underlying t = some (.slice e)) (he : P.underlying e = some (.struct fs))
    (hone : oneCellFields P fs = true) (hC : P.cellsOf e = fs.size) (h : DataW.trod enc P w base spare held fuel t cs = some x) :
    (cs = [.slice none 0 0] ∧ x = (.nil, [])) ∨
    ∃ (a : Addr) (len cap m : Nat) (D : Nat → DataW H) (Pl : Nat → List MemPlace), cs = [.slice (some a) len cap] ∧ base ≤ a.block ∧ len ≤ cap ∧ cap ≤ maxLen ∧ m = (if spare a.block then cap else len) ∧
      x = (.slice ((List.range len).map D) ((List.range (m - len)).map fun j => D (len + j)), MemPlace.row a (m * fs.size) ++ (List.range m).flatMap Pl) ∧
      ∀ i, i < m → ∃ (ys : List (DataW H × List MemPlace)) (n : Nat), D i = .agg (ys.map (·.1)) ∧ Pl i = ys.flatMap (·.2) ∧ ys.length = fs.size ∧
        ∀ (j : Nat) (f : Field), fs[j]? = some f → ∃ (v : Value) (y : DataW H × List MemPlace), w.cell? (a.add (i * fs.size + j)) = some v ∧ ys[j]? = some y ∧ DataW.trod enc P w base spare held n f.type [v] = some y := by
  rcases open_slice ht h with h0 | ⟨a, len, cap, m, n, D, Pl, hcs, hb, hl, hm, hmm, hx, hi⟩
  · exact .inl h0
  · refine .inr ⟨a, len, cap, m, D, Pl, hcs, hb, hl, hm, hmm, by rw [hC] at hx; exact hx, fun i him => ?_⟩
    obtain ⟨cs', hc, ht'⟩ := hi i him
    rw [hC] at hc
    obtain ⟨ys, n', hn', hy, hlen, hyl, hf⟩ := DataW.trod_struct he ht'
    obtain ⟨_, hcl, hat⟩ := World.cells?_some hc
    simp only [Prod.mk.injEq] at hy
    refine ⟨ys, n', hy.1, hy.2, hyl, fun j f hj => ?_⟩
    obtain ⟨ho, hk⟩ := hone_of hone j f hj
    have hjl : j < fs.size := (Array.getElem?_eq_some_iff.1 hj).1
    have hcell := hat j hjl
    have hv : cs'[j]? = some (cs'[j]'(by omega)) := List.getElem?_eq_getElem (by omega)
    have h1 := hf j f hj
    rw [ho, hk] at h1
    have hone' : (cs'.drop j).take 1 = [cs'[j]'(by omega)] := by
      rw [List.drop_eq_getElem_cons (by omega)]
      rfl
    rw [hone'] at h1
    have hys : ys[j]? = some (ys[j]'(by omega)) := List.getElem?_eq_getElem (by omega)
    refine ⟨_, _, ?_, hys, h1.trans hys⟩
    rw [← Go.Deep.add_add, hcell, hv]
end

section
variable {H : Type} {enc : TypeId × Value → H}
instance : Inhabited PD := ⟨⟨0, 0, ⟨#[]⟩⟩⟩
theorem fields46 : oneCellFields Tryz.prog #[{ name := "Kind", type := 3, offset := 0, embedded := false, tag := "", pkgPath := "", byteOffset := 0 }, { name := "N", type := 39, offset := 1, embedded := false, tag := "", pkgPath := "", byteOffset := 8 }, { name := "S", type := 9, offset := 2, embedded := false, tag := "", pkgPath := "", byteOffset := 16 }] = true := by kernel_rfl
theorem cells46 : Tryz.prog.cellsOf 46 = 3 := by kernel_rfl
theorem open_plains {W : World} {base fuel : Nat} {sp : Nat → Bool} {held : Bool} {sv : Value} {y : DataW H × List MemPlace} (h : DataW.trod enc Tryz.prog W base sp held fuel 22 [sv] = some y) : ∃ l : List PD, PSl W sv l := by
  rcases open_slice_fields Tryz.underlying22 Tryz.underlying46 fields46 cells46 h with ⟨hc, _⟩ | ⟨a, len, cap, m, D, Pl, hcs, hb, hl, hm, hmm, _, hi⟩
  · obtain rfl : sv = .slice none 0 0 := by simpa using hc
    exact ⟨[], none, 0, rfl, Nat.le_refl _, by decide, fun j hj => by simp at hj⟩
  · obtain rfl : sv = .slice (some a) len cap := by simpa using hcs
    have hlm : len ≤ m := by rw [hmm]; split <;> omega
    have each : ∀ i, i < len → ∃ p : PD, W.cell? (a.add (i * 3)) = some (.int .i64 p.k) ∧ W.cell? (a.add (i * 3 + 1)) = some (.int .i64 p.n) ∧ W.cell? (a.add (i * 3 + 2)) = some (.string p.s) := fun i hlt => by
      obtain ⟨ys, n, _, _, _, hf⟩ := hi i (Nat.lt_of_lt_of_le hlt hlm)
      obtain ⟨v0, y0, c0, _, t0⟩ := hf 0 _ rfl
      obtain ⟨v1, y1, c1, _, t1⟩ := hf 1 _ rfl
      obtain ⟨v2, y2, c2, _, t2⟩ := hf 2 _ rfl
      obtain ⟨z0, e0, _⟩ := DataW.trod_int Tryz.underlying3 t0
      obtain ⟨z1, e1, _⟩ := DataW.trod_int Tryz.underlying39 t1
      obtain ⟨s2, e2, _⟩ := DataW.trod_string Tryz.underlying9 t2
      obtain rfl : v0 = .int .i64 z0 := by simpa using e0
      obtain rfl : v1 = .int .i64 z1 := by simpa using e1
      obtain rfl : v2 = .string s2 := by simpa using e2
      exact ⟨⟨z0, z1, s2⟩, c0, c1, c2⟩
    obtain ⟨B, hB⟩ := choose_lt (α := PD) (p := fun i p => W.cell? (a.add (i * 3)) = some (.int .i64 p.k) ∧ W.cell? (a.add (i * 3 + 1)) = some (.int .i64 p.n) ∧ W.cell? (a.add (i * 3 + 2)) = some (.string p.s)) each
    refine ⟨(List.range len).map B, some a, cap, by simp, by simpa using hl, by unfold maxLen at hm; omega, fun j hj => ?_⟩
    have hj' : j < len := by simpa using hj
    have h0 := (hB 0 (by omega)).1
    obtain ⟨b, o, spt⟩ := a
    have e0 : ∀ k, (⟨b, o, spt⟩ : Addr).add k = if k = 0 then ⟨b, o, spt⟩ else ⟨b, o + k, none⟩ := fun k => by unfold Addr.add; rfl
    obtain rfl : spt = none := by
      rw [e0, if_pos (by simp)] at h0
      exact Go.Proofs.cell_spot h0
    have e1 : ∀ k, (⟨b, o, none⟩ : Addr).add k = ⟨b, o + k, none⟩ := fun k => by unfold Addr.add; split <;> simp_all
    have hbl : b < W.heap.size := by
      rw [e1] at h0
      unfold World.cell? at h0
      cases hh : W.heap[b]? with
      | none => rw [hh] at h0; simp at h0
      | some x => exact (Array.getElem?_eq_some_iff.1 hh).1
    obtain ⟨g0, g1, g2⟩ := hB j hj'
    rw [e1] at g0 g1 g2
    have ej : ((List.range len).map B)[j] = B j := by simp
    rw [ej]
    exact ⟨b, o, rfl, hbl, g0, g1, g2⟩
end

/-- What the row's list gives. -/
theorem tabs_of {W : World} (h1 : Lib.VarReads Tryz.prog W "unicode/utf8.first" Lib.firstData) (h2 : Lib.VarReads Tryz.prog W "unicode/utf8.acceptRanges" Lib.acceptData) : Tabs W := by
  have hu := Go.Proofs.utf8Tabs_of_reads Tryz.lays260 ⟨by kernel_rfl, by kernel_rfl, by kernel_rfl, by kernel_rfl, by kernel_rfl, by kernel_rfl, by kernel_rfl⟩ h1 h2
  have hu' : Lib.Utf8Tabs 1 2 W := hu
  refine ⟨hu', ?_⟩
  have h3 := (hu'.2 0 (by decide)).1
  unfold World.cell? at h3
  cases hh : W.heap[2]? with
  | none => rw [hh] at h3; simp at h3
  | some x => exact (Array.getElem?_eq_some_iff.1 hh).1
theorem cell_lt {W : World} {b o : Nat} {v : Value} (h : W.cell? ⟨b, o, none⟩ = some v) : b < W.heap.size := by
  unfold World.cell? at h
  cases hh : W.heap[b]? with
  | none => rw [hh] at h; simp at h
  | some x => exact (Array.getElem?_eq_some_iff.1 hh).1
theorem signs_of {W : World} (h : Lib.VarReads Tryz.prog W "tabular/areas.signs" Rows.laid_tabular_areas_signs) : SgIs W := by
  obtain ⟨g, t, cs, fuel, p, hg, hty, hvar, hd⟩ := h
  obtain rfl := Option.some.inj ((show Tryz.prog.globalNamed "tabular/areas.signs" = some 0 by kernel_rfl).symm.trans hg)
  obtain rfl := Option.some.inj ((show (Tryz.prog.globals[0]?).map (·.type) = some 30 by kernel_rfl).symm.trans hty)
  have hcell := World.var?_cell hg hvar 0
  rcases open_strings Tryz.underlying30 Tryz.underlying9 (by kernel_rfl) hd with ⟨_, hx⟩ | ⟨a, len, cap, ss, hcs, hb, hl, hm, hlen, hx, hi, _⟩
  · simp [Rows.laid_tabular_areas_signs] at hx
  · have h1 : strs (H := Unit) (ss.take len) = [.lit (.string [60, 62]), .lit (.string [60, 61]), .lit (.string [62, 61]), .lit (.string [61]), .lit (.string [60]), .lit (.string [62])] := by
      have := (Prod.mk.inj hx).1
      unfold Rows.laid_tabular_areas_signs at this
      injection this with h1 _
      exact h1.symm
    have hlm : len ≤ ss.length := by rw [hlen]; split <;> omega
    have hlen6 : len = 6 := by
      have := congrArg List.length h1
      simp [strs] at this
      omega
    subst hlen6
    rw [← Array.getElem?_toList, hcs] at hcell
    have hstr : ∀ k, k < 6 → ss.getD k ByteArray.empty = sgn k := fun k hk => by
      have h2 := congrArg (·[k]?) h1
      have h3 : ss[k]? = some ss[k] := List.getElem?_eq_getElem (by omega)
      have e3 : ss.getD k ByteArray.empty = ss[k] := by simp [List.getD, h3]
      simp only [strs, List.getElem?_map, List.getElem?_take, hk, if_true, h3, Option.map_some] at h2
      rw [e3]
      have e4 : ∀ (x : ByteArray) (q : List UInt8), x.data.toList = q → x = ⟨q.toArray⟩ := fun x q hq => by subst hq; simp
      generalize ss[k] = x at h2 ⊢
      clear h3 e3
      match k, hk, h2 with
      | 0, _, h2 => exact e4 _ [60, 62] (by simpa using h2)
      | 1, _, h2 => exact e4 _ [60, 61] (by simpa using h2)
      | 2, _, h2 => exact e4 _ [62, 61] (by simpa using h2)
      | 3, _, h2 => exact e4 _ [61] (by simpa using h2)
      | 4, _, h2 => exact e4 _ [60] (by simpa using h2)
      | 5, _, h2 => exact e4 _ [62] (by simpa using h2)
    have hc0 := hi 0 (by omega)
    obtain ⟨b, o, spt⟩ := a
    obtain rfl : spt = none := by
      have e0 : (⟨b, o, spt⟩ : Addr).add 0 = ⟨b, o, spt⟩ := by simp [Addr.add]
      rw [e0] at hc0
      exact Go.Proofs.cell_spot hc0
    have e1 : ∀ k, (⟨b, o, none⟩ : Addr).add k = ⟨b, o + k, none⟩ := fun k => by unfold Addr.add; split <;> simp_all
    refine ⟨b, o, cap, by simpa using hcell, hl, by unfold maxLen at hm; omega, ?_, cell_lt (by simpa using hcell), fun k hk => ?_⟩
    · rw [e1] at hc0; exact cell_lt hc0
    · have := hi k (by omega)
      rw [e1, hstr k hk] at this
      exact this
end Go.Proofs.YtphjmbaifkneiaaGreatDoor
