/- Args of some Areas. -/
import Derived.Test.YtphjmbaifkneiaaGreatDoorL2
namespace Go.Proofs.YtphjmbaifkneiaaGreatDoor
open Go.RowKit

set_option maxHeartbeats 4000000
set_option maxRecDepth 100000

theorem infoArg : (Tryz.prog.info? 27).map (fun i => (i.zero, i.size, i.bytes)) = some (some (.agg #[.int .i64 0, .int .i64 0, .bool false, .slice none 0 0]), 4, 48) := by kernel_rfl
/-- A slice that reads as these Areas. -/
def GSl (w : World) (v : Value) (xs : List AD) : Prop :=
  ∃ A c, v = .slice A xs.length c ∧ xs.length ≤ c ∧ c ≤ 9223372036854775807 ∧ ∀ j (h : j < xs.length), ∃ b o sv, A = some ⟨b, o, none⟩ ∧ b < w.heap.size ∧
    w.cell? ⟨b, o + j * 3, none⟩ = some (.bool xs[j].one) ∧ w.cell? ⟨b, o + j * 3 + 1, none⟩ = some (.int .i64 xs[j].cols) ∧ w.cell? ⟨b, o + j * 3 + 2, none⟩ = some sv ∧ PSl w sv xs[j].l
/-- Cells that read as these arguments. -/
def CellsAre (w : World) (v : Value) (cells : List Value) (ys : List ArgD) : Prop :=
  ∀ j (h : j < ys.length), ∃ s, (∀ b o n c, s = .slice (some ⟨b, o, none⟩) n c → v.ownBlock ≠ some b) ∧ cells[j * 4]? = some (.int .i64 ys[j].rows) ∧ cells[j * 4 + 1]? = some (.int .i64 ys[j].cols) ∧ cells[j * 4 + 2]? = some (.bool ys[j].area) ∧ cells[j * 4 + 3]? = some s ∧ VSl w s ys[j].l
theorem VSl.grown {w w' : World} {row : Option Nat} {s : Value} {l : List V} (h : VSl w s l) (hg : w.grownBy w' row) (hne : ∀ b o n c, s = .slice (some ⟨b, o, none⟩) n c → row ≠ some b) : VSl w' s l := by
  obtain ⟨A, c, rfl, h1, h2, h3⟩ := h
  refine ⟨A, c, rfl, h1, h2, fun k hk => ?_⟩
  obtain ⟨b, o, hA, hb, hc⟩ := h3 k hk
  subst hA
  refine ⟨b, o, rfl, Nat.lt_of_lt_of_le hb hg.size, ?_⟩
  rw [← hc]
  unfold World.cell?
  rw [hg.block b hb (fun e => hne b o _ c rfl e.symm)]
theorem CellsAre.ext {w w' : World} {v : Value} {cells : List Value} {ys : List ArgD} (h : CellsAre w v cells ys) (hx : Ext w w') : CellsAre w' v cells ys := fun j hj => by
  obtain ⟨s, h0, h1, h2, h3, h4, h5⟩ := h j hj
  exact ⟨s, h0, h1, h2, h3, h4, h5.ext hx⟩
theorem VSl.lt {w : World} {s : Value} {l : List V} (h : VSl w s l) (hl : 0 < l.length) {b o n c : Nat} (e : s = .slice (some ⟨b, o, none⟩) n c) : b < w.heap.size := by
  obtain ⟨A, c', rfl, _, _, h3⟩ := h
  obtain ⟨b', o', hA, hb, _⟩ := h3 0 hl
  injection e with e _ _
  subst hA
  injection e with e
  injection e with e _ _
  omega
theorem CellsAre.snoc {w w' : World} {o : Obj} {v v' : Value} {cells : List Value} {ys : List ArgD} {y : ArgD} {s : Value} (h : CellsAre w v cells ys) (hl : cells.length = ys.length * 4) (hs : VSl w s y.l) (hsv : ∀ b o n c, s = .slice (some ⟨b, o, none⟩) n c → v.ownBlock ≠ some b)
    (hg : (w.alloc o).grownBy w' v.ownBlock) (hv' : v'.ownBlock = v.ownBlock ∨ v'.ownBlock = some (w.heap.size + 1)) (hpos : ∀ z ∈ ys, 0 < z.l.length) (hpy : 0 < y.l.length) :
    CellsAre w' v' (cells ++ [.int .i64 y.rows, .int .i64 y.cols, .bool y.area, s]) (ys ++ [y]) := by
  have key : ∀ s l, 0 < l.length → VSl w s l → (∀ b o n c, s = .slice (some ⟨b, o, none⟩) n c → v.ownBlock ≠ some b) → (∀ b o n c, s = .slice (some ⟨b, o, none⟩) n c → v'.ownBlock ≠ some b) ∧ VSl w' s l   := fun s l hp hsl hne => by
    refine ⟨fun b o n c e => ?_, (hsl.ext ((Ext.refl w).alloc _)).grown hg hne⟩
    rcases hv' with h1 | h1
    · rw [h1]; exact hne b o n c e
    · rw [h1]; intro h2; have := hsl.lt hp e; have := Option.some.inj h2; omega
  intro j hj
  rw [List.length_append, List.length_singleton] at hj
  by_cases hlt : j < ys.length
  · obtain ⟨s', k0, h0, h1, h2, h3, h4⟩ := h j hlt
    have e : (ys ++ [y])[j] = ys[j] := List.getElem_append_left hlt
    rw [e]
    obtain ⟨q1, q2⟩ := key _ _ (hpos _ (List.getElem_mem hlt)) h4 k0
    exact ⟨s', q1, by rw [List.getElem?_append_left (by omega)]; exact h0, by rw [List.getElem?_append_left (by omega)]; exact h1, by rw [List.getElem?_append_left (by omega)]; exact h2, by rw [List.getElem?_append_left (by omega)]; exact h3, q2⟩
  · obtain rfl : j = ys.length := by omega
    have e : (ys ++ [y])[ys.length] = y := by simp
    rw [e]
    obtain ⟨q1, q2⟩ := key _ _ hpy hs hsv
    refine ⟨s, q1, ?_, ?_, ?_, ?_, q2⟩
    · rw [List.getElem?_append_right (by omega), hl, Nat.sub_self]; rfl
    · rw [List.getElem?_append_right (by omega), hl, show ys.length * 4 + 1 - ys.length * 4 = 1 by omega]; rfl
    · rw [List.getElem?_append_right (by omega), hl, show ys.length * 4 + 2 - ys.length * 4 = 2 by omega]; rfl
    · rw [List.getElem?_append_right (by omega), hl, show ys.length * 4 + 3 - ys.length * 4 = 3 by omega]; rfl
theorem owns_ASl {w : World} {base : Nat} {v : Value} {ys : List ArgD} {cells : List Value} (h : w.ownsRow base 27 4 v ys.length cells) (hc : CellsAre w v cells ys) : ASl w v ys := by
  rcases h.2 with ⟨rfl, h0⟩ | ⟨g, cap, cur, rfl, h1, h2, h3, h4, _⟩
  · exact ⟨none, 0, by rw [h0], by omega, by omega, fun k hk => by omega⟩
  · refine ⟨_, cap, rfl, h3, by unfold maxLen at h4; omega, fun k hk => ?_⟩
    obtain ⟨s, _, k0, k1, k2, k3, k4⟩ := hc k hk
    have e : ∀ j, (⟨g, 0, none⟩ : Addr).add j = ⟨g, 0 + j, none⟩ := fun j => by unfold Addr.add; split <;> simp_all
    have r0 := h.cells rfl _ _ k0
    have r1 := h.cells rfl _ _ k1
    have r2 := h.cells rfl _ _ k2
    have r3 := h.cells rfl _ _ k3
    rw [e] at r0 r1 r2 r3
    exact ⟨g, 0, s, rfl, (Array.getElem?_eq_some_iff.1 h2).1, r0, r1, r2, r3, k4⟩

theorem argD_pos (a : AD) : 0 < (argD a).l.length := by
  unfold argD
  split
  · simp
  · have h := colsN_range a
    show 0 < (padded a).length
    unfold padded extra
    rw [List.length_append, List.length_replicate]
    by_cases h0 : (vals a).length = 0
    · rw [if_pos h0]; omega
    · omega
theorem args_any (gv : Value) (xs : List AD) (w : World) (hg : GSl w gv xs) (hT : Tabs w) (hl : xs.length ≤ 32) :
    Calls Tryz.prog 19 #[gv] w fun e w' => ∃ v, e = .returned v ∧ ASl w' v (xs.map argD) ∧ Ext w w' := by
  have HG := Lib.hid hg
  have HT := Lib.hid hT
  obtain ⟨A, c, rfl, h1, h2, h3⟩ := hg
  clear h3 hT
  obtain ⟨i0, hi, hz0, hz1, hz2⟩ := info_parts infoArg
  have AR : Hid (∀ (sv : Value) (a : AD) (W : World), Ext w W → PSl W sv a.l → Calls Tryz.prog 7 #[.agg #[.bool a.one, .int .i64 a.cols, sv]] W fun e w' => ∃ v, e = .returned v ∧ ArgF W w' v (argD a) ∧ Ext W w') := fun sv a W hx hp => arg_any sv a W hp (HT.out.ext hx)
  go_enter Tryz.func19, Tryz.ntmps19
  go_wp2
  go_loopw [4, 3] (fun i s wr => ∃ (k : Nat) (cells : List Value), k ≤ xs.length ∧ i = .int .i64 k ∧ Hid (Ext w wr) ∧ Hid (wr.ownsRow w.heap.size 27 4 s k cells) ∧ Hid (CellsAre wr s cells ((xs.take k).map argD))) (fun i _ _ => xs.length - (intOf i).toNat)
  case atStart =>
    refine ⟨0, [], Nat.zero_le _, rfl, (Ext.refl w).alloc _, ⟨by simp, .inr ⟨w.heap.size, 0, #[], rfl, Nat.le_refl _, heap_alloc_new w _, Nat.le_refl _, by decide, rfl, rfl⟩⟩, fun j hj => by simp at hj⟩
  case round =>
    obtain ⟨k, cells, hk, rfl, hx, hrow, hcs⟩ := hrel
    by_cases hlt : k < xs.length
    · obtain ⟨A', c', hAc, _, _, h6⟩ := HG.out
      obtain ⟨b, o, sv, hAA, hb, c0, c1, c2, hps⟩ := h6 k hlt
      clear h6
      injection hAc with e1 e2 e3
      subst e1 e3
      subst hAA
      clear e2
      rw [← hx.out.cell hb] at c0 c1 c2
      have htk : Hid ((xs.take (k + 1)).map argD = (xs.take k).map argD ++ [argD xs[k]]) := by
        show _ = _
        rw [List.take_succ_eq_append_getElem hlt, List.map_append]; rfl
      obtain ⟨a, ha⟩ : ∃ a, xs[k] = a := ⟨_, rfl⟩
      rw [ha] at c0 c1 hps htk
      have TA : Hid (∀ W, Ext w W → Calls Tryz.prog 7 #[.agg #[.bool a.one, .int .i64 a.cols, sv]] W fun e w' => ∃ v, e = .returned v ∧ ArgF W w' v (argD a) ∧ Ext W w') := fun W hx => AR.out sv a W hx (hps.ext hx)
      obtain ⟨A4, c4, rfl⟩ : ∃ A4 c4, sv = .slice A4 a.l.length c4 := by obtain ⟨A4, c4, h, _⟩ := hps; exact ⟨A4, c4, h⟩
      obtain ⟨y, hy⟩ : ∃ y, argD a = y := ⟨_, rfl⟩
      have HPY := Lib.hid (argD_pos a)
      rw [hy] at TA htk HPY
      have hka : (k : Int) < (xs.length : Int) := by omega
      have hkb : (k : Int) < 32 := by omega
      clear ha hy hps AR
      go_wp2_with (first
        | (go_at_call 7; refine (TA.out _ hx.out).mono ?_; rintro e w3 ⟨v3, rfl, hv3, hx3⟩; obtain ⟨s3, rfl, hs3, hf3⟩ := hv3; have HS3 := Lib.hid hs3; obtain ⟨A5, c5, rfl, _, _, _⟩ := hs3; have OWN := Lib.hid (owns_ext hrow.out hx3); have hw3 : w.heap.size ≤ w3.heap.size := Nat.le_trans hx.out.size hx3.size)
        | (at_builtin; refine wpList_append_own_at _ rfl _ _ 37 rfl w.heap.size 27 i0 (.agg #[.int .i64 0, .int .i64 0, .bool false, .slice none 0 0]) 4 48 Tryz.underlying37 hi hz0 hz1 hz2 rfl (by decide) _ _ _ rfl (OWN.out.alloc _) ⟨w3.heap.size, 0, none⟩ 1 1 [.int .i64 y.rows, .int .i64 y.cols, .bool y.area, .slice A5 y.l.length c5] rfl rfl (World.news_of_block (cs := #[.int .i64 y.rows, .int .i64 y.cols, .bool y.area, .slice A5 y.l.length c5]) (t := 27) (fr := (0, 0)) (heap_alloc_new w3 _)) (by simp [Value.oneCell']) (by unfold maxLen; omega) (by omega) (by rw [alloc_size]; omega) ?_; intro v' w5 hown' hgrow _ hloc)
        | fail)
      obtain ⟨A6, c6, rfl⟩ := ownsRow_form hown'
      go_roundw
      case rel =>
        refine ⟨k + 1, _, by omega, by go_num, Ext.grown ((hx.out.trans hx3).alloc _) hgrow (fun j hj => own_ge OWN.out hj), hown', ?_⟩
        rw [htk.out]
        refine (hcs.out.ext hx3).snoc (by have := hrow.out.1; rw [this, List.length_map, List.length_take]; congr 1; omega) HS3.out (fun b o n c e h => ?_) hgrow (by rw [alloc_size] at hloc; exact hloc) (fun z hz => ?_) HPY.out
        · have h12 := hf3 b o n c e
          rcases hrow.out.2 with ⟨hv, _⟩ | ⟨g, cap, cur, hv, _, hgb, _⟩
          · rw [hv] at h; simp [Value.ownBlock] at h
          · rw [hv] at h
            have h13 := (Array.getElem?_eq_some_iff.1 hgb).1
            have h14 : g = b := by simpa [Value.ownBlock] using h
            omega
        · obtain ⟨a', _, rfl⟩ := List.mem_map.1 hz
          exact argD_pos a'
      case measure => simp [intOf]; omega
    · have hfin : Hid (xs.take k = xs) := List.take_of_length_le (by omega)
      obtain ⟨A6, c6, rfl⟩ := ownsRow_form hrow.out
      rw [hfin.out] at hcs
      go_wp2
      go_ret
      have hkl : k = (xs.map argD).length := by simp; omega
      refine ⟨_, rfl, owns_ASl (by have h := hrow.out; rw [← hkl]; exact h) hcs.out, hx.out⟩
end Go.Proofs.YtphjmbaifkneiaaGreatDoor
