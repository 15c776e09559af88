/- What layer 18's statements make of their inputs: arg. -/
import Derived.Test.YtphjmbaifkneiaaGreatDoorC1
namespace Go.Proofs.YtphjmbaifkneiaaGreatDoor
open Go.RowKit

set_option maxHeartbeats 4000000
set_option maxRecDepth 100000

/-- Plain data. -/
structure PD where
  k : Int
  n : Int
  s : ByteArray
/-- A slice that reads as these plain data. -/
def PSl (w : World) (v : Value) (xs : List PD) : Prop :=
  ∃ A c, v = .slice A xs.length c ∧ xs.length ≤ c ∧ c ≤ 9223372036854775807 ∧ ∀ j (h : j < xs.length), ∃ b o, A = some ⟨b, o, none⟩ ∧ b < w.heap.size ∧
    w.cell? ⟨b, o + j * 3, none⟩ = some (.int .i64 xs[j].k) ∧ w.cell? ⟨b, o + j * 3 + 1, none⟩ = some (.int .i64 xs[j].n) ∧ w.cell? ⟨b, o + j * 3 + 2, none⟩ = some (.string xs[j].s)
/-- An argument whose values lie in a block that w hadn't. -/
def ArgF (w w' : World) (v : Value) (x : ArgD) : Prop := ∃ s, v = .agg #[.int .i64 x.rows, .int .i64 x.cols, .bool x.area, s] ∧ VSl w' s x.l ∧ ∀ b o n c, s = .slice (some ⟨b, o, none⟩) n c → w.heap.size ≤ b
theorem ArgF.is {w w' : World} {v : Value} {x : ArgD} (h : ArgF w w' v x) : ArgIs w' v x := by
  obtain ⟨s, h1, h2, _⟩ := h
  exact ⟨s, h1, h2⟩
theorem PSl.ext {w w' : World} {v : Value} {xs : List PD} (h : PSl w v xs) (hx : Ext w w') : PSl w' v xs := by
  obtain ⟨A, c, rfl, h1, h2, h3⟩ := h
  refine ⟨A, c, rfl, h1, h2, fun k hk => ?_⟩
  obtain ⟨b, o, hA, hb, c0, c1, c2⟩ := h3 k hk
  exact ⟨b, o, hA, Nat.lt_of_lt_of_le hb hx.size, (hx.cell hb).trans c0, (hx.cell hb).trans c1, (hx.cell hb).trans c2⟩
/-- layer 18's Area. -/
structure AD where
  one : Bool
  cols : Int
  l : List PD
def colsN (a : AD) : Nat := (min (max a.cols 1) 6).toNat
noncomputable def PD.v (p : PD) : V := ofP p.k p.n (p.s.extract 0 (min 40 p.s.size))
noncomputable def vals (a : AD) : List V := (a.l.take 24).map PD.v
def extra (len cols : Nat) : Nat := if len = 0 then cols else if len % cols = 0 then 0 else cols - len % cols
noncomputable def padded (a : AD) : List V := vals a ++ List.replicate (extra (vals a).length (colsN a)) .blank
/-- What 'arg' makes of an Area. -/
noncomputable def argD (a : AD) : ArgD :=
  if a.one then ⟨1, 1, false, [(vals a ++ [V.blank]).headD .blank]⟩ else ⟨((padded a).length / colsN a : Nat), colsN a, true, padded a⟩

def AgBox (w : World) (a : AD) (sv : Value) (W : World) : Prop :=
  W.heap[w.heap.size]? = some (.cells #[.bool a.one, .int .i64 a.cols, sv] 24 (0, 0)) ∧ W.heap[w.heap.size + 1]? = some (.cells #[.int .i64 0, .int .i64 0, .bool false, .slice none 0 0] 27 (0, 0))
theorem AgBox.ext {w W W' : World} {a : AD} {sv : Value} (h : AgBox w a sv W) (hx : Ext W W') : AgBox w a sv W' :=
  ⟨(hx.block _ (Array.getElem?_eq_some_iff.1 h.1).1).trans h.1, (hx.block _ (Array.getElem?_eq_some_iff.1 h.2).1).trans h.2⟩
theorem AgBox.appended {w W W' : World} {a : AD} {sv v : Value} {o : Obj} (h : AgBox w a sv W) (hg : (W.alloc o).grownBy W' v.ownBlock) (h0 : some w.heap.size ≠ v.ownBlock) (h1 : some (w.heap.size + 1) ≠ v.ownBlock) : AgBox w a sv W' := by
  have e : ∀ B X, W.heap[B]? = some X → some B ≠ v.ownBlock → W'.heap[B]? = some X := fun B X hb hne => by
    have hlt : B < W.heap.size := (Array.getElem?_eq_some_iff.1 hb).1
    rw [hg.block B (by rw [alloc_size]; omega) hne]
    exact (heap_alloc_old W o hlt).trans hb
  exact ⟨e _ _ h.1 h0, e _ _ h.2 h1⟩
theorem AgBox.cells {w W : World} {a : AD} {sv : Value} (h : AgBox w a sv W) : w.heap.size < W.heap.size ∧ W.cell? ⟨w.heap.size, 0, none⟩ = some (.bool a.one) ∧ W.cell? ⟨w.heap.size, 2, none⟩ = some sv :=
  ⟨(Array.getElem?_eq_some_iff.1 h.1).1, heap_cell h.1 0, heap_cell h.1 2⟩
theorem AgBox.res {w W : World} {a : AD} {sv : Value} (h : AgBox w a sv W) :
    w.heap.size + 1 < W.heap.size ∧ W.cell? ⟨w.heap.size + 1, 0, none⟩ = some (.int .i64 0) ∧ W.cell? ⟨w.heap.size + 1, 1, none⟩ = some (.int .i64 0) ∧ W.cell? ⟨w.heap.size + 1, 2, none⟩ = some (.bool false) ∧ W.cell? ⟨w.heap.size + 1, 3, none⟩ = some (.slice none 0 0) ∧
    W.frozen? ⟨w.heap.size + 1, 0, none⟩ = false ∧ W.frozen? ⟨w.heap.size + 1, 1, none⟩ = false ∧ W.frozen? ⟨w.heap.size + 1, 2, none⟩ = false ∧ W.frozen? ⟨w.heap.size + 1, 3, none⟩ = false :=
  ⟨(Array.getElem?_eq_some_iff.1 h.2).1, heap_cell h.2 0, heap_cell h.2 1, heap_cell h.2 2, heap_cell h.2 3, heap_frozen h.2 0, heap_frozen h.2 1, heap_frozen h.2 2, heap_frozen h.2 3⟩
theorem colsN_range (a : AD) : 1 ≤ colsN a ∧ colsN a ≤ 6 ∧ min (max a.cols 1) 6 = (colsN a : Int) := by
  unfold colsN; omega

theorem owns_VSl {w : World} {base : Nat} {v : Value} {l : List V} (h : w.ownsRow base 35 1 v l.length (l.map V.val)) : VSl w v l := by
  rcases h.2 with ⟨rfl, h0⟩ | ⟨g, cap, cur, rfl, h1, h2, h3, h4, _⟩
  · exact ⟨none, 0, by rw [h0], by omega, by omega, fun k hk => by omega⟩
  · refine ⟨_, cap, rfl, h3, by unfold maxLen at h4; omega, fun k hk => ⟨g, 0, rfl, (Array.getElem?_eq_some_iff.1 h2).1, ?_⟩⟩
    have := h.cells rfl k l[k].val (by simp [hk])
    have e : (⟨g, 0, none⟩ : Addr).add k = ⟨g, 0 + k, none⟩ := by unfold Addr.add; split <;> simp_all
    rwa [e] at this
theorem alloc2_cell (w : World) (o : Obj) (xs : Array Value) (t : TypeId) (k : Nat) : ((w.alloc o).alloc (.cells xs t)).cell? ⟨w.heap.size + 1, k, none⟩ = xs[k]? := by
  have := alloc_cell (w.alloc o) xs t k
  rwa [alloc_size] at this
theorem one_any (u : V) (w : World) : Calls Tryz.prog 12 #[u.val] w fun e w' => ∃ c, e = .returned (.agg #[.int .i64 1, .int .i64 1, .bool false, .slice (some ⟨w.heap.size + 1, 0, none⟩) 1 c]) ∧ VSl w' (.slice (some ⟨w.heap.size + 1, 0, none⟩) 1 c) [u] ∧ Ext w w' := by
  obtain ⟨ut, uv, huv⟩ := u.val_iface
  have HU := Lib.hid huv
  rw [huv]
  clear huv
  go_enter Tryz.func12, Tryz.ntmps12
  go_wp2
  refine bodyPost_ret (v := .agg #[.int .i64 1, .int .i64 1, .bool false, .slice (some ⟨w.heap.size + 1, 0, none⟩) 1 1]) (by simp [results, Tryz.results12, go_sem]) rfl ⟨1, rfl, ⟨_, 1, rfl, Nat.le_refl _, by decide, fun k hk => ⟨w.heap.size + 1, 0, rfl, ?_, ?_⟩⟩, by repeat (first | exact Ext.refl _ | exact Ext.trans (by assumption) (by assumption) | assumption | refine Ext.alloc ?_ _ | refine Ext.drew ?_ | refine Ext.drewN ?_ _ | refine Ext.setCell ?_ (by simp) _)⟩
  · rw [alloc_size, alloc_size]; omega
  · obtain rfl : k = 0 := by simpa using hk
    rw [show [u][0].val = u.val from rfl, HU.out]
    exact alloc2_cell _ _ _ _ _
theorem VSl.set {w : World} {v : Value} {l : List V} (h : VSl w v l) (p : Addr) (u : Value) (hne : ∀ b o n c, v = .slice (some ⟨b, o, none⟩) n c → b ≠ p.block) : VSl (w.setCell p u) v l := by
  obtain ⟨A, c, rfl, h1, h2, h3⟩ := h
  refine ⟨A, c, rfl, h1, h2, fun k hk => ?_⟩
  obtain ⟨b, o, hA, hb, hc⟩ := h3 k hk
  subst hA
  refine ⟨b, o, rfl, Nat.lt_of_lt_of_le hb (grownBy_setCellAt w p u).size, ?_⟩
  rw [← hc]
  unfold World.cell?
  rw [show (w.setCell p u).heap[b]? = w.heap[b]? from Below.heap_setCell _ _ _ _ (hne b o _ c rfl)]
theorem extra_le {len cols : Nat} (h : 1 ≤ cols ∧ cols ≤ 6) : extra len cols ≤ 6 := by
  unfold extra; split
  · omega
  · split <;> omega
theorem extra_more {len cols j : Nat} (h : 1 ≤ cols ∧ cols ≤ 6) (hj : j ≤ extra len cols) : j < extra len cols ↔ (len + j = 0 ∨ 0 < (len + j) % cols) := by
  obtain ⟨h1, h2⟩ := h
  unfold extra at *
  have : cols = 1 ∨ cols = 2 ∨ cols = 3 ∨ cols = 4 ∨ cols = 5 ∨ cols = 6 := by omega
  rcases this with rfl | rfl | rfl | rfl | rfl | rfl <;> (split at hj <;> rename_i hh) <;> first | (rw [if_pos hh]; omega) | (rw [if_neg hh]; split at hj <;> rename_i hg <;> first | (rw [if_pos hg]; omega) | (rw [if_neg hg]; omega))
theorem heap_own {w : World} {base : Nat} {e : TypeId} {g n cap : Nat} {xs : List Value} {u : Value} (h : w.ownsRow base e 1 (.slice (some ⟨g, 0, none⟩) n cap) n xs) (hu : xs[0]? = some u) : w.cell? ⟨g, 0, none⟩ = some u := by
  have := h.cells (g := g) rfl 0 u hu
  simpa [Addr.add] using this
theorem arg_any (sv : Value) (a : AD) (w : World) (hs : PSl w sv a.l) (hT : Tabs w) :
    Calls Tryz.prog 7 #[.agg #[.bool a.one, .int .i64 a.cols, sv]] w fun e w' => ∃ v, e = .returned v ∧ ArgF w w' v (argD a) ∧ Ext w w' := by
  have HS := Lib.hid hs
  have HT := Lib.hid hT
  obtain ⟨A, c, rfl, h1, h2, h3⟩ := hs
  clear h3 hT
  obtain ⟨i0, hi, hz0, hz1, hz2⟩ := info_parts infoValue
  obtain ⟨hc1, hc6, hcol⟩ := colsN_range a
  obtain ⟨cn, hcn⟩ : ∃ cn, colsN a = cn := ⟨_, rfl⟩
  rw [hcn] at hc1 hc6 hcol
  have HCN := Lib.hid hcn
  clear hcn
  go_enter Tryz.func7, Tryz.ntmps7
  go_wp2
  clear hcol
  go_loopw [5, 4] (fun i s wr => ∃ (k : Nat), k ≤ a.l.length ∧ k ≤ 24 ∧ i = .int .i64 k ∧ Hid (Ext w wr ∧ w.heap.size + 2 ≤ wr.heap.size) ∧ Hid (AgBox w a (.slice A a.l.length c) wr) ∧
    Hid (wr.ownsRow (w.heap.size + 2) 35 1 s k (((a.l.take k).map PD.v).map V.val))) (fun i _ _ => 24 - (intOf i).toNat)
  case atStart =>
    refine ⟨0, Nat.zero_le _, by omega, rfl, ⟨(((Ext.refl w).alloc _).alloc _).alloc _, by rw [alloc_size, alloc_size, alloc_size]; omega⟩, ⟨?_, ?_⟩, ⟨by simp, .inr ⟨w.heap.size + 1 + 1, 0, #[], rfl, Nat.le_refl _, ?_, Nat.le_refl _, by decide, rfl, rfl⟩⟩⟩
    · rw [heap_alloc_old _ _ (by rw [alloc_size, alloc_size]; omega), heap_alloc_old _ _ (by rw [alloc_size]; omega), heap_alloc_new]
    · rw [heap_alloc_old _ _ (by rw [alloc_size, alloc_size]; omega), ← alloc_size w (.cells #[.bool a.one, .int .i64 a.cols, .slice A a.l.length c] 24), heap_alloc_new]
    · rw [← alloc_size w (.cells #[.bool a.one, .int .i64 a.cols, .slice A a.l.length c] 24), ← alloc_size (w.alloc _) (.cells #[.int .i64 0, .int .i64 0, .bool false, .slice none 0 0] 27), heap_alloc_new]
  case round =>
    obtain ⟨k, hk, hk24, rfl, hx, hbx, hrow⟩ := hrel
    obtain ⟨hb0, hb1, hb2⟩ := hbx.out.cells
    obtain ⟨A2, c2, rfl⟩ := ownsRow_form hrow.out
    by_cases hlt : k < a.l.length ∧ k < 24
    · obtain ⟨hlt, hlt2⟩ := hlt
      obtain ⟨A', c', hAc, _, _, h6⟩ := HS.out
      obtain ⟨b, o, hAA, hb, c0, c1, c2⟩ := h6 k hlt
      clear h6
      injection hAc with e1 e2 e3
      subst e1 e3
      subst hAA
      clear e2
      rw [← hx.out.1.cell hb] at c0 c1 c2
      have htk : Hid (((a.l.take (k + 1)).map PD.v).map V.val = ((a.l.take k).map PD.v).map V.val ++ [(a.l[k].v).val]) := by
        show _ = _
        rw [List.take_succ_eq_append_getElem hlt, List.map_append, List.map_append]; rfl
      obtain ⟨p, hp⟩ : ∃ p, a.l[k] = p := ⟨_, rfl⟩
      rw [hp] at c0 c1 c2 htk
      have TC : Hid (∀ W, Calls Tryz.prog 18 #[.string p.s, .int .i64 40] W fun e w' => e = .returned (.string (p.s.extract 0 (min 40 p.s.size))) ∧ W = w') := fun W => cut_any p.s 40 W (by omega)
      have TO : Hid (∀ W, Ext w W → Calls Tryz.prog 13 #[.agg #[.int .i64 p.k, .int .i64 p.n, .string (p.s.extract 0 (min 40 p.s.size))]] W fun e w' => e = .returned p.v.val ∧ Ext W w') := fun W hx => of_any _ _ _ W (by rw [ByteArray.size_extract]; omega) (HT.out.ext hx)
      obtain ⟨ps, hps⟩ : ∃ ps, p.s.extract 0 (min 40 p.s.size) = ps := ⟨_, rfl⟩
      rw [hps] at TC TO
      obtain ⟨pt, pv, hpv⟩ := p.v.val_iface
      rw [hpv] at TO htk
      clear hp hps hpv
      have hka : (k : Int) < (a.l.length : Int) := by omega
      have hkb : (k : Int) < 24 := by omega
      go_wp2_with (first
        | (go_at_call 18; refine (TC.out _).mono ?_; rintro e w2 ⟨rfl, rfl⟩)
        | (go_at_call 13; refine (TO.out _ (hx.out.1.alloc _)).mono ?_; rintro e w3 ⟨rfl, hx3⟩; have hx3' := ((Ext.refl wr).alloc _).trans hx3; have OWN := Lib.hid (owns_ext hrow.out hx3'); have hw3 : w.heap.size + 2 ≤ w3.heap.size := Nat.le_trans hx.out.2 hx3'.size)
        | (at_builtin; refine wpList_append_own _ rfl _ _ 25 rfl (w.heap.size + 2) 35 i0 .nilIface 1 16 Tryz.underlying25 hi hz0 hz1 hz2 rfl (by decide) _ _ _ rfl (OWN.out.alloc _) ⟨w3.heap.size, 0, none⟩ 1 1 [.iface pt pv] rfl rfl (cell_one_new _ _ _) (by simp [Value.oneCell']) (by unfold maxLen; omega) (by omega) (by rw [alloc_size]; omega) ?_; intro v' w5 hown' hgrow _)
        | fail)
      go_roundw
      case rel => exact ⟨k + 1, by omega, by omega, by go_num, ⟨Ext.grown ((hx.out.1.trans hx3').alloc _) hgrow (fun j hj => Nat.le_trans (by omega) (own_ge OWN.out hj)), Nat.le_trans (Nat.le_trans (Nat.le_succ_of_le hw3) (Nat.le_of_eq (alloc_size w3 _).symm)) hgrow.size⟩, (hbx.out.ext hx3').appended hgrow (own_ne OWN.out (by omega)) (own_ne OWN.out (by omega)), by rw [htk.out]; exact hown'⟩
      case measure => simp [intOf]; omega
    · have hfin : Hid (((a.l.take k).map PD.v) = vals a) := by
        show _ = _
        unfold vals
        congr 1
        rcases Nat.lt_or_ge k 24 with h | h
        · rw [List.take_of_length_le (by omega), List.take_of_length_le (by omega)]
        · rw [show k = 24 by omega]
      rw [hfin.out] at hrow
      have hkl : Hid (k = (vals a).length) := by
        show _ = _
        have := congrArg List.length hfin.out
        rw [List.length_map, List.length_take] at this
        omega
      by_cases hk1 : k < a.l.length
      · have hk2 : decide ((k : Int) < 24) = false := by simp; omega
        have hk1' : (k : Int) < (a.l.length : Int) := by omega
        cases hone : a.one with
        | true =>
          have hbl : ofP 0 0 ⟨#[]⟩ = .blank := by simp [ofP]
          have TO0 : Hid (∀ W, Ext w W → Calls Tryz.prog 13 #[.agg #[.int .i64 0, .int .i64 0, .string ⟨#[]⟩]] W fun e w' => e = .returned V.blank.val ∧ Ext W w') := fun W hx => by
            have := of_any 0 0 ⟨#[]⟩ W (by decide) (HT.out.ext hx)
            rwa [hbl] at this
          obtain ⟨bt, bv, hbv⟩ := V.blank.val_iface
          rw [hbv] at TO0
          have HBV := Lib.hid hbv
          obtain ⟨u, hu⟩ : ∃ u, (vals a ++ [V.blank]).headD .blank = u := ⟨_, rfl⟩
          have HU := Lib.hid hu
          have T1 : Hid (∀ W, Calls Tryz.prog 12 #[u.val] W fun e w' => ∃ c, e = .returned (.agg #[.int .i64 1, .int .i64 1, .bool false, .slice (some ⟨W.heap.size + 1, 0, none⟩) 1 c]) ∧ VSl w' (.slice (some ⟨W.heap.size + 1, 0, none⟩) 1 c) [u] ∧ Ext W w') := fun W => one_any u W
          have H0 : Hid ((((vals a).map V.val) ++ [Value.iface bt bv])[0]? = some u.val) := by
            show _ = _
            rw [← hbv, ← hu]
            cases vals a <;> rfl
          rw [hone] at hb1
          clear hbv hu hbl
          go_wp2_with (first
            | (go_at_call 13; refine (TO0.out _ hx.out.1).mono ?_; rintro e w3 ⟨rfl, hx3⟩; have OWN := Lib.hid (owns_ext hrow.out hx3); have hw3 : w.heap.size + 2 ≤ w3.heap.size := Nat.le_trans hx.out.2 hx3.size)
            | (at_builtin; refine wpList_append_own _ rfl _ _ 25 rfl (w.heap.size + 2) 35 i0 .nilIface 1 16 Tryz.underlying25 hi hz0 hz1 hz2 rfl (by decide) _ _ _ rfl (OWN.out.alloc _) ⟨w3.heap.size, 0, none⟩ 1 1 [.iface bt bv] rfl rfl (cell_one_new _ _ _) (by simp [Value.oneCell']) (by unfold maxLen; omega) (by omega) (by rw [alloc_size]; omega) ?_; intro v' w5 hown' hgrow _; obtain ⟨g', cap', rfl⟩ := ownsRow_succ hown'; have hbx5 := Lib.hid ((hbx.out.ext hx3).appended hgrow (own_ne OWN.out (by omega)) (own_ne OWN.out (by omega))); have hc5 := heap_own hown' H0.out)
            | (go_at_call 12; refine (T1.out _).mono ?_; rintro e w6 ⟨c6, rfl, hv6, hx6⟩; obtain ⟨r0, r1, r2, r3, r4, r5, r6, r7, r8⟩ := (hbx5.out.ext hx6).res))
          have hargd : argD a = ⟨1, 1, false, [u]⟩ := by unfold argD; rw [if_pos hone, HU.out]
          refine bodyPost_ret (v := .agg #[.int .i64 1, .int .i64 1, .bool false, .slice (some ⟨w5.heap.size + 1, 0, none⟩) 1 c6]) (by simp [results, Tryz.results7, go_sem, r1, r2, r3, r4]) rfl ⟨_, rfl, ?_, ?_⟩
          · rw [hargd]
            have hne : ∀ b o n c, Value.slice (some ⟨w5.heap.size + 1, 0, none⟩) 1 c6 = .slice (some ⟨b, o, none⟩) n c → b ≠ w.heap.size + 1 := fun b o n c h => by
              injection h with h _ _; injection h with h; injection h with h _ _
              have := hgrow.size
              rw [alloc_size] at this
              omega
            exact ⟨_, rfl, (((hv6.set _ _ hne).set _ _ hne).set _ _ hne).set _ _ hne, fun b o n c h => by
              injection h with h _ _; injection h with h; injection h with h _ _
              have := hgrow.size
              rw [alloc_size] at this
              omega⟩
          · have hE5 : Ext w w5 := Ext.grown ((hx.out.1.trans hx3).alloc _) hgrow (fun j hj => Nat.le_trans (by omega) (own_ge OWN.out hj))
            exact ((((hE5.trans hx6).setCell (by show w.heap.size ≤ w.heap.size + 1; omega) _).setCell (by show w.heap.size ≤ w.heap.size + 1; omega) _).setCell (by show w.heap.size ≤ w.heap.size + 1; omega) _).setCell (by show w.heap.size ≤ w.heap.size + 1; omega) _
        | false =>
          rw [hone] at hb1
          have HEX := Lib.hid (extra_le (len := k) ⟨hc1, hc6⟩)
          have HMORE : Hid (∀ j, j ≤ extra k cn → (j < extra k cn ↔ (k + j = 0 ∨ 0 < (k + j) % cn))) := fun j hj => extra_more ⟨hc1, hc6⟩ hj
          have hbl : ofP 0 0 ⟨#[]⟩ = .blank := by simp [ofP]
          have TO0 : Hid (∀ W, Ext w W → Calls Tryz.prog 13 #[.agg #[.int .i64 0, .int .i64 0, .string ⟨#[]⟩]] W fun e w' => e = .returned V.blank.val ∧ Ext W w') := fun W hx => by
            have := of_any 0 0 ⟨#[]⟩ W (by decide) (HT.out.ext hx)
            rwa [hbl] at this
          have HARG : Hid (argD a = ⟨((padded a).length / cn : Nat), cn, true, padded a⟩) := by show _ = _; unfold argD; rw [hone, if_neg (by simp), HCN.out]
          have HPAD : Hid (padded a = vals a ++ List.replicate (extra k cn) .blank) := by show _ = _; unfold padded; rw [HCN.out, ← hkl.out]
          obtain ⟨bt, bv, hbv⟩ := V.blank.val_iface
          rw [hbv] at TO0
          have HBV := Lib.hid hbv
          clear hbv hbl
          go_wp2_with fail
          clear hb1 hb2 hk2
          go_loopw [4] (fun s wq => ∃ (j : Nat), j ≤ extra k cn ∧ Hid (Ext w wq ∧ w.heap.size + 2 ≤ wq.heap.size) ∧ Hid (AgBox w a (.slice A a.l.length c) wq) ∧
            Hid (wq.ownsRow (w.heap.size + 2) 35 1 s (k + j) ((vals a ++ List.replicate j V.blank).map V.val))) (fun s _ => extra k cn + k - (match s with | .slice _ n _ => n | _ => 0))
          case atStart => exact ⟨0, Nat.zero_le _, hx, hbx, by simpa using hrow⟩
          case round =>
            clear hrow hx hbx
            obtain ⟨j, hj, hx, hbx, hrow⟩ := hrel
            obtain ⟨A3, c3, rfl⟩ := ownsRow_form hrow.out
            have hmore := HMORE.out j hj
            have hex := HEX.out
            have hrm : ((k + j : Nat) : Int).tmod (cn : Int) = (((k + j) % cn : Nat) : Int) := rfl
            have hcz : ((cn : Int) == 0) = false := by simp; omega
            obtain ⟨n, hn⟩ : ∃ n, k + j = n := ⟨_, rfl⟩
            obtain ⟨rm, hrme⟩ : ∃ rm, n % cn = rm := ⟨_, rfl⟩
            have hn32 : n ≤ 32 := by omega
            rw [hn] at hmore hrm hrow ⊢
            rw [hrme] at hmore hrm
            have HN := Lib.hid hn
            have HRM := Lib.hid hrme
            clear hn hrme
            have hsucc : Hid ((vals a ++ List.replicate (j + 1) V.blank).map V.val = (vals a ++ List.replicate j V.blank).map V.val ++ [Value.iface bt bv]) := by
              show _ = _
              rw [List.replicate_succ', ← List.append_assoc, List.map_append]
              rw [← HBV.out]; rfl
            by_cases hjl : j < extra k cn
            · by_cases hn0 : n = 0
              · subst hn0
                clear hmore hex
                go_wp2_with (first
                  | (go_at_call 13; refine (TO0.out _ hx.out.1).mono ?_; rintro e w3 ⟨rfl, hx3⟩; have OWN := Lib.hid (owns_ext hrow.out hx3); have hw3 : w.heap.size + 2 ≤ w3.heap.size := Nat.le_trans hx.out.2 hx3.size)
                  | (at_builtin; refine wpList_append_own _ rfl _ _ 25 rfl (w.heap.size + 2) 35 i0 .nilIface 1 16 Tryz.underlying25 hi hz0 hz1 hz2 rfl (by decide) _ _ _ rfl (OWN.out.alloc _) ⟨w3.heap.size, 0, none⟩ 1 1 [.iface bt bv] rfl rfl (cell_one_new _ _ _) (by simp [Value.oneCell']) (by unfold maxLen; omega) (by omega) (by rw [alloc_size]; omega) ?_; intro v' w5 hown' hgrow _)
                  | fail)
                obtain ⟨A6, c6, rfl⟩ := ownsRow_form hown'
                go_roundw
                case rel => exact ⟨j + 1, by omega, ⟨Ext.grown ((hx.out.1.trans hx3).alloc _) hgrow (fun j hj => Nat.le_trans (by omega) (own_ge OWN.out hj)), Nat.le_trans (Nat.le_trans (Nat.le_succ_of_le hw3) (Nat.le_of_eq (alloc_size w3 _).symm)) hgrow.size⟩, (hbx.out.ext hx3).appended hgrow (own_ne OWN.out (by omega)) (own_ne OWN.out (by omega)), by rw [hsucc.out, show k + (j + 1) = _ + 1 from (Nat.add_assoc k j 1).symm.trans (congrArg (· + 1) HN.out)]; exact hown'⟩
                case measure => have := HN.out; simp; omega
              · have hz : ((n : Int) == 0) = false := by simp; omega
                have hr0 : 0 < rm := by
                  rcases hmore.1 hjl with h0 | h0
                  · exact absurd h0 hn0
                  · exact h0
                clear hmore hex
                go_wp2_with (first
                  | (go_at_call 13; refine (TO0.out _ hx.out.1).mono ?_; rintro e w3 ⟨rfl, hx3⟩; have OWN := Lib.hid (owns_ext hrow.out hx3); have hw3 : w.heap.size + 2 ≤ w3.heap.size := Nat.le_trans hx.out.2 hx3.size)
                  | (at_builtin; refine wpList_append_own _ rfl _ _ 25 rfl (w.heap.size + 2) 35 i0 .nilIface 1 16 Tryz.underlying25 hi hz0 hz1 hz2 rfl (by decide) _ _ _ rfl (OWN.out.alloc _) ⟨w3.heap.size, 0, none⟩ 1 1 [.iface bt bv] rfl rfl (cell_one_new _ _ _) (by simp [Value.oneCell']) (by unfold maxLen; omega) (by omega) (by rw [alloc_size]; omega) ?_; intro v' w5 hown' hgrow _)
                  | fail)
                obtain ⟨A6, c6, rfl⟩ := ownsRow_form hown'
                go_roundw
                case rel => exact ⟨j + 1, by omega, ⟨Ext.grown ((hx.out.1.trans hx3).alloc _) hgrow (fun j hj => Nat.le_trans (by omega) (own_ge OWN.out hj)), Nat.le_trans (Nat.le_trans (Nat.le_succ_of_le hw3) (Nat.le_of_eq (alloc_size w3 _).symm)) hgrow.size⟩, (hbx.out.ext hx3).appended hgrow (own_ne OWN.out (by omega)) (own_ne OWN.out (by omega)), by rw [hsucc.out, show k + (j + 1) = _ + 1 from (Nat.add_assoc k j 1).symm.trans (congrArg (· + 1) HN.out)]; exact hown'⟩
                case measure => have := HN.out; simp; omega
            · have hno := fun h => hjl (hmore.2 h)
              have hz : ((n : Int) == 0) = false := by
                cases h : ((n : Int) == 0)
                · rfl
                · exact absurd (.inl (by simpa using h)) hno
              have hr0 : rm = 0 := by
                rcases Nat.eq_zero_or_pos rm with h | h
                · exact h
                · exact absurd (.inr h) hno
              rw [hr0] at hrm
              have hje : j = extra k cn := by omega
              have HP2 : Hid (padded a = vals a ++ List.replicate j V.blank) := by show _ = _; rw [HPAD.out, ← hje]
              have hlen : Hid (n = (padded a).length) := by
                show _ = _
                have h7 := hkl.out
                rw [HP2.out, List.length_append, List.length_replicate, ← HN.out, h7]
              have hq : (n : Int).tdiv (cn : Int) = ((n / cn : Nat) : Int) := rfl
              have hargd : argD a = ⟨((n / cn : Nat) : Int), cn, true, padded a⟩ := by rw [HARG.out, hlen.out]
              have HRG := Lib.hid hargd
              obtain ⟨q, hqe⟩ : ∃ q, n / cn = q := ⟨_, rfl⟩
              rw [hqe] at hq HRG
              obtain ⟨r0, r1, r2, r3, r4, r5, r6, r7, r8⟩ := hbx.out.res
              have hql : (q : Int) ≤ 32 := by
                have := Nat.div_le_self n cn
                omega
              clear hno hmore hex hje hargd hqe
              go_wp2
              have hsl : VSl wr (.slice A3 n c3) (padded a) := by
                have h9 := hrow.out
                rw [← HP2.out] at h9
                have h10 := hlen.out
                rw [h10] at h9 ⊢
                exact owns_VSl h9
              have hne : ∀ b o n' c', Value.slice A3 n c3 = .slice (some ⟨b, o, none⟩) n' c' → b ≠ w.heap.size + 1 := fun b o n' c' h => by
                injection h with h _ _
                have h11 := own_ge hrow.out (b := b) (by rw [h]; rfl)
                omega
              refine bodyPost_ret (v := .agg #[.int .i64 q, .int .i64 cn, .bool true, .slice A3 n c3]) (by simp [results, Tryz.results7, go_sem, r1, r2, r3, r4]) rfl ⟨_, rfl, ?_, ?_⟩
              · rw [HRG.out]
                exact ⟨_, rfl, (((hsl.set _ _ hne).set _ _ hne).set _ _ hne).set _ _ hne, fun b o n' c' h => by
                  injection h with h _ _
                  have h11 := own_ge hrow.out (b := b) (by rw [h]; rfl)
                  omega⟩
              · exact (((hx.out.1.setCell (by show w.heap.size ≤ w.heap.size + 1; omega) _).setCell (by show w.heap.size ≤ w.heap.size + 1; omega) _).setCell (by show w.heap.size ≤ w.heap.size + 1; omega) _).setCell (by show w.heap.size ≤ w.heap.size + 1; omega) _
      · have hk2 : decide ((k : Int) < (a.l.length : Int)) = false := by simp; omega
        cases hone : a.one with
        | true =>
          have hbl : ofP 0 0 ⟨#[]⟩ = .blank := by simp [ofP]
          have TO0 : Hid (∀ W, Ext w W → Calls Tryz.prog 13 #[.agg #[.int .i64 0, .int .i64 0, .string ⟨#[]⟩]] W fun e w' => e = .returned V.blank.val ∧ Ext W w') := fun W hx => by
            have := of_any 0 0 ⟨#[]⟩ W (by decide) (HT.out.ext hx)
            rwa [hbl] at this
          obtain ⟨bt, bv, hbv⟩ := V.blank.val_iface
          rw [hbv] at TO0
          have HBV := Lib.hid hbv
          obtain ⟨u, hu⟩ : ∃ u, (vals a ++ [V.blank]).headD .blank = u := ⟨_, rfl⟩
          have HU := Lib.hid hu
          have T1 : Hid (∀ W, Calls Tryz.prog 12 #[u.val] W fun e w' => ∃ c, e = .returned (.agg #[.int .i64 1, .int .i64 1, .bool false, .slice (some ⟨W.heap.size + 1, 0, none⟩) 1 c]) ∧ VSl w' (.slice (some ⟨W.heap.size + 1, 0, none⟩) 1 c) [u] ∧ Ext W w') := fun W => one_any u W
          have H0 : Hid ((((vals a).map V.val) ++ [Value.iface bt bv])[0]? = some u.val) := by
            show _ = _
            rw [← hbv, ← hu]
            cases vals a <;> rfl
          rw [hone] at hb1
          clear hbv hu hbl
          go_wp2_with (first
            | (go_at_call 13; refine (TO0.out _ hx.out.1).mono ?_; rintro e w3 ⟨rfl, hx3⟩; have OWN := Lib.hid (owns_ext hrow.out hx3); have hw3 : w.heap.size + 2 ≤ w3.heap.size := Nat.le_trans hx.out.2 hx3.size)
            | (at_builtin; refine wpList_append_own _ rfl _ _ 25 rfl (w.heap.size + 2) 35 i0 .nilIface 1 16 Tryz.underlying25 hi hz0 hz1 hz2 rfl (by decide) _ _ _ rfl (OWN.out.alloc _) ⟨w3.heap.size, 0, none⟩ 1 1 [.iface bt bv] rfl rfl (cell_one_new _ _ _) (by simp [Value.oneCell']) (by unfold maxLen; omega) (by omega) (by rw [alloc_size]; omega) ?_; intro v' w5 hown' hgrow _; obtain ⟨g', cap', rfl⟩ := ownsRow_succ hown'; have hbx5 := Lib.hid ((hbx.out.ext hx3).appended hgrow (own_ne OWN.out (by omega)) (own_ne OWN.out (by omega))); have hc5 := heap_own hown' H0.out)
            | (go_at_call 12; refine (T1.out _).mono ?_; rintro e w6 ⟨c6, rfl, hv6, hx6⟩; obtain ⟨r0, r1, r2, r3, r4, r5, r6, r7, r8⟩ := (hbx5.out.ext hx6).res))
          have hargd : argD a = ⟨1, 1, false, [u]⟩ := by unfold argD; rw [if_pos hone, HU.out]
          refine bodyPost_ret (v := .agg #[.int .i64 1, .int .i64 1, .bool false, .slice (some ⟨w5.heap.size + 1, 0, none⟩) 1 c6]) (by simp [results, Tryz.results7, go_sem, r1, r2, r3, r4]) rfl ⟨_, rfl, ?_, ?_⟩
          · rw [hargd]
            have hne : ∀ b o n c, Value.slice (some ⟨w5.heap.size + 1, 0, none⟩) 1 c6 = .slice (some ⟨b, o, none⟩) n c → b ≠ w.heap.size + 1 := fun b o n c h => by
              injection h with h _ _; injection h with h; injection h with h _ _
              have := hgrow.size
              rw [alloc_size] at this
              omega
            exact ⟨_, rfl, (((hv6.set _ _ hne).set _ _ hne).set _ _ hne).set _ _ hne, fun b o n c h => by
              injection h with h _ _; injection h with h; injection h with h _ _
              have := hgrow.size
              rw [alloc_size] at this
              omega⟩
          · have hE5 : Ext w w5 := Ext.grown ((hx.out.1.trans hx3).alloc _) hgrow (fun j hj => Nat.le_trans (by omega) (own_ge OWN.out hj))
            exact ((((hE5.trans hx6).setCell (by show w.heap.size ≤ w.heap.size + 1; omega) _).setCell (by show w.heap.size ≤ w.heap.size + 1; omega) _).setCell (by show w.heap.size ≤ w.heap.size + 1; omega) _).setCell (by show w.heap.size ≤ w.heap.size + 1; omega) _
        | false =>
          rw [hone] at hb1
          have HEX := Lib.hid (extra_le (len := k) ⟨hc1, hc6⟩)
          have HMORE : Hid (∀ j, j ≤ extra k cn → (j < extra k cn ↔ (k + j = 0 ∨ 0 < (k + j) % cn))) := fun j hj => extra_more ⟨hc1, hc6⟩ hj
          have hbl : ofP 0 0 ⟨#[]⟩ = .blank := by simp [ofP]
          have TO0 : Hid (∀ W, Ext w W → Calls Tryz.prog 13 #[.agg #[.int .i64 0, .int .i64 0, .string ⟨#[]⟩]] W fun e w' => e = .returned V.blank.val ∧ Ext W w') := fun W hx => by
            have := of_any 0 0 ⟨#[]⟩ W (by decide) (HT.out.ext hx)
            rwa [hbl] at this
          have HARG : Hid (argD a = ⟨((padded a).length / cn : Nat), cn, true, padded a⟩) := by show _ = _; unfold argD; rw [hone, if_neg (by simp), HCN.out]
          have HPAD : Hid (padded a = vals a ++ List.replicate (extra k cn) .blank) := by show _ = _; unfold padded; rw [HCN.out, ← hkl.out]
          obtain ⟨bt, bv, hbv⟩ := V.blank.val_iface
          rw [hbv] at TO0
          have HBV := Lib.hid hbv
          clear hbv hbl
          go_wp2_with fail
          clear hb1 hb2 hk2
          go_loopw [4] (fun s wq => ∃ (j : Nat), j ≤ extra k cn ∧ Hid (Ext w wq ∧ w.heap.size + 2 ≤ wq.heap.size) ∧ Hid (AgBox w a (.slice A a.l.length c) wq) ∧
            Hid (wq.ownsRow (w.heap.size + 2) 35 1 s (k + j) ((vals a ++ List.replicate j V.blank).map V.val))) (fun s _ => extra k cn + k - (match s with | .slice _ n _ => n | _ => 0))
          case atStart => exact ⟨0, Nat.zero_le _, hx, hbx, by simpa using hrow⟩
          case round =>
            clear hrow hx hbx
            obtain ⟨j, hj, hx, hbx, hrow⟩ := hrel
            obtain ⟨A3, c3, rfl⟩ := ownsRow_form hrow.out
            have hmore := HMORE.out j hj
            have hex := HEX.out
            have hrm : ((k + j : Nat) : Int).tmod (cn : Int) = (((k + j) % cn : Nat) : Int) := rfl
            have hcz : ((cn : Int) == 0) = false := by simp; omega
            obtain ⟨n, hn⟩ : ∃ n, k + j = n := ⟨_, rfl⟩
            obtain ⟨rm, hrme⟩ : ∃ rm, n % cn = rm := ⟨_, rfl⟩
            have hn32 : n ≤ 32 := by omega
            rw [hn] at hmore hrm hrow ⊢
            rw [hrme] at hmore hrm
            have HN := Lib.hid hn
            have HRM := Lib.hid hrme
            clear hn hrme
            have hsucc : Hid ((vals a ++ List.replicate (j + 1) V.blank).map V.val = (vals a ++ List.replicate j V.blank).map V.val ++ [Value.iface bt bv]) := by
              show _ = _
              rw [List.replicate_succ', ← List.append_assoc, List.map_append]
              rw [← HBV.out]; rfl
            by_cases hjl : j < extra k cn
            · by_cases hn0 : n = 0
              · subst hn0
                clear hmore hex
                go_wp2_with (first
                  | (go_at_call 13; refine (TO0.out _ hx.out.1).mono ?_; rintro e w3 ⟨rfl, hx3⟩; have OWN := Lib.hid (owns_ext hrow.out hx3); have hw3 : w.heap.size + 2 ≤ w3.heap.size := Nat.le_trans hx.out.2 hx3.size)
                  | (at_builtin; refine wpList_append_own _ rfl _ _ 25 rfl (w.heap.size + 2) 35 i0 .nilIface 1 16 Tryz.underlying25 hi hz0 hz1 hz2 rfl (by decide) _ _ _ rfl (OWN.out.alloc _) ⟨w3.heap.size, 0, none⟩ 1 1 [.iface bt bv] rfl rfl (cell_one_new _ _ _) (by simp [Value.oneCell']) (by unfold maxLen; omega) (by omega) (by rw [alloc_size]; omega) ?_; intro v' w5 hown' hgrow _)
                  | fail)
                obtain ⟨A6, c6, rfl⟩ := ownsRow_form hown'
                go_roundw
                case rel => exact ⟨j + 1, by omega, ⟨Ext.grown ((hx.out.1.trans hx3).alloc _) hgrow (fun j hj => Nat.le_trans (by omega) (own_ge OWN.out hj)), Nat.le_trans (Nat.le_trans (Nat.le_succ_of_le hw3) (Nat.le_of_eq (alloc_size w3 _).symm)) hgrow.size⟩, (hbx.out.ext hx3).appended hgrow (own_ne OWN.out (by omega)) (own_ne OWN.out (by omega)), by rw [hsucc.out, show k + (j + 1) = _ + 1 from (Nat.add_assoc k j 1).symm.trans (congrArg (· + 1) HN.out)]; exact hown'⟩
                case measure => have := HN.out; simp; omega
              · have hz : ((n : Int) == 0) = false := by simp; omega
                have hr0 : 0 < rm := by
                  rcases hmore.1 hjl with h0 | h0
                  · exact absurd h0 hn0
                  · exact h0
                clear hmore hex
                go_wp2_with (first
                  | (go_at_call 13; refine (TO0.out _ hx.out.1).mono ?_; rintro e w3 ⟨rfl, hx3⟩; have OWN := Lib.hid (owns_ext hrow.out hx3); have hw3 : w.heap.size + 2 ≤ w3.heap.size := Nat.le_trans hx.out.2 hx3.size)
                  | (at_builtin; refine wpList_append_own _ rfl _ _ 25 rfl (w.heap.size + 2) 35 i0 .nilIface 1 16 Tryz.underlying25 hi hz0 hz1 hz2 rfl (by decide) _ _ _ rfl (OWN.out.alloc _) ⟨w3.heap.size, 0, none⟩ 1 1 [.iface bt bv] rfl rfl (cell_one_new _ _ _) (by simp [Value.oneCell']) (by unfold maxLen; omega) (by omega) (by rw [alloc_size]; omega) ?_; intro v' w5 hown' hgrow _)
                  | fail)
                obtain ⟨A6, c6, rfl⟩ := ownsRow_form hown'
                go_roundw
                case rel => exact ⟨j + 1, by omega, ⟨Ext.grown ((hx.out.1.trans hx3).alloc _) hgrow (fun j hj => Nat.le_trans (by omega) (own_ge OWN.out hj)), Nat.le_trans (Nat.le_trans (Nat.le_succ_of_le hw3) (Nat.le_of_eq (alloc_size w3 _).symm)) hgrow.size⟩, (hbx.out.ext hx3).appended hgrow (own_ne OWN.out (by omega)) (own_ne OWN.out (by omega)), by rw [hsucc.out, show k + (j + 1) = _ + 1 from (Nat.add_assoc k j 1).symm.trans (congrArg (· + 1) HN.out)]; exact hown'⟩
                case measure => have := HN.out; simp; omega
            · have hno := fun h => hjl (hmore.2 h)
              have hz : ((n : Int) == 0) = false := by
                cases h : ((n : Int) == 0)
                · rfl
                · exact absurd (.inl (by simpa using h)) hno
              have hr0 : rm = 0 := by
                rcases Nat.eq_zero_or_pos rm with h | h
                · exact h
                · exact absurd (.inr h) hno
              rw [hr0] at hrm
              have hje : j = extra k cn := by omega
              have HP2 : Hid (padded a = vals a ++ List.replicate j V.blank) := by show _ = _; rw [HPAD.out, ← hje]
              have hlen : Hid (n = (padded a).length) := by
                show _ = _
                have h7 := hkl.out
                rw [HP2.out, List.length_append, List.length_replicate, ← HN.out, h7]
              have hq : (n : Int).tdiv (cn : Int) = ((n / cn : Nat) : Int) := rfl
              have hargd : argD a = ⟨((n / cn : Nat) : Int), cn, true, padded a⟩ := by rw [HARG.out, hlen.out]
              have HRG := Lib.hid hargd
              obtain ⟨q, hqe⟩ : ∃ q, n / cn = q := ⟨_, rfl⟩
              rw [hqe] at hq HRG
              obtain ⟨r0, r1, r2, r3, r4, r5, r6, r7, r8⟩ := hbx.out.res
              have hql : (q : Int) ≤ 32 := by
                have := Nat.div_le_self n cn
                omega
              clear hno hmore hex hje hargd hqe
              go_wp2
              have hsl : VSl wr (.slice A3 n c3) (padded a) := by
                have h9 := hrow.out
                rw [← HP2.out] at h9
                have h10 := hlen.out
                rw [h10] at h9 ⊢
                exact owns_VSl h9
              have hne : ∀ b o n' c', Value.slice A3 n c3 = .slice (some ⟨b, o, none⟩) n' c' → b ≠ w.heap.size + 1 := fun b o n' c' h => by
                injection h with h _ _
                have h11 := own_ge hrow.out (b := b) (by rw [h]; rfl)
                omega
              refine bodyPost_ret (v := .agg #[.int .i64 q, .int .i64 cn, .bool true, .slice A3 n c3]) (by simp [results, Tryz.results7, go_sem, r1, r2, r3, r4]) rfl ⟨_, rfl, ?_, ?_⟩
              · rw [HRG.out]
                exact ⟨_, rfl, (((hsl.set _ _ hne).set _ _ hne).set _ _ hne).set _ _ hne, fun b o n' c' h => by
                  injection h with h _ _
                  have h11 := own_ge hrow.out (b := b) (by rw [h]; rfl)
                  omega⟩
              · exact (((hx.out.1.setCell (by show w.heap.size ≤ w.heap.size + 1; omega) _).setCell (by show w.heap.size ≤ w.heap.size + 1; omega) _).setCell (by show w.heap.size ≤ w.heap.size + 1; omega) _).setCell (by show w.heap.size ≤ w.heap.size + 1; omega) _
end Go.Proofs.YtphjmbaifkneiaaGreatDoor
