/- How many values keep a rule: layer 18's 'chosen'. -/
import Derived.Test.YtphjmbaifkneiaaGreatDoorF2
import Derived.Deep.AppendLies
import Derived.Maps.AppendAt
import Derived.Deep.RegionLaw
import Derived.RangeFuncBox
namespace Go.Proofs.YtphjmbaifkneiaaGreatDoor
open Go.RowKit

set_option maxHeartbeats 2000000
set_option maxRecDepth 100000

theorem infoValue : (Tryz.prog.info? 35).map (fun i => (i.zero, i.size, i.bytes)) = some (some .nilIface, 1, 16) := by kernel_rfl

/-- The blocks of 'chosen' in a round: the argument's, the result's, the rule's, what has been chosen. -/
def ChBox (B4 B6 B7 B8 : Nat) (ac rc : Array Value) (v : Value) (W : World) : Prop :=
  W.heap[B4]? = some (.cells ac 27 (0, 0)) ∧ W.heap[B6]? = some (.cells #[.int .i64 0, .int .i64 0, .bool false, .slice none 0 0] 27 (0, 0)) ∧ W.heap[B7]? = some (.cells rc 114 (0, 0)) ∧ W.heap[B8]? = some (.cells #[.int .i64 0, .int .i64 0, .bool true, v] 27 (0, 0))
theorem ChBox.ext {B4 B6 B7 B8 : Nat} {ac rc : Array Value} {v : Value} {w W : World} (h : ChBox B4 B6 B7 B8 ac rc v w) (hx : Ext w W) : ChBox B4 B6 B7 B8 ac rc v W := by
  obtain ⟨h1, h2, h3, h4⟩ := h
  exact ⟨(hx.block _ (Array.getElem?_eq_some_iff.1 h1).1).trans h1, (hx.block _ (Array.getElem?_eq_some_iff.1 h2).1).trans h2, (hx.block _ (Array.getElem?_eq_some_iff.1 h3).1).trans h3, (hx.block _ (Array.getElem?_eq_some_iff.1 h4).1).trans h4⟩
theorem heap_cell {W : World} {b : Nat} {cs : Array Value} {t : TypeId} (h : W.heap[b]? = some (.cells cs t (0, 0))) (k : Nat) : W.cell? ⟨b, k, none⟩ = cs[k]? := by
  unfold World.cell?; rw [h]; rfl
theorem heap_frozen {W : World} {b : Nat} {cs : Array Value} {t : TypeId} (h : W.heap[b]? = some (.cells cs t (0, 0))) (k : Nat) : W.frozen? ⟨b, k, none⟩ = false := by
  unfold World.frozen?; rw [h]; rfl
theorem ChBox.cells {B4 B6 B7 B8 : Nat} {a0 a1 a2 a3 r0 r1 v : Value} {W : World} (h : ChBox B4 B6 B7 B8 #[a0, a1, a2, a3] #[r0, r1] v W) :
    W.cell? ⟨B4, 3, none⟩ = some a3 ∧ W.cell? ⟨B7, 0, none⟩ = some r0 ∧ W.cell? ⟨B7, 1, none⟩ = some r1 ∧ W.cell? ⟨B8, 0, none⟩ = some (.int .i64 0) ∧ W.cell? ⟨B8, 1, none⟩ = some (.int .i64 0) ∧ W.cell? ⟨B8, 2, none⟩ = some (.bool true) ∧ W.cell? ⟨B8, 3, none⟩ = some v ∧ W.frozen? ⟨B8, 3, none⟩ = false := by
  obtain ⟨h1, h2, h3, h4⟩ := h
  exact ⟨heap_cell h1 3, heap_cell h3 0, heap_cell h3 1, heap_cell h4 0, heap_cell h4 1, heap_cell h4 2, heap_cell h4 3, heap_frozen h4 3⟩

theorem kept3 {w w1 : World} {a b c : Obj} (hx : Ext (((w.alloc a).alloc b).alloc c) w1) : w1.heap[w.heap.size]? = some a ∧ w1.heap[w.heap.size + 1]? = some b ∧ w1.heap[w.heap.size + 1 + 1]? = some c ∧ w.heap.size + 3 ≤ w1.heap.size ∧ Ext w w1 := by
  have hz := hx.size
  have s1 := alloc_size w a
  have s2 := alloc_size (w.alloc a) b
  have s3 := alloc_size ((w.alloc a).alloc b) c
  refine ⟨?_, ?_, ?_, by omega, Ext.trans (((Ext.refl w).alloc a).alloc b |>.alloc c) hx⟩
  · rw [hx.block _ (by omega), heap_alloc_old _ _ (by omega), heap_alloc_old _ _ (by omega), heap_alloc_new]
  · rw [hx.block _ (by omega), heap_alloc_old _ _ (by omega), ← s1, heap_alloc_new]
  · rw [hx.block _ (by omega), ← s1, ← s2, heap_alloc_new]

theorem filter_take_yes {α : Type} (p : α → Bool) (l : List α) (k : Nat) (h : k < l.length) (hp : p l[k] = true) : ((l.take (k + 1)).filter p).length = ((l.take k).filter p).length + 1 := by
  rw [List.take_succ_eq_append_getElem h, List.filter_append, List.length_append]
  simp [hp]
theorem filter_take_no {α : Type} (p : α → Bool) (l : List α) (k : Nat) (h : k < l.length) (hp : p l[k] = false) : ((l.take (k + 1)).filter p).length = ((l.take k).filter p).length := by
  rw [List.take_succ_eq_append_getElem h, List.filter_append, List.length_append]
  simp [hp]

theorem ownsRow_form {w : World} {base : Nat} {e : TypeId} {size : Nat} {v : Value} {n : Nat} {xs : List Value} (h : w.ownsRow base e size v n xs) : ∃ A c, v = .slice A n c := by
  rcases h.2 with ⟨rfl, rfl⟩ | ⟨g, cap, cur, rfl, _⟩
  · exact ⟨_, _, rfl⟩
  · exact ⟨_, _, rfl⟩
theorem ChBox.res {B4 B6 B7 B8 : Nat} {ac rc : Array Value} {v : Value} {W : World} (h : ChBox B4 B6 B7 B8 ac rc v W) :
    B6 < W.heap.size ∧ W.cell? ⟨B6, 0, none⟩ = some (.int .i64 0) ∧ W.cell? ⟨B6, 1, none⟩ = some (.int .i64 0) ∧ W.cell? ⟨B6, 2, none⟩ = some (.bool false) ∧ W.cell? ⟨B6, 3, none⟩ = some (.slice none 0 0) ∧ (W.frozen? ⟨B6, 0, none⟩ = false ∧ W.frozen? ⟨B6, 1, none⟩ = false ∧ W.frozen? ⟨B6, 2, none⟩ = false ∧ W.frozen? ⟨B6, 3, none⟩ = false) := by
  obtain ⟨h1, h2, h3, h4⟩ := h
  exact ⟨(Array.getElem?_eq_some_iff.1 h2).1, heap_cell h2 0, heap_cell h2 1, heap_cell h2 2, heap_cell h2 3, heap_frozen h2 0, heap_frozen h2 1, heap_frozen h2 2, heap_frozen h2 3⟩

theorem owns_ext {w w' : World} {base : Nat} {e : TypeId} {size : Nat} {v : Value} {n : Nat} {xs : List Value} (h : w.ownsRow base e size v n xs) (hx : Ext w w') : w'.ownsRow base e size v n xs := by
  have hg : w.grownBy w' none := ⟨hx.os, hx.tape, hx.output, hx.size, fun k hk _ => hx.block k hk⟩
  refine h.kept hg ?_
  cases v.ownBlock with
  | none => exact .inl rfl
  | some _ => exact .inr (by simp)
theorem own_ne {w : World} {base b : Nat} {e : TypeId} {size : Nat} {v : Value} {n : Nat} {xs : List Value} (h : w.ownsRow base e size v n xs) (hb : b < base) : some b ≠ v.ownBlock := by
  rcases h.2 with ⟨rfl, _⟩ | ⟨g, cap, cur, rfl, hg, _⟩
  · simp [Value.ownBlock]
  · intro h'
    obtain rfl : b = g := by simpa [Value.ownBlock] using h'
    omega
theorem own_ge {w : World} {base b : Nat} {e : TypeId} {size : Nat} {v : Value} {n : Nat} {xs : List Value} (h : w.ownsRow base e size v n xs) (hb : v.ownBlock = some b) : base ≤ b := by
  rcases Nat.lt_or_ge b base with hlt | hge
  · exact absurd hb.symm (own_ne h hlt)
  · exact hge
theorem grownBy_setCellAt (W : World) (p : Addr) (v : Value) : W.grownBy (W.setCell p v) (some p.block) :=
  ⟨rfl, rfl, rfl, (KeepsWalks.setCell W _ v).size, fun k _ hk => Below.heap_setCell _ _ _ k (fun e => hk (by rw [e]))⟩
theorem kept_append {w2 w3 : World} {o X : Obj} {v : Value} {B : Nat} (hb : w2.heap[B]? = some X) (hne : some B ≠ v.ownBlock) (hg : (w2.alloc o).drew.grownBy w3 v.ownBlock) : w3.heap[B]? = some X := by
  have hlt : B < w2.heap.size := (Array.getElem?_eq_some_iff.1 hb).1
  rw [hg.block B (by show B < (w2.alloc o).heap.size; rw [alloc_size]; omega) hne]
  exact (heap_alloc_old w2 o hlt).trans hb
theorem ChBox.appended {B4 B6 B7 B8 : Nat} {ac rc : Array Value} {v u : Value} {w2 w3 : World} {o : Obj} (h : ChBox B4 B6 B7 B8 ac rc v w2) (hg : (w2.alloc o).drew.grownBy w3 u.ownBlock) (h4 : some B4 ≠ u.ownBlock) (h6 : some B6 ≠ u.ownBlock) (h7 : some B7 ≠ u.ownBlock) (h8 : some B8 ≠ u.ownBlock) : ChBox B4 B6 B7 B8 ac rc v w3 :=
  ⟨kept_append h.1 h4 hg, kept_append h.2.1 h6 hg, kept_append h.2.2.1 h7 hg, kept_append h.2.2.2 h8 hg⟩
theorem ChBox.set {B4 B6 B7 B8 : Nat} {ac rc : Array Value} {v : Value} {W : World} (v' : Value) (h : ChBox B4 B6 B7 B8 ac rc v W) (h4 : B4 ≠ B8) (h6 : B6 ≠ B8) (h7 : B7 ≠ B8) : ChBox B4 B6 B7 B8 ac rc v' (W.setCell ⟨B8, 3, none⟩ v') := by
  obtain ⟨a1, a2, a3, a4⟩ := h
  refine ⟨(Below.heap_setCell _ _ _ _ h4).trans a1, (Below.heap_setCell _ _ _ _ h6).trans a2, (Below.heap_setCell _ _ _ _ h7).trans a3, ?_⟩
  obtain ⟨hlt, hk⟩ := Array.getElem?_eq_some_iff.1 a4
  show (W.heap.modify B8 _)[B8]? = _
  rw [Array.getElem?_eq_getElem (by rw [Array.size_modify]; exact hlt), Array.getElem_modify_self, hk]
  rfl

theorem chosen_any (av : Value) (x : ArgD) (v : V) (w : World) (ha : ArgIs w av x) (hgood : ∀ u ∈ x.l, u.Good) (hv : v.Good) (hs : SgIs w) (hl : x.l.length ≤ 100000) :
    Calls Tryz.prog 35 #[av, av, v.val] w fun e w' => ∃ A c, e = .returned (.agg #[.int .i64 0, .int .i64 0, .bool true, .slice A (x.l.filter (fitsR (madeS v).1 (madeS v).2)).length c]) ∧ Ext w w' := by
  have M : Hid (∀ W, Ext w W → Calls Tryz.prog 63 #[v.val] W fun e w' => e = .returned (.agg #[.int .i64 (madeS v).1, (madeS v).2.val]) ∧ Ext W w') := fun W hx => rule_any v W hv (hs.ext hx)
  obtain ⟨⟨hr0, hr5⟩, hrg⟩ := madeS_good v hv
  obtain ⟨op, hop⟩ : ∃ op, (madeS v).1 = op := ⟨_, rfl⟩
  obtain ⟨r, hr⟩ : ∃ r, (madeS v).2 = r := ⟨_, rfl⟩
  rw [hop] at M hr0 hr5 ⊢
  rw [hr] at M hrg ⊢
  have FT : Hid (∀ (u : V) (W : World), u ∈ x.l → Calls Tryz.prog 64 #[.agg #[.int .i64 op, r.val], u.val] W fun e w' => e = .returned (.bool (fitsR op r u)) ∧ Ext W w') := fun u W hu => fits_any op r u W hr0 hr5 hrg (hgood u hu)
  obtain ⟨rt, rv, hrv⟩ := r.val_iface
  rw [hrv] at M FT
  clear hop hr hrv hr0 hr5 hrg hgood hv hs
  obtain ⟨sv, rfl, hsl⟩ := ha
  have HS := Lib.hid hsl
  obtain ⟨A, c, rfl, h1, h2, h3⟩ := hsl
  clear h3
  obtain ⟨i0, hi, hz0, hz1, hz2⟩ := info_parts infoValue
  go_enter Tryz.func35, Tryz.ntmps35
  go_wp2_with (go_at_call 63; refine (M.out _ (by repeat (first | exact Ext.refl _ | exact Ext.trans (by assumption) (by assumption) | assumption | refine Ext.alloc ?_ _ | refine Ext.drew ?_ | refine Ext.drewN ?_ _ | refine Ext.setCell ?_ (by simp) _))).mono ?_; rintro e w1 ⟨rfl, hx1⟩; obtain ⟨q3, q4, q6, qs, hxw⟩ := kept3 hx1; have c3 : w1.cell? ⟨w.heap.size, 3, none⟩ = some (.slice A x.l.length c) := heap_cell q3 3; have hl1 : w.heap.size < w1.heap.size := by omega)
  have hl2 : w1.heap.size + 2 = ((w1.alloc (.cells #[.int .i64 op, .iface rt rv] 114)).alloc (.cells #[.int .i64 0, .int .i64 0, .bool true, .slice none 0 0] 27)).heap.size := by rw [alloc_size, alloc_size]
  go_loopw [17] (fun i wr => ∃ (k : Nat) (v : Value) (xs : List Value), k ≤ x.l.length ∧ i = .int .i64 k ∧ Hid (Ext w wr ∧ w1.heap.size + 2 ≤ wr.heap.size) ∧ Hid (ChBox (w.heap.size + 1) (w.heap.size + 1 + 1) w1.heap.size (w1.heap.size + 1) #[.int .i64 x.rows, .int .i64 x.cols, .bool x.area, .slice A x.l.length c] #[.int .i64 op, .iface rt rv] v wr) ∧
    Hid (wr.ownsRow (w1.heap.size + 2) 35 1 v ((x.l.take k).filter (fitsR op r)).length xs)) (fun i _ => x.l.length - (intOf i).toNat)
  case atStart =>
    refine ⟨0, .slice none 0 0, [], Nat.zero_le _, rfl, ⟨(hxw.alloc _).alloc _, Nat.le_of_eq hl2⟩, ⟨?_, ?_, ?_, ?_⟩, ⟨by simp, .inl ⟨rfl, rfl⟩⟩⟩
    · rw [heap_alloc_old _ _ (by rw [alloc_size]; omega), heap_alloc_old _ _ (by omega)]; exact q4
    · rw [heap_alloc_old _ _ (by rw [alloc_size]; omega), heap_alloc_old _ _ (by omega)]; exact q6
    · rw [heap_alloc_old _ _ (by rw [alloc_size]; omega), heap_alloc_new]
    · rw [← alloc_size w1 (.cells #[.int .i64 op, .iface rt rv] 114), heap_alloc_new]
  case round =>
    obtain ⟨k, v, xs, hk, rfl, hx, hch, hrow⟩ := hrel
    clear q3 q4 q6 c3 hx1
    by_cases hlt : k < x.l.length
    · obtain ⟨A', c', hAc, _, _, h6⟩ := HS.out
      obtain ⟨b, o, hAA, hb, hc⟩ := h6 k hlt
      clear h6
      injection hAc with e1 e2 e3
      subst e1 e3
      subst hAA
      clear e2
      rw [← hx.out.1.cell hb] at hc
      obtain ⟨u, hu⟩ : ∃ u, x.l[k] = u := ⟨_, rfl⟩
      obtain ⟨ut, uv, huv⟩ := u.val_iface
      have hft : Hid (∀ W, Calls Tryz.prog 64 #[.agg #[.int .i64 op, .iface rt rv], u.val] W fun e w' => e = .returned (.bool (fitsR op r u)) ∧ Ext W w') := fun W => FT.out u W (by rw [← hu]; exact List.getElem_mem hlt)
      have hf1 := filter_take_yes (fitsR op r) x.l k hlt
      have hf2 := filter_take_no (fitsR op r) x.l k hlt
      rw [hu] at hc hf1 hf2
      rw [huv] at hc hft
      clear hu FT huv
      have HXF : Hid (∀ W, Ext wr W → W.cell? ⟨w.heap.size + 1, 3, none⟩ = some (.slice (some ⟨b, o, none⟩) x.l.length c) ∧ W.cell? ⟨b, o + k, none⟩ = some (.iface ut uv) ∧ W.cell? ⟨w1.heap.size + 1, 3, none⟩ = some v ∧ W.frozen? ⟨w1.heap.size + 1, 3, none⟩ = false ∧ w1.heap.size + 2 ≤ W.heap.size) := fun W hxx => by
        obtain ⟨k0, k1, k2, k3, k4, k5, k6, k7⟩ := (hch.out.ext hxx).cells
        exact ⟨k0, (hxx.cell (Nat.lt_of_lt_of_le hb hx.out.1.size)).trans hc, k6, k7, Nat.le_trans hx.out.2 hxx.size⟩
      obtain ⟨k0, k1, k2, k3, k4, k5, k6, k7⟩ := hch.out.cells
      have hka : (k : Int) < (x.l.length : Int) := by omega
      clear hb k3 k4 k5
      cases hfit : fitsR op r u with
      | false =>
        rw [hfit] at hft
        have hF2 := Lib.hid (hf2 hfit)
        clear hf1 hf2 hfit
        go_wp2_with (go_at_call 64; refine (hft.out _).mono ?_; rintro e w2 ⟨rfl, hx2⟩)
        go_roundw
        case rel => exact ⟨k + 1, v, xs, by omega, by go_num, ⟨hx.out.1.trans hx2, Nat.le_trans hx.out.2 hx2.size⟩, hch.out.ext hx2, by rw [hF2.out]; exact owns_ext hrow.out hx2⟩
        case measure => simp [intOf]; omega
      | true =>
        rw [hfit] at hft
        have hF2 := Lib.hid (hf1 hfit)
        clear hf1 hf2 hfit
        go_wp2_with (go_at_call 64; refine (hft.out _).mono ?_; rintro e w2 ⟨rfl, hx2⟩; obtain ⟨m0, m1, m2, m3, m4⟩ := HXF.out w2 hx2)
        have hown2 := owns_ext hrow.out hx2
        have hfl : ((x.l.take k).filter (fitsR op r)).length ≤ 100000 := Nat.le_trans (List.length_filter_le _ _) (by rw [List.length_take]; omega)
        have hch2 := hch.out.ext hx2
        have n4 := own_ne hown2 (b := w.heap.size + 1) (by omega)
        have n6 := own_ne hown2 (b := w.heap.size + 1 + 1) (by omega)
        have n7 := own_ne hown2 (b := w1.heap.size) (by omega)
        have n8 := own_ne hown2 (b := w1.heap.size + 1) (by omega)
        have HOWN := Lib.hid hown2
        have HCH := Lib.hid hch2
        have HN := Lib.hid (And.intro n4 (And.intro n6 (And.intro n7 n8)))
        have hl4 : w1.heap.size + 1 < w2.heap.size := m4
        clear hown2 hch2 n4 n6 n7 n8 k0 k1 k2 k6 k7 hc
        go_region_law (refine step_append_lies _ (by rfl) _ _ _ (by rfl) (w1.heap.size + 2) 35 i0 .nilIface 1 16 Tryz.underlying25 hi hz0 hz1 hz2 rfl (by omega) v _ xs (by rfl) (HOWN.out.alloc _).drew ⟨w2.heap.size, 0, none⟩ 1 1 [.iface ut uv] (by rfl) (by rfl) (World.news_of_block (cs := #[.iface ut uv]) (t := 35) (fr := (0, 0)) (heap_alloc_new w2 _)) (by simp [Value.oneCell']) (by omega) (by unfold maxLen; omega) (by omega) (Nat.le_trans (Nat.le_succ_of_le m4) (Nat.le_of_eq (alloc_size w2 _).symm)) (w2.heap.size + 1) (alloc_size w2 _) ?_; intro g cap w3 hown3 hgrow hat hlt3; have hch3 := HCH.out.appended hgrow HN.out.1 HN.out.2.1 HN.out.2.2.1 HN.out.2.2.2; obtain ⟨_, _, _, _, _, _, p6, p7⟩ := hch3.cells)
        all_goals go_wp2
        all_goals go_roundw
        all_goals first
          | (refine ⟨k + 1, _, xs ++ [.iface ut uv], by omega, by go_num, ⟨?_, ?_⟩, hch3.set _ (by omega) (by omega) (by omega), ?_⟩
             · exact Ext.setCell (Ext.grown (((hx.out.1.trans hx2).alloc _).drew) hgrow (fun j hj => Nat.le_trans (by omega) (own_ge HOWN.out hj))) (by show w.heap.size ≤ w1.heap.size + 1; omega) _
             · exact Nat.le_trans (Nat.le_trans (Nat.le_succ_of_le m4) (Nat.le_of_eq (alloc_size w2 _).symm)) (Nat.le_trans hgrow.size (grownBy_setCellAt _ _ _).size)
             · rw [hF2.out]
               exact hown3.kept (grownBy_setCellAt _ _ _) (.inr (own_ne hown3 (by show w1.heap.size + 1 < _; omega)).symm))
          | (simp [intOf]; omega)
    · have hfin : Hid (x.l.take k = x.l) := List.take_of_length_le (by omega)
      rw [hfin.out] at hrow
      obtain ⟨k0, k1, k2, k3, k4, k5, k6, k7⟩ := hch.out.cells
      obtain ⟨l0, l1, l2, l3, l4, l5, l6, l7, l8⟩ := hch.out.res
      obtain ⟨A2, c2, rfl⟩ := ownsRow_form hrow.out
      go_wp2
      refine bodyPost_ret (v := .agg #[.int .i64 0, .int .i64 0, .bool true, .slice A2 _ c2]) (by simp [results, Tryz.results35, go_sem, l1, l2, l3, l4]) rfl ⟨_, _, rfl, ?_⟩
      exact (((hx.out.1.setCell (by show w.heap.size ≤ w.heap.size + 1 + 1; omega) _).setCell (by show w.heap.size ≤ w.heap.size + 1 + 1; omega) _).setCell (by show w.heap.size ≤ w.heap.size + 1 + 1; omega) _).setCell (by show w.heap.size ≤ w.heap.size + 1 + 1; omega) _
end Go.Proofs.YtphjmbaifkneiaaGreatDoor
