/- What layer 18's numbers come to: the numbers of the arguments, or the first failure. -/
import Derived.Test.YtphjmbaifkneiaaGreatDoorB2
import Derived.RangeFuncBox
import Derived.Maps.AppendAt
namespace Go.Proofs.YtphjmbaifkneiaaGreatDoor
open Go.RowKit

set_option maxHeartbeats 400000
set_option maxRecDepth 100000

/-- What a value adds to the numbers. -/
def numStep (l : List Int) (v : V) (area : Bool) : Int × List Int :=
  if v.isNum then (0, l ++ [v.numN]) else if area then (v.failN, l) else if v.asNum.2 = 0 then (0, l ++ [v.asNum.1]) else (v.asNum.2, l)
/-- The box of the numbers. -/
def NumBox (n0 Bx : Nat) (l : List Int) (w : World) : Prop := ∃ v, Boxed w Bx 69 v ∧ w.ownsRow n0 39 1 v l.length (l.map (Value.int .i64))

theorem infoDec : (Tryz.prog.info? 39).map (fun i => (i.zero, i.size, i.bytes)) = some (some (.int .i64 0), 1, 8) := by kernel_rfl

theorem NumBox.alloc {n0 Bx : Nat} {l : List Int} {w : World} (h : NumBox n0 Bx l w) (o : Obj) : NumBox n0 Bx l (w.alloc o) := by
  obtain ⟨v, h1, h2⟩ := h
  exact ⟨v, h1.alloc o, h2.alloc o⟩
theorem NumBox.ext {n0 Bx : Nat} {l : List Int} {w w' : World} (h : NumBox n0 Bx l w) (hx : Ext w w') : NumBox n0 Bx l w' := by
  obtain ⟨v, h1, h2⟩ := h
  have hg : w.grownBy w' none := ⟨hx.os, hx.tape, hx.output, hx.size, fun k hk _ => hx.block k hk⟩
  refine ⟨v, h1.kept hg (by simp), h2.kept hg ?_⟩
  cases v.ownBlock with
  | none => exact .inl rfl
  | some _ => exact .inr (by simp)

theorem Kp.appended {w w1 : World} {n0 Bx : Nat} {t e : TypeId} {size n : Nat} {v : Value} (v' : Value) {xs : List Value} {tmp : Obj} (hv : Boxed w Bx t v) (hrow : w.ownsRow n0 e size v n xs) (ht : t ≠ 27) (he : e ≠ 27)
    (hgrow : (w.alloc tmp).grownBy w1 v.ownBlock) : Kp w (w1.setCell ⟨Bx, 0, none⟩ v') := by
  have hsz := hgrow.size
  have hsa : (w.alloc tmp).heap.size = w.heap.size + 1 := by show (Array.push _ _).size = _; simp
  rw [hsa] at hsz
  have hg2 := grownBy_setCell' w1 Bx v'
  refine ⟨Nat.le_trans (by omega) hg2.size, fun k cs fz hk => ?_⟩
  have hlt := (Array.getElem?_eq_some_iff.1 hk).1
  have hka : (w.alloc tmp).heap[k]? = some (.cells cs 27 fz) := ((heap_alloc_old w _ hlt)).trans hk
  have n1 : some k ≠ v.ownBlock := by
    rcases hrow.2 with ⟨rfl, _⟩ | ⟨g, cap, cur, rfl, _, hgb, _⟩
    · simp [Value.ownBlock]
    · intro e'
      obtain rfl : k = g := by simpa [Value.ownBlock] using e'
      rw [hk] at hgb
      simp at hgb
      exact he hgb.2.1.symm
  have n2 : some k ≠ some Bx := by
    intro e'
    obtain rfl : k = Bx := by simpa using e'
    have := (show w.heap[k]? = _ from hv).symm.trans hk
    simp at this
    exact ht this.2.1
  rw [hg2.block k (by omega) n2, hgrow.block k (by rw [hsa]; omega) n1, hka]

theorem numStep_any (v : V) (area : Bool) (n0 Bx : Nat) (l : List Int) (w : World) (hv : v.Good) (hb : NumBox n0 Bx l w) (h0 : n0 ≤ Bx) (hl : l.length ≤ 1000000) :
    Calls Tryz.prog 57 #[v.val, .bool area, .pointer (some ⟨Bx, 0, none⟩)] w fun e w' => e = .returned (.int .i64 (numStep l v area).1) ∧ NumBox n0 Bx (numStep l v area).2 w' ∧ Below n0 w w' ∧ Kp w w' := by
  have HV := Lib.hid hv
  have HB := Lib.hid hb
  have hbs : n0 ≤ w.heap.size := by
    obtain ⟨u, h1, h2⟩ := hb
    exact Nat.le_trans h0 (Nat.le_of_lt h1.lt)
  clear hv hb
  obtain ⟨i0, hi, hz0, hz1, hz2⟩ := info_parts infoDec
  have T1 : Hid (∀ W, Calls Tryz.prog 40 #[v.val] W fun e w' => e = .returned (.tuple #[.int .i64 v.numN, .bool v.isNum]) ∧ W = w') := fun W => given_any v W
  have T2 : Hid (∀ W, Calls Tryz.prog 33 #[v.val] W fun e w' => e = .returned (.tuple #[.int .i64 v.asNum.1, .int .i64 v.asNum.2]) ∧ Ext W w') := fun W => asNumber_any v W HV.out
  have T3 : Hid (∀ W, Calls Tryz.prog 52 #[v.val] W fun e w' => e = .returned (.tuple #[.int .i64 v.failN, .bool v.isFail]) ∧ W = w') := fun W => failed_any v W
  cases hnum : v.isNum with
  | true =>
    rw [hnum] at T1
    have hst : Hid (numStep l v area = (0, l ++ [v.numN])) := by show numStep _ _ _ = _; simp [numStep, hnum]
    obtain ⟨n, hn⟩ : ∃ n, v.numN = n := ⟨_, rfl⟩
    rw [hn] at T1 hst
    clear hn hnum
    obtain ⟨u, hbx, hrow⟩ := HB.out
    have hcb := hbx.cell
    have hn0 := hbs
    have hsa : ∀ o : Obj, (w.alloc o).heap.size = w.heap.size + 1 := fun o => by show (Array.push _ _).size = _; simp
    go_enter Tryz.func57, Tryz.ntmps57
    go_wp2_with (first
      | (go_at_call 40; refine (T1.out _).mono ?_; rintro e w1 ⟨rfl, rfl⟩)
      | (at_builtin; refine wpList_append_own _ rfl _ _ 69 rfl n0 39 i0 (.int .i64 0) 1 8 Tryz.underlying69 hi hz0 hz1 hz2 rfl (by decide) _ _ _ rfl (hrow.alloc _) ⟨w.heap.size, 0, none⟩ 1 1 [.int .i64 n] rfl rfl (cell_one_new _ _ _) (by simp [Value.oneCell']) (by unfold maxLen; omega) (by omega) (by rw [hsa]; omega) ?_; intro v' w1 hown' hgrow _; obtain ⟨g', cap', rfl⟩ := ownsRow_succ hown'; obtain ⟨hv1, hv2, hr2, hk2, hb2⟩ := hbx.appended (by decide) hrow hn0 h0 hown' hgrow; have hkp := Kp.appended (.slice (some ⟨g', 0, none⟩) (l.length + 1) cap') hbx hrow (by decide) (by decide) hgrow; have hc1 := hv1.cell; have hf1 := hv1.frozen; clear hgrow hown' hk2 hv1)
      | fail)
    go_ret
    rw [hst.out]
    exact ⟨rfl, ⟨_, hv2, by simpa using hr2⟩, hb2, hkp⟩
  | false =>
    rw [hnum] at T1
    obtain ⟨n, f, hn⟩ : ∃ n f, v.asNum = (n, f) := ⟨_, _, rfl⟩
    rw [hn] at T2
    cases area with
    | true =>
      have hst : Hid (numStep l v true = (v.failN, l)) := by show numStep _ _ _ = _; simp [numStep, hnum]
      clear hn hnum
      go_enter Tryz.func57, Tryz.ntmps57
      go_wp2_with (first
        | (go_at_call 40; refine (T1.out _).mono ?_; rintro e w1 ⟨rfl, rfl⟩)
        | (go_at_call 33; refine (T2.out _).mono ?_; rintro e w1 ⟨rfl, hx1⟩)
        | (go_at_call 52; refine (T3.out _).mono ?_; rintro e w1 ⟨rfl, rfl⟩))
      go_ret
      rw [hst.out]
      exact ⟨rfl, HB.out.ext hx1, hx1.mono hbs, Kp.of_ext hx1⟩
    | false =>
      by_cases hf : f = 0
      · subst hf
        have hst : Hid (numStep l v false = (0, l ++ [n])) := by show numStep _ _ _ = _; simp [numStep, hnum, hn]
        clear hn hnum
        go_enter Tryz.func57, Tryz.ntmps57
        go_wp2_with (first
          | (go_at_call 40; refine (T1.out _).mono ?_; rintro e w1 ⟨rfl, rfl⟩)
          | (go_at_call 33; refine (T2.out _).mono ?_; rintro e wa ⟨rfl, hx1⟩; obtain ⟨u, hbx, hrow⟩ := HB.out.ext hx1; have hcb := hbx.cell; have hn0 : n0 ≤ wa.heap.size := Nat.le_trans hbs hx1.size; have hsa : ∀ o : Obj, (wa.alloc o).heap.size = wa.heap.size + 1 := fun o => by show (Array.push _ _).size = _; simp)
          | (at_builtin; refine wpList_append_own _ rfl _ _ 69 rfl n0 39 i0 (.int .i64 0) 1 8 Tryz.underlying69 hi hz0 hz1 hz2 rfl (by decide) _ _ _ rfl (hrow.alloc _) ⟨wa.heap.size, 0, none⟩ 1 1 [.int .i64 n] rfl rfl (cell_one_new _ _ _) (by simp [Value.oneCell']) (by unfold maxLen; omega) (by omega) (by rw [hsa]; omega) ?_; intro v' w1 hown' hgrow _; obtain ⟨g', cap', rfl⟩ := ownsRow_succ hown'; obtain ⟨hv1, hv2, hr2, hk2, hb2⟩ := hbx.appended (by decide) hrow hn0 h0 hown' hgrow; have hkp := Kp.appended (.slice (some ⟨g', 0, none⟩) (l.length + 1) cap') hbx hrow (by decide) (by decide) hgrow; have hc1 := hv1.cell; have hf1 := hv1.frozen; clear hgrow hown' hk2 hv1)
          | fail)
        go_ret
        rw [hst.out]
        exact ⟨rfl, ⟨_, hv2, by simpa using hr2⟩, (hx1.mono hbs).trans hb2, (Kp.of_ext hx1).trans hkp⟩
      · have hfb : (f == 0) = false := by simpa using hf
        have hst : Hid (numStep l v false = (f, l)) := by show numStep _ _ _ = _; simp [numStep, hnum, hn, hf]
        clear hn hnum hf
        go_enter Tryz.func57, Tryz.ntmps57
        go_wp2_with (first
          | (go_at_call 40; refine (T1.out _).mono ?_; rintro e w1 ⟨rfl, rfl⟩)
          | (go_at_call 33; refine (T2.out _).mono ?_; rintro e w1 ⟨rfl, hx1⟩))
        go_ret
        rw [hst.out]
        exact ⟨rfl, HB.out.ext hx1, hx1.mono hbs, Kp.of_ext hx1⟩

theorem numStep_len (pre : List (V × Bool)) : ∀ (l m : List Int), (runS numStep pre l) = (0, m) → m.length ≤ l.length + pre.length := by
  induction pre with
  | nil => intro l m h; simp [runS] at h; simp [h]
  | cons x pre ih =>
    obtain ⟨v, a⟩ := x
    intro l m h
    by_cases h1 : (numStep l v a).1 = 0
    · simp only [runS, h1, if_true] at h
      have h2 := ih _ _ h
      have h3 : (numStep l v a).2.length ≤ l.length + 1 := by
        unfold numStep
        repeat' split
        all_goals simp
      simp only [List.length_cons]
      omega
    · simp only [runS, h1, if_false] at h
      exact absurd (by rw [h]) h1

/-- The numbers of the arguments. -/
def NumRow (n0 : Nat) (l : List Int) (v : Value) (w : World) : Prop := w.ownsRow n0 39 1 v l.length (l.map (Value.int .i64))

theorem numbers_any (av : Value) (args : List ArgD) (w : World) (hA : ASl w av args) (hgood : ∀ a ∈ args, ∀ v ∈ a.l, v.Good) (hlen : (flat args).length ≤ 100000) :
    Calls Tryz.prog 29 #[av] w fun e w' => ∃ v, e = .returned (.tuple #[v, .int .i64 (runS numStep (flat args) []).1]) ∧ NumRow w.heap.size (runS numStep (flat args) []).2 v w' ∧ Ext w w' := by
  have HA := Lib.hid hA
  have HG := Lib.hid hgood
  have HL := Lib.hid hlen
  clear hA hgood hlen
  have T := all_any 57 #[.pointer (some ⟨w.heap.size, 0, none⟩)] (NumBox w.heap.size w.heap.size) numStep w.heap.size av args w (w.alloc (.cells #[.slice none 0 0] 69)) []
    HA.out (Nat.le_refl _) (Ext.alloc (Ext.refl w) _) (Ext.alloc (Ext.refl w) (.cells #[.slice none 0 0] 69)).size ⟨_, Boxed.new w _ _, ⟨by simp, .inl ⟨rfl, rfl⟩⟩⟩ HG.out
    (fun s v area wr hv ⟨pre, post, he, hs⟩ hI hw => numStep_any v area _ _ s wr hv hI (Nat.le_refl _) (by
      have h1 := numStep_len pre _ _ hs
      have h2 : (flat args).length = pre.length + (post.length + 1) := by rw [he]; simp
      have h3 := HL.out
      simp at h1
      omega)) (fun s wr o h _ => h.alloc o) (enters rfl rfl rfl)
  have TT := Lib.hid T
  clear T
  obtain ⟨f, l, hr⟩ : ∃ f l, runS numStep (flat args) [] = (f, l) := ⟨_, _, rfl⟩
  rw [hr] at TT ⊢
  clear hr
  go_enter Tryz.func29, Tryz.ntmps29
  go_wp2_with (go_at_call 48; refine TT.out.mono ?_; rintro e w1 ⟨rfl, ⟨u, hbx, hrow⟩, hx1⟩; have hcb := hbx.cell)
  go_ret2
  exact ⟨_, rfl, hrow, Below.trans (Ext.alloc (Ext.refl w) _) hx1⟩
end Go.Proofs.YtphjmbaifkneiaaGreatDoor
