/- AreasShared: what its walk leans on. -/
import Derived.Deep.DeepCutAuto
import Derived.Deep.AppendLies
import Derived.Test.YtphjmbaifkneiaaGreatDoorL5
import Derived.Test.YtphjmbaifkneiaaGreatDoorZ5
import Derived.Test.YtphjmbaifkneiaaGreatDoorP8
namespace Go.Proofs.YtphjmbaifkneiaaGreatDoor
open Go.RowKit

set_option maxHeartbeats 8000000
set_option maxRecDepth 100000

theorem asl_one' {W : World} {x : ArgD} {s1 : Value} (h1 : VSl W s1 x.l) :
    ASl (W.alloc (.cells #[.int .i64 x.rows, .int .i64 x.cols, .bool x.area, s1] 27)) (.slice (some ⟨W.heap.size, 0, none⟩) 1 1) [x] := by
  refine ⟨_, 1, rfl, Nat.le_refl _, by decide, fun k hk => ?_⟩
  obtain rfl : k = 0 := by simpa using hk
  have hx := (Ext.refl W).alloc (.cells #[.int .i64 x.rows, .int .i64 x.cols, .bool x.area, s1] 27)
  exact ⟨W.heap.size, 0, s1, rfl, by rw [alloc_size]; omega, alloc_cell _ _ _ 0, alloc_cell _ _ _ 1, alloc_cell _ _ _ 2, alloc_cell _ _ _ 3, h1.ext hx⟩
theorem asl_one'' {W : World} {x : ArgD} {s1 : Value} {g : Nat} (hg : g = W.heap.size) (h1 : VSl W s1 x.l) :
    ASl (W.alloc (.cells #[.int .i64 x.rows, .int .i64 x.cols, .bool x.area, s1] 27)) (.slice (some ⟨g, 0, none⟩) 1 1) [x] := by
  subst hg; exact asl_one' h1
theorem asl_two'' {W : World} {x y : ArgD} {s1 s2 : Value} {g : Nat} (hg : g = W.heap.size) (h1 : VSl W s1 x.l) (h2 : VSl W s2 y.l) :
    ASl (W.alloc (.cells #[.int .i64 x.rows, .int .i64 x.cols, .bool x.area, s1, .int .i64 y.rows, .int .i64 y.cols, .bool y.area, s2] 27)) (.slice (some ⟨g, 0, none⟩) 2 2) [x, y] := by
  subst hg; exact asl_two h1 h2
/-- Block p holds this argument. -/
def ArgBox (W : World) (p : Nat) (x : ArgD) (A : Option Addr) (c : Nat) : Prop :=
  p < W.heap.size ∧ W.cell? ⟨p, 0, none⟩ = some (.int .i64 x.rows) ∧ W.cell? ⟨p, 1, none⟩ = some (.int .i64 x.cols) ∧ W.cell? ⟨p, 2, none⟩ = some (.bool x.area) ∧ W.cell? ⟨p, 3, none⟩ = some (.slice A x.l.length c) ∧ VSl W (.slice A x.l.length c) x.l
theorem ArgBox.ext {W W' : World} {p : Nat} {x : ArgD} {A : Option Addr} {c : Nat} (h : ArgBox W p x A c) (hx : Ext W W') : ArgBox W' p x A c := by
  obtain ⟨h0, h1, h2, h3, h4, h5⟩ := h
  exact ⟨Nat.lt_of_lt_of_le h0 hx.size, (hx.cell h0).trans h1, (hx.cell h0).trans h2, (hx.cell h0).trans h3, (hx.cell h0).trans h4, h5.ext hx⟩

theorem newest {W W' : World} {o : Obj} (h : Ext (W.alloc o) W') : W'.heap[W.heap.size]? = some o :=
  (h.block _ (by rw [alloc_size]; exact Nat.lt_succ_self _)).trans (heap_alloc_new W o)
theorem newest2 {W W' : World} {o o' : Obj} (h : Ext ((W.alloc o).alloc o') W') : W'.heap[W.heap.size]? = some o :=
  newest (((Ext.refl _).alloc _).trans h)
theorem newestD {W W' : World} {o o' : Obj} (h : Ext ((W.alloc o).alloc o') W') : W'.heap[W.heap.size + 1]? = some o' := by
  rw [← alloc_size W o]; exact newest h
theorem drew_size (w : World) : w.drew.heap.size = w.heap.size := rfl
theorem stays {U W W' : World} {p : Nat} {o : Obj} (h : Ext W W') (q : U.heap[p]? = some o) (hU : Ext U W) : W'.heap[p]? = some o :=
  ((hU.trans h).block _ (Array.getElem?_eq_some_iff.1 q).1).trans q

/-- Four cells of a block written. -/
abbrev set4 (W : World) (p : Nat) (a b c d : Value) : World := (((W.setCell ⟨p, 0, none⟩ a).setCell ⟨p, 1, none⟩ b).setCell ⟨p, 2, none⟩ c).setCell ⟨p, 3, none⟩ d
theorem set4_size (W : World) (p : Nat) (a b c d : Value) : (set4 W p a b c d).heap.size = W.heap.size := by simp [set4]
theorem heap_set1 {W : World} {p k : Nat} {cs : Array Value} {t : TypeId} (v : Value) (h : W.heap[p]? = some (.cells cs t (0, 0))) : (W.setCell ⟨p, k, none⟩ v).heap[p]? = some (.cells (cs.setIfInBounds k v) t (0, 0)) := by
  obtain ⟨hlt, hk⟩ := Array.getElem?_eq_some_iff.1 h
  show (W.heap.modify p _)[p]? = _
  rw [Array.getElem?_eq_getElem (by rw [Array.size_modify]; exact hlt), Array.getElem_modify_self, hk]
  rfl
theorem set4_heap {W : World} {p : Nat} {z0 z1 z2 z3 : Value} {t : TypeId} (a b c d : Value) (h : W.heap[p]? = some (.cells #[z0, z1, z2, z3] t (0, 0))) : (set4 W p a b c d).heap[p]? = some (.cells #[a, b, c, d] t (0, 0)) :=
  heap_set1 d (heap_set1 c (heap_set1 b (heap_set1 a h)))
theorem set4_other {W : World} {p q : Nat} (a b c d : Value) (h : q ≠ p) : (set4 W p a b c d).heap[q]? = W.heap[q]? := by
  have e : ∀ (W : World) (k : Nat) (v : Value), (W.setCell ⟨p, k, none⟩ v).heap[q]? = W.heap[q]? := fun W k v => Below.heap_setCell _ _ _ q (fun e => h e)
  unfold set4
  rw [e, e, e, e]
theorem set4_ext {U W : World} {p : Nat} (a b c d : Value) (h : Ext U W) (hp : U.heap.size ≤ p) : Ext U (set4 W p a b c d) := (((h.setCell hp a).setCell hp b).setCell hp c).setCell hp d
theorem set4_vsl {W : World} {p b o n c : Nat} {l : List V} (a0 a1 a2 a3 : Value) (h : VSl W (.slice (some ⟨b, o, none⟩) n c) l) (hne : b ≠ p) : VSl (set4 W p a0 a1 a2 a3) (.slice (some ⟨b, o, none⟩) n c) l := by
  have e : ∀ b' o' n' c', Value.slice (some ⟨b, o, none⟩) n c = .slice (some ⟨b', o', none⟩) n' c' → b' ≠ p := fun b' o' n' c' e => by cases e; exact hne
  exact (((h.set ⟨p, 0, none⟩ a0 e).set ⟨p, 1, none⟩ a1 e).set ⟨p, 2, none⟩ a2 e).set ⟨p, 3, none⟩ a3 e
theorem argBox_of {W : World} {p : Nat} {x : ArgD} {A : Option Addr} {c : Nat} (h : W.heap[p]? = some (.cells #[.int .i64 x.rows, .int .i64 x.cols, .bool x.area, .slice A x.l.length c] 27 (0, 0))) (hv : VSl W (.slice A x.l.length c) x.l) : ArgBox W p x A c :=
  ⟨(Array.getElem?_eq_some_iff.1 h).1, heap_cell h 0, heap_cell h 1, heap_cell h 2, heap_cell h 3, hv⟩
section
variable {w wb : World} {x y : ArgD} {b1 o1 c1 b2 o2 c2 : Nat} (hE : Ext w wb) (hA : VSl wb (.slice (some ⟨b1, o1, none⟩) x.l.length c1) x.l) (hB : VSl wb (.slice (some ⟨b2, o2, none⟩) y.l.length c2) y.l)
include hE hA hB
theorem shape1 : Ext w ((wb.alloc (.cells #[.int .i64 x.rows, .int .i64 x.cols, .bool x.area, .slice (some ⟨b1, o1, none⟩) x.l.length c1] 27)).alloc (.cells #[.int .i64 y.rows, .int .i64 y.cols, .bool y.area, .slice (some ⟨b2, o2, none⟩) y.l.length c2] 27)) ∧
    ArgBox ((wb.alloc (.cells #[.int .i64 x.rows, .int .i64 x.cols, .bool x.area, .slice (some ⟨b1, o1, none⟩) x.l.length c1] 27)).alloc (.cells #[.int .i64 y.rows, .int .i64 y.cols, .bool y.area, .slice (some ⟨b2, o2, none⟩) y.l.length c2] 27)) wb.heap.size x (some ⟨b1, o1, none⟩) c1 ∧
    ArgBox ((wb.alloc (.cells #[.int .i64 x.rows, .int .i64 x.cols, .bool x.area, .slice (some ⟨b1, o1, none⟩) x.l.length c1] 27)).alloc (.cells #[.int .i64 y.rows, .int .i64 y.cols, .bool y.area, .slice (some ⟨b2, o2, none⟩) y.l.length c2] 27)) (wb.heap.size + 1) y (some ⟨b2, o2, none⟩) c2 :=
  ⟨(hE.alloc _).alloc _, argBox_of (newest2 (Ext.refl _)) (hA.ext (((Ext.refl _).alloc _).alloc _)), argBox_of (newestD (Ext.refl _)) (hB.ext (((Ext.refl _).alloc _).alloc _))⟩
theorem shape3 {p : Nat} {z0 z1 z2 z3 : Value} (hp : w.heap.size ≤ p) (h : wb.heap[p]? = some (.cells #[z0, z1, z2, z3] 27 (0, 0))) (n1 : b1 ≠ p) (n2 : b2 ≠ p) :
    Ext w ((set4 wb p (.int .i64 x.rows) (.int .i64 x.cols) (.bool x.area) (.slice (some ⟨b1, o1, none⟩) x.l.length c1)).alloc (.cells #[.int .i64 y.rows, .int .i64 y.cols, .bool y.area, .slice (some ⟨b2, o2, none⟩) y.l.length c2] 27)) ∧
    ArgBox ((set4 wb p (.int .i64 x.rows) (.int .i64 x.cols) (.bool x.area) (.slice (some ⟨b1, o1, none⟩) x.l.length c1)).alloc (.cells #[.int .i64 y.rows, .int .i64 y.cols, .bool y.area, .slice (some ⟨b2, o2, none⟩) y.l.length c2] 27)) p x (some ⟨b1, o1, none⟩) c1 ∧
    ArgBox ((set4 wb p (.int .i64 x.rows) (.int .i64 x.cols) (.bool x.area) (.slice (some ⟨b1, o1, none⟩) x.l.length c1)).alloc (.cells #[.int .i64 y.rows, .int .i64 y.cols, .bool y.area, .slice (some ⟨b2, o2, none⟩) y.l.length c2] 27)) wb.heap.size y (some ⟨b2, o2, none⟩) c2 := by
  refine ⟨(set4_ext _ _ _ _ hE hp).alloc _, (argBox_of (set4_heap _ _ _ _ h) (set4_vsl _ _ _ _ hA n1)).ext ((Ext.refl _).alloc _), ?_⟩
  have h2 := newest (Ext.refl ((set4 wb p (.int .i64 x.rows) (.int .i64 x.cols) (.bool x.area) (.slice (some ⟨b1, o1, none⟩) x.l.length c1)).alloc (.cells #[.int .i64 y.rows, .int .i64 y.cols, .bool y.area, .slice (some ⟨b2, o2, none⟩) y.l.length c2] 27)))
  rw [set4_size] at h2
  exact argBox_of h2 ((set4_vsl _ _ _ _ hB n2).ext ((Ext.refl _).alloc _))
theorem shape5 {p q : Nat} {z0 z1 z2 z3 y0 y1 y2 y3 : Value} (hp : w.heap.size ≤ p) (hq : w.heap.size ≤ q) (h : wb.heap[p]? = some (.cells #[z0, z1, z2, z3] 27 (0, 0))) (g : wb.heap[q]? = some (.cells #[y0, y1, y2, y3] 27 (0, 0))) (hpq : p ≠ q) (n1 : b1 ≠ p) (n2 : b2 ≠ p) (m1 : b1 ≠ q) (m2 : b2 ≠ q) :
    Ext w (set4 (set4 wb p (.int .i64 x.rows) (.int .i64 x.cols) (.bool x.area) (.slice (some ⟨b1, o1, none⟩) x.l.length c1)) q (.int .i64 y.rows) (.int .i64 y.cols) (.bool y.area) (.slice (some ⟨b2, o2, none⟩) y.l.length c2)) ∧
    ArgBox (set4 (set4 wb p (.int .i64 x.rows) (.int .i64 x.cols) (.bool x.area) (.slice (some ⟨b1, o1, none⟩) x.l.length c1)) q (.int .i64 y.rows) (.int .i64 y.cols) (.bool y.area) (.slice (some ⟨b2, o2, none⟩) y.l.length c2)) p x (some ⟨b1, o1, none⟩) c1 ∧
    ArgBox (set4 (set4 wb p (.int .i64 x.rows) (.int .i64 x.cols) (.bool x.area) (.slice (some ⟨b1, o1, none⟩) x.l.length c1)) q (.int .i64 y.rows) (.int .i64 y.cols) (.bool y.area) (.slice (some ⟨b2, o2, none⟩) y.l.length c2)) q y (some ⟨b2, o2, none⟩) c2 := by
  refine ⟨set4_ext _ _ _ _ (set4_ext _ _ _ _ hE hp) hq, argBox_of ((set4_other _ _ _ _ hpq).trans (set4_heap _ _ _ _ h)) (set4_vsl _ _ _ _ (set4_vsl _ _ _ _ hA n1) m1), argBox_of (set4_heap _ _ _ _ ((set4_other _ _ _ _ (Ne.symm hpq)).trans g)) (set4_vsl _ _ _ _ (set4_vsl _ _ _ _ hB n2) m2)⟩
end

theorem own0 {W : World} {g base : Nat} {e : TypeId} (h : W.heap[g]? = some (.cells #[] e (0, 0))) (hb : base ≤ g) : W.ownsRow base e 1 (.slice (some ⟨g, 0, none⟩) 0 0) 0 [] :=
  ⟨by simp, .inr ⟨g, 0, #[], rfl, hb, h, Nat.le_refl _, by unfold maxLen; omega, by simp, by simp⟩⟩
theorem vsl_news {W : World} {b o n c : Nat} {xs : List V} (h : VSl W (.slice (some ⟨b, o, none⟩) n c) xs) : ∀ j u, (xs.map V.val)[j]? = some u → W.cell? ((⟨b, o, none⟩ : Addr).add j) = some u := fun j u hu => by
  obtain ⟨A', c', e, _, _, h3⟩ := h
  cases e
  have hj : j < xs.length := by
    have := (List.getElem?_eq_some_iff.1 hu).1
    simpa using this
  obtain ⟨b', o', e, _, hc⟩ := h3 j hj
  cases e
  have e2 : (⟨b, o, none⟩ : Addr).add j = ⟨b, o + j, none⟩ := by unfold Addr.add; split <;> simp_all
  rw [e2, hc]
  rw [List.getElem?_eq_getElem (by simpa using hj)] at hu
  simpa using hu
theorem vals_one (xs : List V) : ∀ u ∈ xs.map V.val, u.oneCell' = true := fun u hu => by
  obtain ⟨v, _, rfl⟩ := List.mem_map.1 hu
  cases v <;> rfl
theorem kept_grown {W w5 : World} {row : Option Nat} {z : Nat} {o : Obj} (hg : W.grownBy w5 row) (h : W.heap[z]? = some o) (hne : some z ≠ row) : w5.heap[z]? = some o :=
  (hg.block z (Array.getElem?_eq_some_iff.1 h).1 hne).trans h
theorem kept_grown' {W w5 : World} {g n cap : Nat} {z : Nat} {o : Obj} (hg : W.grownBy w5 (Value.slice (some ⟨g, 0, none⟩) n cap).ownBlock) (h : W.heap[z]? = some o) (hne : z ≠ g) : w5.heap[z]? = some o :=
  kept_grown hg h (fun e => hne (Option.some.inj e))
theorem ng_of {g0 g H z n cap : Nat} (hat : (Value.slice (some ⟨g0, 0, none⟩) n cap).ownBlock = some g ∨ g = H) (h0 : z ≠ g0) (hH : z < H) : g ≠ z := by
  rcases hat with h | h
  · exact fun e => h0 (e ▸ (Option.some.inj h).symm)
  · omega
theorem lt_of_block {W : World} {z : Nat} {o : Obj} (h : W.heap[z]? = some o) : z < W.heap.size := (Array.getElem?_eq_some_iff.1 h).1
theorem owns_cat {W : World} {base g n cap : Nat} {xs ys : List V} {l : List Value} (h : W.ownsRow base 35 1 (.slice (some ⟨g, 0, none⟩) n cap) n l) (hn : n = (xs ++ ys).length) (hl : l = (xs ++ ys).map V.val) : VSl W (.slice (some ⟨g, 0, none⟩) (xs ++ ys).length cap) (xs ++ ys) := by
  subst hl; subst hn; exact owns_VSl h
theorem shapeD {w w6 : World} {g cap : Nat} {xs ys : List V} {R : Int} (hE : Ext w w6) (hV : VSl w6 (.slice (some ⟨g, 0, none⟩) (xs ++ ys).length cap) (xs ++ ys)) :
    Ext w (w6.alloc (.cells #[.int .i64 R, .int .i64 1, .bool true, .slice (some ⟨g, 0, none⟩) (xs.length + ys.length) cap] 27)) ∧
    ArgBox (w6.alloc (.cells #[.int .i64 R, .int .i64 1, .bool true, .slice (some ⟨g, 0, none⟩) (xs.length + ys.length) cap] 27)) w6.heap.size ⟨R, 1, true, xs ++ ys⟩ (some ⟨g, 0, none⟩) cap := by
  rw [← List.length_append]
  exact ⟨hE.alloc _, argBox_of (x := ⟨R, 1, true, xs ++ ys⟩) (newest (Ext.refl _)) (hV.ext ((Ext.refl _).alloc _))⟩
theorem shapeS {w w6 : World} {g cap p : Nat} {xs ys : List V} {R : Int} {z0 z1 z2 z3 : Value} (hE : Ext w w6) (hV : VSl w6 (.slice (some ⟨g, 0, none⟩) (xs ++ ys).length cap) (xs ++ ys)) (hp : w.heap.size ≤ p) (h : w6.heap[p]? = some (.cells #[z0, z1, z2, z3] 27 (0, 0))) (hg : g ≠ p) :
    Ext w (set4 w6 p (.int .i64 R) (.int .i64 1) (.bool true) (.slice (some ⟨g, 0, none⟩) (xs.length + ys.length) cap)) ∧
    ArgBox (set4 w6 p (.int .i64 R) (.int .i64 1) (.bool true) (.slice (some ⟨g, 0, none⟩) (xs.length + ys.length) cap)) p ⟨R, 1, true, xs ++ ys⟩ (some ⟨g, 0, none⟩) cap := by
  rw [← List.length_append]
  exact ⟨set4_ext _ _ _ _ hE hp, argBox_of (x := ⟨R, 1, true, xs ++ ys⟩) (set4_heap _ _ _ _ h) (set4_vsl _ _ _ _ hV hg)⟩
theorem neq_told_self (k a : Int) (s : ByteArray) (w : World) : (binOp .neq 32 (.agg #[.int .i64 k, .int .i64 a, .string s]) (.agg #[.int .i64 k, .int .i64 a, .string s])).run Tryz.prog w = .ok (.bool false) w := by
  have h := eq_told_raw k k a a s s w
  rw [run_eql_struct] at h
  rw [run_neq_struct]
  revert h
  cases (Op.equalIn 10000 32 (.agg #[.int .i64 k, .int .i64 a, .string s]) (.agg #[.int .i64 k, .int .i64 a, .string s])).run Tryz.prog w with
  | ok b w' => intro h; simp only [Result.andThen, Result.ok.injEq, Value.bool.injEq] at h ⊢; obtain ⟨rfl, rfl⟩ := h; simp
  | halt h w' => intro h; simp [Result.andThen] at h
@[go_sem] theorem neq_told_guard (x y : Operand) (k l a b : Int) (s t : ByteArray) (w : World) : (eqGuard .neq 32 x y (.agg #[.int .i64 k, .int .i64 a, .string s]) (.agg #[.int .i64 l, .int .i64 b, .string t])).run Tryz.prog w = .ok () w := run_eqGuard_agg _ _ _ _ _ _ _ (by kernel_rfl)
def nineNames : List ByteArray := [⟨#[83, 85, 77]⟩, ⟨#[67, 79, 85, 78, 84]⟩, ⟨#[67, 79, 85, 78, 84, 65]⟩, ⟨#[77, 73, 78]⟩, ⟨#[77, 65, 88]⟩, ⟨#[83, 85, 77, 83, 81]⟩, ⟨#[65, 86, 69, 82, 65, 71, 69]⟩, ⟨#[77, 69, 68, 73, 65, 78]⟩, ⟨#[65, 78, 68]⟩]
/-- Each of the nine hangs on the flat list alone. -/
theorem call_shared {nm : ByteArray} (h : nm ∈ nineNames) : ∃ G : List (V × Bool) → V, ∀ av args W, ASl W av args → (∀ a ∈ args, ∀ v ∈ a.l, v.Good) → 1 ≤ args.length → args.length ≤ 30 → (flat args).length ≤ 100000 →
    Calls Tryz.prog 10 #[.string nm, av] W fun e w' => e = .returned (G (flat args)).val ∧ Ext W w' := by
  unfold nineNames at h
  simp only [List.mem_cons, List.not_mem_nil, or_false] at h
  rcases h with rfl | rfl | rfl | rfl | rfl | rfl | rfl | rfl | rfl
  · exact ⟨fun f => if (runS numStep f []).1 ≠ 0 then .fail (runS numStep f []).1 else sumV (runS numStep f []).2, fun av args W hA hg h1 h2 hl => call_SUM av args W hA hg h1 h2 hl⟩
  · exact ⟨fun f => V.num (((f.filter fun q => V.counts q.1 q.2).length * 10000 : Nat) : Int), fun av args W hA hg h1 h2 hl => call_COUNT av args W hA hg h1 h2 hl⟩
  · exact ⟨fun f => V.num (((f.filter fun q => V.filled q.1 q.2).length * 10000 : Nat) : Int), fun av args W hA hg h1 h2 hl => call_COUNTA av args W hA hg h1 h2 hl⟩
  · exact ⟨fun f => if (runS numStep f []).1 ≠ 0 then .fail (runS numStep f []).1 else leastS (runS numStep f []).2, fun av args W hA hg h1 h2 hl => call_MIN av args W hA hg h1 h2 hl⟩
  · exact ⟨fun f => if (runS numStep f []).1 ≠ 0 then .fail (runS numStep f []).1 else mostS (runS numStep f []).2, fun av args W hA hg h1 h2 hl => call_MAX av args W hA hg h1 h2 hl⟩
  · exact ⟨fun f => if (runS numStep f []).1 ≠ 0 then .fail (runS numStep f []).1 else sumsqV (runS numStep f []).2, fun av args W hA hg h1 h2 hl => call_SUMSQ av args W hA hg h1 h2 hl⟩
  · exact ⟨fun f => if (runS numStep f []).1 ≠ 0 then .fail (runS numStep f []).1 else meanS (runS numStep f []).2, fun av args W hA hg h1 h2 hl => call_AVERAGE av args W hA hg h1 h2 hl⟩
  · exact ⟨fun f => if (runS numStep f []).1 ≠ 0 then .fail (runS numStep f []).1 else medianS (runS numStep f []).2, fun av args W hA hg h1 h2 hl => call_MEDIAN av args W hA hg h1 h2 hl⟩
  · exact ⟨fun f => if (runS truthStep f (0, 0)).1 ≠ 0 then .fail (runS truthStep f (0, 0)).1 else if (runS truthStep f (0, 0)).2.1 = 0 then .fail 3 else .bool ((runS truthStep f (0, 0)).2.2 == (runS truthStep f (0, 0)).2.1), fun av args W hA hg h1 h2 hl => call_AND av args W hA hg h1 h2 hl⟩

end Go.Proofs.YtphjmbaifkneiaaGreatDoor
