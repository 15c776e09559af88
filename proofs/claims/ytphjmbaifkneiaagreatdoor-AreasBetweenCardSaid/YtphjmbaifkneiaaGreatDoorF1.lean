/- When a value keeps layer 18's rule. -/
import Derived.Test.YtphjmbaifkneiaaGreatDoorE1
import Derived.Deep.RegionHeld3
namespace Go.Proofs.YtphjmbaifkneiaaGreatDoor
open Go.RowKit

set_option maxHeartbeats 400000
set_option maxRecDepth 100000

@[go_sem] theorem field_kind (a b : Int) (s : ByteArray) (w : World) : (Instr.field 46 (.agg #[.int .i64 a, .int .i64 b, .string s]) 0).run Tryz.prog w = .ok (.int .i64 a) w := by kernel_rfl

theorem alloc_size (w : World) (o : Obj) : (w.alloc o).heap.size = w.heap.size + 1 := by
  show (Array.push _ _).size = _; simp
theorem alloc_cell (w : World) (xs : Array Value) (t : TypeId) (k : Nat) : (w.alloc (.cells xs t)).cell? ⟨w.heap.size, k, none⟩ = xs[k]? := by
  unfold World.cell?; rw [heap_alloc_new]; rfl

theorem alike_any (a b : V) (w : World) : Calls Tryz.prog 90 #[a.val, b.val] w fun e w' => e = .returned (.bool (a.kind == b.kind)) ∧ Ext w w' := by
  have T1 : Hid (∀ W, Calls Tryz.prog 20 #[a.val] W fun e w' => e = .returned (.agg #[.int .i64 a.kind, .int .i64 a.n, .string a.s]) ∧ Ext W w') := tell_any a
  have T2 : Hid (∀ W, Calls Tryz.prog 20 #[b.val] W fun e w' => e = .returned (.agg #[.int .i64 b.kind, .int .i64 b.n, .string b.s]) ∧ Ext W w') := tell_any b
  go_enter Tryz.func90, Tryz.ntmps90
  go_wp2_with (first
    | (go_at_call 20; refine (T1.out _).mono ?_; rintro e w1 ⟨rfl, hx1⟩; clear T1; obtain ⟨hc1, hf1⟩ := hx1.reads)
    | (go_at_call 20; refine (T2.out _).mono ?_; rintro e w2 ⟨rfl, hx2⟩; clear T2))
  go_ret
  exact ⟨rfl, hx1.trans hx2⟩

/-- Does a value keep the rule (op, r)? (op isn't 1) -/
def fitsS (op : Int) (r v : V) : Bool := if v.kind = r.kind then (if v.isFail then op == 0 && v.n == r.n else holdC op (v.cmp r)) else false

set_option maxHeartbeats 1000000
theorem fits_fail0 (r v : V) (w : World) (vn rn kk : Int) (ss : ByteArray) 
    (T1 : Hid (∀ W, Calls Tryz.prog 90 #[v.val, r.val] W fun e w' => e = .returned (.bool true) ∧ Ext W w'))
    (T2 : Hid (∀ W, Calls Tryz.prog 52 #[v.val] W fun e w' => e = .returned (.tuple #[.int .i64 v.failN, .bool true]) ∧ W = w'))
    (T3 : Hid (∀ W, Calls Tryz.prog 20 #[v.val] W fun e w' => e = .returned (.agg #[.int .i64 kk, .int .i64 vn, .string ss]) ∧ Ext W w'))
    (T4 : Hid (∀ W, Calls Tryz.prog 20 #[r.val] W fun e w' => e = .returned (.agg #[.int .i64 kk, .int .i64 rn, .string ss]) ∧ Ext W w')) :
    Calls Tryz.prog 64 #[.agg #[.int .i64 0, r.val], v.val] w fun e w' => e = .returned (.bool (kk == kk && (vn == rn && ss.toList == ss.toList))) ∧ Ext w w' := by
  have hEq := eq_plain_raw kk kk vn rn ss ss
  go_enter Tryz.func64, Tryz.ntmps64
  go_wp2_with (first
    | (go_at_call 90; refine (T1.out _).mono ?_; rintro e w1 ⟨rfl, hx1⟩; clear T1; obtain ⟨hc1, hf1⟩ := hx1.reads)
    | (go_at_call 52; refine (T2.out _).mono ?_; rintro e w1 ⟨rfl, rfl⟩; clear T2))
  have hs1 : w.heap.size < w1.heap.size := by have := hx1.size; rw [alloc_size] at this; omega
  have hk1 : w1.cell? ⟨w.heap.size, 1, none⟩ = some r.val := by
    rw [hc1 _ _ (by rw [alloc_size]; omega), alloc_cell]
    rfl
  have hk0 : w1.cell? ⟨w.heap.size, 0, none⟩ = some (.int .i64 0) := by
    rw [hc1 _ _ (by rw [alloc_size]; omega), alloc_cell]
    rfl
  clear hc1 hf1
  have HK : ∀ W, Ext w1 W → Ext w1 W ∧ W.cell? ⟨w.heap.size, 0, none⟩ = some (.int .i64 0) ∧ W.cell? ⟨w.heap.size, 1, none⟩ = some r.val := fun W hx =>
    ⟨hx, (hx.cell (p := ⟨w.heap.size, 0, none⟩) hs1).trans hk0, (hx.cell (p := ⟨w.heap.size, 1, none⟩) hs1).trans hk1⟩
  have HK := Lib.hid HK
  go_region_held3 (fun W => Ext w1 W ∧ W.cell? ⟨w.heap.size, 0, none⟩ = some (.int .i64 0) ∧ W.cell? ⟨w.heap.size, 1, none⟩ = some r.val)
    (first | exact HK.out _ (Ext.drew (Ext.refl _)) | exact HK.out _ (Ext.trans (And.left (by assumption)) (by assumption)) | exact HK.out _ (Ext.refl _))
    (first
    | (go_at_call 20; refine (T3.out _).mono ?_; rintro e w3 ⟨rfl, hx3⟩; clear T3)
    | (go_at_call 20; refine (T4.out _).mono ?_; rintro e w4 ⟨rfl, hx4⟩))
  all_goals go_wp2
  all_goals go_ret
  all_goals exact ⟨by simp, (((Ext.refl w).alloc _).trans hx1).trans (And.left (by assumption))⟩

set_option maxHeartbeats 400000
theorem fits_base (op : Int) (r v : V) (w : World) (h0 : 0 ≤ op) (h5 : op ≤ 5) (h1 : op ≠ 1) (hr : r.Good) (hv : v.Good) : Calls Tryz.prog 64 #[.agg #[.int .i64 op, r.val], v.val] w fun e w' => e = .returned (.bool (fitsS op r v)) ∧ Ext w w' := by
  have T1 : Hid (∀ W, Calls Tryz.prog 90 #[v.val, r.val] W fun e w' => e = .returned (.bool (v.kind == r.kind)) ∧ Ext W w') := alike_any v r
  have T2 : Hid (∀ W, Calls Tryz.prog 52 #[v.val] W fun e w' => e = .returned (.tuple #[.int .i64 v.failN, .bool v.isFail]) ∧ W = w') := fun W => failed_any v W
  have T3 : Hid (∀ W, Calls Tryz.prog 20 #[v.val] W fun e w' => e = .returned (.agg #[.int .i64 v.kind, .int .i64 v.n, .string v.s]) ∧ Ext W w') := tell_any v
  have T4 : Hid (∀ W, Calls Tryz.prog 20 #[r.val] W fun e w' => e = .returned (.agg #[.int .i64 r.kind, .int .i64 r.n, .string r.s]) ∧ Ext W w') := tell_any r
  have T5 : Hid (∀ W : World, Calls Tryz.prog 91 #[.int .i64 op, v.val, r.val] W fun e w' => e = .returned (V.hold op v r).val ∧ Ext W w') := fun W => hold_any op v r W hv hr h0 h5
  have h1b : (op == 1) = false := by simpa using h1
  clear hv hr
  by_cases hk : v.kind = r.kind
  · have hkb : (v.kind == r.kind) = true := by simpa using hk
    rw [hkb] at T1
    cases hf : v.isFail with
    | true =>
      rw [hf] at T2
      have hs : v.s = r.s := by
        cases v <;> simp [V.isFail] at hf
        cases r <;> simp [V.kind] at hk
        rfl
      have HF : Hid (fitsS op r v = (op == 0 && v.n == r.n)) := by show fitsS _ _ _ = _; simp [fitsS, hk, hf]
      rw [hk, hs] at T3
      obtain ⟨vn, hvn⟩ : ∃ n, v.n = n := ⟨_, rfl⟩
      obtain ⟨rn, hrn⟩ : ∃ n, r.n = n := ⟨_, rfl⟩
      obtain ⟨kk, hkk⟩ : ∃ n, r.kind = n := ⟨_, rfl⟩
      obtain ⟨ss, hss⟩ : ∃ n, r.s = n := ⟨_, rfl⟩
      rw [hvn, hkk, hss] at T3
      rw [hrn, hkk, hss] at T4
      rw [hvn, hrn] at HF
      clear hvn hrn hkk hss hk hkb hf hs
      by_cases hop : op = 0
      · subst hop
        rw [HF.out]
        have := fits_fail0 r v w vn rn kk ss T1 T2 T3 T4
        simpa using this
      · have hop' : decide (op = 0) = false := by simpa using hop
        have hob : (op == 0) = false := by simpa using hop
        go_enter Tryz.func64, Tryz.ntmps64
        go_wp2_with (first
          | (go_at_call 90; refine (T1.out _).mono ?_; rintro e w1 ⟨rfl, hx1⟩; clear T1; obtain ⟨hc1, hf1⟩ := hx1.reads)
          | (go_at_call 52; refine (T2.out _).mono ?_; rintro e w1 ⟨rfl, rfl⟩; clear T2))
        go_quiet (fail)
        go_wp2
        go_ret
        rw [HF.out, hob]
        exact ⟨rfl, (((Ext.refl w).alloc _).trans hx1).drewN _⟩
    | false =>
      rw [hf] at T2
      have hrf : r.isFail = false := by
        cases v <;> simp [V.isFail] at hf <;> cases r <;> simp [V.kind] at hk <;> rfl
      have hh : V.hold op v r = .bool (holdC op (v.cmp r)) := by simp [V.hold, hf, hrf]
      have HF : Hid (fitsS op r v = holdC op (v.cmp r)) := by show fitsS _ _ _ = _; simp [fitsS, hk, hf]
      rw [hh] at T5
      obtain ⟨b, hb⟩ : ∃ b, holdC op (v.cmp r) = b := ⟨_, rfl⟩
      rw [hb] at T5 HF
      have T5' : Hid (∀ W : World, Calls Tryz.prog 91 #[.int .i64 op, v.val, r.val] W fun e w' => e = .returned (.iface 67 (.bool b)) ∧ Ext W w') := T5
      clear hb hh hf hrf hk hkb T3 T4 T5
      go_enter Tryz.func64, Tryz.ntmps64
      go_wp2_with (first
        | (go_at_call 90; refine (T1.out _).mono ?_; rintro e w1 ⟨rfl, hx1⟩; clear T1; obtain ⟨hc1, hf1⟩ := hx1.reads)
        | (go_at_call 52; refine (T2.out _).mono ?_; rintro e w1 ⟨rfl, rfl⟩; clear T2)
        | (go_at_call 91; refine (T5'.out _).mono ?_; rintro e w5 ⟨rfl, hx5⟩; clear T5'))
      go_ret
      rw [HF.out]
      exact ⟨rfl, ((Ext.refl w).alloc _ |>.trans hx1).trans hx5⟩
  · have hkb : (v.kind == r.kind) = false := by simpa using hk
    rw [hkb] at T1
    have HF : Hid (fitsS op r v = false) := by show fitsS _ _ _ = _; simp [fitsS, hk]
    clear hk hkb T2 T3 T4 T5
    go_enter Tryz.func64, Tryz.ntmps64
    go_wp2_with (go_at_call 90; refine (T1.out _).mono ?_; rintro e w1 ⟨rfl, hx1⟩; clear T1; obtain ⟨hc1, hf1⟩ := hx1.reads)
    go_ret
    rw [HF.out]
    exact ⟨rfl, (Ext.refl w).alloc _ |>.trans hx1⟩

theorem V.val_iface (v : V) : ∃ t x, v.val = .iface t x := by cases v <;> exact ⟨_, _, rfl⟩
/-- Does a value keep the rule (op, r)? -/
def fitsR (op : Int) (r v : V) : Bool := if op = 1 then !(fitsS 0 r v) else fitsS op r v
theorem fits_any (op : Int) (r v : V) (w : World) (h0 : 0 ≤ op) (h5 : op ≤ 5) (hr : r.Good) (hv : v.Good) : Calls Tryz.prog 64 #[.agg #[.int .i64 op, r.val], v.val] w fun e w' => e = .returned (.bool (fitsR op r v)) ∧ Ext w w' := by
  by_cases h1 : op = 1
  · have HF : Hid (fitsR op r v = !(fitsS 0 r v)) := by show fitsR _ _ _ = _; simp [fitsR, h1]
    rw [HF.out]
    subst h1
    clear HF
    have T : Hid (∀ W, Calls Tryz.prog 64 #[.agg #[.int .i64 0, r.val], v.val] W fun e w' => e = .returned (.bool (fitsS 0 r v)) ∧ Ext W w') := fun W => fits_base 0 r v W (by omega) (by omega) (by omega) hr hv
    clear hr hv
    obtain ⟨rt, rv, hrv⟩ := r.val_iface
    rw [hrv] at T ⊢
    clear hrv
    go_enter Tryz.func64, Tryz.ntmps64
    go_wp2_with (go_at_call 64; refine (T.out _).mono ?_; rintro e w1 ⟨rfl, hx1⟩)
    go_ret
    exact ⟨rfl, ((Ext.refl w).alloc _).trans hx1⟩
  · have HF : fitsR op r v = fitsS op r v := by simp [fitsR, h1]
    rw [HF]
    exact fits_base op r v w h0 h5 h1 hr hv
end Go.Proofs.YtphjmbaifkneiaaGreatDoor
