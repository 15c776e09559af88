/- AreasShared returns true. -/
import Derived.Test.YtphjmbaifkneiaaGreatDoorR1
namespace Go.Proofs.YtphjmbaifkneiaaGreatDoor
open Go.RowKit

set_option maxHeartbeats 8000000
set_option maxRecDepth 100000

theorem shared_any (sv tv : Value) (a b : AD) (w : World) (hs : PSl w sv a.l) (ht : PSl w tv b.l) (hT : Tabs w) (hG : SgIs w) :
    Calls Tryz.prog 3 #[.agg #[.bool a.one, .int .i64 a.cols, sv], .agg #[.bool b.one, .int .i64 b.cols, tv]] w fun e w' => e = .returned (.bool true) ∧ Ext w w' := by
  have TA : Hid (∀ W, Ext w W → Calls Tryz.prog 7 #[.agg #[.bool a.one, .int .i64 a.cols, sv]] W fun e w' => ∃ v, e = .returned v ∧ ArgF W w' v (argD a) ∧ Ext W w') := fun W hx => arg_any sv a W (hs.ext hx) (hT.ext hx)
  have TB : Hid (∀ W, Ext w W → Calls Tryz.prog 7 #[.agg #[.bool b.one, .int .i64 b.cols, tv]] W fun e w' => ∃ v, e = .returned v ∧ ArgF W w' v (argD b) ∧ Ext W w') := fun W hx => arg_any tv b W (ht.ext hx) (hT.ext hx)
  have TW : Hid (∀ W, Ext w W → Calls Tryz.prog 8 #[] W fun e w' => e = .returned (.bool true) ∧ Ext W w') := fun W hx => awake_any W (hT.ext hx) (hG.ext hx)
  obtain ⟨A, c, rfl, h1, h2, h3⟩ := hs
  obtain ⟨B, d, rfl, h4, h5, h6⟩ := ht
  clear h3 h6 hT hG
  have hXg := Lib.hid (vals_good a)
  have hXl := Lib.hid (argD_len a)
  have hXp := Lib.hid (argD_pos a)
  have hYg := Lib.hid (vals_good b)
  have hYl := Lib.hid (argD_len b)
  have hYp := Lib.hid (argD_pos b)
  obtain ⟨x, hx⟩ : ∃ x, argD a = x := ⟨_, rfl⟩
  rw [hx] at TA hXg hXl hXp
  obtain ⟨y, hy⟩ : ∃ y, argD b = y := ⟨_, rfl⟩
  rw [hy] at TB hYg hYl hYp
  clear hx hy
  go_enter Tryz.func3, Tryz.ntmps3
  go_upto_region 1 with fail
  obtain ⟨w1, hw1⟩ : ∃ w1, ((w.alloc (.cells #[.bool a.one, .int .i64 a.cols, .slice A a.l.length c] 24)).alloc (.cells #[.bool b.one, .int .i64 b.cols, .slice B b.l.length d] 24)) = w1 := ⟨_, rfl⟩
  have hE1 : Ext w w1 := by rw [← hw1]; exact ((Ext.refl w).alloc _).alloc _
  have HK : Hid (∀ W, Ext w1 W → Ext w1 W ∧ W.cell? ⟨w.heap.size, 0, none⟩ = some (.bool a.one) ∧ W.cell? ⟨w.heap.size, 1, none⟩ = some (.int .i64 a.cols) ∧ W.cell? ⟨w.heap.size, 2, none⟩ = some (.slice A a.l.length c) ∧ W.cell? ⟨w.heap.size + 1, 0, none⟩ = some (.bool b.one) ∧ W.cell? ⟨w.heap.size + 1, 1, none⟩ = some (.int .i64 b.cols) ∧ W.cell? ⟨w.heap.size + 1, 2, none⟩ = some (.slice B b.l.length d)) := fun W hx => by
    rw [← hw1] at hx
    obtain ⟨q0, q1, _, _⟩ := kept2 hx
    rw [← hw1]
    exact ⟨hx, heap_cell q0 0, heap_cell q0 1, heap_cell q0 2, heap_cell q1 0, heap_cell q1 1, heap_cell q1 2⟩
  rw [hw1]
  clear hw1
  go_cut [5, 6] (fun s5 s6 wx => ∃ p q A1 c1 A2 c2, s5 = .pointer (some ⟨p, 0, none⟩) ∧ s6 = .pointer (some ⟨q, 0, none⟩) ∧ Ext w wx ∧ ArgBox wx p x A1 c1 ∧ ArgBox wx q y A2 c2)
  case first =>
    go_region_held3 (fun W => Ext w1 W ∧ W.cell? ⟨w.heap.size, 0, none⟩ = some (.bool a.one) ∧ W.cell? ⟨w.heap.size, 1, none⟩ = some (.int .i64 a.cols) ∧ W.cell? ⟨w.heap.size, 2, none⟩ = some (.slice A a.l.length c) ∧ W.cell? ⟨w.heap.size + 1, 0, none⟩ = some (.bool b.one) ∧ W.cell? ⟨w.heap.size + 1, 1, none⟩ = some (.int .i64 b.cols) ∧ W.cell? ⟨w.heap.size + 1, 2, none⟩ = some (.slice B b.l.length d))
      (with_reducible (first | assumption | (refine HK.out _ ?_; repeat (first | assumption | exact Ext.refl _ | exact And.left (by assumption) | exact Ext.trans (And.left (by assumption)) (by assumption) | refine Ext.alloc ?_ _ | refine Ext.drew ?_ | refine Ext.setCell ?_ (by first | exact Nat.le_refl _ | exact Nat.le_succ _ | exact Ext.size hEa | exact Nat.le_succ_of_le (Ext.size hEa) | exact Ext.size hEb | exact Nat.le_succ_of_le (Ext.size hEb)) _))))
      (first
      | (go_at_call 7; refine (TA.out _ (hE1.trans (And.left (by assumption)))).mono ?_; clear TA; rintro e wa ⟨va, rfl, hva, hxa⟩; obtain ⟨sa, rfl, hsa, hfa⟩ := hva; have HSA := Lib.hid hsa; obtain ⟨A1, c1, rfl, _, _, hca⟩ := hsa; obtain ⟨b1, o1, rfl, hb1, _⟩ := hca 0 hXp.out; replace hfa := hfa b1 o1 _ _ rfl; (try rw [drew_size] at hfa); (try rw [alloc_size] at hfa); (try rw [alloc_size] at hfa); clear hca; have hEa : Ext w1 wa := Ext.trans (And.left (by assumption)) hxa; (try replace hxa := Ext.trans ((Ext.refl _).drew) hxa); (first | (have qa := Lib.hid (newestD hxa); have qb := Lib.hid (newest2 hxa)) | (have qa := Lib.hid (newest hxa); have na := Nat.ne_of_lt (Array.getElem?_eq_some_iff.1 qa.out).1; have na' := na.symm) | skip); (try rw [drew_size] at qa); (try rw [drew_size] at qb); (try rw [drew_size] at na na'))
      | (go_at_call 7; refine (TB.out _ (hE1.trans (And.left (by assumption)))).mono ?_; clear TB; rintro e wb ⟨vb, rfl, hvb, hxb⟩; obtain ⟨sb, rfl, hsb, hfb⟩ := hvb; have HSB := Lib.hid hsb; obtain ⟨A2, c2, rfl, _, _, hcb⟩ := hsb; obtain ⟨b2, o2, rfl, hb2, _⟩ := hcb 0 hYp.out; replace hfb := hfb b2 o2 _ _ rfl; (try rw [drew_size] at hfb); (try rw [alloc_size] at hfb); (try rw [alloc_size] at hfb); clear hcb; have hEb : Ext w1 wb := Ext.trans (And.left (by assumption)) hxb; have hab : Ext wa wb := (by first | exact hxb | exact Ext.trans ((Ext.refl _).alloc _) hxb | exact Ext.trans (((Ext.refl _).alloc _).alloc _) hxb); (try have qc := stays hab qa.out (Ext.refl _)); (try have qd := stays hab qb.out (Ext.refl _)); (first | (have ra := newestD hxb; have rb := newest2 hxb) | have ra := newest hxb | skip); (try rw [drew_size] at ra); (try rw [drew_size] at rb); (try (have pqc0 := heap_cell qc 0; have pqc1 := heap_cell qc 1; have pqc2 := heap_cell qc 2; have pqc3 := heap_cell qc 3; have fqc0 := heap_frozen qc 0; have fqc1 := heap_frozen qc 1; have fqc2 := heap_frozen qc 2; have fqc3 := heap_frozen qc 3; have lqc := (Array.getElem?_eq_some_iff.1 qc).1)); (try (have pqd0 := heap_cell qd 0; have pqd1 := heap_cell qd 1; have pqd2 := heap_cell qd 2; have pqd3 := heap_cell qd 3; have fqd0 := heap_frozen qd 0; have fqd1 := heap_frozen qd 1; have fqd2 := heap_frozen qd 2; have fqd3 := heap_frozen qd 3; have lqd := (Array.getElem?_eq_some_iff.1 qd).1)); (try (have pra0 := heap_cell ra 0; have pra1 := heap_cell ra 1; have pra2 := heap_cell ra 2; have pra3 := heap_cell ra 3; have fra0 := heap_frozen ra 0; have fra1 := heap_frozen ra 1; have fra2 := heap_frozen ra 2; have fra3 := heap_frozen ra 3; have lra := (Array.getElem?_eq_some_iff.1 ra).1)); (try (have prb0 := heap_cell rb 0; have prb1 := heap_cell rb 1; have prb2 := heap_cell rb 2; have prb3 := heap_cell rb 3; have frb0 := heap_frozen rb 0; have frb1 := heap_frozen rb 1; have frb2 := heap_frozen rb 2; have frb3 := heap_frozen rb 3; have lrb := (Array.getElem?_eq_some_iff.1 rb).1))))
    all_goals go_wp2_with fail
    all_goals go_meet
    all_goals have s1 := Ext.size hEa
    all_goals have s2 := Ext.size hab
    all_goals have s3 := hE1.size
    all_goals have hAb := HSA.out.ext hab
    all_goals have hBb := HSB.out
    all_goals have hEw := hE1.trans hEb
    all_goals clear HSA HSB
    · with_reducible exact ⟨_, _, _, _, _, _, rfl, rfl, shape1 hEw hAb hBb⟩
    · have r := shape1 hEw hBb hAb
      with_reducible exact ⟨_, _, _, _, _, _, rfl, rfl, r.1, r.2.2, r.2.1⟩
    · with_reducible exact ⟨_, _, _, _, _, _, rfl, rfl, shape3 hEw hAb hBb (by omega) ra (by omega) (by omega)⟩
    · with_reducible exact ⟨_, _, _, _, _, _, rfl, rfl, shape5 hEw hAb hBb (by omega) (by omega) rb ra (by omega) (by omega) (by omega) (by omega) (by omega)⟩
    · have r := shape3 hEw hBb hAb (by omega) ra (by omega) (by omega)
      with_reducible exact ⟨_, _, _, _, _, _, rfl, rfl, r.1, r.2.2, r.2.1⟩
    · with_reducible exact ⟨_, _, _, _, _, _, rfl, rfl, shape5 hEw hAb hBb (by omega) (by omega) ra rb (by omega) (by omega) (by omega) (by omega) (by omega)⟩
    · with_reducible exact ⟨_, _, _, _, _, _, rfl, rfl, shape3 hEw hAb hBb (by omega) qc (by omega) (by omega)⟩
    · with_reducible exact ⟨_, _, _, _, _, _, rfl, rfl, shape5 hEw hAb hBb (by omega) (by omega) qc ra (by omega) (by omega) (by omega) (by omega) (by omega)⟩
    · with_reducible exact ⟨_, _, _, _, _, _, rfl, rfl, shape5 hEw hAb hBb (by omega) (by omega) qd qc (by omega) (by omega) (by omega) (by omega) (by omega)⟩
    · have r := shape3 hEw hBb hAb (by omega) qc (by omega) (by omega)
      with_reducible exact ⟨_, _, _, _, _, _, rfl, rfl, r.1, r.2.2, r.2.1⟩
    · with_reducible exact ⟨_, _, _, _, _, _, rfl, rfl, shape5 hEw hAb hBb (by omega) (by omega) ra qc (by omega) (by omega) (by omega) (by omega) (by omega)⟩
    · with_reducible exact ⟨_, _, _, _, _, _, rfl, rfl, shape5 hEw hAb hBb (by omega) (by omega) qc qd (by omega) (by omega) (by omega) (by omega) (by omega)⟩
  case rest =>
    obtain ⟨p, q, A1, c1, A2, c2, rfl, rfl, hEc, hX, hY⟩ := hcut
    obtain ⟨w2, hw2⟩ : ∃ w2, w2 = wc := ⟨_, rfl⟩
    subst hw2
    have HX := Lib.hid hX
    have HY := Lib.hid hY
    obtain ⟨lx, _, _, kx2, kx3, _⟩ := hX
    obtain ⟨ly, _, _, ky2, ky3, _⟩ := hY
    clear HK TA TB
    cases hxa : x.area with
    | false =>
      rw [hxa] at kx2
      go_wp2_with (go_at_call 8; refine (TW.out _ hEc).mono ?_; rintro e w9 ⟨rfl, hx9⟩)
      go_ret
      exact ⟨rfl, hEc.trans hx9⟩
    | true =>
    rw [hxa] at kx2
    cases hya : y.area with
    | false =>
      rw [hya] at ky2
      go_wp2_with (go_at_call 8; refine (TW.out _ hEc).mono ?_; rintro e w9 ⟨rfl, hx9⟩)
      go_ret
      exact ⟨rfl, hEc.trans hx9⟩
    | true =>
    rw [hya] at ky2
    go_upto_region 4 with fail
    go_cut [7] (fun s7 wx => ∃ r A3 c3, s7 = .pointer (some ⟨r, 0, none⟩) ∧ Ext w2 wx ∧ ArgBox wx r ⟨IntKind.i64.wrap (((x.l.length : Nat) : Int) + ((y.l.length : Nat) : Int)), 1, true, x.l ++ y.l⟩ A3 c3)
    case first =>
      have HVX : Hid (∀ W, Ext w2 W → VSl W (.slice A1 x.l.length c1) x.l) := fun W hx => (HX.out.ext hx).2.2.2.2.2
      have HVY : Hid (∀ W, Ext w2 W → VSl W (.slice A2 y.l.length c2) y.l) := fun W hx => (HY.out.ext hx).2.2.2.2.2
      have HK : Hid (∀ W, Ext w2 W → Ext w2 W ∧ W.cell? ⟨p, 3, none⟩ = some (.slice A1 x.l.length c1) ∧ W.cell? ⟨q, 3, none⟩ = some (.slice A2 y.l.length c2)) := fun W hx => ⟨hx, (hx.cell lx).trans kx3, (hx.cell ly).trans ky3⟩
      obtain ⟨i0, hi, hz0, hz1, hz2⟩ := info_parts infoValue
      obtain ⟨b1, o1, rfl⟩ : ∃ b1 o1, A1 = some ⟨b1, o1, none⟩ := by
        obtain ⟨A', c', e, _, _, h⟩ := HVX.out w2 (Ext.refl _)
        cases e
        obtain ⟨b, o, e, _⟩ := h 0 hXp.out
        exact ⟨b, o, e⟩
      obtain ⟨b2, o2, rfl⟩ : ∃ b2 o2, A2 = some ⟨b2, o2, none⟩ := by
        obtain ⟨A', c', e, _, _, h⟩ := HVY.out w2 (Ext.refl _)
        cases e
        obtain ⟨b, o, e, _⟩ := h 0 hYp.out
        exact ⟨b, o, e⟩
      have lx1 := hXp.out
      have ly1 := hYp.out
      have lx2 := hXl.out
      have ly2 := hYl.out
      clear HX HY kx3 ky3 lx ly
      have lx3 : ((x.l.length : Nat) : Int) ≤ 30 := by omega
      have ly3 : ((y.l.length : Nat) : Int) ≤ 30 := by omega
      go_region_held3 (fun W => Ext w2 W ∧ W.cell? ⟨p, 3, none⟩ = some (.slice (some ⟨b1, o1, none⟩) x.l.length c1) ∧ W.cell? ⟨q, 3, none⟩ = some (.slice (some ⟨b2, o2, none⟩) y.l.length c2))
        (with_reducible (first | assumption | (refine HK.out _ ?_; repeat (first | assumption | exact Ext.refl _ | exact And.left (by assumption) | exact Ext.trans (And.left (by assumption)) (by assumption) | refine Ext.alloc ?_ _ | refine Ext.drew ?_ | refine Ext.setCell ?_ (by first | exact Nat.le_refl _ | exact Nat.le_succ _ | exact Ext.size (by assumption)) _))))
        (first
        | (have hcc := hown5
           refine step_append_lies _ (by rfl) _ _ _ (by rfl) w2.heap.size 35 i0 .nilIface 1 16 Tryz.underlying25 hi hz0 hz1 hz2 rfl (by omega) _ x.l.length (x.l.map V.val) (by rfl) (by first | exact hown5 | exact hown5.alloc _) ⟨b2, o2, none⟩ y.l.length c2 (y.l.map V.val) (by rfl) (by simp) (vsl_news (HVY.out _ (by first | exact hE5 | exact hE5.alloc _))) (vals_one _) ly1 (by unfold maxLen; omega) (by omega) (by first | exact hE5.size | exact (hE5.alloc _).size) _ rfl ?_
           intro g' cap' w6 hown6 hgrow6 hat6 hlt6
           have hE6 : Ext w2 w6 := Ext.grown (by first | exact hE5 | exact hE5.alloc _) hgrow6 (fun j hj => by cases hj; exact own_ge hown5 rfl)
           have hV6 := owns_cat (xs := x.l) (ys := y.l) hown6 (by rw [List.length_append]) (by rw [List.map_append])
           (try (have zz : (w5.alloc (.cells #[.int .i64 0, .int .i64 0, .bool false, .slice none 0 0] 27)).heap[w5.heap.size]? = some (.cells #[.int .i64 0, .int .i64 0, .bool false, .slice none 0 0] 27 (0, 0)) := newest (Ext.refl _); have z6 := kept_grown' hgrow6 zz (by omega); have ng6 := ng_of hat6 (by omega) (lt_of_block zz)))
           (try (have z6 := kept_grown' hgrow6 z5 ng5.symm; have ng6 := ng_of hat6 ng5.symm (lt_of_block z5)))
           (try (have p60 := heap_cell z6 0; have p61 := heap_cell z6 1; have p62 := heap_cell z6 2; have p63 := heap_cell z6 3; have f60 := heap_frozen z6 0; have f61 := heap_frozen z6 1; have f62 := heap_frozen z6 2; have f63 := heap_frozen z6 3; have l6 := lt_of_block z6)))
        | (refine step_append_lies _ (by rfl) _ _ _ (by rfl) w2.heap.size 35 i0 .nilIface 1 16 Tryz.underlying25 hi hz0 hz1 hz2 rfl (by omega) _ 0 [] (by rfl) (by first | exact (own0 (newest (Ext.refl _)) (Nat.le_refl _)).drew | exact ((own0 (newest (Ext.refl _)) (Nat.le_refl _)).alloc _).drew | exact (own0 (newestD (Ext.refl _)) (Nat.le_succ _)).drew) ⟨b1, o1, none⟩ x.l.length c1 (x.l.map V.val) (by rfl) (by simp) (vsl_news (HVX.out _ (And.left (by assumption)))) (vals_one _) lx1 (by unfold maxLen; omega) (by omega) (Ext.size (And.left (by assumption))) _ rfl ?_
           intro g cap w5 hown5 hgrow hat hlt5
           have hE5 : Ext w2 w5 := Ext.grown (And.left (by assumption)) hgrow (fun j hj => by cases hj; first | exact Nat.le_refl _ | exact Nat.le_succ _)
           rw [Nat.zero_add]
           rw [Nat.zero_add, List.nil_append] at hown5
           (try (have zz : (((w2.alloc (.cells #[.int .i64 0, .int .i64 0, .bool false, .slice none 0 0] 27)).alloc (.cells #[] 35)).drew).heap[w2.heap.size]? = some (.cells #[.int .i64 0, .int .i64 0, .bool false, .slice none 0 0] 27 (0, 0)) := newest2 ((Ext.refl _).drew); have z5 := kept_grown' hgrow zz (by omega); have ng5 := ng_of hat (by omega) (lt_of_block zz)))
           (try (have zz : (((w2.alloc (.cells #[] 35)).alloc (.cells #[.int .i64 0, .int .i64 0, .bool false, .slice none 0 0] 27)).drew).heap[w2.heap.size + 1]? = some (.cells #[.int .i64 0, .int .i64 0, .bool false, .slice none 0 0] 27 (0, 0)) := newestD ((Ext.refl _).drew); have z5 := kept_grown' hgrow zz (by omega); have ng5 := ng_of hat (by omega) (lt_of_block zz)))))
      all_goals go_wp2_with fail
      all_goals go_meet
      all_goals clear HVX HVY
      · with_reducible exact ⟨_, _, _, rfl, shapeD hE6 hV6⟩
      · with_reducible exact ⟨_, _, _, rfl, shapeS hE6 hV6 hE5.size z6 ng6⟩
      · with_reducible exact ⟨_, _, _, rfl, shapeS hE6 hV6 (Nat.le_succ _) z6 ng6⟩
      · with_reducible exact ⟨_, _, _, rfl, shapeS hE6 hV6 (Nat.le_refl _) z6 ng6⟩
    case rest =>
    obtain ⟨r, A3, c3, rfl, hE3, hZ⟩ := hcut
    obtain ⟨w3, hw3⟩ : ∃ w3, w3 = wc := ⟨_, rfl⟩
    subst hw3
    obtain ⟨z, hz⟩ : ∃ z : ArgD, (⟨IntKind.i64.wrap (((x.l.length : Nat) : Int) + ((y.l.length : Nat) : Int)), 1, true, x.l ++ y.l⟩ : ArgD) = z := ⟨_, rfl⟩
    rw [hz] at hZ
    clear hXp hYp
    have hflat : flat [x, y] = flat [z] := flat_shared x y z hxa hya (by rw [← hz]) (by rw [← hz])
    have hzl : z.l = x.l ++ y.l := by rw [← hz]
    have hza : z.area = true := by rw [← hz]
    clear hz lx ly kx2 kx3 ky2 ky3
    have HF := Lib.hid hflat
    have HZL := Lib.hid hzl
    have HXA := Lib.hid hxa
    have HYA := Lib.hid hya
    have HZA := Lib.hid hza
    have HZ := Lib.hid hZ
    clear hflat hzl hxa hya hza hZ
    have hGX : Hid (∀ a ∈ [x, y], ∀ v ∈ a.l, v.Good) := fun a ha v hv => by
      rcases List.mem_cons.1 ha with rfl | ha
      · exact hXg.out v hv
      · rw [List.mem_singleton.1 ha] at hv; exact hYg.out v hv
    have hGZ : Hid (∀ a ∈ [z], ∀ v ∈ a.l, v.Good) := fun a ha v hv => by
      rw [List.mem_singleton.1 ha, HZL.out] at hv
      rcases List.mem_append.1 hv with hv | hv
      · exact hXg.out v hv
      · exact hYg.out v hv
    have hFL : Hid ((flat [z]).length ≤ 100000) := by
      show (flat [z]).length ≤ 100000
      have h1 := hXl.out
      have h2 := hYl.out
      have h3 : z.l.length = x.l.length + y.l.length := by rw [HZL.out, List.length_append]
      have h4 : (flat [z]).length = z.l.length := by simp [flat]
      omega
    clear hXg hYg hXl hYl
    have HN : ∀ W o, Ext (w3.alloc o) W → W.heap[w3.heap.size]? = some o := fun W o h => newest h
    have HN := Lib.hid HN
    go_wp2_with fail
    obtain ⟨w4, hw4⟩ : ∃ w4, w3.alloc (.cells #[.string ⟨#[83, 85, 77]⟩, .string ⟨#[67, 79, 85, 78, 84]⟩, .string ⟨#[67, 79, 85, 78, 84, 65]⟩, .string ⟨#[77, 73, 78]⟩, .string ⟨#[77, 65, 88]⟩, .string ⟨#[83, 85, 77, 83, 81]⟩, .string ⟨#[65, 86, 69, 82, 65, 71, 69]⟩, .string ⟨#[77, 69, 68, 73, 65, 78]⟩, .string ⟨#[65, 78, 68]⟩] 9) = w4 := ⟨_, rfl⟩
    have hE4 : Ext w3 w4 := by rw [← hw4]; exact (Ext.refl _).alloc _
    have HC : Hid (∀ W (k : Nat), Ext w4 W → k < 9 → ∃ nm, nm ∈ nineNames ∧ W.cell? ⟨w3.heap.size, k, none⟩ = some (.string nm)) := fun W k hx hk => by
      rw [← hw4] at hx
      have hh := newest hx
      refine ⟨nineNames[k]'hk, List.getElem_mem _, ?_⟩
      rw [heap_cell hh k]
      match k, hk with
      | 0, _ => rfl
      | 1, _ => rfl
      | 2, _ => rfl
      | 3, _ => rfl
      | 4, _ => rfl
      | 5, _ => rfl
      | 6, _ => rfl
      | 7, _ => rfl
      | 8, _ => rfl
    have hl4 : w3.heap.size < w4.heap.size := by rw [← hw4, alloc_size]; omega
    rw [hw4]
    clear hw4
    go_loopw [40] (fun i wr => ∃ k : Nat, k ≤ 9 ∧ i = .int .i64 k ∧ Hid (Ext w4 wr)) (fun i _ => 9 - (intOf i).toNat)
    case atStart => exact ⟨0, by omega, rfl, Ext.refl _⟩
    case round =>
      obtain ⟨k, hk, rfl, hE⟩ := hrel
      by_cases hlt : k < 9
      · obtain ⟨nm, hmem, hcell⟩ := HC.out wr k hE.out hlt
        obtain ⟨G, hG⟩ := call_shared hmem
        have hki : (k : Int) < 9 := by omega
        have HG := Lib.hid hG
        clear hG hmem
        go_upto_region 8 with fail
        obtain ⟨v, hv⟩ : ∃ v, G (flat [z]) = v := ⟨_, rfl⟩
        have TC : Hid (∀ W av, (ASl W av [x, y] ∨ ASl W av [z]) → Calls Tryz.prog 10 #[.string nm, av] W fun e w' => e = .returned v.val ∧ Ext W w') := fun W av h => by
          rcases h with h | h
          · have hc := HG.out av [x, y] W h hGX.out (by simp) (by simp) (by rw [HF.out]; exact hFL.out)
            rwa [HF.out, hv] at hc
          · have hc := HG.out av [z] W h hGZ.out (by simp) (by simp) hFL.out
            rwa [hv] at hc
        have TT : Hid (∀ W, Calls Tryz.prog 9 #[v.val] W fun e w' => e = .returned (.agg #[.int .i64 v.kind, .int .i64 v.n, .string v.s]) ∧ Ext W w') := told_any v
        have hNeq := neq_told_self v.kind v.n v.s
        have HK : Hid (∀ W, Ext w4 W → Ext w4 W ∧ W.cell? ⟨p, 0, none⟩ = some (.int .i64 x.rows) ∧ W.cell? ⟨p, 1, none⟩ = some (.int .i64 x.cols) ∧ W.cell? ⟨p, 2, none⟩ = some (.bool x.area) ∧ W.cell? ⟨p, 3, none⟩ = some (.slice A1 x.l.length c1) ∧ W.cell? ⟨q, 0, none⟩ = some (.int .i64 y.rows) ∧ W.cell? ⟨q, 1, none⟩ = some (.int .i64 y.cols) ∧ W.cell? ⟨q, 2, none⟩ = some (.bool y.area) ∧ W.cell? ⟨q, 3, none⟩ = some (.slice A2 y.l.length c2) ∧ W.cell? ⟨r, 0, none⟩ = some (.int .i64 z.rows) ∧ W.cell? ⟨r, 1, none⟩ = some (.int .i64 z.cols) ∧ W.cell? ⟨r, 2, none⟩ = some (.bool z.area) ∧ W.cell? ⟨r, 3, none⟩ = some (.slice A3 z.l.length c3)) := fun W hx => by
          obtain ⟨_, x0, x1, x2, x3, _⟩ := HX.out.ext ((hE3.trans hE4).trans hx)
          obtain ⟨_, y0, y1, y2, y3, _⟩ := HY.out.ext ((hE3.trans hE4).trans hx)
          obtain ⟨_, z0, z1, z2, z3, _⟩ := HZ.out.ext (hE4.trans hx)
          exact ⟨hx, x0, x1, x2, x3, y0, y1, y2, y3, z0, z1, z2, z3⟩
        have HVX : Hid (∀ W, Ext w4 W → VSl W (.slice A1 x.l.length c1) x.l) := fun W hx => (HX.out.ext ((hE3.trans hE4).trans hx)).2.2.2.2.2
        have HVY : Hid (∀ W, Ext w4 W → VSl W (.slice A2 y.l.length c2) y.l) := fun W hx => (HY.out.ext ((hE3.trans hE4).trans hx)).2.2.2.2.2
        have HVZ : Hid (∀ W, Ext w4 W → VSl W (.slice A3 z.l.length c3) z.l) := fun W hx => (HZ.out.ext (hE4.trans hx)).2.2.2.2.2
        clear hv HG HC HX HY HZ
        go_cut [55] (fun s5 wx => s5 = .bool false ∧ Ext w4 wx)
        case first =>
          go_region_held3 (fun W => Ext w4 W ∧ W.cell? ⟨p, 0, none⟩ = some (.int .i64 x.rows) ∧ W.cell? ⟨p, 1, none⟩ = some (.int .i64 x.cols) ∧ W.cell? ⟨p, 2, none⟩ = some (.bool x.area) ∧ W.cell? ⟨p, 3, none⟩ = some (.slice A1 x.l.length c1) ∧ W.cell? ⟨q, 0, none⟩ = some (.int .i64 y.rows) ∧ W.cell? ⟨q, 1, none⟩ = some (.int .i64 y.cols) ∧ W.cell? ⟨q, 2, none⟩ = some (.bool y.area) ∧ W.cell? ⟨q, 3, none⟩ = some (.slice A2 y.l.length c2) ∧ W.cell? ⟨r, 0, none⟩ = some (.int .i64 z.rows) ∧ W.cell? ⟨r, 1, none⟩ = some (.int .i64 z.cols) ∧ W.cell? ⟨r, 2, none⟩ = some (.bool z.area) ∧ W.cell? ⟨r, 3, none⟩ = some (.slice A3 z.l.length c3))
            (with_reducible (first | assumption | (refine HK.out _ ?_; repeat (first | assumption | exact hE.out | exact Ext.refl _ | exact And.left (by assumption) | exact Ext.trans (And.left (by assumption)) (by assumption) | refine Ext.alloc ?_ _ | refine Ext.drew ?_))))
            (first
            | (go_at_call 9; have _h := hx6; refine (TT.out _).mono ?_; rintro e w7 ⟨rfl, hx7⟩; have hE7c : Ext w4 w7 := Ext.trans (And.left (by assumption)) hx7)
            | (go_at_call 9; refine (TT.out _).mono ?_; rintro e w5c ⟨rfl, hx5⟩; have hE5c : Ext w4 w5c := Ext.trans (And.left (by assumption)) hx5)
            | (go_at_call 10; have _h := hx5; refine (TC.out _ _ (Or.inr ?_)).mono ?_; (with_reducible first
                | (refine ASl.ext ?_ hx5; exact asl_one'' (by first | rfl | rw [alloc_size]) (HVZ.out _ (by first | exact hE.out | exact hE.out.alloc _ | exact hE4c | exact hE5c)))
                | (refine ASl.ext ?_ (Ext.trans hx4 hx5); refine ASl.ext ?_ ((Ext.refl _).drew); exact asl_one'' (by first | rfl | rw [alloc_size]) (HVZ.out _ (by first | exact hE.out | exact hE.out.alloc _ | exact hE4c | exact hE5c)))
                | (refine ASl.ext ?_ (Ext.trans hx4 hx5); refine ASl.ext ?_ ((Ext.refl _).drew); refine ASl.ext ?_ ((Ext.refl _).alloc _); exact asl_one'' (by first | rfl | rw [alloc_size]) (HVZ.out _ (by first | exact hE.out | exact hE.out.alloc _ | exact hE4c | exact hE5c)))
                | (exact asl_one'' (by first | rfl | rw [alloc_size]) (HVZ.out _ (by first | exact hE.out | exact hE.out.alloc _ | exact hE4c | exact hE5c)))); rintro e w6 ⟨rfl, hx6⟩; have hE6c : Ext w4 w6 := Ext.trans (And.left (by assumption)) hx6)
            | (go_at_call 10; refine (TC.out _ _ (Or.inl ?_)).mono ?_; (with_reducible ((try refine ASl.ext ?_ ((Ext.refl _).drew)); first
                | (exact asl_two'' (by first | rfl | rw [alloc_size]) (HVX.out _ (by first | exact hE.out | exact hE.out.alloc _)) (HVY.out _ (by first | exact hE.out | exact hE.out.alloc _)))
                | (refine ASl.ext ?_ ((Ext.refl _).alloc _); exact asl_two'' (by first | rfl | rw [alloc_size]) (HVX.out _ (by first | exact hE.out | exact hE.out.alloc _)) (HVY.out _ (by first | exact hE.out | exact hE.out.alloc _))))); rintro e w4c ⟨rfl, hx4⟩; have hE4c : Ext w4 w4c := Ext.trans (And.left (by assumption)) hx4))
          all_goals go_wp2_with fail
          all_goals go_meet
          all_goals exact ⟨rfl, hE7c⟩
        case rest =>
          obtain ⟨rfl, hEr⟩ := hcut
          go_wp2_with fail
          go_roundw
          case rel => exact ⟨k + 1, by omega, by go_num, hEr⟩
          case measure => simp [intOf]; omega
      · obtain rfl : k = 9 := by omega
        clear hlt hk
        have hEw : Ext w wr := ((hEc.trans hE3).trans hE4).trans hE.out
        go_wp2_with (go_at_call 8; refine (TW.out _ hEw).mono ?_; rintro e w9 ⟨rfl, hx9⟩)
        go_ret
        exact ⟨rfl, hEw.trans hx9⟩
end Go.Proofs.YtphjmbaifkneiaaGreatDoor
