/- What layer 18's 'all' does with a closure: all values of all arguments, in order, till the first failure. -/
import Derived.Test.YtphjmbaifkneiaaGreatDoorB1
namespace Go.Proofs.YtphjmbaifkneiaaGreatDoor
open Go.RowKit

set_option maxHeartbeats 400000
set_option maxRecDepth 100000

/-- What a closure of layer 18's leaves: what lay below block B, and whatever block of arguments there is. -/
def Kp (w w' : World) : Prop := w.heap.size ≤ w'.heap.size ∧ ∀ (k : Nat) (cs : Array Value) (fz : Nat × Nat), w.heap[k]? = some (Obj.cells cs 27 fz) → w'.heap[k]? = some (Obj.cells cs 27 fz)
theorem Kp.refl (w : World) : Kp w w := ⟨Nat.le_refl _, fun _ _ _ h => h⟩
theorem Kp.of_ext {w w' : World} (h : Ext w w') : Kp w w' := ⟨h.size, fun k _ _ hk => (h.block k (Array.getElem?_eq_some_iff.1 hk).1).trans hk⟩
theorem Kp.trans {a b c : World} (h : Kp a b) (k : Kp b c) : Kp a c := ⟨Nat.le_trans h.1 k.1, fun i _ _ hi => k.2 i _ _ (h.2 i _ _ hi)⟩

/-- All values, each with 'does it stand in an area?'. -/
def flat (args : List ArgD) : List (V × Bool) := args.flatMap fun a => a.l.map fun v => (v, a.area)
/-- Step by step, till the first failure. -/
def runS {S : Type} (step : S → V → Bool → Int × S) : List (V × Bool) → S → Int × S
  | [], s => (0, s)
  | (v, a) :: l, s => if (step s v a).1 = 0 then runS step l (step s v a).2 else step s v a

theorem runS_zero {S : Type} (step : S → V → Bool → Int × S) : ∀ (l m : List (V × Bool)) (s : S), (runS step l s).1 = 0 → runS step (l ++ m) s = runS step m (runS step l s).2
  | [], m, s, _ => rfl
  | (v, a) :: l, m, s, h => by
    by_cases h1 : (step s v a).1 = 0
    · simp only [runS, h1, if_true] at h
      simp only [List.cons_append, runS, h1, if_true]
      exact runS_zero step l m _ h
    · simp only [runS, h1, if_false] at h
theorem runS_fail {S : Type} (step : S → V → Bool → Int × S) : ∀ (l m : List (V × Bool)) (s : S), (runS step l s).1 ≠ 0 → runS step (l ++ m) s = runS step l s
  | [], m, s, h => absurd rfl h
  | (v, a) :: l, m, s, h => by
    by_cases h1 : (step s v a).1 = 0
    · simp only [runS, h1, if_true] at h
      simp only [List.cons_append, runS, h1, if_true]
      exact runS_fail step l m _ h
    · simp only [List.cons_append, runS, h1, if_false]

theorem enters {f : FuncId} {fn : Func} {c : Code} (hf : Tryz.prog.funcs[f]? = some fn) (hname : (fn.name == "runtime.NumGoroutine") = false) (hb : fn.body = some c) (args : Array Value) (w : World) :
    (callFunc f args).run Tryz.prog w = .ok (.enter f args) w := by
  have h1 : fn.name ≠ "runtime.NumGoroutine" := by simpa using hname
  simp [callFunc, hf, h1, hb]

theorem flat_take_succ (args : List ArgD) (k : Nat) (h : k < args.length) : flat (args.take (k + 1)) = flat (args.take k) ++ args[k].l.map fun v => (v, args[k].area) := by
  unfold flat
  rw [List.take_succ_eq_append_getElem h, List.flatMap_append]
  simp
theorem flat_split {args : List ArgD} {k : Nat} (h : k < args.length) {x : ArgD} (hx : args[k] = x) (j : Nat) :
    flat args = (flat (args.take k) ++ (x.l.take j).map fun v => (v, x.area)) ++ ((x.l.drop j).map (fun v => (v, x.area)) ++ flat (args.drop (k + 1))) := by
  have e1 : flat args = flat (args.take k) ++ flat (args.drop k) := by
    unfold flat; rw [← List.flatMap_append, List.take_append_drop]
  have e2 : flat (args.drop k) = (x.l.map fun v => (v, x.area)) ++ flat (args.drop (k + 1)) := by
    rw [List.drop_eq_getElem_cons h, hx]; rfl
  have e3 : (x.l.map fun v => (v, x.area)) = ((x.l.take j).map fun v => (v, x.area)) ++ ((x.l.drop j).map fun v => (v, x.area)) := by
    rw [← List.map_append, List.take_append_drop]
  rw [e1, e2, e3]; simp only [List.append_assoc]
theorem flat_mid {args : List ArgD} {k : Nat} (h : k < args.length) {x : ArgD} (hx : args[k] = x) {j : Nat} (hj : j < x.l.length) {v : V} (hv : x.l[j] = v) :
    flat args = (flat (args.take k) ++ (x.l.take j).map fun v => (v, x.area)) ++ (v, x.area) :: ((x.l.drop (j + 1)).map (fun v => (v, x.area)) ++ flat (args.drop (k + 1))) := by
  rw [flat_split h hx j, List.drop_eq_getElem_cons hj, hv]
  rfl
theorem map_take_succ {x : ArgD} {j : Nat} (h : j < x.l.length) {v : V} (hv : x.l[j] = v) : ((x.l.take (j + 1)).map fun v => (v, x.area)) = ((x.l.take j).map fun v => (v, x.area)) ++ [(v, x.area)] := by
  rw [List.take_succ_eq_append_getElem h, List.map_append, hv]
  rfl

theorem all_any {S : Type} (f : FuncId) (C : Array Value) (I : S → World → Prop) (step : S → V → Bool → Int × S) (B : Nat) (av : Value) (args : List ArgD) (w0 w : World) (s0 : S)
    (hA : ASl w0 av args) (hB : w0.heap.size ≤ B) (hw : Below B w0 w) (hBw : B ≤ w.heap.size) (h0 : I s0 w) (hgood : ∀ a ∈ args, ∀ v ∈ a.l, v.Good)
    (hcl : ∀ s v area wr, v.Good → (∃ pre post, flat args = pre ++ (v, area) :: post ∧ runS step pre s0 = (0, s)) → I s wr → B ≤ wr.heap.size → Calls Tryz.prog f (#[v.val, .bool area] ++ C) wr fun e w' => e = .returned (.int .i64 (step s v area).1) ∧ I (step s v area).2 w' ∧ Below B wr w' ∧ Kp wr w')
    (hI : ∀ s wr o, I s wr → B ≤ wr.heap.size → I s (wr.alloc o)) (hent : ∀ args w, (callFunc f args).run Tryz.prog w = .ok (.enter f args) w) :
    Calls Tryz.prog 48 #[av, .func (.func f) #[] C] w fun e w' => e = .returned (.int .i64 (runS step (flat args) s0).1) ∧ I (runS step (flat args) s0).2 w' ∧ Below B w w' := by
  have HA := Lib.hid hA
  obtain ⟨A, c, rfl, h1, h2, h3⟩ := hA
  clear h3
  have HW := Lib.hid hw
  have H0 := Lib.hid h0
  have HG := Lib.hid hgood
  have HC := Lib.hid hcl
  have HI := Lib.hid hI
  have HE := Lib.hid hent
  clear hw h0 hgood hcl hI hent
  go_enter Tryz.func48, Tryz.ntmps48
  go_wp2
  go_loopw [12] (fun i wr => ∃ k : Nat, k ≤ args.length ∧ i = .int .i64 k ∧ Hid ((runS step (flat (args.take k)) s0).1 = 0) ∧ Hid (I (runS step (flat (args.take k)) s0).2 wr) ∧ Hid (Below B w wr)) (fun i _ => args.length - (intOf i).toNat)
  case atStart => exact ⟨0, Nat.zero_le _, rfl, rfl, H0.out, Below.refl _ _⟩
  case round =>
    obtain ⟨k, hk, rfl, hz, hIk, hbw⟩ := hrel
    by_cases hlt : k < args.length
    · obtain ⟨wo, rfl⟩ : ∃ wo : World, wo = wr := ⟨_, rfl⟩
      have hwr : Below B w0 wo := HW.out.trans hbw.out
      obtain ⟨A', c', hAc, h4, h5, h6⟩ := HA.out
      obtain ⟨b, o, s, hAA, hb, c0, c1, c2, c3, hs⟩ := h6 k hlt
      clear h6
      injection hAc with e1 e2 e3
      subst e1 e3
      subst hAA
      clear e2
      rw [← hwr.cell (Nat.lt_of_lt_of_le hb hB)] at c0 c1 c2 c3
      have HS := Lib.hid hs
      obtain ⟨A2, cp, hse, s1, s2, s3⟩ := hs
      subst hse
      clear s3 hb
      have HWR := Lib.hid hwr
      clear hwr
      obtain ⟨x, hx⟩ : ∃ x, args[k] = x := ⟨_, rfl⟩
      have HX := Lib.hid hx
      rw [hx] at c0 c1 c2 c3 s1 HS
      clear hx
      have hwsz : Hid (B ≤ wo.heap.size) := Nat.le_trans hBw hbw.out.size
      go_wp2
      clear c0 c1 c2 c3
      go_loopw [19] (fun i w2 => ∃ j : Nat, j ≤ x.l.length ∧ i = .int .i64 j ∧ Hid ((runS step (flat (args.take k) ++ (x.l.take j).map fun v => (v, x.area)) s0).1 = 0) ∧ Hid (I (runS step (flat (args.take k) ++ (x.l.take j).map fun v => (v, x.area)) s0).2 w2) ∧ Hid (Below B w w2) ∧
        Hid (w2.heap[wo.heap.size]? = some (Obj.cells #[.int .i64 x.rows, .int .i64 x.cols, .bool x.area, .slice A2 x.l.length cp] 27 (0, 0)))) (fun i _ => x.l.length - (intOf i).toNat)
      case atStart => exact ⟨0, Nat.zero_le _, rfl, by simpa using hz, by show I _ _; simpa using HI.out _ _ (Obj.cells #[.int .i64 x.rows, .int .i64 x.cols, .bool x.area, .slice A2 x.l.length cp] 27) hIk.out hwsz.out, hbw.out.alloc hwsz.out _, heap_alloc_new wo _⟩
      case round =>
        obtain ⟨j, hj, rfl, hz2, hI2, hb2, hbox⟩ := hrel
        by_cases hjl : j < x.l.length
        · obtain ⟨A3, cp3, he3, r1, r2, r3⟩ := HS.out
          obtain ⟨b3, o3, hA3, hb3, hc3⟩ := r3 j hjl
          injection he3 with e1 e2 e3
          subst e1 e3
          subst hA3
          clear r3 e2
          rw [← (HW.out.trans hb2.out).cell (Nat.lt_of_lt_of_le hb3 hB)] at hc3
          clear hb3
          have hg := HG.out args[k] (List.getElem_mem hlt) (x.l[j]) (by rw [HX.out]; exact List.getElem_mem hjl)
          obtain ⟨v, hv⟩ : ∃ v, x.l[j] = v := ⟨_, rfl⟩
          rw [hv] at hc3 hg
          have HV := Lib.hid hv
          clear hv
          have hrun := runS_zero step (flat (args.take k) ++ (x.l.take j).map fun v => (v, x.area)) [(v, x.area)] s0 hz2.out
          obtain ⟨sj, hsj⟩ : ∃ sj, (runS step (flat (args.take k) ++ (x.l.take j).map fun v => (v, x.area)) s0).2 = sj := ⟨_, rfl⟩
          rw [hsj] at hrun
          have cl := HC.out sj v x.area wr hg ⟨_, _, flat_mid hlt HX.out hjl HV.out, by have := hz2.out; rw [← hsj]; exact Prod.ext this rfl⟩ (by rw [← hsj]; exact hI2.out) (Nat.le_trans hBw hb2.out.size)
          obtain ⟨fl, sn, hst⟩ : ∃ fl sn, step sj v x.area = (fl, sn) := ⟨_, _, rfl⟩
          rw [hst] at cl
          have CL := Lib.hid cl
          have HR := Lib.hid hrun
          have HST := Lib.hid hst
          clear cl hst hrun hsj
          have hba : wr.cell? ⟨wo.heap.size, 2, none⟩ = some (.bool x.area) := by unfold World.cell?; rw [hbox.out]; rfl
          have hbs : wr.heap.size > wo.heap.size := (Array.getElem?_eq_some_iff.1 hbox.out).1
          clear hg
          go_wp2
          rw [HE.out, Oper.upon_enter]
          refine CL.out.mono ?_
          rintro e w3 ⟨rfl, hI3, hb3, hk3⟩
          have HI3 := Lib.hid hI3
          have HB3 := Lib.hid (hb2.out.trans hb3)
          have HK3 := Lib.hid (hk3.2 _ _ _ hbox.out)
          clear hI3 hb3 hk3 CL hba hc3
          by_cases hfl : fl = 0
          · subst hfl
            have hz4 : Hid (runS step (flat (args.take k) ++ (x.l.take (j + 1)).map fun v => (v, x.area)) s0 = (0, sn)) := by
              show runS _ _ _ = _
              rw [map_take_succ hjl HV.out, ← List.append_assoc, HR.out]
              simp [runS, HST.out]
            go_wp2
            go_roundw
            case rel => exact ⟨j + 1, by omega, by go_num, by rw [hz4.out]; rfl, by rw [hz4.out]; exact HI3.out, HB3.out, HK3.out⟩
            case measure => simp [intOf]; omega
          · have hfb : (fl == 0) = false := by simpa using hfl
            have hfb2 : (fl != 0) = true := by simpa using hfl
            have hz4 : Hid (runS step (flat args) s0 = (fl, sn)) := by
              show runS _ _ _ = _
              have e1 : runS step (flat (args.take k) ++ (x.l.take (j + 1)).map fun v => (v, x.area)) s0 = (fl, sn) := by
                rw [map_take_succ hjl HV.out, ← List.append_assoc, HR.out]
                simp [runS, HST.out, hfl]
              have e2 : flat args = (flat (args.take k) ++ (x.l.take (j + 1)).map fun v => (v, x.area)) ++ ((x.l.drop (j + 1)).map (fun v => (v, x.area)) ++ flat (args.drop (k + 1))) := flat_split hlt HX.out (j + 1)
              rw [e2, runS_fail step _ _ _ (by rw [e1]; exact hfl), e1]
            clear hfl
            go_wp2
            go_ret
            rw [hz4.out]
            exact ⟨rfl, HI3.out, HB3.out⟩
        · have hz3 : Hid (runS step (flat (args.take (k + 1))) s0 = runS step (flat (args.take k) ++ (x.l.take j).map fun v => (v, x.area)) s0) := by
            show runS _ _ _ = _
            rw [flat_take_succ args k hlt, HX.out, show x.l.take j = x.l from List.take_of_length_le (by omega)]
          go_wp2
          go_roundw
          case rel => exact ⟨k + 1, by omega, by go_num, by rw [hz3.out]; exact hz2, by rw [hz3.out]; exact hI2, hb2.out⟩
          case measure => simp [intOf]; omega
    · have hfin : Hid (args.take k = args) := List.take_of_length_le (by omega)
      rw [hfin.out] at hz hIk
      go_wp2
      go_ret
      rw [hz.out]
      exact ⟨rfl, hIk.out, hbw.out⟩
end Go.Proofs.YtphjmbaifkneiaaGreatDoor
