/- MEDIAN: of one to thirty arguments. -/
import Derived.Test.YtphjmbaifkneiaaGreatDoorZ3
import Derived.Test.YtphjmbaifkneiaaGreatDoorC4
namespace Go.Proofs.YtphjmbaifkneiaaGreatDoor
open Go.RowKit Go.Shelf

set_option maxRecDepth 100000
set_option maxHeartbeats 4000000

theorem sortS_mem (l : List Int) (n : Int) : n ∈ sortS l ↔ n ∈ l := List.mem_mergeSort
theorem ISl.lies {w : World} {A : Option Addr} {n c : Nat} {l : List Int} (h : ISl w (.slice A n c) l) : n = l.length ∧ Lies w.heap.size w A l := by
  obtain ⟨A', c', e, _, _, h3⟩ := h
  cases e
  exact ⟨rfl, fun j hj => h3 j hj⟩
/-- What lies in the middle. -/
def medianS (l : List Int) : V :=
  if l.length = 0 then .fail 2 else if l.length % 2 = 1 then .num ((sortS l)[l.length / 2]?.getD 0) else meanS (((sortS l).drop (l.length / 2 - 1)).take 2)

theorem median_any (v : Value) (l : List Int) (w : World) (hv : ISl w v l) (hn : ∀ n ∈ l, Num n) (hl : l.length ≤ 100000) :
    Calls Tryz.prog 71 #[v] w fun e w' => e = .returned (medianS l).val ∧ Ext w w' := by
  obtain ⟨A, c, rfl, h1, h2, h3⟩ := hv
  have HL : Hid (∀ W, Ext w W → Lies W.heap.size W A l) := fun W hx j hj => by
    obtain ⟨b, o, e, hb, hc⟩ := h3 j hj
    exact ⟨b, o, e, Nat.lt_of_lt_of_le hb hx.size, (hx.cell hb).trans hc⟩
  clear h3
  by_cases h0 : l.length = 0
  · have HM : Hid (medianS l = .fail 2) := by show _ = _; unfold medianS; rw [if_pos h0]
    have h0i : (l.length : Int) = 0 := by omega
    go_enter Tryz.func71, Tryz.ntmps71
    go_wp2
    go_ret
    rw [HM.out]
    exact ⟨rfl, Ext.refl w⟩
  · have h0i : ((l.length : Int) == 0) = false := by rw [beq_eq_false_iff_ne]; omega
    have TV : Hid (∀ W n, Calls Tryz.prog 60 #[.slice A n c] W fun e w' => e = .returned (.func (.func 85) #[] #[.pointer (some ⟨W.heap.size, 0, none⟩)]) ∧ w' = W.alloc (.cells #[.slice A n c] 69)) := fun W n => (callsIn_wide (n := 3)).1 (values_in Fence.wide 3 trivial rfl A n c W)
    have TS : Hid (Calls Tryz.prog 59 #[.func (.func 85) #[] #[.pointer (some ⟨w.heap.size, 0, none⟩)]] (w.alloc (.cells #[.slice A l.length c] 69)) fun e W' => ∃ v, e = .returned v ∧ ISl W' v (sortS l) ∧ Ext w W') :=
      (sorted_any w.heap.size c A l hl (w.alloc (.cells #[.slice A l.length c] 69)) (by rw [alloc_size]; omega) (alloc_cell _ _ _ 0) (HL.out _ ((Ext.refl w).alloc _))).mono fun e W' ⟨v, he, hr, hx⟩ => ⟨v, he, hr.sl, ((Ext.refl w).alloc _).trans hx⟩
    have HN := Lib.hid hn
    clear hn
    go_enter Tryz.func71, Tryz.ntmps71
    go_upto_region 4 with (first
      | (go_at_call 60; refine (TV.out _ _).mono ?_; rintro e W1 ⟨rfl, rfl⟩)
      | (go_at_call 59; refine TS.out.mono ?_; rintro e W2 ⟨v2, rfl, hs2, hx2⟩))
    have hsl := sortS_len l
    obtain ⟨s, hs⟩ : ∃ s, sortS l = s := ⟨_, rfl⟩
    rw [hs] at hs2 hsl
    have HS := Lib.hid hs
    have HS2 := Lib.hid hs2
    obtain ⟨A2, c2, rfl, g1, g2, g3⟩ := hs2
    clear hs TV TS h0i
    by_cases hodd : l.length % 2 = 1
    · obtain ⟨b2, o2, rfl, hb2, hc2⟩ := g3 (l.length / 2) (by omega)
      have hoi : (l.length : Int) % 2 = 1 := by omega
      have hm : medianS l = .num s[l.length / 2] := by
        unfold medianS
        rw [if_neg h0, if_pos hodd, HS.out, List.getElem?_eq_getElem (by omega)]
        rfl
      have HM := Lib.hid hm
      obtain ⟨m, hmm⟩ : ∃ m, s[l.length / 2] = m := ⟨_, rfl⟩
      rw [hmm] at hc2 HM
      clear g3 hm hmm hodd
      go_wp2
      go_ret
      rw [HM.out]
      exact ⟨rfl, hx2⟩
    · have hei : (l.length : Int) % 2 = 0 := by omega
      have hm : medianS l = meanS ((s.drop (l.length / 2 - 1)).take 2) := by
        unfold medianS
        rw [if_neg h0, if_neg hodd, HS.out]
      have HM := Lib.hid hm
      obtain ⟨b2, o2, rfl, hb2, hzz⟩ := g3 0 (by omega)
      clear hzz
      have TM : Hid (∀ cc W v, Ext W2 W → v = .slice (some ⟨b2, o2 + (l.length / 2 - 1), none⟩) 2 cc → 2 ≤ cc → cc ≤ 9223372036854775807 → Calls Tryz.prog 68 #[v] W fun e w' => e = .returned (medianS l).val ∧ Ext W w') := fun cc W v hx hv hcc hcm => by
        rw [hm]
        refine mean_any v _ W ?_ (fun n hn => HN.out n ((sortS_mem l n).1 ?_)) (by rw [List.length_take]; omega)
        · refine ⟨_, cc, by rw [hv, show ((s.drop (l.length / 2 - 1)).take 2).length = 2 by rw [List.length_take, List.length_drop]; omega], by rw [List.length_take]; omega, hcm, fun k hk => ?_⟩
          rw [List.length_take, List.length_drop] at hk
          obtain ⟨b3, o3, e3, hb3, hc3⟩ := g3 (l.length / 2 - 1 + k) (by omega)
          cases e3
          refine ⟨b2, _, rfl, Nat.lt_of_lt_of_le hb2 hx.size, ?_⟩
          rw [List.getElem_take, List.getElem_drop, Nat.add_assoc]
          exact (hx.cell hb2).trans hc3
        · rw [HS.out]; exact List.mem_of_mem_drop (List.mem_of_mem_take hn)
      clear hm hodd g3
      go_wp2_with (go_at_call 68; refine (TM.out (c2 - (l.length / 2 - 1)) _ _ (Ext.refl _) (by rw [show l.length / 2 + 1 - (l.length / 2 - 1) = 2 by omega]) (by omega) (by omega)).mono ?_; rintro e w3 ⟨rfl, hx3⟩)
      go_ret
      exact ⟨rfl, hx2.trans hx3⟩

theorem many_MEDIAN (v : Value) (l : List Int) (w : World) (hv : ISl w v l) (hn : ∀ n ∈ l, Num n) (hl : l.length ≤ 100000) :
    Calls Tryz.prog 39 #[.string ⟨#[77, 69, 68, 73, 65, 78]⟩, v] w fun e w' => e = .returned (medianS l).val ∧ Ext w w' := by
  have T : Hid (∀ W, Ext w W → Calls Tryz.prog 71 #[v] W fun e w' => e = .returned (medianS l).val ∧ Ext W w') := fun W hx => median_any v l W (hv.ext hx) hn hl
  clear hv hn hl
  go_enter Tryz.func39, Tryz.ntmps39
  go_wp2_with (go_at_call 71; refine (T.out _ (Ext.refl _)).mono ?_; rintro e w2 ⟨rfl, hx2⟩)
  go_ret
  exact ⟨rfl, hx2⟩
end Go.Proofs.YtphjmbaifkneiaaGreatDoor
