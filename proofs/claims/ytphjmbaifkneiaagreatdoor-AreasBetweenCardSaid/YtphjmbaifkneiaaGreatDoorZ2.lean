/- slices.Sorted of slices.Values of a slice of numbers: a new slice that holds them in order; given what slices.Sort does. -/
import Derived.Lib.SlKeysI
import Derived.Deep.DeepCutAuto
import Derived.Test.YtphjmbaifkneiaaGreatDoorZ1
namespace Go.Proofs.YtphjmbaifkneiaaGreatDoor
open Go.RowKit Go.Shelf Go.Sort

set_option maxRecDepth 100000
set_option maxHeartbeats 4000000

/-- In order. -/
def sortS (l : List Int) : List Int := l.mergeSort fun x y => decide (x ≤ y)
theorem sortS_len (l : List Int) : (sortS l).length = l.length := List.length_mergeSort _
/-- What slices.Sort does at a slice of numbers. -/
def SortDoes : Prop :=
  (∀ (blk off cap : Nat) (ss : List Int) (W : World), Holds (Value.int .i64) W blk off ss.toArray → blk < W.heap.size → ss.length < 4611686018427387904 →
    Calls Tryz.prog 84 #[.slice (some ⟨blk, off, none⟩) ss.length cap] W fun e w' => e = .returned (.tuple #[]) ∧ ∃ k os, w' = grow (putRow (Value.int .i64) (Sort.ahead W k) blk off (ss.mergeSort fun x y => decide (x ≤ y)).toArray) os) ∧
  (∀ (p : Option Addr) (cap : Nat) (W : World), Calls Tryz.prog 84 #[.slice p 0 cap] W fun e w' => e = .returned (.tuple #[]) ∧ w' = W)

theorem sorted_of (hsort : SortDoes) (Bs cap : Nat) (A : Option Addr) (zs : List Int) (hreach : zs.length ≤ 100000) (w : World) (hBs : Bs < w.heap.size)
    (hc : w.cell? ⟨Bs, 0, none⟩ = some (.slice A zs.length cap)) (hI : Lies w.heap.size w A zs) :
    Calls Tryz.prog 59 #[.func (.func 85) #[] #[.pointer (some ⟨Bs, 0, none⟩)]] w fun e W' => ∃ v, e = .returned v ∧ NumRow w.heap.size (sortS zs) v W' ∧ Ext w W' := by
  have hcol := Lib.hid ((callsIn_wide (n := 5)).1 (collect_in Fence.wide 5 trivial trivial trivial rfl (by omega) Bs cap A zs hreach w hBs hc hI))
  clear hc hI
  have HS := Lib.hid hsort
  clear hsort
  go_enter Tryz.func59, Tryz.ntmps59
  go_upto_region 2 with (go_at_call 83; refine hcol.out.mono ?_; rintro e W ⟨v, rfl, hrow, hb⟩)
  have HR := Lib.hid hrow
  rcases hrow.2 with ⟨rfl, hz⟩ | ⟨gb, cap', cur, rfl, hbase, hgb, r1, r2, r3, r4⟩
  · have hss : zs = [] := List.eq_nil_of_length_eq_zero hz
    subst hss
    clear hrow
    go_wp2_with (go_at_call 84; refine (HS.out.2 none 0 W).mono ?_; rintro e w' ⟨rfl, rfl⟩)
    go_ret
    exact ⟨_, rfl, by simpa [sortS, NumRow] using HR.out, hb⟩
  · have hH : Holds (Value.int .i64) W gb 0 zs.toArray := holds_of_block_i hgb (by simpa using r4)
    have hgl : gb < W.heap.size := (Array.getElem?_eq_some_iff.1 hgb).1
    have cS := Lib.hid (HS.out.1 gb 0 cap' zs W hH hgl (by omega))
    have HG := Lib.hid hgb
    have HR3 := Lib.hid r3
    clear hrow hH hgb r3 r4
    go_wp2_with (go_at_call 84; refine cS.out.mono ?_; rintro e w' ⟨rfl, nn, os, rfl⟩)
    go_ret
    exact ⟨_, rfl, by
      unfold NumRow
      rw [sortS_len]
      exact ownsRow_sorted_i (ts := sortS zs) (n := nn) (os := os) (sortS_len zs) hbase HG.out r1 r2 HR3.out, hb.grown (grownBy_sorted_i _) hb.size (fun j hj => by cases hj; exact hbase)⟩
end Go.Proofs.YtphjmbaifkneiaaGreatDoor
