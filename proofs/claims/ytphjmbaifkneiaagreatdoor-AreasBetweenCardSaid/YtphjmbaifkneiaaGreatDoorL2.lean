/- Args, One, Told, number. -/
import Derived.Test.YtphjmbaifkneiaaGreatDoorL1
import Derived.Deep.AppendLies
namespace Go.Proofs.YtphjmbaifkneiaaGreatDoor
open Go.RowKit

set_option maxHeartbeats 4000000
set_option maxRecDepth 100000

theorem told_any (v : V) (w : World) : Calls Tryz.prog 9 #[v.val] w fun e w' => e = .returned (.agg #[.int .i64 v.kind, .int .i64 v.n, .string v.s]) ∧ Ext w w' := by
  have T : Hid (∀ W, Calls Tryz.prog 20 #[v.val] W fun e w' => e = .returned (.agg #[.int .i64 v.kind, .int .i64 v.n, .string v.s]) ∧ Ext W w') := tell_any v
  go_enter Tryz.func9, Tryz.ntmps9
  go_wp2_with (go_at_call 20; refine (T.out _).mono ?_; rintro e w2 ⟨rfl, hx2⟩; have q0 : w2.heap[w.heap.size]? = _ := (hx2.block w.heap.size (by rw [alloc_size]; exact Nat.lt_succ_self _)).trans (heap_alloc_new w _); have p0 := heap_cell q0 0; have p1 := heap_cell q0 1; have p2 := heap_cell q0 2; have f0 := heap_frozen q0 0; have f1 := heap_frozen q0 1; have f2 := heap_frozen q0 2; have hl2 : w.heap.size < w2.heap.size := (Array.getElem?_eq_some_iff.1 q0).1)
  refine bodyPost_ret (v := .agg #[_, _, _]) (by simp [results, Tryz.results9, go_sem , p0, p1, p2, hl2]) rfl ⟨rfl, ?_⟩
  exact ((((((Ext.refl w).alloc _).trans hx2).setCell (Nat.le_refl _) _).setCell (Nat.le_refl _) _).setCell (Nat.le_refl _) _).alloc _

theorem number_of (name : ByteArray) (av : Value) (r : V) (w : World) (h : Calls Tryz.prog 10 #[.string name, av] w fun e w' => e = .returned r.val ∧ Ext w w') :
    Calls Tryz.prog 11 #[.string name, av] w fun e w' => e = .returned (.tuple #[.int .i64 r.numN, .bool r.isNum]) ∧ Ext w w' := by
  have T := Lib.hid h
  have TG : Hid (∀ W, Calls Tryz.prog 40 #[r.val] W fun e w' => e = .returned (.tuple #[.int .i64 r.numN, .bool r.isNum]) ∧ W = w') := given_any r
  clear h
  go_enter Tryz.func11, Tryz.ntmps11
  go_wp2_with (first
    | (go_at_call 10; refine T.out.mono ?_; rintro e w2 ⟨rfl, hx2⟩)
    | (go_at_call 40; refine (TG.out _).mono ?_; rintro e w3 ⟨rfl, rfl⟩))
  go_ret2
  exact ⟨rfl, hx2⟩
end Go.Proofs.YtphjmbaifkneiaaGreatDoor
