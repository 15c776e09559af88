/- What the small functions of layer 15 answer of each value; no condition but what each theorem names. -/
import Derived.Test.YtphjmbaifkneiaaGreatDoorV
namespace Go.Proofs.YtphjmbaifkneiaaGreatDoor
open Go.RowKit

set_option maxHeartbeats 400000
set_option maxRecDepth 100000

theorem given_any (v : V) (w : World) :
    Calls Tryz.prog 40 #[v.val] w fun e w' => e = .returned (.tuple #[.int .i64 v.numN, .bool v.isNum]) ∧ w = w' := by
  cases v <;> (simp only [V.val]; go_enter Tryz.func40, Tryz.ntmps40; go_wp2; go_ret2; exact ⟨rfl, rfl⟩)

theorem failed_any (v : V) (w : World) :
    Calls Tryz.prog 52 #[v.val] w fun e w' => e = .returned (.tuple #[.int .i64 v.failN, .bool v.isFail]) ∧ w = w' := by
  cases v <;> (simp only [V.val]; go_enter Tryz.func52, Tryz.ntmps52; go_wp2; go_ret2; exact ⟨rfl, rfl⟩)

theorem isBlank_any (v : V) (w : World) :
    Calls Tryz.prog 50 #[v.val] w fun e w' => e = .returned (.bool v.isBlank) ∧ Ext w w' := by
  cases v <;> (simp only [V.val]; go_enter Tryz.func50, Tryz.ntmps50; go_wp2; go_ret; refine ⟨rfl, ?_⟩; repeat (first | exact Ext.refl _ | exact Ext.trans (by assumption) (by assumption) | assumption | refine Ext.alloc ?_ _ | refine Ext.drew ?_ | refine Ext.drewN ?_ _ | refine Ext.setCell ?_ (by simp) _))

theorem isText_any (v : V) (w : World) :
    Calls Tryz.prog 14 #[v.val] w fun e w' => e = .returned (.bool v.isText) ∧ w = w' := by
  cases v <;> (simp only [V.val]; go_enter Tryz.func14, Tryz.ntmps14; go_wp2; go_ret; exact ⟨rfl, rfl⟩)

theorem counted_true (n : Int) (w : World) :
    Calls Tryz.prog 25 #[.int .i64 n, .bool true] w fun e w' => e = .returned (V.num n).val ∧ w = w' := by
  go_enter Tryz.func25, Tryz.ntmps25; go_wp2; go_ret; exact ⟨rfl, rfl⟩
theorem counted_false (n : Int) (w : World) :
    Calls Tryz.prog 25 #[.int .i64 n, .bool false] w fun e w' => e = .returned (V.fail 2).val ∧ w = w' := by
  go_enter Tryz.func25, Tryz.ntmps25; go_wp2; go_ret; exact ⟨rfl, rfl⟩

theorem tell_any (v : V) (w : World) :
    Calls Tryz.prog 20 #[v.val] w fun e w' => e = .returned (.agg #[.int .i64 v.kind, .int .i64 v.n, .string v.s]) ∧ Ext w w' := by
  cases v <;> simp only [V.val]
  case bool b =>
    cases b <;> (go_enter Tryz.func20, Tryz.ntmps20; go_wp2; refine bodyPost_ret (v := .agg #[_, _, _]) (by simp [results, Tryz.results20, go_sem , V.kind, V.n, V.s]) rfl ⟨rfl, ?_⟩; repeat (first | exact Ext.refl _ | exact Ext.trans (by assumption) (by assumption) | assumption | refine Ext.alloc ?_ _ | refine Ext.drew ?_ | refine Ext.drewN ?_ _ | refine Ext.setCell ?_ (by simp) _))
  all_goals (go_enter Tryz.func20, Tryz.ntmps20; go_wp2; refine bodyPost_ret (v := .agg #[_, _, _]) (by simp [results, Tryz.results20, go_sem , V.kind, V.n, V.s]) rfl ⟨rfl, ?_⟩; repeat (first | exact Ext.refl _ | exact Ext.trans (by assumption) (by assumption) | assumption | refine Ext.alloc ?_ _ | refine Ext.drew ?_ | refine Ext.drewN ?_ _ | refine Ext.setCell ?_ (by simp) _))
end Go.Proofs.YtphjmbaifkneiaaGreatDoor
