/- '==' of layer 15's plain data, of the reference's values, and of two truths as values. -/
import Derived.Test.YtphjmbaifkneiaaGreatDoorB1
import Derived.Laws.StructEq
namespace Go.Proofs.YtphjmbaifkneiaaGreatDoor
open Go.RowKit

set_option maxRecDepth 100000

theorem eqIn_int (t : TypeId) (ht : Tryz.prog.underlying t = some (.int .i64)) (x y : Int) (w : World) : (Op.equalIn 9999 t (.int .i64 x) (.int .i64 y)).run Tryz.prog w = .ok (x == y) w := by
  have := run_equalIn_int (P := Tryz.prog) w 9998 t .i64 .i64 x y ht
  simpa only [Nat.reduceAdd] using this
theorem eqIn_string (t : TypeId) (ht : Tryz.prog.underlying t = some .string) (x y : ByteArray) (w : World) : (Op.equalIn 9999 t (.string x) (.string y)).run Tryz.prog w = .ok (x.toList == y.toList) w := by
  have := run_equalIn_string (P := Tryz.prog) w 9998 t x y ht
  simpa only [Nat.reduceAdd] using this
theorem eq_plain_raw (k l a b : Int) (s t : ByteArray) (w : World) : (binOp .eql 46 (.agg #[.int .i64 k, .int .i64 a, .string s]) (.agg #[.int .i64 l, .int .i64 b, .string t])).run Tryz.prog w = .ok (.bool (k == l && (a == b && s.toList == t.toList))) w := by
  rw [run_eql_struct]
  show ((Op.equalIn (9999 + 1) _ _ _).run _ _).andThen _ = _
  rw [run_equalIn_struct _ _ _ _ _ (by kernel_rfl) (by kernel_rfl)]
  unfold Program.fieldsOf
  rw [Tryz.underlying46]
  have q1 := eqIn_int 3 Tryz.underlying3
  have q2 := eqIn_int 39 Tryz.underlying39
  have q3 := eqIn_string 9 Tryz.underlying9
  simp only [Op.eqFields]
  by_cases hk : k = l <;> by_cases ha : a = b <;> by_cases hs : s.toList = t.toList <;> simp [go_sem, part, q1, q2, q3, hk, ha, hs]
@[go_sem] theorem eq_plain_guard (x y : Operand) (k l a b : Int) (s t : ByteArray) (w : World) : (eqGuard .eql 46 x y (.agg #[.int .i64 k, .int .i64 a, .string s]) (.agg #[.int .i64 l, .int .i64 b, .string t])).run Tryz.prog w = .ok () w := run_eqGuard_agg _ _ _ _ _ _ _ (by kernel_rfl)
theorem eq_told_raw (k l a b : Int) (s t : ByteArray) (w : World) : (binOp .eql 32 (.agg #[.int .i64 k, .int .i64 a, .string s]) (.agg #[.int .i64 l, .int .i64 b, .string t])).run Tryz.prog w = .ok (.bool (k == l && (a == b && s.toList == t.toList))) w := by
  rw [run_eql_struct]
  show ((Op.equalIn (9999 + 1) _ _ _).run _ _).andThen _ = _
  rw [run_equalIn_struct _ _ _ _ _ (by kernel_rfl) (by kernel_rfl)]
  unfold Program.fieldsOf
  rw [Tryz.underlying32]
  have q1 := eqIn_int 3 Tryz.underlying3
  have q2 := eqIn_int 2 Tryz.underlying2
  have q3 := eqIn_string 9 Tryz.underlying9
  simp only [Op.eqFields]
  by_cases hk : k = l <;> by_cases ha : a = b <;> by_cases hs : s.toList = t.toList <;> simp [go_sem, part, q1, q2, q3, hk, ha, hs]
@[go_sem] theorem eq_told_guard (x y : Operand) (k l a b : Int) (s t : ByteArray) (w : World) : (eqGuard .eql 32 x y (.agg #[.int .i64 k, .int .i64 a, .string s]) (.agg #[.int .i64 l, .int .i64 b, .string t])).run Tryz.prog w = .ok () w := run_eqGuard_agg _ _ _ _ _ _ _ (by kernel_rfl)
@[go_sem] theorem eqg_bool (x y : Operand) (a b : Bool) (w : World) : (eqGuard .eql 35 x y (.iface 67 (.bool a)) (.iface 67 (.bool b))).run Tryz.prog w = .ok () w := by cases a <;> cases b <;> kernel_rfl
@[go_sem] theorem eq_bool (a : Bool) (w : World) : (binOp .eql 35 (.iface 67 (.bool a)) (.iface 67 (.bool true))).run Tryz.prog w = .ok (.bool a) w := by cases a <;> kernel_rfl
end Go.Proofs.YtphjmbaifkneiaaGreatDoor
