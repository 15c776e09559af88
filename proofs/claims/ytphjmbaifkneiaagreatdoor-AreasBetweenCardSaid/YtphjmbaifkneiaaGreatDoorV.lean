/- The values of layer 15 as a Lean type, how each lies in the model, and what each type assertion answers of it. -/
import Derived.Test.YtphjmbaifkneiaaGreatDoorRows
import Derived.WalkKit
import Derived.WalkSpells
import Derived.WalkLawsBesides
namespace Go.Proofs.YtphjmbaifkneiaaGreatDoor
open Go.RowKit

@[go_sem] theorem as_blank_blank (v : Value) (w : World) : (Instr.typeAssert (.iface 90 v) 35 90 true).run Tryz.prog w = .ok (.tuple #[v, .bool true]) w := by kernel_rfl
@[go_sem] theorem as_blank_number (v : Value) (w : World) : (Instr.typeAssert (.iface 90 v) 35 43 true).run Tryz.prog w = .ok (.tuple #[.int .i64 0, .bool false]) w := by kernel_rfl
@[go_sem] theorem as_blank_text (v : Value) (w : World) : (Instr.typeAssert (.iface 90 v) 35 52 true).run Tryz.prog w = .ok (.tuple #[.string ByteArray.empty, .bool false]) w := by kernel_rfl
@[go_sem] theorem as_blank_bool (v : Value) (w : World) : (Instr.typeAssert (.iface 90 v) 35 67 true).run Tryz.prog w = .ok (.tuple #[.bool false, .bool false]) w := by kernel_rfl
@[go_sem] theorem as_blank_fail (v : Value) (w : World) : (Instr.typeAssert (.iface 90 v) 35 61 true).run Tryz.prog w = .ok (.tuple #[.int .i64 0, .bool false]) w := by kernel_rfl
@[go_sem] theorem as_number_blank (v : Value) (w : World) : (Instr.typeAssert (.iface 43 v) 35 90 true).run Tryz.prog w = .ok (.tuple #[.agg #[], .bool false]) w := by kernel_rfl
@[go_sem] theorem as_number_number (v : Value) (w : World) : (Instr.typeAssert (.iface 43 v) 35 43 true).run Tryz.prog w = .ok (.tuple #[v, .bool true]) w := by kernel_rfl
@[go_sem] theorem as_number_text (v : Value) (w : World) : (Instr.typeAssert (.iface 43 v) 35 52 true).run Tryz.prog w = .ok (.tuple #[.string ByteArray.empty, .bool false]) w := by kernel_rfl
@[go_sem] theorem as_number_bool (v : Value) (w : World) : (Instr.typeAssert (.iface 43 v) 35 67 true).run Tryz.prog w = .ok (.tuple #[.bool false, .bool false]) w := by kernel_rfl
@[go_sem] theorem as_number_fail (v : Value) (w : World) : (Instr.typeAssert (.iface 43 v) 35 61 true).run Tryz.prog w = .ok (.tuple #[.int .i64 0, .bool false]) w := by kernel_rfl
@[go_sem] theorem as_text_blank (v : Value) (w : World) : (Instr.typeAssert (.iface 52 v) 35 90 true).run Tryz.prog w = .ok (.tuple #[.agg #[], .bool false]) w := by kernel_rfl
@[go_sem] theorem as_text_number (v : Value) (w : World) : (Instr.typeAssert (.iface 52 v) 35 43 true).run Tryz.prog w = .ok (.tuple #[.int .i64 0, .bool false]) w := by kernel_rfl
@[go_sem] theorem as_text_text (v : Value) (w : World) : (Instr.typeAssert (.iface 52 v) 35 52 true).run Tryz.prog w = .ok (.tuple #[v, .bool true]) w := by kernel_rfl
@[go_sem] theorem as_text_bool (v : Value) (w : World) : (Instr.typeAssert (.iface 52 v) 35 67 true).run Tryz.prog w = .ok (.tuple #[.bool false, .bool false]) w := by kernel_rfl
@[go_sem] theorem as_text_fail (v : Value) (w : World) : (Instr.typeAssert (.iface 52 v) 35 61 true).run Tryz.prog w = .ok (.tuple #[.int .i64 0, .bool false]) w := by kernel_rfl
@[go_sem] theorem as_bool_blank (v : Value) (w : World) : (Instr.typeAssert (.iface 67 v) 35 90 true).run Tryz.prog w = .ok (.tuple #[.agg #[], .bool false]) w := by kernel_rfl
@[go_sem] theorem as_bool_number (v : Value) (w : World) : (Instr.typeAssert (.iface 67 v) 35 43 true).run Tryz.prog w = .ok (.tuple #[.int .i64 0, .bool false]) w := by kernel_rfl
@[go_sem] theorem as_bool_text (v : Value) (w : World) : (Instr.typeAssert (.iface 67 v) 35 52 true).run Tryz.prog w = .ok (.tuple #[.string ByteArray.empty, .bool false]) w := by kernel_rfl
@[go_sem] theorem as_bool_bool (v : Value) (w : World) : (Instr.typeAssert (.iface 67 v) 35 67 true).run Tryz.prog w = .ok (.tuple #[v, .bool true]) w := by kernel_rfl
@[go_sem] theorem as_bool_fail (v : Value) (w : World) : (Instr.typeAssert (.iface 67 v) 35 61 true).run Tryz.prog w = .ok (.tuple #[.int .i64 0, .bool false]) w := by kernel_rfl
@[go_sem] theorem as_fail_blank (v : Value) (w : World) : (Instr.typeAssert (.iface 61 v) 35 90 true).run Tryz.prog w = .ok (.tuple #[.agg #[], .bool false]) w := by kernel_rfl
@[go_sem] theorem as_fail_number (v : Value) (w : World) : (Instr.typeAssert (.iface 61 v) 35 43 true).run Tryz.prog w = .ok (.tuple #[.int .i64 0, .bool false]) w := by kernel_rfl
@[go_sem] theorem as_fail_text (v : Value) (w : World) : (Instr.typeAssert (.iface 61 v) 35 52 true).run Tryz.prog w = .ok (.tuple #[.string ByteArray.empty, .bool false]) w := by kernel_rfl
@[go_sem] theorem as_fail_bool (v : Value) (w : World) : (Instr.typeAssert (.iface 61 v) 35 67 true).run Tryz.prog w = .ok (.tuple #[.bool false, .bool false]) w := by kernel_rfl
@[go_sem] theorem as_fail_fail (v : Value) (w : World) : (Instr.typeAssert (.iface 61 v) 35 61 true).run Tryz.prog w = .ok (.tuple #[v, .bool true]) w := by kernel_rfl

/-- All that lay in w lies in w' as it lay. -/
def Ext (w w' : World) : Prop := Below w.heap.size w w'
theorem Ext.refl (w : World) : Ext w w := Below.refl _ _
theorem Ext.alloc {a w : World} (h : Ext a w) (o : Obj) : Ext a (w.alloc o) := Below.alloc h h.size o
theorem Ext.drew {a w : World} (h : Ext a w) : Ext a w.drew := Below.drew h
theorem Ext.drewN {a w : World} (h : Ext a w) (n : Nat) : Ext a (w.drewN n) := ⟨h.os, h.tape, h.output, h.size, h.block⟩
theorem Ext.setCell {a w : World} (h : Ext a w) {p : Addr} (hp : a.heap.size ≤ p.block) (u : Value) : Ext a (w.setCell p u) := Below.setCell h hp u
theorem Ext.trans {a b c : World} (h : Ext a b) (k : Ext b c) : Ext a c := Below.trans h (Below.mono k h.size)
theorem Ext.grown {a w w' : World} {row : Option Nat} (h : Ext a w) (hg : w.grownBy w' row) (hr : ∀ k, row = some k → a.heap.size ≤ k) : Ext a w' := Below.grown h hg h.size hr
theorem Ext.size {a w : World} (h : Ext a w) : a.heap.size ≤ w.heap.size := Below.size h
theorem Ext.cell {a w : World} (h : Ext a w) {p : Addr} (hp : p.block < a.heap.size) : w.cell? p = a.cell? p := Below.cell h hp
theorem Ext.frozen {a w : World} (h : Ext a w) {p : Addr} (hp : p.block < a.heap.size) : w.frozen? p = a.frozen? p := Below.frozen h hp
/-- What the walk wants of a callee's world: the cells and the marks that lay ahead of it. -/
theorem Ext.reads {W w1 : World} (hb : Ext W w1) : (∀ b o, b < W.heap.size → w1.cell? ⟨b, o, none⟩ = W.cell? ⟨b, o, none⟩) ∧ (∀ b o, b < W.heap.size → w1.frozen? ⟨b, o, none⟩ = W.frozen? ⟨b, o, none⟩) :=
  ⟨fun b o h => hb.cell (p := ⟨b, o, none⟩) h, fun b o h => hb.frozen (p := ⟨b, o, none⟩) h⟩

inductive V where
  | blank
  | num (n : Int)
  | text (s : ByteArray)
  | bool (b : Bool)
  | fail (n : Int)

def V.val : V → Value
  | .blank => .iface 90 (.agg #[])
  | .num n => .iface 43 (.int .i64 n)
  | .text s => .iface 52 (.string s)
  | .bool b => .iface 67 (.bool b)
  | .fail n => .iface 61 (.int .i64 n)

def V.Good : V → Prop
  | .num n => -999999999999999999 ≤ n ∧ n ≤ 999999999999999999
  | .text s => s.size ≤ 2000
  | .fail n => 1 ≤ n ∧ n ≤ 7
  | _ => True

def V.kind : V → Int | .blank => 0 | .num _ => 1 | .text _ => 2 | .bool _ => 3 | .fail _ => 4
def V.n : V → Int | .num n => n | .bool b => if b then 1 else 0 | .fail n => n | _ => 0
def V.s : V → ByteArray | .text s => s | _ => ⟨#[]⟩
def V.isNum : V → Bool | .num _ => true | _ => false
def V.isText : V → Bool | .text _ => true | _ => false
def V.isBlank : V → Bool | .blank => true | _ => false
def V.isFail : V → Bool | .fail _ => true | _ => false
def V.numN : V → Int | .num n => n | _ => 0
def V.failN : V → Int | .fail n => n | _ => 0
end Go.Proofs.YtphjmbaifkneiaaGreatDoor
