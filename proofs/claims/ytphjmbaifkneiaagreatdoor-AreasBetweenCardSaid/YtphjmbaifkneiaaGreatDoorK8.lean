/- AreasBetween: the row and the card. -/
import Derived.Test.YtphjmbaifkneiaaGreatDoorO1
import Derived.Test.YtphjmbaifkneiaaGreatDoorL8
namespace Go.Proofs.YtphjmbaifkneiaaGreatDoor
open Go.ChangeShapes Go.WideShapes Go.ChangeAt Go.RowKit Go.Deep Go.Joins

set_option maxRecDepth 100000

theorem own : ownKnob Tryz.prog.godebug = none := by kernel_rfl
theorem laidOut : laidOutB Tryz.prog = true := by kernel_rfl
theorem fields24 : oneCellFields Tryz.prog #[{ name := "One", type := 4, offset := 0, embedded := false, tag := "", pkgPath := "", byteOffset := 0 }, { name := "Cols", type := 3, offset := 1, embedded := false, tag := "", pkgPath := "", byteOffset := 8 }, { name := "L", type := 22, offset := 2, embedded := false, tag := "", pkgPath := "", byteOffset := 16 }] = true := by kernel_rfl
theorem cells24 : Tryz.prog.cellsOf 24 = 3 := by kernel_rfl

theorem mem_first : ("unicode/utf8.first", Lib.firstData) ∈ Rows.areasBetweenRow.laid := by
  rw [show Lib.firstData = Rows.laid_unicode_utf8_first by kernel_rfl]
  exact List.mem_cons_of_mem _ (List.mem_cons_of_mem _ (List.mem_cons_self ..))
theorem mem_accept : ("unicode/utf8.acceptRanges", Lib.acceptData) ∈ Rows.areasBetweenRow.laid := by
  rw [show Lib.acceptData = Rows.laid_unicode_utf8_acceptRanges by kernel_rfl]
  exact List.mem_cons_self ..
theorem mem_signs : ("tabular/areas.signs", Rows.laid_tabular_areas_signs) ∈ Rows.areasBetweenRow.laid :=
  List.mem_cons_of_mem _ (List.mem_cons_self ..)

theorem between_contract (H : Type) (enc : TypeId × Value → H) (W : World) (base : Nat) (args : Array Value) (ds gs : List (DataW H)) (before : List MemPlace)
    (hval : ∀ (j : Nat) t v, Tryz.f4.params[j]? = some t → args[j]? = some v → Value.okWide Tryz.prog W .any base t v)
    (hW : DataW.Whole enc Tryz.prog Tryz.f4.params.toList Rows.areasBetweenSpec.vars false W args.toList ds gs before) (hL : laidMetH Tryz.prog Rows.areasBetweenRow.laid W) :
    Calls Tryz.prog 4 args W fun e W' => ∃ v, e = .returned v ∧ Rows.areasBetweenSpec.post enc Tryz.prog Tryz.f4 false true false false W args v W' := by
  have hW' := hW
  obtain ⟨p, q, hA0, hV, rfl, hfz, hnd⟩ := hW
  have hA : DataW.TrodAll enc Tryz.prog W 0 (fun _ => true) true Tryz.f4.params.toList args.toList ds p := hA0
  rw [Tryz.params4] at hA hval
  obtain ⟨v0, vs0, d0, ds0, p0, q0, hargs, rfl, rfl, h0, r0⟩ := trodAll_cons hA
  obtain ⟨rfl, rfl, rfl⟩ := trodAll_nil r0
  obtain rfl : args = #[v0] := by cases args; simp_all
  obtain ⟨rfl, rfl⟩ := trodVars_none hV
  have h0k := h0
  obtain ⟨a0, a1, a2, y0, y1, y2, n, rfl, _, _, t0, t1, t2⟩ := open_agg3 Tryz.underlying24 fields24 cells24 (hval 0 24 v0 rfl rfl) h0
  obtain ⟨one, e0, _⟩ := DataW.trod_bool Tryz.underlying4 t0
  obtain ⟨cols, e1, _⟩ := DataW.trod_int Tryz.underlying3 t1
  obtain ⟨l, hl⟩ := open_plains t2
  obtain rfl : a0 = .bool one := by simpa using e0
  obtain rfl : a1 = .int .i64 cols := by simpa using e1
  clear hA0 hA r0
  have hTab : Tabs W := tabs_of (Lib.laidMet.reads hL mem_first) (Lib.laidMet.reads hL mem_accept)
  have hSg : SgIs W := signs_of (Lib.laidMet.reads hL mem_signs)
  refine (between_any a2 ⟨one, cols, l⟩ W hl hTab hSg).mono fun e W' ⟨he, hx⟩ => ?_
  subst he
  refine ⟨_, rfl, post_of_below (pa := p0 ++ []) (pv := []) hW' (fun _ _ _ => trodAll_cons_mk (shut_bool Tryz.underlying4 _) trodAll_mk0) (fun sp hsp => ?_) (fun _ _ => rfl) (by simp) hx (ok_one (by kernel_rfl) rfl (okWide_bool_mk Tryz.underlying4 _))⟩
  have hlt : ∀ x ∈ p0 ++ [], x.block < W.heap.size := fun x hx => hW'.lt x (by simpa using hx)
  have g0 := WideElems.Trod_stays laidOut (by kernel_rfl) (of_decide_eq_true (by kernel_rfl)) h0k (fun x hx' => hx.same (hlt x (List.mem_append_left _ hx'))) (fun x hx' => hsp x (by simp [hx']))
  exact trodAll_cons_mk g0 trodAll_mk0

/-- A block's cells laid anew. -/
def laidCells (cs : Array Value) : Obj → Obj
  | .cells _ t frozen => .cells cs t frozen
  | o => o
noncomputable def settled (os : Os) : World := World.holding Tryz.prog os ⟨#[], #[], []⟩
noncomputable def laidHeap (os : Os) : Array Obj :=
  ((((settled os).heap.modify 0 (laidCells #[.slice (some ⟨(settled os).heap.size, 0, none⟩) 6 6])).modify 1 (laidCells (Lib.firstTab.map fun z => Value.int .u8 z).toArray)).modify 2
    (laidCells ((List.range 16).flatMap fun i => [Value.int .u8 (Lib.accLo i : Int), Value.int .u8 (Lib.accHi i : Int)]).toArray)).push
    (.cells #[.string ⟨#[60, 62]⟩, .string ⟨#[60, 61]⟩, .string ⟨#[62, 61]⟩, .string ⟨#[61]⟩, .string ⟨#[60]⟩, .string ⟨#[62]⟩] 9)
/-- A world for the witness: the settled one, the three variables holding what is listed. -/
noncomputable def laidWorld (os : Os) : World := { settled os with heap := laidHeap os }
def wArgs : Array Value := #[.agg #[.bool false, .int .i64 0, .slice none 0 0]]
theorem laid_met (os : Os) : laidMet Tryz.prog Rows.areasBetweenRow.laid ((laidWorld os).forCall (fun _ _ => 0) ⟨#[], wArgs, []⟩).memory :=
  laidMet_of_run' 12 (by kernel_rfl) (by kernel_rfl)
theorem reads (os : Os) {H : Type} (enc : TypeId × Value → H) : ∃ places, DataW.whole enc Tryz.prog ((laidWorld os).forCall (fun _ _ => 0) ⟨#[], wArgs, []⟩).memory Tryz.f4.params.toList Rows.areasBetweenSpec.vars false wArgs.toList 8 = some ([.agg [.lit (.bool false), .lit (.int .i64 0), .nil]], [], places) :=
  ⟨[], by kernel_rfl⟩

theorem between_lifted (os : Os) (started : os.Started) (H : Type) (enc : TypeId × Value → H) (F : Stop.Interp) :
    ReturnsInHanded {} Tryz.checked os 4 .any ((OpenSpec.ofChange Rows.areasBetweenSpec).preRow enc Tryz.prog Tryz.f4 Rows.areasBetweenRow.domain false Rows.areasBetweenRow.laid) (((OpenSpec.ofChange Rows.areasBetweenSpec).at F).post enc Tryz.prog Tryz.f4 false true false false) := by
  obtain ⟨places, hx⟩ := reads os enc
  refine returnsInHanded_of_row (C := Tryz.checked) (s := OpenSpec.ofChange Rows.areasBetweenSpec) own started (by kernel_rfl) Tryz.func4
    (witness_row_atRef (enc := enc) (C := Tryz.checked) false (laidWorld os) wArgs rfl (by kernel_rfl) (by kernel_rfl) (by kernel_rfl)
      (OpenSpec.preRow_of_cond 8 hx (by kernel_rfl) (fun k hk => by cases hk) (by kernel_rfl) (laid_met os))) ?_
  intro W base args ds gs before hval hW _ _ _ hL _ _
  exact between_contract H enc W base args ds gs before hval hW hL

theorem between_said : Rows.AreasBetweenSaid :=
  OpenClaim.holds_of_cond 4 Tryz.f4 rfl rfl rfl rfl rfl rfl rfl ⟨rfl, rfl, rfl, rfl, rfl⟩ rfl rfl rfl rfl rfl (by kernel_rfl) Tryz.func4 (by kernel_rfl)
    (of_decide_eq_true (by kernel_rfl)) (by unfold Func.isWrapper; first | (rw [if_pos (by decide +kernel)]; kernel_rfl) | (rw [if_neg (by decide +kernel)]; exact ⟨rfl, rfl⟩))
    (fun os started H enc _ F => by rw [OpenClaim.pre_eq_preRow]; exact between_lifted os started H enc F)

theorem between_plain (f : FuncId) (fn : Func) (hf : Tryz.pinned.checked.prog.funcNamed "tabular/tabularlaw18.AreasBetween" = some f) (hfn : Tryz.pinned.checked.prog.funcs[f]? = some fn) :
    true = Tryz.pinned.checked.prog.looks [] ∧ ∀ (j : Nat) t, fn.params[j]? = some t → Tryz.pinned.checked.prog.wantsStandIn t = false := by
  obtain rfl : f = 4 := Option.some.inj ((show Tryz.prog.funcNamed "tabular/tabularlaw18.AreasBetween" = some 4 by kernel_rfl).symm.trans hf) |>.symm
  obtain rfl : fn = Tryz.f4 := (Option.some.inj (Tryz.func4.symm.trans hfn)).symm
  refine ⟨by kernel_rfl, fun j t ht => ?_⟩
  rw [Tryz.params4] at ht
  have := Array.mem_of_getElem? ht
  have h2 : t = 24 := by simpa using this
  subst h2
  exact (show Tryz.prog.wantsStandIn 24 = false by kernel_rfl)

/-- The card of AreasBetween. -/
theorem between_card : Rows.AreasBetweenCardSaid :=
  Claim7.holds_tied_plain_at .later [] _ _ _ _ between_said (fun _ h => by cases h) (by kernel_rfl) (fun _ h => by cases h) areasBetween_row_tie rfl ⟨rfl, rfl⟩ (by kernel_rfl) rfl between_plain (by kernel_rfl)
end Go.Proofs.YtphjmbaifkneiaaGreatDoor
