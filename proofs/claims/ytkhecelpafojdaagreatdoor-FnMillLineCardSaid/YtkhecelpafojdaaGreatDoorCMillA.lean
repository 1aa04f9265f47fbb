/-
  FnMillLine: the closed facts of its row. Conditions: none.
-/
import Derived.Test.YtkhecelpafojdaaGreatDoorF08
import Derived.Test.YtkhecelpafojdaaGreatDoorF11
import Derived.Test.YtkhecelpafojdaaGreatDoorTie
import Derived.Lib.SmallJoins
import Derived.ChangeMaps5
namespace Go.Proofs.YtkhecelpafojdaaGreatDoor.fnMillLine
open Go.ChangeShapes Go.WideShapes Go.ChangeAt Go.RowKit
noncomputable def pinObj : Obj → Obj
  | .cells _ t z => .cells (Go.Pinned.utf8FirstZ.map fun (n : Nat) => Value.int IntKind.u8 (n : Int)).toArray t z
  | o => o
/-- The start of the witness: as the variables' door leaves it, and one of Go's own tables, which the dump leaves out, laid. -/
noncomputable def pinWorld (os : Os) : World :=
  { World.doorLaid Tryz.prog 39 os with heap := (World.doorLaid Tryz.prog 39 os).heap.modify 3 pinObj }

theorem laid_met4 (os : Os) : laidMet Tryz.prog Rows.fnMillLineRow.laid ((pinWorld os).forCall (fun _ _ => 0) ⟨#[], #[.slice none 0 0, .slice none 0 0], []⟩).memory :=
  laidMet_of_run' 8 (by kernel_rfl) (by kernel_rfl)

theorem reads (os : Os) {H : Type} (enc : TypeId × Value → H) : ∃ places, DataW.whole enc Tryz.prog ((pinWorld os).forCall (fun _ _ => 0) ⟨#[], #[.slice none 0 0, .slice none 0 0], []⟩).memory Tryz.f3.params.toList Rows.fnMillLineSpec.vars false #[Value.slice none 0 0, .slice none 0 0].toList 8 = some ([.nil, .nil], [Rows.laid_loop_example_steelmill_impl_deedNames], places) :=
  ⟨[.cell 0 0, .cell 0 1, .cell 0 2, .cell 0 3, .cell 0 4], by kernel_rfl⟩

set_option maxHeartbeats 1600000 in
theorem closed : joinedFacts Tryz.pinned.checked.prog 3 Tryz.f3 (OpenSpec.ofChange Rows.fnMillLineSpec).bare Rows.fnMillLineRow = true :=
  joined_of (by as_aux_lemma => kernel_rfl) (by as_aux_lemma => kernel_rfl) (by as_aux_lemma => kernel_rfl) (by as_aux_lemma => kernel_rfl) (by as_aux_lemma => kernel_rfl) (by as_aux_lemma => kernel_rfl) (by as_aux_lemma => kernel_rfl) may_ok lifts_ok make_ok (by as_aux_lemma => kernel_rfl)

theorem wants_deed : Tryz.prog.wantsStandIn 22 = false := by kernel_rfl

theorem plain (f : FuncId) (fn : Func) (hf : Tryz.pinned.checked.prog.funcNamed "loop.example/steelmill/laws.FnMillLine" = some f) (hfn : Tryz.pinned.checked.prog.funcs[f]? = some fn) :
    false = Tryz.pinned.checked.prog.looks [] ∧ ∀ (j : Nat) t, fn.params[j]? = some t → Tryz.pinned.checked.prog.wantsStandIn t = false := by
  obtain rfl : f = 3 := Option.some.inj ((show Tryz.prog.funcNamed "loop.example/steelmill/laws.FnMillLine" = some 3 by kernel_rfl).symm.trans hf) |>.symm
  obtain rfl : fn = Tryz.f3 := (Option.some.inj (Tryz.func3.symm.trans hfn)).symm
  refine ⟨looks_off, fun j t ht => ?_⟩
  rw [Tryz.params3] at ht
  obtain rfl : t = 22 := by simpa using Array.mem_of_getElem? ht
  exact wants_deed

end Go.Proofs.YtkhecelpafojdaaGreatDoor.fnMillLine
