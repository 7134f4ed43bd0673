/- For every two bytes, regraterlaw18.SqlCounts returns true: lists of up to eight things are read, longer ones refused at the ninth with the error of a count. No conditions. -/
import Derived.Test.YtfkhhbjdlgklnaaGreatDoorSZ
import Derived.Test.YtfkhhbjdlgklnaaGreatDoorCards
import Derived.Test.YtfkhhbjdlgklnaaGreatDoorTie
namespace Go.Proofs.YtfkhhbjdlgklnaaGreatDoor.sqlCounts
open Go Go.RowKit
theorem plain (f : FuncId) (fn : Func) (hf : Tryz.pinned.checked.prog.funcNamed "regrater/regraterlaw18.SqlCounts" = some f) (hfn : Tryz.pinned.checked.prog.funcs[f]? = some fn) :
    true = Tryz.pinned.checked.prog.looks [] ∧ ∀ (j : Nat) t, fn.params[j]? = some t → Tryz.pinned.checked.prog.wantsStandIn t = false := by
  obtain rfl : f = 7 := Option.some.inj ((show Tryz.prog.funcNamed "regrater/regraterlaw18.SqlCounts" = some 7 by kernel_rfl).symm.trans hf) |>.symm
  obtain rfl : fn = Tryz.f7 := (Option.some.inj (Tryz.func7.symm.trans hfn)).symm
  refine ⟨by kernel_rfl, fun j t ht => ?_⟩
  rw [Tryz.params7] at ht
  obtain rfl : t = 5 := by simpa using Array.mem_of_getElem? ht
  exact (show Tryz.prog.wantsStandIn 5 = false by kernel_rfl)

theorem card : Rows.SqlCountsCardSaid :=
  Claim7.holds_tied_plain_at .later [] _ _ _ _ said (fun _ h => by cases h) (by kernel_rfl) (fun _ h => by cases h) sqlCounts_row_tie rfl ⟨rfl, rfl⟩ (by kernel_rfl) rfl plain (by kernel_rfl)
end Go.Proofs.YtfkhhbjdlgklnaaGreatDoor.sqlCounts
