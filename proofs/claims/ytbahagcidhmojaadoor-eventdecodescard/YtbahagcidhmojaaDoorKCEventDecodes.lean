/- The law's card: the row, with the package variables that it lists tied to the program's text. -/
import Derived.Test.YtbahagcidhmojaaDoorCards
import Derived.Test.YtbahagcidhmojaaDoorTie
import Derived.Test.YtbahagcidhmojaaDoorRCEventDecodes
import Derived.SevenTiedAt
namespace Go.Proofs.YtbahagcidhmojaaDoor
open Go
theorem eventDecodes_holds : Rows.EventDecodesCardSaid :=
  Claim7.holds_tied_plain_at .later [] [.data, .data, .data, .sentinel, .sentinel] true (true, "7ac4ed873983c5a261b66eb0556ef0360ea53dbd8f12bbc4525fa2f23d29f944") true
    eventDecodes.proved (fun _ h => by cases h) (by kernel_rfl) (fun _ h => by cases h) eventDecodes_row_tie rfl ⟨rfl, rfl⟩ (by kernel_rfl) rfl
    (fun f fn hf hfn => by
      obtain rfl : f = 5 := Option.some.inj ((show Tryd.prog.funcNamed "sawmill/sawmilllaw58.EventDecodes" = some 5 by kernel_rfl).symm.trans hf) |>.symm
      obtain rfl : fn = Tryd.f5 := (Option.some.inj (Tryd.func5.symm.trans hfn)).symm
      exact ⟨by kernel_rfl, fun j t ht => by
        rw [Tryd.params5] at ht
        have hm : t ∈ [9] := by simpa using Array.mem_of_getElem? ht
        have hall : ([9].all fun u => !Tryd.prog.wantsStandIn u) = true := by kernel_rfl
        exact (show Tryd.prog.wantsStandIn t = false by simpa using List.all_eq_true.1 hall t hm)⟩)
    (by kernel_rfl)
#print axioms eventDecodes_holds
end Go.Proofs.YtbahagcidhmojaaDoor
