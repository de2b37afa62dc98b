/- The law's card: the row, with the package variables that it lists tied to the program's text. -/
import Derived.Test.YtbahagcidhmojaaDoorCards
import Derived.Test.YtbahagcidhmojaaDoorTie
import Derived.Test.YtbahagcidhmojaaDoorRCEventCuts
import Derived.SevenTiedAt
namespace Go.Proofs.YtbahagcidhmojaaDoor
open Go
theorem eventCuts_holds : Rows.EventCutsCardSaid :=
  Claim7.holds_tied_plain_at .later [] [.data, .data, .data, .sentinel, .sentinel] true (true, "7ac4ed873983c5a261b66eb0556ef0360ea53dbd8f12bbc4525fa2f23d29f944") true
    eventCuts.proved (fun _ h => by cases h) (by kernel_rfl) (fun _ h => by cases h) eventCuts_row_tie rfl ⟨rfl, rfl⟩ (by kernel_rfl) rfl
    (fun f fn hf hfn => by
      obtain rfl : f = 8 := Option.some.inj ((show Tryd.prog.funcNamed "sawmill/sawmilllaw58.EventCuts" = some 8 by kernel_rfl).symm.trans hf) |>.symm
      obtain rfl : fn = Tryd.f8 := (Option.some.inj (Tryd.func8.symm.trans hfn)).symm
      exact ⟨by kernel_rfl, fun j t ht => by
        rw [Tryd.params8] at ht
        have hm : t ∈ [24, 38, 5] := by simpa using Array.mem_of_getElem? ht
        have hall : ([24, 38, 5].all fun u => !Tryd.prog.wantsStandIn u) = true := by kernel_rfl
        exact (show Tryd.prog.wantsStandIn t = false by simpa using List.all_eq_true.1 hall t hm)⟩)
    (by kernel_rfl)
#print axioms eventCuts_holds
end Go.Proofs.YtbahagcidhmojaaDoor
