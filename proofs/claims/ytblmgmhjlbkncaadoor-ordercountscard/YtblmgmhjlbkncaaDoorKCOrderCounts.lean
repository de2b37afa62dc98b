/- The law's card: the row, with the package variables that it lists tied to the program's text. -/
import Derived.Test.YtblmgmhjlbkncaaDoorCards
import Derived.Test.YtblmgmhjlbkncaaDoorTie
import Derived.Test.YtblmgmhjlbkncaaDoorRCOrderCounts
import Derived.SevenTiedAt
namespace Go.Proofs.YtblmgmhjlbkncaaDoor
open Go
theorem orderCounts_holds : Rows.OrderCountsCardSaid :=
  Claim7.holds_tied_plain_at .later [] [.data, .data, .data, .sentinel, .sentinel] true (true, "95deeee2c4f6ec132febba205094001f2b02a19ebbcbe581e7889cb04c1ba353") true
    orderCounts.proved (fun _ h => by cases h) (by kernel_rfl) (fun _ h => by cases h) orderCounts_row_tie rfl ⟨rfl, rfl⟩ (by kernel_rfl) rfl
    (fun f fn hf hfn => by
      obtain rfl : f = 8 := Option.some.inj ((show Tryd.prog.funcNamed "sawmill/sawmilllaw46.OrderCounts" = some 8 by kernel_rfl).symm.trans hf) |>.symm
      obtain rfl : fn = Tryd.f8 := (Option.some.inj (Tryd.func8.symm.trans hfn)).symm
      exact ⟨by kernel_rfl, fun j t ht => by
        rw [Tryd.params8] at ht
        have hm : t ∈ [23, 42, 3] := by simpa using Array.mem_of_getElem? ht
        have hall : ([23, 42, 3].all fun u => !Tryd.prog.wantsStandIn u) = true := by kernel_rfl
        exact (show Tryd.prog.wantsStandIn t = false by simpa using List.all_eq_true.1 hall t hm)⟩)
    (by kernel_rfl)
#print axioms orderCounts_holds
end Go.Proofs.YtblmgmhjlbkncaaDoor
