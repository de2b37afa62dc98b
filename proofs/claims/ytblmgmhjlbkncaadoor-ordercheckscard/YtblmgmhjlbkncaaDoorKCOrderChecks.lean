/- The law's card: the row, with the package variables that it lists tied to the program's text. -/
import Derived.Test.YtblmgmhjlbkncaaDoorCards
import Derived.Test.YtblmgmhjlbkncaaDoorTie
import Derived.Test.YtblmgmhjlbkncaaDoorRCOrderChecks
import Derived.SevenTiedAt
namespace Go.Proofs.YtblmgmhjlbkncaaDoor
open Go
theorem orderChecks_holds : Rows.OrderChecksCardSaid :=
  Claim7.holds_tied_plain_at .later [] [.data, .data, .data, .sentinel, .sentinel] true (true, "95deeee2c4f6ec132febba205094001f2b02a19ebbcbe581e7889cb04c1ba353") true
    orderChecks.proved (fun _ h => by cases h) (by kernel_rfl) (fun _ h => by cases h) orderChecks_row_tie rfl ⟨rfl, rfl⟩ (by kernel_rfl) rfl
    (fun f fn hf hfn => by
      obtain rfl : f = 3 := Option.some.inj ((show Tryd.prog.funcNamed "sawmill/sawmilllaw46.OrderChecks" = some 3 by kernel_rfl).symm.trans hf) |>.symm
      obtain rfl : fn = Tryd.f3 := (Option.some.inj (Tryd.func3.symm.trans hfn)).symm
      exact ⟨by kernel_rfl, fun j t ht => by
        rw [Tryd.params3] at ht
        have hm : t ∈ [23, 24] := by simpa using Array.mem_of_getElem? ht
        have hall : ([23, 24].all fun u => !Tryd.prog.wantsStandIn u) = true := by kernel_rfl
        exact (show Tryd.prog.wantsStandIn t = false by simpa using List.all_eq_true.1 hall t hm)⟩)
    (by kernel_rfl)
#print axioms orderChecks_holds
end Go.Proofs.YtblmgmhjlbkncaaDoor
