/- 'warderlaw25.MachineNil' returns true whatever the input (it takes none), and what was there reads as it did; what the listed package-level variables hold is tied to the program's text. CONDITIONS: none beside the card's own. -/
import Derived.Test.YtladebngkmgkoaaGreatDoorLaw6
import Derived.Test.YtladebngkmgkoaaGreatDoorGoes
import Derived.Test.YtladebngkmgkoaaGreatDoorCards
import Derived.Test.YtladebngkmgkoaaGreatDoorTie
import Derived.SevenTiedAt
namespace Go.Proofs.YtladebngkmgkoaaGreatDoor
set_option maxRecDepth 100000
theorem row_tie : Rows.machineNilRow.laidByTextAt .later Tryz.pinned [.data, .data, .data, .widerDeep] true :=
  OpenClaim.laidByTextAt_later rfl rfl tie (by kernel_rfl)
theorem machineNil_card : Rows.MachineNilCardSaid :=
  Claim7.holds_tied_plain_at .later [] [.data, .data, .data, .widerDeep] true (true, "c980040e3d2e3a31c69c973a5b7aea5334c68cdb3ef82249aa488930d6f3847c") true
    machineNil_holds (fun _ h => by cases h) (by kernel_rfl) (fun _ h => by cases h) row_tie rfl ⟨rfl, rfl⟩ (by kernel_rfl) rfl
    (fun f fn hf hfn => by
      obtain rfl : f = 3 := Option.some.inj ((show Tryz.prog.funcNamed "warder/warderlaw25.MachineNil" = some 3 by kernel_rfl).symm.trans hf) |>.symm
      obtain rfl : fn = Tryz.f3 := (Option.some.inj (Tryz.func3.symm.trans hfn)).symm
      exact ⟨by kernel_rfl, fun j t ht => by
        rw [Tryz.params3] at ht
        simp at ht⟩)
    goes_by
#print axioms machineNil_card
end Go.Proofs.YtladebngkmgkoaaGreatDoor
