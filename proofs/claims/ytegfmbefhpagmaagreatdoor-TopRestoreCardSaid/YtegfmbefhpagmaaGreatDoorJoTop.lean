/- Facts on the program alone, for rows and cards. -/
import Derived.Test.YtegfmbefhpagmaaGreatDoorCards
import Derived.JoinedOf
import Derived.SevenTiedAt
import Derived.KernelRfl
namespace Go.Proofs.YtegfmbefhpagmaaGreatDoor
open Go
set_option maxRecDepth 100000
theorem jLaid : laidOutB Tryz.prog = true := by kernel_rfl
theorem jMapsR : mapsRowed Tryz.prog = true := by kernel_rfl
theorem jHeard : Tryz.prog.stopsHeard = true := by kernel_rfl
theorem jLooks : true = Tryz.prog.looks [] := by kernel_rfl
end Go.Proofs.YtegfmbefhpagmaaGreatDoor
