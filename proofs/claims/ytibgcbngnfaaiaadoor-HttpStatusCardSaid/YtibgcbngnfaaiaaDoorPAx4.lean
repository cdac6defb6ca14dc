-- Written by a program of this session: the kit's print.py over given contracts (wip/pr2.py, wip/prall.sh).
import Derived.Test.YtibgcbngnfaaiaaDoorPAx0
import Derived.Test.YtibgcbngnfaaiaaDoorHs
namespace Go.Proofs.YtibgcbngnfaaiaaDoor.PA
open Go.RowKit Go.Proofs.YtibgcbngnfaaiaaDoorW.PrintWords Go.Proofs.YtibgcbngnfaaiaaDoorW.PrintLast Go.Proofs.YtibgcbngnfaaiaaDoorW.PrintMore
attribute [local go_sem] max2_int min2_int max_two min_two max_three min_three max_four min_four   -- for this text's walks alone
set_option linter.unusedVariables false
set_option linter.unusedSimpArgs false

-- STUB Derived.Test.YtibgcbngnfaaiaaDoorHs
/-! ### strings_Cut: function 102 (given) -/
def strings_Cut.f (a0 : ByteArray) (a1 : ByteArray) : Option (ByteArray × ByteArray × Bool) := H.cutS a0 a1
theorem strings_Cut.calls (a0 : ByteArray) (a1 : ByteArray) (r1 : ByteArray) (r2 : ByteArray) (r3 : Bool) (w : World) (h : strings_Cut.f a0 a1 = some (r1, r2, r3)) :
    Calls Tryd.prog 102 #[.string a0, .string a1] w fun e w' => e = .returned (.tuple #[.string r1, .string r2, .bool r3]) ∧ Drawn0 w w' :=
  H.cut_calls a0 a1 r1 r2 r3 w h

end Go.Proofs.YtibgcbngnfaaiaaDoor.PA
