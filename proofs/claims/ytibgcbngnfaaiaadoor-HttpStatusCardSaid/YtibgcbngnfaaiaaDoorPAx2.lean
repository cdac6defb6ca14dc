-- Written by a program of this session: the kit's print.py over given contracts (wip/pr2.py, wip/prall.sh).
import Derived.Test.YtibgcbngnfaaiaaDoorPAx0
import Derived.Test.YtibgcbngnfaaiaaDoorHs
namespace Go.Proofs.YtibgcbngnfaaiaaDoor.PA
open Go.RowKit Go.Proofs.YtibgcbngnfaaiaaDoorW.PrintWords Go.Proofs.YtibgcbngnfaaiaaDoorW.PrintLast Go.Proofs.YtibgcbngnfaaiaaDoorW.PrintMore
attribute [local go_sem] max2_int min2_int max_two min_two max_three min_three max_four min_four   -- for this text's walks alone
set_option linter.unusedVariables false
set_option linter.unusedSimpArgs false

-- STUB Derived.Test.YtibgcbngnfaaiaaDoorHs
/-! ### strings_IndexByte: function 76 (given) -/
def strings_IndexByte.f (a0 : ByteArray) (a1 : Int) : Option Int := some (H.indexByteS a0 a1)
theorem strings_IndexByte.calls (a0 : ByteArray) (a1 : Int) (r : Int) (w : World) (h : strings_IndexByte.f a0 a1 = some r) :
    Calls Tryd.prog 76 #[.string a0, .int .u8 a1] w fun e w' => e = .returned (.int .i64 r) ∧ Drawn0 w w' := by
  simp only [strings_IndexByte.f, Option.some.injEq] at h
  subst h
  exact H.indexByte_calls a0 a1 w

end Go.Proofs.YtibgcbngnfaaiaaDoor.PA
