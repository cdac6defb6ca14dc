/- chunk.must: two contracts -/
import Derived.Test.YtibgcbngnfaaiaaDoorProg
import Derived.Test.YtibgcbngnfaaiaaDoorWWords
import Derived.Test.YtibgcbngnfaaiaaDoorWLast
import Derived.Test.YtibgcbngnfaaiaaDoorWMore
import Derived.WalkKit
import Derived.Deep.LoopGhost
import Derived.Deep.QuietTactic
import Derived.BigQuiet
import Derived.WalkLawsBesides
import Derived.WalkSpells
namespace Go.Proofs.YtibgcbngnfaaiaaDoor.H
open Go.RowKit Go.Proofs.YtibgcbngnfaaiaaDoorW.PrintWords Go.Proofs.YtibgcbngnfaaiaaDoorW.PrintLast Go.Proofs.YtibgcbngnfaaiaaDoorW.PrintMore
set_option linter.unusedVariables false
set_option linter.unusedSimpArgs false

theorem must_ok (e : Int) (w : World) :
    Calls Tryd.prog 70 #[.bool true, .int .i64 e] w fun en w' => en = .returned (.tuple #[]) ∧ w = w' := by
  go_enter Tryd.func70, Tryd.ntmps70
  go_wp2
  go_end0
  exact ⟨rfl, rfl⟩

theorem must_no (e : Int) (w : World) :
    Calls Tryd.prog 70 #[.bool false, .int .i64 e] w fun en w' => en = .panicked [{ v := .iface 64 (.agg #[.int .i64 e]), recovered := false }] ∧ w = w' := by
  go_enter Tryd.func70, Tryd.ntmps70
  go_wp2
  exact ⟨rfl, rfl, rfl⟩

end Go.Proofs.YtibgcbngnfaaiaaDoor.H
