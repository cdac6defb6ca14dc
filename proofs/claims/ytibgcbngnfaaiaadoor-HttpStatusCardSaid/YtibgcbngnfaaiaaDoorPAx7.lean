-- Written by a program of this session: the kit's print.py over given contracts (wip/pr2.py, wip/prall.sh).
import Derived.Test.YtibgcbngnfaaiaaDoorPAx0
import Derived.Test.YtibgcbngnfaaiaaDoorHNa
namespace Go.Proofs.YtibgcbngnfaaiaaDoor.PA
open Go.RowKit Go.Proofs.YtibgcbngnfaaiaaDoorW.PrintWords Go.Proofs.YtibgcbngnfaaiaaDoorW.PrintLast Go.Proofs.YtibgcbngnfaaiaaDoorW.PrintMore
attribute [local go_sem] max2_int min2_int max_two min_two max_three min_three max_four min_four   -- for this text's walks alone
set_option linter.unusedVariables false
set_option linter.unusedSimpArgs false

-- STUB Derived.Test.YtibgcbngnfaaiaaDoorHu
/-! ### ambryref10_line: function 41 (given) -/
def ambryref10_line.f (l0 : List Int) (a1 : Int) : Option (ByteArray × Int × Int) := if 0 ≤ a1 ∧ a1 ≤ (l0.length : Int) ∧ l0.length ≤ 4611686018427387904 then some (H.rlineF l0 a1.toNat) else none
theorem ambryref10_line.calls (A0 : Option Addr) (c0 : Nat) (l0 : List Int) (a1 : Int) (r1 : ByteArray) (r2 : Int) (r3 : Int) (w : World) (hr0 : Kd.C (Kd.int .u8) w A0 l0.length l0) (hc0 : l0.length ≤ c0) (h : ambryref10_line.f l0 a1 = some (r1, r2, r3)) :
    Calls Tryd.prog 41 #[.slice A0 l0.length c0, .int .i64 a1] w fun e w' => e = .returned (.tuple #[.string r1, .int .i64 r2, .int .i64 r3]) ∧ Drawn0 w w' := by
  unfold ambryref10_line.f at h
  split at h
  · rename_i hc
    obtain ⟨n, rfl⟩ := Int.eq_ofNat_of_zero_le hc.1
    simp only [Int.toNat_natCast, Option.some.injEq] at h
    have hk := H.rline_calls A0 c0 l0 n w (Kd.reads_of_C hr0) hc0 (by omega) hc.2.2
    rw [h] at hk
    exact hk
  · cases h

end Go.Proofs.YtibgcbngnfaaiaaDoor.PA
