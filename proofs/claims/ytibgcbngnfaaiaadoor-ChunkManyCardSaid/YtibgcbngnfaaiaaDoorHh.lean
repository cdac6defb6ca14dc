/- chunk.Open's deferred closure, in both modes. -/
import Derived.Test.YtibgcbngnfaaiaaDoorHb
import Derived.Recover
import Derived.RegionTactic
import Derived.BigRegion
import Derived.Outline
namespace Go.Proofs.YtibgcbngnfaaiaaDoor.H
open Go.RowKit Go.Proofs.YtibgcbngnfaaiaaDoorW.PrintWords Go.Proofs.YtibgcbngnfaaiaaDoorW.PrintLast Go.Proofs.YtibgcbngnfaaiaaDoorW.PrintMore
set_option linter.unusedVariables false
set_option linter.unusedSimpArgs false

theorem open1_idle (p q r : Addr) (w : World) :
    CallsD Tryd.prog 36 #[.pointer (some p), .pointer (some q), .pointer (some r)] .returning w fun e u' w' => e = .returned (.tuple #[]) ∧ u' = .returning ∧ w' = w := by
  refine callsD_of_wpS Tryd.func36 rfl fun c₀ cs hu => ?_
  apply wpS_seq
  apply wpS_region
  simp [wpOpsS, go_sem, recoverD, hu, Tryd.ntmps36, Exit.thenS]
  apply wpS_seq
  apply wpS_region
  simp [wpOpsS, go_sem, Exit.thenS, Array.replicate]
  refine wpS_cond (t := false) (by simp [Act.eval, Array.replicate]) ?_
  simp only [Bool.false_eq_true, if_false]
  refine wpS_of_wp (wp_skip ?_)
  cases c₀
  simp_all [bodyPostS, results, Tryd.results36]

theorem assert_stopped (x : Int) (W : World) : (Instr.typeAssert (.iface 64 (.agg #[.int .i64 x])) 20 64 true).run Tryd.prog W = .ok (.tuple #[.agg #[.int .i64 x], .bool true]) W := by
  simp [Instr.typeAssert, run_underlying Tryd.underlying64, go_sem]

set_option maxRecDepth 10000 in
set_option maxHeartbeats 1000000 in
theorem open1_catch (b0 b1 b2 : Nat) (x : Int) (u0 u1 u2 : Value) (t0 t1 t2 : TypeId) (w : World) (h0 : w.heap[b0]? = some (.cells #[u0] t0 (0, 0))) (h1 : w.heap[b1]? = some (.cells #[u1] t1 (0, 0))) (h2 : w.heap[b2]? = some (.cells #[u2] t2 (0, 0)))
    (n01 : b0 ≠ b1) (n02 : b0 ≠ b2) (n12 : b1 ≠ b2) :
    CallsD Tryd.prog 36 #[.pointer (some ⟨b0, 0, none⟩), .pointer (some ⟨b1, 0, none⟩), .pointer (some ⟨b2, 0, none⟩)] (.panicking (stopC x)) w fun e u' w' =>
      e = .returned (.tuple #[]) ∧ u' = .panicking [{ v := .iface 64 (.agg #[.int .i64 x]), recovered := true }] ∧
      ∃ n, w' = ((((w.drewN n).setCell ⟨b0, 0, none⟩ (.slice none 0 0)).setCell ⟨b1, 0, none⟩ (.int .i64 0)).setCell ⟨b2, 0, none⟩ (.int .i64 x)).alloc (.cells #[.int .i64 x] 64) := by
  have c0 : w.cell? ⟨b0, 0, none⟩ = some u0 := blk_cell h0 0
  have c1 : w.cell? ⟨b1, 0, none⟩ = some u1 := blk_cell h1 0
  have c2 : w.cell? ⟨b2, 0, none⟩ = some u2 := blk_cell h2 0
  have f0 : w.frozen? ⟨b0, 0, none⟩ = false := blk_frozen h0 0
  have f1 : w.frozen? ⟨b1, 0, none⟩ = false := blk_frozen h1 0
  have f2 : w.frozen? ⟨b2, 0, none⟩ = false := blk_frozen h2 0
  have l0 := blk_lt h0
  have l1 := blk_lt h1
  have l2 := blk_lt h2
  have hta := assert_stopped x
  unfold stopC
  refine callsD_of_wpS Tryd.func36 rfl fun c₀ cs hu => ?_
  apply wpS_seq
  apply wpS_region
  simp [wpOpsS, go_sem, recoverD, hu, Tryd.ntmps36, Exit.thenS]
  apply wpS_seq
  apply wpS_region
  simp [wpOpsS, go_sem, Exit.thenS, Array.replicate]
  refine wpS_cond (t := true) (by simp [Act.eval, Array.replicate]) ?_
  simp only [if_true]
  refine wpS_of_wp ?_
  go_wp2
  go_region
  go_wp2
  refine ⟨rfl, _, rfl, _, results_none rfl _ _ _, rfl, rfl, ?_⟩
  exact ⟨1, rfl⟩
end Go.Proofs.YtibgcbngnfaaiaaDoor.H
