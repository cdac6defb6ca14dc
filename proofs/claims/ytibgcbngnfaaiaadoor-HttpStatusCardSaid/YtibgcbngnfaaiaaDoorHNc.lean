/- strconv.FormatInt at base 16. · slices.Grow of nil, slices.Concat of rows of bytes. · slices.Chunk's iterator over a row of bytes. · chunk.Bytes: the region of one round, whatever order is drawn. · append onto a row that []byte(..) of a string has laid: its mark stands behind its last cell. -/
import Derived.Test.YtibgcbngnfaaiaaDoorWWords
import Derived.Test.YtibgcbngnfaaiaaDoorWMore
import Derived.Test.YtibgcbngnfaaiaaDoorProg
import Derived.WalkKit
import Derived.WalkLawsBesides
import Derived.WalkSpells
import Derived.Laws.BitsAllLaws
import Derived.Outline
import Derived.Test.YtibgcbngnfaaiaaDoorWZeros
import Derived.Deep.LoopGhost
import Derived.RangeFuncNested
import Derived.RangeFuncBound
import Derived.RangeFuncCalls
import Derived.RangeFuncLeaves
import Derived.RangeFuncFrom
import Derived.Shelf.Abstract
import Derived.Shelf.RegionOpen
import Derived.OwnWalkIn
import Derived.TacticsInMore
import Derived.LoopNIn
import Derived.LoopIn
import Derived.Test.YtibgcbngnfaaiaaDoorHNa
import Derived.Test.YtibgcbngnfaaiaaDoorWInvWords
import Derived.Lib.FrozenHead2
namespace Go.Proofs.YtibgcbngnfaaiaaDoor.H
open Go.RowKit Go.Proofs.YtibgcbngnfaaiaaDoorW.PrintWords Go.Proofs.YtibgcbngnfaaiaaDoorW.PrintLast Go.Proofs.YtibgcbngnfaaiaaDoorW.PrintMore
set_option linter.unusedVariables false
set_option linter.unusedSimpArgs false

/-- The array of digits, filled from place i on. -/
def Digs (W : World) (B i : Nat) (ds : List Int) : Prop := ∃ cs : Array Value, W.heap[B]? = some (.cells cs 133 (0, 0)) ∧ cs.size = 65 ∧ i ≤ 65 ∧ cs.toList.drop i = ds.map (Value.int .u8)
theorem Digs.put {W : World} {B i : Nat} {ds : List Int} (h : Digs W B (i + 1) ds) (x : Int) : Digs (W.setCell ⟨B, i, none⟩ (.int .u8 x)) B i (x :: ds) := by
  obtain ⟨cs, h1, h2, h3, h4⟩ := h
  refine ⟨_, blk_set h1 i _, by simp [h2], by omega, ?_⟩
  have h5 : i < cs.toList.length := by simp [h2]; omega
  rw [Array.toList_setIfInBounds, List.drop_set, if_neg (Nat.lt_irrefl _), Nat.sub_self, List.drop_eq_getElem_cons h5, List.set_cons_zero, h4, List.map_cons]
theorem Digs.cell {W : World} {B i : Nat} {ds : List Int} (h : Digs W B (i + 1) ds) : (∃ v, W.cell? ⟨B, i, none⟩ = some v) ∧ W.frozen? ⟨B, i, none⟩ = false := by
  obtain ⟨cs, h1, h2, h3, h4⟩ := h
  exact ⟨⟨cs[i]'(by omega), by rw [blk_cell h1 i]; simp [h2]⟩, blk_frozen h1 i⟩
theorem Digs.reads {W : World} {B i : Nat} {ds : List Int} (h : Digs W B i ds) : ds.length = 65 - i ∧ ∀ j, j < ds.length → W.cell? ⟨B, i + j, none⟩ = some (.int .u8 (ds.getD j 0)) := by
  obtain ⟨cs, h1, h2, h3, h4⟩ := h
  have hl : ds.length = 65 - i := by have := congrArg List.length h4; simp [h2] at this; omega
  refine ⟨hl, fun j hj => ?_⟩
  rw [blk_cell h1]
  have h5 : (cs.toList.drop i)[j]? = (ds.map (Value.int .u8))[j]? := by rw [h4]
  rw [List.getElem?_drop, Array.getElem?_toList] at h5
  rw [h5, List.getElem?_map, List.getElem?_eq_getElem hj]
  simp [List.getD_eq_getElem?_getD, List.getElem?_eq_getElem hj]
end Go.Proofs.YtibgcbngnfaaiaaDoor.H

namespace Go.Proofs.YtibgcbngnfaaiaaDoor.H
open Go.RowKit Go.Proofs.YtibgcbngnfaaiaaDoorW.PrintWords Go.Proofs.YtibgcbngnfaaiaaDoorW.PrintLast Go.Proofs.YtibgcbngnfaaiaaDoorW.PrintMore
set_option linter.unusedVariables false
set_option linter.unusedSimpArgs false

/-- Rows of bytes, read. -/
def Rows1 (w : World) (A : Option Addr) (ls : List (List Int)) : Prop :=
  ls.length ≤ 9223372036854775807 ∧ ∀ j, j < ls.length → ∃ ad Aj cj, A = some ad ∧ w.cell? (ad.add j) = some (.slice Aj (ls.getD j []).length cj) ∧ ReadsInt w .u8 Aj (ls.getD j []).length (ls.getD j [])
theorem Rows1.below {w w1 : World} {A : Option Addr} {ls : List (List Int)} (h : Rows1 w A ls) (hb : Below w.heap.size w w1) : Rows1 w1 A ls :=
  ⟨h.1, fun j hj => by
    obtain ⟨ad, Aj, cj, h1, h2, h3⟩ := h.2 j hj
    exact ⟨ad, Aj, cj, h1, pw_cell_below hb h2, h3.below hb⟩⟩
end Go.Proofs.YtibgcbngnfaaiaaDoor.H

namespace Go.Proofs.YtibgcbngnfaaiaaDoor.H
open Go.RowKit Go.Shelf Go.Proofs.YtibgcbngnfaaiaaDoorW.PrintWords Go.Proofs.YtibgcbngnfaaiaaDoorW.PrintLast Go.Proofs.YtibgcbngnfaaiaaDoorW.PrintMore
attribute [local go_sem] Oper.semAt_some max2_int min2_int
set_option linter.unusedVariables false
set_option linter.unusedSimpArgs false

/-- Part k of a row cut into parts of sz. -/
def Part (l : List Int) (sz : Nat) : Type := { k : Nat // k * sz < l.length }
def Part.len {l : List Int} {sz : Nat} (k : Part l sz) : Nat := min sz (l.length - k.1 * sz)
def Part.bytes {l : List Int} {sz : Nat} (k : Part l sz) : List Int := (l.drop (k.1 * sz)).take sz
def Part.enc {l : List Int} {sz : Nat} (A : Option Addr) (k : Part l sz) : Array Value := #[.slice (A.map (·.add (k.1 * sz))) k.len k.len]
end Go.Proofs.YtibgcbngnfaaiaaDoor.H

namespace Go.Proofs.YtibgcbngnfaaiaaDoor.H
open Go.RowKit Go.Shelf Go.Proofs.YtibgcbngnfaaiaaDoorW.PrintWords Go.Proofs.YtibgcbngnfaaiaaDoorW.PrintLast Go.Proofs.YtibgcbngnfaaiaaDoorW.PrintMore
set_option linter.unusedVariables false
set_option linter.unusedSimpArgs false

/-- Every cell stays (a block's mark may turn). -/
structure Mn (w w' : World) : Prop where
  size : w.heap.size ≤ w'.heap.size
  cells : ∀ (g : Nat) (C : Array Value) (e : TypeId) (fr : Nat × Nat), w.heap[g]? = some (.cells C e fr) → ∃ fr', w'.heap[g]? = some (.cells C e fr')
theorem Mn.refl (w : World) : Mn w w := ⟨Nat.le_refl _, fun g C e fr h => ⟨fr, h⟩⟩
theorem Mn.of_below {w w' : World} (h : Below w.heap.size w w') : Mn w w' := ⟨h.size, fun g C e fr hg => ⟨fr, (h.block g (Array.getElem?_eq_some_iff.1 hg).1).trans hg⟩⟩
theorem Mn.cell {w w' : World} (h : Mn w w') {p : Addr} {v : Value} (hc : w.cell? p = some v) : w'.cell? p = some v := by
  unfold World.cell? at hc ⊢
  split at hc
  · rename_i C e fr hg
    obtain ⟨fr', h'⟩ := h.cells _ _ _ _ hg
    rw [h']
    exact hc
  · cases hc
theorem Mn.reads {w w' : World} (h : Mn w w') {k : IntKind} {A : Option Addr} {n : Nat} {xs : List Int} (hr : ReadsInt w k A n xs) : ReadsInt w' k A n xs :=
  ⟨hr.1, hr.2.1, fun hn => by
    obtain ⟨ad, e, hc⟩ := hr.2.2 hn
    exact ⟨ad, e, fun j hj => h.cell (hc j hj)⟩⟩
theorem Mn.rows {w w' : World} (h : Mn w w') {A : Option Addr} {ls : List (List Int)} (hr : Rows1 w A ls) : Rows1 w' A ls :=
  ⟨hr.1, fun j hj => by
    obtain ⟨ad, Aj, cj, h1, h2, h3⟩ := hr.2 j hj
    exact ⟨ad, Aj, cj, h1, h.cell h2, h.reads h3⟩⟩
end Go.Proofs.YtibgcbngnfaaiaaDoor.H

namespace Go.Proofs.YtibgcbngnfaaiaaDoor.H
open Go.RowKit Go.Proofs.YtibgcbngnfaaiaaDoorW.PrintWords Go.Proofs.YtibgcbngnfaaiaaDoorW.PrintLast Go.Proofs.YtibgcbngnfaaiaaDoorW.PrintMore
set_option linter.unusedVariables false
set_option linter.unusedSimpArgs false

/-- A row of bytes of one's own, its mark behind all its cells (or none). -/
def MRow (w : World) (base : Nat) (e : TypeId) (v : Value) (xs : List Int) : Prop :=
  ∃ (g cap : Nat) (cur : Array Value) (fz : Nat × Nat), v = .slice (some ⟨g, 0, none⟩) xs.length cap ∧ base ≤ g ∧ w.heap[g]? = some (.cells cur e fz) ∧ (cap ≤ fz.1 ∨ fz = (0, 0)) ∧ xs.length ≤ cap ∧ cap ≤ maxLen ∧ cur.size = cap ∧ cur.toList.take xs.length = nums .u8 xs

theorem mrow_cells {w : World} {base : Nat} {e : TypeId} {xs : List Int} {g cap : Nat} {cur : Array Value} {fz : Nat × Nat} (hg : w.heap[g]? = some (.cells cur e fz)) (ht : cur.toList.take xs.length = nums .u8 xs) :
    ∀ j u, (nums .u8 xs)[j]? = some u → w.cell? ((⟨g, 0, none⟩ : Addr).add j) = some u := by
  intro j u hu
  have hadd : (⟨g, 0, none⟩ : Addr).add j = ⟨g, j, none⟩ := by unfold Addr.add; split <;> simp_all
  rw [hadd, cell_of_row w g j cur e fz hg]
  rw [← ht, List.getElem?_take] at hu
  split at hu
  · simpa using hu
  · cases hu
theorem MRow.reads {w : World} {base : Nat} {e : TypeId} {v : Value} {xs : List Int} (h : MRow w base e v xs) : ∃ A c, v = .slice A xs.length c ∧ xs.length ≤ c ∧ ReadsInt w .u8 A xs.length xs := by
  obtain ⟨g, cap, cur, fz, rfl, hb, hg, _, hn, hm, _, ht⟩ := h
  refine ⟨_, _, rfl, hn, rfl, by simp only [maxLen] at hm; omega, fun _ => ⟨_, rfl, fun j hj => ?_⟩⟩
  refine mrow_cells (base := base) (cap := cap) hg ht j _ ?_
  simp [nums, List.getD_eq_getElem?_getD, List.getElem?_eq_getElem hj]
section
variable {P : Program} {ops : Array Oper} {rest : List Oper} {o : Oper} {a : Act} {Q : Exit → Act → World → Prop}
end
end Go.Proofs.YtibgcbngnfaaiaaDoor.H
