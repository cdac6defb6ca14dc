/- strconv.FormatInt at base 16. · slices.Grow of nil, slices.Concat of rows of bytes. · slices.Chunk's iterator over a row of bytes. · chunk.Bytes: the region of one round, whatever order is drawn. · chunk.Bytes. -/
import Derived.Test.YtibgcbngnfaaiaaDoorWWords
import Derived.Test.YtibgcbngnfaaiaaDoorWMore
import Derived.Test.YtibgcbngnfaaiaaDoorProg
import Derived.WalkKit
import Derived.WalkLawsBesides
import Derived.WalkSpells
import Derived.Laws.BitsAllLaws
import Derived.Outline
import Derived.Test.YtibgcbngnfaaiaaDoorWZeros
import Derived.Deep.LoopGhost
import Derived.RangeFuncNested
import Derived.RangeFuncBound
import Derived.RangeFuncCalls
import Derived.RangeFuncLeaves
import Derived.RangeFuncFrom
import Derived.Shelf.Abstract
import Derived.Shelf.RegionOpen
import Derived.OwnWalkIn
import Derived.TacticsInMore
import Derived.LoopNIn
import Derived.LoopIn
import Derived.Test.YtibgcbngnfaaiaaDoorHb
import Derived.Test.YtibgcbngnfaaiaaDoorWInvWords
import Derived.RangeFuncBox
namespace Go.Proofs.YtibgcbngnfaaiaaDoor.H
open Go.RowKit Go.Proofs.YtibgcbngnfaaiaaDoorW.PrintWords Go.Proofs.YtibgcbngnfaaiaaDoorW.PrintLast Go.Proofs.YtibgcbngnfaaiaaDoorW.PrintMore
set_option linter.unusedVariables false
set_option linter.unusedSimpArgs false

/-- What math/bits' table holds at its place 15. -/
def Tz (w : World) : Prop := w.cell? ⟨3, 15, none⟩ = some (.int .u8 4)

theorem tz_below {w w1 : World} (h : Tz w) (hb : Below w.heap.size w w1) : Tz w1 := pw_cell_below hb h

theorem tz64_calls (x k idx : Nat) (w : World) (hx0 : ((x : Int) == 0) = false)
    (key : IntKind.u64.wrap (bits BinOp.and IntKind.u64 (x : Int) (IntKind.u64.wrap (-(x : Int))) * 285870213051353865) / 288230376151711744 = (idx : Int))
    (hi : idx < 64) (hk : k < 64) (hcell : w.cell? ⟨3, idx, none⟩ = some (.int .u8 k)) :
    Calls Tryd.prog 124 #[.int .u64 x] w fun e w' => e = .returned (.int .i64 k) ∧ w = w' := by
  go_enter Tryd.func124, Tryd.ntmps124
  go_wp2_with (simp only [key])
  go_ret
  exact ⟨rfl, rfl⟩
theorem tz_calls (w : World) (h : Tz w) : Calls Tryd.prog 112 #[.int .u64 16] w fun e w' => e = .returned (.int .i64 4) ∧ w = w' := by
  go_enter Tryd.func112, Tryd.ntmps112
  go_wp2_with (go_at_call 124; refine (tz64_calls 16 4 15 w (by decide) (by decide +kernel) (by decide) (by decide) h).mono ?_; rintro e w' ⟨rfl, rfl⟩)
  go_ret
  exact ⟨rfl, rfl⟩
theorem pow2_calls (w : World) : Calls Tryd.prog 111 #[.int .i64 16] w fun e w' => e = .returned (.bool true) ∧ w = w' := by
  have h : bits .and .i64 16 15 = 0 := by decide +kernel
  go_enter Tryd.func111, Tryd.ntmps111
  go_wp2
  go_ret
  exact ⟨rfl, rfl⟩

/-- A hexadecimal digit. -/
def hexD (d : Nat) : Int := if d < 10 then 48 + d else 87 + d
def hexL : Nat → Nat → List Int
  | 0, _ => []
  | k + 1, u => if u < 16 then [hexD u] else hexL k (u / 16) ++ [hexD (u % 16)]
theorem hexL_small (k u : Nat) (h : u < 16) : hexL (k + 1) u = [hexD u] := by rw [hexL, if_pos h]
theorem hexL_great (k u : Nat) (h : ¬ u < 16) : hexL (k + 1) u = hexL k (u / 16) ++ [hexD (u % 16)] := by rw [hexL, if_neg h]
theorem and15 (u : Nat) (h : u < 18446744073709551616) : bits .and .u64 (u : Int) 15 = ((u % 16 : Nat) : Int) := by
  have h1 := u64_and_nat u 15 h (by omega)
  have h2 : u &&& 15 = u % 16 := Nat.and_two_pow_sub_one_eq_mod u 4
  rw [h2] at h1
  exact h1
theorem digit_at (v : Nat) (hv : v < 16) : ∀ h : v < (⟨#[48, 49, 50, 51, 52, 53, 54, 55, 56, 57, 97, 98, 99, 100, 101, 102, 103, 104, 105, 106, 107, 108, 109, 110, 111, 112, 113, 114, 115, 116, 117, 118, 119, 120, 121, 122]⟩ : ByteArray).size,
    (((⟨#[48, 49, 50, 51, 52, 53, 54, 55, 56, 57, 97, 98, 99, 100, 101, 102, 103, 104, 105, 106, 107, 108, 109, 110, 111, 112, 113, 114, 115, 116, 117, 118, 119, 120, 121, 122]⟩ : ByteArray)[v]'h).toNat : Int) = hexD v := by
  have : ∀ v : Fin 16, ∀ h : v.1 < (⟨#[48, 49, 50, 51, 52, 53, 54, 55, 56, 57, 97, 98, 99, 100, 101, 102, 103, 104, 105, 106, 107, 108, 109, 110, 111, 112, 113, 114, 115, 116, 117, 118, 119, 120, 121, 122]⟩ : ByteArray).size,
    (((⟨#[48, 49, 50, 51, 52, 53, 54, 55, 56, 57, 97, 98, 99, 100, 101, 102, 103, 104, 105, 106, 107, 108, 109, 110, 111, 112, 113, 114, 115, 116, 117, 118, 119, 120, 121, 122]⟩ : ByteArray)[v.1]'h).toNat : Int) = hexD v.1 := by decide
  exact this ⟨v, hv⟩

/-- The array of digits, filled from place i on. -/
def Digs (W : World) (B i : Nat) (ds : List Int) : Prop := ∃ cs : Array Value, W.heap[B]? = some (.cells cs 133 (0, 0)) ∧ cs.size = 65 ∧ i ≤ 65 ∧ cs.toList.drop i = ds.map (Value.int .u8)
theorem Digs.put {W : World} {B i : Nat} {ds : List Int} (h : Digs W B (i + 1) ds) (x : Int) : Digs (W.setCell ⟨B, i, none⟩ (.int .u8 x)) B i (x :: ds) := by
  obtain ⟨cs, h1, h2, h3, h4⟩ := h
  refine ⟨_, blk_set h1 i _, by simp [h2], by omega, ?_⟩
  have h5 : i < cs.toList.length := by simp [h2]; omega
  rw [Array.toList_setIfInBounds, List.drop_set, if_neg (Nat.lt_irrefl _), Nat.sub_self, List.drop_eq_getElem_cons h5, List.set_cons_zero, h4, List.map_cons]
theorem Digs.cell {W : World} {B i : Nat} {ds : List Int} (h : Digs W B (i + 1) ds) : (∃ v, W.cell? ⟨B, i, none⟩ = some v) ∧ W.frozen? ⟨B, i, none⟩ = false := by
  obtain ⟨cs, h1, h2, h3, h4⟩ := h
  exact ⟨⟨cs[i]'(by omega), by rw [blk_cell h1 i]; simp [h2]⟩, blk_frozen h1 i⟩
theorem Digs.reads {W : World} {B i : Nat} {ds : List Int} (h : Digs W B i ds) : ds.length = 65 - i ∧ ∀ j, j < ds.length → W.cell? ⟨B, i + j, none⟩ = some (.int .u8 (ds.getD j 0)) := by
  obtain ⟨cs, h1, h2, h3, h4⟩ := h
  have hl : ds.length = 65 - i := by have := congrArg List.length h4; simp [h2] at this; omega
  refine ⟨hl, fun j hj => ?_⟩
  rw [blk_cell h1]
  have h5 : (cs.toList.drop i)[j]? = (ds.map (Value.int .u8))[j]? := by rw [h4]
  rw [List.getElem?_drop, Array.getElem?_toList] at h5
  rw [h5, List.getElem?_map, List.getElem?_eq_getElem hj]
  simp [List.getD_eq_getElem?_getD, List.getElem?_eq_getElem hj]
theorem Digs.readsInt {W : World} {B i : Nat} {ds : List Int} (h : Digs W B i ds) : ReadsInt W .u8 (some ⟨B, i, none⟩) (65 - i) ds := by
  obtain ⟨h1, h2⟩ := h.reads
  refine ⟨h1, by omega, fun _ => ⟨_, rfl, fun j hj => ?_⟩⟩
  have h3 := h2 j (by omega)
  have h4 : (⟨B, i, none⟩ : Addr).add j = ⟨B, i + j, none⟩ := by unfold Addr.add; split <;> simp_all
  rw [h4]
  exact h3
theorem slice65 (W : World) (B j : Nat) (hj : j ≤ 64) : (Instr.sliceAt 133 (.pointer (some ⟨B, 0, none⟩)) (some (.int .i64 (j : Int))) none none).run Tryd.prog W = .ok (.slice (some ⟨B, j, none⟩) (65 - j) (65 - j)) W := by
  have hl : Tryd.prog.arrayLen 133 = 65 := by kernel_rfl
  have he : Tryd.prog.elem 133 = 5 := by kernel_rfl
  have ht : Tryd.prog.underlying 133 = some (.array (Tryd.prog.arrayLen 133) (Tryd.prog.elem 133)) := by rw [hl, he]; exact Tryd.underlying133
  rw [run_sliceAt_array_l W 133 _ ht .i64 (j : Int) (by omega) (by rw [hl]; omega), hl, he, Tryd.sizeOf5]
  simp only [Result.andThen, slicedAt, Int.toNat_natCast]
  have hne : ¬ 65 = j := by omega
  rw [if_neg hne]
  have h4 : (⟨B, 0, none⟩ : Addr).add (j * 1) = ⟨B, j, none⟩ := by unfold Addr.add; split <;> simp_all
  rw [h4]

set_option maxHeartbeats 4000000 in
set_option maxRecDepth 100000 in
theorem formatBits_calls (U : Nat) (w : World) (hU : U < 18446744073709551616) (hT : Tz w) :
    Calls Tryd.prog 91 #[.slice none 0 0, .int .u64 U, .int .i64 16, .bool false, .bool false] w fun e w' => e = .returned (.tuple #[.slice none 0 0, .string (strOfNums (hexL 17 U))]) ∧ Below w.heap.size w w' := by
  have HT := Aside0.mk hT
  clear hT
  go_enter Tryd.func91, Tryd.ntmps91
  go_wp2_with (first
    | (go_at_call 111; ((with_reducible refine (pow2_calls _).mono ?_); rintro e w' ⟨rfl, rfl⟩))
    | (go_at_call 112; ((with_reducible refine (tz_calls _ (tz_below HT.out (below_alloc (Below.refl _ _) _))).mono ?_); rintro e w' ⟨rfl, rfl⟩)))
  go_loopw [1, 13] (fun v1 v13 wr => ∃ (u i : Nat) (ds : List Int), v1 = .int .u64 u ∧ v13 = .int .i64 i ∧ Aside0 (49 ≤ i ∧ u < 16 ^ (i - 49) ∧ u < 18446744073709551616) ∧ Aside0 (Digs wr w.heap.size i ds) ∧ Aside0 (Below w.heap.size w wr) ∧ Aside0 (hexL 17 U = hexL (i - 48) u ++ ds)) (fun _ v13 _ => (intOf v13).toNat)
  case atStart => exact ⟨U, 65, [], rfl, rfl, ⟨by omega, by simpa using hU, hU⟩, ⟨_, blk_new _ _, by kernel_rfl, Nat.le_refl _, by simp⟩, ⟨below_alloc (Below.refl _ _) _⟩, ⟨by simp⟩⟩
  case round =>
    obtain ⟨u, i, ds, rfl, rfl, HI, HD, HB, HE⟩ := hrel
    by_cases hge : 16 ≤ u
    · have hge' : decide ((16 : Int) ≤ (u : Int)) = true := by simp; omega
      obtain ⟨j, rfl⟩ : ∃ j, i = j + 1 := ⟨i - 1, by have := HI.out; omega⟩
      have hj : 50 ≤ j := by
        rcases Nat.lt_or_ge j 50 with h | h
        · have h1 := HI.out.2.1
          have h2 : (16 : Nat) ^ (j + 1 - 49) ≤ 16 ^ 1 := Nat.pow_le_pow_right (by omega) (by omega)
          omega
        · exact h
      have hj2 : j < 65 := by obtain ⟨cs, _, _, h3, _⟩ := HD.out; omega
      obtain ⟨⟨vo, hc⟩, hf⟩ := Digs.cell HD.out
      obtain ⟨v, hv⟩ : ∃ v, v = u % 16 := ⟨_, rfl⟩
      have hv16 : v < 16 := by omega
      have hand : bits .and .u64 (u : Int) 15 = (v : Int) := by rw [hv]; exact and15 u HI.out.2.2
      have hdg := digit_at v hv16
      have HF : Aside0 (hexL 17 U = hexL (j - 48) (u / 16) ++ (hexD v :: ds)) := ⟨by
        rw [HE.out, show j + 1 - 48 = (j - 48) + 1 from by omega, hexL_great _ _ (by omega), hv]; simp⟩
      have HI2 : Aside0 (49 ≤ j ∧ u / 16 < 16 ^ (j - 49) ∧ u / 16 < 18446744073709551616) := ⟨by omega, Nat.div_lt_of_lt_mul (by have h1 := HI.out.2.1; rw [show j + 1 - 49 = (j - 49) + 1 from by omega, Nat.pow_succ] at h1; omega), by have := HI.out.2.2; omega⟩
      have hu : u < 18446744073709551616 := HI.out.2.2
      have HU := Aside0.mk hu
      clear hv hu
      go_wp2
      go_roundw
      case rel => exact ⟨u / 16, j, hexD v :: ds, rfl, rfl, HI2, ⟨HD.out.put _⟩, ⟨HB.out.setCell (Nat.le_refl _) _⟩, HF⟩
      case measure => simp [intOf]
    · have hge' : decide ((16 : Int) ≤ (u : Int)) = false := by simp; omega
      obtain ⟨j, rfl⟩ : ∃ j, i = j + 1 := ⟨i - 1, by have := HI.out; omega⟩
      have hj : 48 ≤ j := by have := HI.out; omega
      have hj2 : j < 65 := by obtain ⟨cs, _, _, h3, _⟩ := HD.out; omega
      obtain ⟨⟨vo, hc⟩, hf⟩ := Digs.cell HD.out
      have hv16 : u < 16 := by omega
      have hdg := digit_at u hv16
      have HF : Aside0 (hexL 17 U = hexD u :: ds) := ⟨by
        rw [HE.out, show j + 1 - 48 = (j - 48) + 1 from by omega, hexL_small _ _ hv16]; simp⟩
      have hsl : ∀ W, (Instr.sliceAt 133 (.pointer (some ⟨w.heap.size, 0, none⟩)) (some (.int .i64 (j : Int))) none none).run Tryd.prog W = .ok (.slice (some ⟨w.heap.size, j, none⟩) (65 - j) (65 - j)) W := fun W => slice65 W _ j (by omega)
      have HD2 := HD.out.put (hexD u)
      have hrd : ReadsInt (wr.setCell ⟨w.heap.size, j, none⟩ (.int .u8 (hexD u))) .u8 (some ⟨w.heap.size, j, none⟩) (65 - j) (hexD u :: ds) := HD2.readsInt
      have hcv := string_of_reads (P := Tryd.prog) (src := 22) (dst := 9) Tryd.underlying22 Tryd.underlying5 Tryd.underlying9 (c := 65 - j) hrd
      clear hrd HD2
      go_wp2
      go_ret2
      exact ⟨by rw [HF.out]; rfl, HB.out.setCell (Nat.le_refl _) _⟩

theorem formatInt_calls (n : Nat) (w : World) (hn : n ≤ 9223372036854775807) (hT : Tz w) :
    Calls Tryd.prog 35 #[.int .i64 n, .int .i64 16] w fun e w' => e = .returned (.string (strOfNums (hexL 17 n))) ∧ Below w.heap.size w w' := by
  have HT := Aside0.mk hT
  have hn0 : decide ((n : Int) < 0) = false := by simp
  clear hT
  go_enter Tryd.func35, Tryd.ntmps35
  go_wp2_with (first
    | (go_at_call 91; ((with_reducible refine (formatBits_calls n _ (by omega) HT.out).mono ?_); rintro e w1 ⟨rfl, hb⟩; replace hb := Aside0.mk hb))
    | (go_at_call 66; go_in))
  go_ret
  exact ⟨rfl, hb.out⟩
end Go.Proofs.YtibgcbngnfaaiaaDoor.H

namespace Go.Proofs.YtibgcbngnfaaiaaDoor.H
open Go.RowKit Go.Proofs.YtibgcbngnfaaiaaDoorW.PrintWords Go.Proofs.YtibgcbngnfaaiaaDoorW.PrintLast Go.Proofs.YtibgcbngnfaaiaaDoorW.PrintMore
set_option linter.unusedVariables false
set_option linter.unusedSimpArgs false

theorem j5 : (Tryd.prog.info? 5).map (fun i => (i.zero, i.size, i.bytes)) = some (some (.int .u8 0), 1, 1) := by kernel_rfl

set_option maxHeartbeats 1000000 in
theorem grow_calls (n : Nat) (w : World) (hn : n ≤ 140737488355328) :
    Calls Tryd.prog 65 #[.slice none 0 0, .int .i64 n] w fun e w' => ∃ v, e = .returned v ∧ Kd.R (Kd.int .u8) 5 w' w.heap.size (fun _ => True) v ([] : List Int) ∧ Below w.heap.size w w' := by
  have hn0 : decide ((n : Int) < 0) = false := by simp
  by_cases h0 : 0 < n
  · have h0' : decide ((0 : Int) < (n : Int)) = true := by simp; omega
    go_enter Tryd.func65, Tryd.ntmps65
    go_wp2_with (at_builtin; refine Kd.R_append_zeros (Kd.int .u8) (w0 := w) w.heap.size rfl (.tmp 20) (.tmp 21) 22 3 5 (.int .u8 0) 1 rfl Tryd.underlying22 Tryd.underlying3 j5 rfl (by decide) (by decide) (.slice none 0 0) [] 0 (n : Int) (fun _ => True) rfl rfl (by rfl) (fun _ _ => trivial) (Kd.R_nil _ _ _ _ _) (by omega) (Below.refl _ _) (Nat.le_refl _) (by simp; omega) ?_; intro v1 w1 hR hB hg hat; clear hat hg; obtain ⟨A1, c1, rfl⟩ := Kd.R_slice hR; replace hR := Aside0.mk hR; replace hB := Aside0.mk hB)
    go_ret
    exact ⟨_, rfl, by simpa using Kd.R_take hR.out (m := 0) (Nat.zero_le _), hB.out⟩
  · have h0' : decide ((0 : Int) < (n : Int)) = false := by simp; omega
    go_enter Tryd.func65, Tryd.ntmps65
    go_wp2
    go_ret
    exact ⟨_, rfl, Kd.R_nil _ _ _ _ _, Below.refl _ _⟩

/-- Rows of bytes, read. -/
def Rows1 (w : World) (A : Option Addr) (ls : List (List Int)) : Prop :=
  ls.length ≤ 9223372036854775807 ∧ ∀ j, j < ls.length → ∃ ad Aj cj, A = some ad ∧ w.cell? (ad.add j) = some (.slice Aj (ls.getD j []).length cj) ∧ ReadsInt w .u8 Aj (ls.getD j []).length (ls.getD j [])
theorem Rows1.below {w w1 : World} {A : Option Addr} {ls : List (List Int)} (h : Rows1 w A ls) (hb : Below w.heap.size w w1) : Rows1 w1 A ls :=
  ⟨h.1, fun j hj => by
    obtain ⟨ad, Aj, cj, h1, h2, h3⟩ := h.2 j hj
    exact ⟨ad, Aj, cj, h1, pw_cell_below hb h2, h3.below hb⟩⟩
theorem flat_le (ls : List (List Int)) (k : Nat) (h : k < ls.length) : (ls.take (k + 1)).flatten = (ls.take k).flatten ++ ls.getD k [] := by
  rw [List.take_succ_eq_append_getElem h, List.flatten_append, List.flatten_cons, List.flatten_nil, List.append_nil, List.getD_eq_getElem?_getD, List.getElem?_eq_getElem h]
  rfl
theorem flat_len (ls : List (List Int)) (k : Nat) : (ls.take k).flatten.length ≤ ls.flatten.length := by
  have h := congrArg (fun l => (List.flatten l).length) (List.take_append_drop k ls)
  simp only [List.flatten_append, List.length_append] at h
  omega

set_option maxHeartbeats 4000000 in
set_option maxRecDepth 100000 in
theorem concat_calls (A : Option Addr) (c : Nat) (ls : List (List Int)) (w : World) (hr : Rows1 w A ls) (hl : ls.flatten.length ≤ 140737488355328) :
    Calls Tryd.prog 34 #[.slice A ls.length c] w fun e w' => ∃ v, e = .returned v ∧ Kd.R (Kd.int .u8) 5 w' w.heap.size (fun _ => True) v ls.flatten ∧ Below w.heap.size w w' := by
  have HR := Aside0.mk hr
  have hn := hr.1
  clear hr
  go_enter Tryd.func34, Tryd.ntmps34
  go_wp2
  go_loop [3, 11] (fun v3 v11 => ∃ k : Nat, k ≤ ls.length ∧ v11 = .int .i64 k ∧ v3 = .int .i64 ((ls.take k).flatten.length : Nat)) (fun _ v11 => ls.length - (intOf v11).toNat)
  case atStart => exact ⟨0, Nat.zero_le _, rfl, by simp⟩
  case round =>
    obtain ⟨k, hk, rfl, rfl⟩ := hrel
    have hfl := flat_len ls k
    by_cases hlt : k < ls.length
    · have hlt' : decide ((k : Int) < (ls.length : Int)) = true := by simp; omega
      obtain ⟨ad, Aj, cj, hA, hc, hrd⟩ := HR.out.2 k hlt
      subst hA
      have hfs := flat_le ls k hlt
      have hfl2 := flat_len ls (k + 1)
      rw [hfs, List.length_append] at hfl2
      obtain ⟨m, hm⟩ : ∃ m, m = (ls.take k).flatten.length := ⟨_, rfl⟩
      obtain ⟨q, hq⟩ : ∃ q, q = (ls.getD k []).length := ⟨_, rfl⟩
      rw [← hm] at hfl2 hfl
      rw [← hq] at hfl2 hc
      rw [← hm]
      have HF : Aside0 ((ls.take (k + 1)).flatten.length = m + q) := ⟨by rw [hfs, List.length_append, hm, hq]⟩
      clear hm hq hrd hfs
      have hneg : decide ((m : Int) + (q : Int) < 0) = false := by simp; omega
      go_wp2
      go_round
      case rel => exact ⟨k + 1, by omega, by go_num, by rw [HF.out]; go_num⟩
      case measure => simp [intOf]; omega
    · have hlt' : decide ((k : Int) < (ls.length : Int)) = false := by simp; omega
      obtain rfl : k = ls.length := by omega
      obtain ⟨m, hm⟩ : ∃ m, m = (ls.take ls.length).flatten.length := ⟨_, rfl⟩
      rw [← hm]
      have hm2 : m ≤ 140737488355328 := by rw [hm]; omega
      clear hm
      go_wp2_with (go_at_call 65; ((with_reducible refine (grow_calls m _ hm2).mono ?_); rintro e w1 ⟨v1, rfl, hR1, hB1⟩; obtain ⟨A1, c1, rfl⟩ := Kd.R_slice hR1; replace hR1 := Aside0.mk hR1; replace hB1 := Aside0.mk hB1))
      go_loopw [6, 27] (fun v6 v27 wr => ∃ k : Nat, k ≤ ls.length ∧ v27 = .int .i64 k ∧ Aside0 (Kd.R (Kd.int .u8) 5 wr w.heap.size (fun _ => True) v6 (ls.take k).flatten) ∧ Aside0 (Below w.heap.size w wr)) (fun _ v27 _ => ls.length - (intOf v27).toNat)
      case atStart => exact ⟨0, Nat.zero_le _, rfl, by simpa using hR1, hB1⟩
      case round =>
        obtain ⟨k, hk, rfl, hR, hB⟩ := hrel
        by_cases hlt : k < ls.length
        · have hlt' : decide ((k : Int) < (ls.length : Int)) = true := by simp; omega
          obtain ⟨ad, Aj, cj, hA, hc, hrd⟩ := (HR.out.below hB.out).2 k hlt
          subst hA
          have hfs := flat_le ls k hlt
          have hfl2 := flat_len ls (k + 1)
          rw [hfs, List.length_append] at hfl2
          have HFS := Aside0.mk hfs
          have HRD := Aside0.mk hrd
          have hown := Aside0.mk (Kd.own_of_R hR.out)
          have HLE : Aside0 ((ls.take k).flatten.length + (ls.getD k []).length ≤ 140737488355328) := ⟨by omega⟩
          have HBS := Aside0.mk hB.out.size
          obtain ⟨q, hq⟩ : ∃ q, q = (ls.getD k []).length := ⟨_, rfl⟩
          rw [← hq] at hc
          have HQ := Aside0.mk hq
          clear hfs hrd hfl2 hq
          obtain ⟨Ak, ck, rfl⟩ := Kd.R_slice hR.out
          go_wp2_with (at_builtin; refine print_append_row (w0 := w) w.heap.size rfl (.tmp 31) (.tmp 32) 22 5 .u8 1 rfl Tryd.underlying22 j5 (by decide) _ (ls.take k).flatten (ls.getD k []) Aj q cj rfl rfl hown.out (by rw [HQ.out]; exact HRD.out) hB.out HBS.out (by rw [HQ.out]; have := HLE.out; omega) ?_; intro v1 w1 ho1 hb1 hg1 hat1; clear hg1 hat1; replace ho1 := Aside0.mk ho1; replace hb1 := Aside0.mk hb1)
          go_roundw
          case rel => exact ⟨k + 1, by omega, by go_num, ⟨by rw [HFS.out]; exact Kd.R_of_own ho1.out (fun _ _ => trivial)⟩, hb1⟩
          case measure => simp [intOf]; omega
        · have hlt' : decide ((k : Int) < (ls.length : Int)) = false := by simp; omega
          obtain rfl : k = ls.length := by omega
          go_wp2
          go_ret
          exact ⟨_, rfl, by simpa using hR.out, hB.out⟩
end Go.Proofs.YtibgcbngnfaaiaaDoor.H

namespace Go.Proofs.YtibgcbngnfaaiaaDoor.H
open Go.RowKit Go.Shelf Go.Proofs.YtibgcbngnfaaiaaDoorW.PrintWords Go.Proofs.YtibgcbngnfaaiaaDoorW.PrintLast Go.Proofs.YtibgcbngnfaaiaaDoorW.PrintMore
attribute [local go_sem] Oper.semAt_some max2_int min2_int
set_option linter.unusedVariables false
set_option linter.unusedSimpArgs false

theorem chunk_calls (A : Option Addr) (n c : Nat) (sz : Int) (w : World) (h1 : 1 ≤ sz) :
    Calls Tryd.prog 33 #[.slice A n c, .int .i64 sz] w fun e w' => e = .returned (.func (.func 64) #[] #[.pointer (some ⟨w.heap.size, 0, none⟩), .pointer (some ⟨w.heap.size + 1, 0, none⟩)]) ∧
      w' = (w.alloc (.cells #[.slice A n c] 22)).alloc (.cells #[.int .i64 sz] 3) := by
  have hmf : ∀ (fn : Fn) (first cap : Array Value) (w : World), (Instr.makeFunc fn first cap).run Tryd.prog w = .ok (.func fn first cap) w := fun _ _ _ _ => rfl
  have h1' : decide (sz < 1) = false := by simp; omega
  go_enter Tryd.func33, Tryd.ntmps33
  go_wp2
  go_ret
  exact ⟨rfl, rfl⟩

theorem j5' : (Tryd.prog.info? 5).map (fun i => (i.zero, i.size, i.bytes)) = some (some (.int .u8 0), 1, 1) := by kernel_rfl
/-- xs[i:i+e:i+e]. -/
theorem cut3 {P : Program} {t e0 : TypeId} {z : Option Value} {q : Nat} (ht : P.underlying t = some (.slice e0)) (hinfo : (P.info? e0).map (fun i => (i.zero, i.size, i.bytes)) = some (z, 1, q)) (A : Option Addr) (len c i e : Nat) (he : 0 < e) (h : i + e ≤ c) :
    ∀ W : World, (Instr.slice t (.slice A len c) (some (.int .i64 (i : Int))) (some (.int .i64 ((i : Int) + (e : Int)))) (some (.int .i64 ((i : Int) + (e : Int))))).run P W = .ok (.slice (A.map (·.add i)) e e) W := by
  intro W
  obtain ⟨i0, hi, hz⟩ := Option.map_eq_some_iff.1 hinfo
  simp only [Prod.mk.injEq] at hz
  have hel : P.elem t = e0 := by simp [Program.elem, ht]
  have hu : P.underlying t = some (.slice (P.elem t)) := by rw [hel]; exact ht
  rw [run_slice_lhm W t A len c hu .i64 .i64 .i64 (i : Int) ((i : Int) + (e : Int)) ((i : Int) + (e : Int)) (by omega) (by omega) (by omega) (by omega), hel]
  have h1 : ((i : Int) + (e : Int)).toNat = i + e := by omega
  have h2 : ¬ (i + e = i) := by omega
  simp [sizeOf, typeInfo, hi, hz.2.1, sliced, Result.andThen, h1, h2]
  omega

/-- Part k of a row cut into parts of sz. -/
def Part (l : List Int) (sz : Nat) : Type := { k : Nat // k * sz < l.length }
def Part.len {l : List Int} {sz : Nat} (k : Part l sz) : Nat := min sz (l.length - k.1 * sz)
def Part.bytes {l : List Int} {sz : Nat} (k : Part l sz) : List Int := (l.drop (k.1 * sz)).take sz
def Part.enc {l : List Int} {sz : Nat} (A : Option Addr) (k : Part l sz) : Array Value := #[.slice (A.map (·.add (k.1 * sz))) k.len k.len]
theorem Part.bytes_length {l : List Int} {sz : Nat} (k : Part l sz) : k.bytes.length = k.len := by simp [Part.bytes, Part.len]

/-- The two boxes of slices.Chunk's closure lie as they lay. -/
def KeepB (Bs : Nat) (W W' : World) : Prop := ∀ k, k = Bs ∨ k = Bs + 1 → W'.heap[k]? = W.heap[k]?

set_option maxHeartbeats 4000000 in
set_option maxRecDepth 100000 in
theorem parts_stop (A : Option Addr) (c : Nat) (l : List Int) (sz : Nat) (hz : 1 ≤ sz) (hl : l.length ≤ 1048576) (hc : l.length ≤ c) (hzl : sz ≤ 9223372036854775807) (n Bs : Nat) (w : World) (hn₀ : Bs + 1 < w.heap.size)
    (h0 : w.heap[Bs]? = some (.cells #[.slice A l.length c] 22 (0, 0))) (h1 : w.heap[Bs + 1]? = some (.cells #[.int .i64 sz] 3 (0, 0))) :
    SeqStopsK Fence.wide n Tryd.prog 64 #[.pointer (some ⟨Bs, 0, none⟩), .pointer (some ⟨Bs + 1, 0, none⟩)] (Part.enc (l := l) (sz := sz) A) (KeepB Bs) (fun xs => xs.map (·.1) = List.range xs.length ∧ l.length ≤ xs.length * sz ∧ (0 < xs.length → (xs.length - 1) * sz < l.length)) (fun _ => True) l.length w := by
  intro r J Jx W hW hJ hJx hY hj0
  refine callsIn_of_wp Tryd.func64 rfl trivial ?_ rfl
  simp only [Tryd.ntmps64, List.size_toArray, List.length_cons, List.length_nil, Nat.reduceAdd, Nat.reduceSub, Array.replicate_succ, Array.replicate_zero, List.push_toArray, List.append_toArray, List.nil_append, List.cons_append]
  gi_wp2
  gi_loopw [4] (fun p wr => ∃ pre : List (Part l sz), p = .int .i64 (pre.length * sz : Nat) ∧ Aside0 (pre.map (·.1) = List.range pre.length) ∧ Aside0 (0 < pre.length → (pre.length - 1) * sz < l.length) ∧ Aside0 (J pre wr) ∧
    Aside0 (wr.heap[Bs]? = some (.cells #[.slice A l.length c] 22 (0, 0))) ∧ Aside0 (wr.heap[Bs + 1]? = some (.cells #[.int .i64 sz] 3 (0, 0)))) (fun p _ => l.length - (intOf p).toNat)
  case atStart => exact ⟨[], by simp, ⟨rfl⟩, ⟨fun h => absurd h (by simp)⟩, ⟨hj0⟩, ⟨(hW.block _ (by omega)).trans h0⟩, ⟨(hW.block _ (by omega)).trans h1⟩⟩
  case round =>
    obtain ⟨pre, rfl, HM, HL, HJ, HB0, HB1⟩ := hrel
    have c0 : wr.cell? ⟨Bs, 0, none⟩ = some (.slice A l.length c) := blk_cell HB0.out 0
    have c1 : wr.cell? ⟨Bs + 1, 0, none⟩ = some (.int .i64 sz) := blk_cell HB1.out 0
    obtain ⟨i, hi⟩ : ∃ i, i = pre.length * sz := ⟨_, rfl⟩
    rw [← hi]
    by_cases hlt : i < l.length
    · have hlt' : decide ((i : Int) < (l.length : Int)) = true := by simp; omega
      have hlen : pre.length < l.length := by
        have : pre.length * 1 ≤ pre.length * sz := Nat.mul_le_mul_left _ hz
        omega
      obtain ⟨e, he⟩ : ∃ e, e = min sz (l.length - i) := ⟨_, rfl⟩
      have hep : 0 < e := by omega
      have hee : i + e ≤ l.length := by omega
      have hcut := cut3 (P := Tryd.prog) (t := 22) Tryd.underlying22 j5' A l.length c i e hep (by omega)
      have hi0 : 0 ≤ (i : Int) := by omega
      have hi1 : (i : Int) ≤ (l.length : Int) := by omega
      have HI := Aside0.mk hi
      have HEE := Aside0.mk he
      have HMIN : Aside0 ((if l.length - i < sz then ((l.length - i : Nat) : Int) else (sz : Int)) = (e : Int)) := ⟨by rw [he]; split <;> omega⟩
      have hie : i + e ≤ 9223372036854775807 := by omega
      clear hi he
      gi_wp2
      refine wpIn_wide.2 ?_
      go_quiet (fail)
      rw [HMIN.out]
      have c0q : (wr.drewN nq).cell? ⟨Bs, 0, none⟩ = some (.slice A l.length c) := c0
      have c1q : (wr.drewN nq).cell? ⟨Bs + 1, 0, none⟩ = some (.int .i64 sz) := c1
      obtain ⟨kk, hkk⟩ : ∃ kk : Part l sz, kk.1 = pre.length := ⟨⟨pre.length, by rw [← HI.out]; exact hlt⟩, rfl⟩
      have HKK := Aside0.mk hkk
      clear hkk
      obtain ⟨fn, tmps, assign, body, hy, hR⟩ := hY pre kk (wr.drewN nq) (hJ _ wr _ none HJ.out ⟨rfl, rfl, rfl, Nat.le_refl _, fun _ _ _ => rfl⟩ (fun _ h => by cases h)) hlen
      have hy' : (Instr.yield r #[.slice (A.map (·.add i)) e e]).run Tryd.prog (wr.drewN nq) = .ok (.round r fn tmps assign body) (wr.drewN nq) := by
        have := hy
        unfold Part.enc Part.len at this
        simp only [HKK.out, ← HI.out, ← HEE.out] at this
        exact this
      have HR := Aside0.mk hR
      clear hy hR
      gi_wp2
      refine ⟨fun h => absurd h (by simp [Fence.wide]), HR.out.mono ?_⟩
      rintro eo W' (⟨rfl, hJ', hk⟩ | ⟨rfl, hJx'⟩)
      · have hB0 := (hk Bs (Or.inl rfl)).trans (blk_drewN HB0.out nq)
        have hB1 := (hk (Bs + 1) (Or.inr rfl)).trans (blk_drewN HB1.out nq)
        have c02 : W'.cell? ⟨Bs, 0, none⟩ = some (.slice A l.length c) := blk_cell hB0 0
        have c12 : W'.cell? ⟨Bs + 1, 0, none⟩ = some (.int .i64 sz) := blk_cell hB1 0
        have hisz : i + sz ≤ 9223372036854775807 := by
          have h1 := HI.out
          rcases Nat.eq_zero_or_pos pre.length with h2 | h2
          · rw [h2] at h1; omega
          · have h3 : 1 * sz ≤ pre.length * sz := Nat.mul_le_mul_right _ h2
            omega
        have HJ2 := Aside0.mk hJ'
        have HB02 := Aside0.mk hB0
        have HB12 := Aside0.mk hB1
        clear hJ' hk hB0 hB1
        gi_wp2
        go_roundw
        case rel => exact ⟨pre ++ [kk], congrArg (Value.int .i64) (by rw [List.length_append, Nat.add_mul, ← HI.out]; simp), ⟨by simp [HM.out, HKK.out, List.range_succ]⟩, ⟨fun _ => by simp only [List.length_append, List.length_cons, List.length_nil, Nat.zero_add, Nat.add_sub_cancel]; rw [← HI.out]; exact hlt⟩, HJ2, HB02, HB12⟩
        case measure => simp [intOf]; omega
      · gi_wp2
        refine bodyPost_ret (results_none rfl _ _ _) rfl ?_
        exact ⟨⟨_, rfl⟩, .inr ⟨_, trivial, hJx'⟩⟩
    · have hlt' : decide ((i : Int) < (l.length : Int)) = false := by simp; omega
      gi_wp2
      go_end0
      exact ⟨⟨_, rfl⟩, .inl ⟨pre, ⟨HM.out, by omega, HL.out⟩, HJ.out⟩⟩
end Go.Proofs.YtibgcbngnfaaiaaDoor.H

namespace Go.Proofs.YtibgcbngnfaaiaaDoor.H
open Go.RowKit Go.Shelf Go.Proofs.YtibgcbngnfaaiaaDoorW.PrintWords Go.Proofs.YtibgcbngnfaaiaaDoorW.PrintLast Go.Proofs.YtibgcbngnfaaiaaDoorW.PrintMore
set_option linter.unusedVariables false
set_option linter.unusedSimpArgs false

/-- Whatever order is drawn: inside a round's fence. -/
theorem rowsIn_wide {n : Nat} {P : Program} {row : String} {args : Array Value} {w : World} {R : Value → World → Prop} (l : Nat) (h : Rows P row args w R) : RowsIn (Fence.wide.inRound l) n P row args w R := by
  intro c cs _
  obtain ⟨v, w', r, s⟩ := h c cs
  exact ⟨v, w', r, stepsIn_wide.2 s⟩
theorem op_in {n l : Nat} {P : Program} {o : Oper} {a : Act} {w : World} {K : Act → World → Prop} {Q : Exit → Act → World → Prop} (hd : ∀ c, o.op ≠ .defer c) (h : Oper.wp P o a w K Q) : Oper.wpIn (Fence.wide.inRound l) n P o a w K Q := by
  refine ⟨fun _ _ => trivial, ?_⟩
  show Oper.uponIn _ _ _ _ _ _ _ ((o.semAt (some l) a.eval).run P w)
  rw [Oper.semAt_some l a.eval o hd]
  unfold Oper.wp at h
  generalize (execOp a.eval o).run P w = r at h ⊢
  cases r with
  | ok x w' =>
    cases x <;> simp only [Oper.upon, Oper.uponIn] at h ⊢ <;> first
      | exact h
      | exact ⟨fun h => absurd h (by simp [Fence.wide]), CallsIn.inRound l (callsIn_wide.2 h)⟩
      | exact ⟨fun h => absurd h (by simp [Fence.wide]), rowsIn_wide l h⟩
  | halt x w' => cases x <;> simp only [Oper.upon, Oper.uponIn] at h ⊢ <;> exact h
theorem any_in {n l : Nat} {P : Program} {md : Region.Mode} {ops : Array Oper} {Q : Exit → Act → World → Prop} (hd : ∀ (i : Nat) (o : Oper) c, ops[i]? = some o → o.op ≠ .defer c) (hq : LetsOut Q → False) : ∀ (fuel : Nat) (listed : Array Bool) (a : Act) (w : World), wpAny P md ops Q fuel listed a w → wpAnyIn (Fence.wide.inRound l) n P md ops Q fuel listed a w
  | 0, _, _, _, h => h
  | fuel + 1, listed, a, w, h => ⟨h.1, fun i hi => by
    have h1 := h.2 i hi
    unfold wpOp at h1
    unfold wpOpIn
    split
    · rename_i ho
      rw [ho] at h1
      exact any_in hd hq fuel _ a w h1
    · rename_i o ho
      rw [ho] at h1
      dsimp only at h1
      split
      · rename_i hw
        rw [if_pos hw] at h1
        rcases h1 with h1 | h1
        · exact op_in (fun c => hd i o c ho) (Oper.wp_mono (fun a' w' h' => any_in hd hq fuel _ a' w' h') h1)
        · exact (hq h1.2).elim
      · rename_i hw
        rw [if_neg hw] at h1
        exact ⟨fun _ _ => trivial, any_in hd hq fuel _ _ w h1⟩⟩

/-- Every cell stays (a block's mark may turn). -/
structure Mn (w w' : World) : Prop where
  size : w.heap.size ≤ w'.heap.size
  cells : ∀ (g : Nat) (C : Array Value) (e : TypeId) (fr : Nat × Nat), w.heap[g]? = some (.cells C e fr) → ∃ fr', w'.heap[g]? = some (.cells C e fr')
theorem Mn.refl (w : World) : Mn w w := ⟨Nat.le_refl _, fun g C e fr h => ⟨fr, h⟩⟩
theorem Mn.of_below {w w' : World} (h : Below w.heap.size w w') : Mn w w' := ⟨h.size, fun g C e fr hg => ⟨fr, (h.block g (Array.getElem?_eq_some_iff.1 hg).1).trans hg⟩⟩
theorem Mn.cell {w w' : World} (h : Mn w w') {p : Addr} {v : Value} (hc : w.cell? p = some v) : w'.cell? p = some v := by
  unfold World.cell? at hc ⊢
  split at hc
  · rename_i C e fr hg
    obtain ⟨fr', h'⟩ := h.cells _ _ _ _ hg
    rw [h']
    exact hc
  · cases hc
theorem Mn.reads {w w' : World} (h : Mn w w') {k : IntKind} {A : Option Addr} {n : Nat} {xs : List Int} (hr : ReadsInt w k A n xs) : ReadsInt w' k A n xs :=
  ⟨hr.1, hr.2.1, fun hn => by
    obtain ⟨ad, e, hc⟩ := hr.2.2 hn
    exact ⟨ad, e, fun j hj => h.cell (hc j hj)⟩⟩
theorem Mn.rows {w w' : World} (h : Mn w w') {A : Option Addr} {ls : List (List Int)} (hr : Rows1 w A ls) : Rows1 w' A ls :=
  ⟨hr.1, fun j hj => by
    obtain ⟨ad, Aj, cj, h1, h2, h3⟩ := hr.2 j hj
    exact ⟨ad, Aj, cj, h1, h.cell h2, h.reads h3⟩⟩
theorem modify_off (a : Array Obj) (f : Obj → Obj) {g : Nat} (k : Nat) (h : g ≠ k) : (a.modify g f)[k]? = a[k]? := by
  by_cases hk : k < a.size
  · rw [Array.getElem?_eq_getElem (by rw [Array.size_modify]; exact hk), Array.getElem?_eq_getElem hk, Array.getElem_modify_of_ne h]
  · rw [Array.getElem?_eq_none (by rw [Array.size_modify]; omega), Array.getElem?_eq_none (by omega)]
theorem freeze_at {w : World} {g : Nat} {C : Array Value} {e : TypeId} {fr : Nat × Nat} (h : w.heap[g]? = some (.cells C e fr)) (k n : Nat) : Mn w (w.freeze ⟨g, k, none⟩ n) ∧ ∀ B, B ≤ g → Below B w (w.freeze ⟨g, k, none⟩ n) := by
  unfold World.freeze
  split
  · exact ⟨Mn.refl _, fun B _ => Below.refl _ _⟩
  · refine ⟨⟨by simp, fun g' C' e' fr' h' => ?_⟩, fun B hB => ⟨rfl, rfl, rfl, by simp, fun j hj => ?_⟩⟩
    · show ∃ fr'', (w.heap.modify g _)[g']? = _
      by_cases hgg : g' = g
      · subst hgg
        rw [h] at h'
        obtain ⟨hlt, h1⟩ := Array.getElem?_eq_some_iff.1 h
        simp only [Option.some.injEq, Obj.cells.injEq] at h'
        obtain ⟨rfl, rfl, rfl⟩ := h'
        rw [Array.getElem?_eq_getElem (by rw [Array.size_modify]; exact hlt), Array.getElem_modify_self, h1]
        obtain ⟨lo, hi⟩ := fr
        exact ⟨_, rfl⟩
      · exact ⟨fr', by rw [modify_off _ _ _ (Ne.symm hgg)]; exact h'⟩
    · show (w.heap.modify g _)[j]? = _
      rw [modify_off _ _ _ (by omega)]
/-- '[]byte("..")' of a constant, whenever the conversion comes. -/
theorem conv_const {P : Program} (w : World) (t e : TypeId) (C : Array Value) (fr : Nat × Nat) (n c g : Nat) (ht : P.underlying t = some (.slice e)) (he : P.underlying e = some (.int .u8)) (h : w.heap[g]? = some (.cells C e fr)) :
    ∃ w', (convert t t (.slice (some ⟨g, 0, none⟩) n c)).run P w = .ok (.slice (some ⟨g, 0, none⟩) n c) w' ∧ Mn w w' ∧ ∀ B, B ≤ g → Below B w w' := by
  have hsh : w.shape? g = some (e, C.size) := by
    unfold World.shape?
    rw [h]
  refine ⟨w.freeze ⟨g, C.size, none⟩ 1, ?_, freeze_at h _ _⟩
  simp [convert, run_underlying ht, run_underlying he, markStringish, hsh]
end Go.Proofs.YtibgcbngnfaaiaaDoor.H

namespace Go.Proofs.YtibgcbngnfaaiaaDoor.H
open Go.RowKit Go.Shelf Go.Proofs.YtibgcbngnfaaiaaDoorW.PrintWords Go.Proofs.YtibgcbngnfaaiaaDoorW.PrintLast Go.Proofs.YtibgcbngnfaaiaaDoorW.PrintMore
attribute [local go_sem] Oper.semAt_some max2_int min2_int
set_option linter.unusedVariables false
set_option linter.unusedSimpArgs false

/-- One chunk, written. -/
def chunkE (b : List Int) : List Int := hexL 17 b.length ++ [13, 10] ++ b ++ [13, 10]
def chunksE {l : List Int} {sz : Nat} (pre : List (Part l sz)) : List Int := (pre.map fun k => chunkE k.bytes).flatten

theorem hexL_length : ∀ (k u : Nat), (hexL k u).length ≤ k
  | 0, _ => Nat.le_refl _
  | k + 1, u => by
    by_cases h : u < 16
    · rw [hexL_small k u h]; simp
    · rw [hexL_great k u h, List.length_append]
      have := hexL_length k (u / 16)
      simp; omega
theorem chunksE_append {l : List Int} {sz : Nat} (pre : List (Part l sz)) (x : Part l sz) : chunksE (pre ++ [x]) = chunksE pre ++ chunkE x.bytes := by simp [chunksE]
theorem chunkE_length {l : List Int} {sz : Nat} (x : Part l sz) : (chunkE x.bytes).length ≤ l.length + 21 := by
  have h1 := hexL_length 17 x.bytes.length
  have h2 : x.bytes.length ≤ l.length := by simp [Part.bytes]; omega
  simp only [chunkE, List.length_append, List.length_cons, List.length_nil]
  omega
theorem chunksE_length {l : List Int} {sz : Nat} (pre : List (Part l sz)) : (chunksE pre).length ≤ pre.length * (l.length + 21) := by
  induction pre with
  | nil => simp [chunksE]
  | cons x r ih =>
    have h1 := chunkE_length x
    simp only [chunksE, List.map_cons, List.flatten_cons, List.length_append, List.length_cons, Nat.add_mul, Nat.one_mul] at ih ⊢
    omega

/-- What operation j of a round's region has yielded. -/
def RV (n0 : Nat) (Ao : Option Addr) (co : Nat) (outl : List Int) (Ac : Option Addr) (part : List Int) (j : Nat) (w : World) (v : Value) : Prop :=
  match j with
  | 0 => v = .slice Ao outl.length co
  | 1 => v = .slice Ac part.length part.length
  | 2 => v = .int .i64 part.length
  | 3 => v = .string (strOfNums (hexL 17 part.length))
  | 4 => ∃ A c, v = .slice A (hexL 17 part.length).length c ∧ ReadsInt w .u8 A (hexL 17 part.length).length (hexL 17 part.length)
  | 5 => ∃ g fr, v = .slice (some ⟨g, 0, none⟩) 2 2 ∧ n0 ≤ g ∧ w.heap[g]? = some (.cells #[.int .u8 13, .int .u8 10] 5 fr)
  | 6 => ∃ A c, v = .slice A 2 c ∧ ReadsInt w .u8 A 2 [13, 10]
  | 7 => v = .slice Ac part.length part.length
  | 8 => ∃ g fr, v = .slice (some ⟨g, 0, none⟩) 2 2 ∧ n0 ≤ g ∧ w.heap[g]? = some (.cells #[.int .u8 13, .int .u8 10] 5 fr)
  | 9 => ∃ A c, v = .slice A 2 c ∧ ReadsInt w .u8 A 2 [13, 10]
  | 10 => ∃ A c, v = .slice A 5 c ∧ Rows1 w A [outl, hexL 17 part.length, [13, 10], part, [13, 10]]
  | _ => w.ownsRow n0 5 1 v (outl ++ chunkE part).length (nums .u8 (outl ++ chunkE part))
theorem RV_mono {n0 : Nat} {Ao : Option Addr} {co : Nat} {outl : List Int} {Ac : Option Addr} {part : List Int} {w w' : World} {v : Value} (h : Mn w w') : ∀ {j : Nat}, j < 11 → RV n0 Ao co outl Ac part j w v → RV n0 Ao co outl Ac part j w' v
  | 0, _, h1 | 1, _, h1 | 2, _, h1 | 3, _, h1 | 7, _, h1 => h1
  | 4, _, ⟨A, c, h1, h2⟩ | 6, _, ⟨A, c, h1, h2⟩ | 9, _, ⟨A, c, h1, h2⟩ => ⟨A, c, h1, h.reads h2⟩
  | 5, _, ⟨g, fr, h1, h2, h3⟩ | 8, _, ⟨g, fr, h1, h2, h3⟩ => by
    obtain ⟨fr', h4⟩ := h.cells _ _ _ _ h3
    exact ⟨g, fr', h1, h2, h4⟩
  | 10, _, ⟨A, c, h1, h2⟩ => ⟨A, c, h1, h.rows h2⟩
  | j + 11, hj, _ => by omega
/-- The relation of a round's region. -/
def RI (V : Nat → World → Value → Prop) (box cv : Value) (W : World) (E : World → Prop) (b : Nat → Bool) (a : Act) (w : World) : Prop :=
  (b 12 = true → E w) ∧ (b 12 = false → a.tmps.size = 26 ∧ a.tmps[5]? = some box ∧ a.tmps[6]? = some cv ∧ Below W.heap.size W w ∧ ∀ j, j < 12 → b j = true → ∃ v, a.tmps[12 + j]? = some v ∧ V j w v)
theorem RI.step {V : Nat → World → Value → Prop} {box cv : Value} {W : World} {E : World → Prop} {b : Nat → Bool} {a : Act} {w w' : World} {v : Value} (i : Nat) (hi : i < 12) (h : RI V box cv W E b a w) (h12 : b 12 = false) (h11 : b 11 = false) (hm : Mn w w') (hb : Below W.heap.size W w')
    (hmono : ∀ j, j < 11 → ∀ v, V j w v → V j w' v) (hv : V i w' v) : RI V box cv W E (up b i) (a.put (some (12 + i)) v) w' := by
  obtain ⟨h1, h2, h3, h4, h5⟩ := h.2 h12
  have hu : up b i 12 = false := by rw [up_ne (by omega)]; exact h12
  refine ⟨fun h => (by rw [hu] at h; cases h), fun _ => ⟨by simpa [Act.put] using h1, ?_, ?_, hb, fun j hj hbj => ?_⟩⟩
  · simp only [Act.put]; rw [Array.getElem?_setIfInBounds_ne (by omega)]; exact h2
  · simp only [Act.put]; rw [Array.getElem?_setIfInBounds_ne (by omega)]; exact h3
  · by_cases hji : j = i
    · subst hji
      exact ⟨v, by simp only [Act.put]; rw [Array.getElem?_setIfInBounds_self_of_lt (by omega)], hv⟩
    · rw [up_ne hji] at hbj
      obtain ⟨u, hu1, hu2⟩ := h5 j hj hbj
      have hj11 : j ≠ 11 := fun e => by rw [e, h11] at hbj; cases hbj
      exact ⟨u, by simp only [Act.put]; rw [Array.getElem?_setIfInBounds_ne (by omega)]; exact hu1, hmono j (by omega) u hu2⟩
theorem app_str_in {F : Fence} {n' : Nat} {P : Program} {ops : Array Oper} {rest : List Oper} {o : Oper} {a : Act} {Q : Exit → Act → World → Prop} (w w0 : World) (base : Nat) (hgd : o.guard = none) (sl x : Operand) (t u e : TypeId)
    (ho : o.op = .call { callee := .builtin .append, args := #[sl, x], argTypes := #[t, u] })
    (ht : P.underlying t = some (.slice e)) (hu : P.underlying u = some .string) (hinfo : (P.info? e).map (fun i => (i.zero, i.size, i.bytes)) = some (some (.int .u8 0), 1, 1))
    (v : Value) (xs : List Int) (y : ByteArray) (ys : List Int) (hy : bytesOf y = ys) (hs : a.eval sl = v) (hx : a.eval x = .string y)
    (HO : w.ownsRow base e 1 v xs.length (nums .u8 xs)) (HB : Below base w0 w) (hbase : base ≤ w.heap.size) (hl : xs.length + y.size ≤ 140737488355328)
    (h : ∀ v1 w1, w1.ownsRow base e 1 v1 (xs ++ ys).length (nums .u8 (xs ++ ys)) → Below base w0 w1 → w.grownBy w1 v.ownBlock → wpListIn F n' P ops Q rest (a.put o.dst v1) w1) : wpListIn F n' P ops Q (o :: rest) a w := by
  subst hy
  obtain ⟨i0, hi, hzz⟩ := Option.map_eq_some_iff.1 hinfo
  simp only [Prod.mk.injEq] at hzz
  obtain ⟨hz0, hz1, hz2⟩ := hzz
  refine wpListIn_plain hgd fun K hK => ?_
  obtain ⟨v', w', hr, h2, h3, h4⟩ := Lib.run_append_own_string (P := P) w base t u o.type e i0 ht hu hi hz0 hz1 hz2 v xs.length (nums .u8 xs) HO y (by simp only [maxLen]; omega) hl hbase
  unfold Oper.wpIn
  refine ⟨?_, ?_⟩
  · simp [Oper.about, ho, resolve, Target.leads, Sem.run_pure]
  · rw [Oper.semAt_plain F _ _ (by rw [ho]; intro c hc'; cases hc')]
    simp [execOp, ho, resolve, invoke, builtin, hs, hx, hr, Result.andThen]
    refine hK _ _ (h v' w' ?_ (HB.grown h3 hbase (own_base HO)) h3)
    have hc : nums .u8 (xs ++ bytesOf y) = nums .u8 xs ++ Lib.strCells y := by
      rw [nums_append]
      simp [bytesOf, Lib.strCells, nums]
    rw [List.length_append, bytesOf_length, hc]
    exact h2
theorem own_le {w : World} {base base' size n : Nat} {e : TypeId} {v : Value} {xs : List Value} (h : w.ownsRow base e size v n xs) (hb : base' ≤ base) : w.ownsRow base' e size v n xs := by
  refine ⟨h.1, ?_⟩
  rcases h.2 with h1 | ⟨g, cap, cur, h1, h2, h3⟩
  · exact .inl h1
  · exact .inr ⟨g, cap, cur, h1, Nat.le_trans hb h2, h3⟩
theorem hexL_range : ∀ (k u : Nat) (n : Int), n ∈ hexL k u → 0 ≤ n ∧ n < 256
  | 0, _, _, h => by cases h
  | k + 1, u, n, h => by
    by_cases hu : u < 16
    · rw [hexL_small k u hu, List.mem_singleton] at h
      subst h
      unfold hexD
      split <;> omega
    · rw [hexL_great k u hu, List.mem_append, List.mem_singleton] at h
      rcases h with h | h
      · exact hexL_range k _ n h
      · subst h
        unfold hexD
        split <;> omega
theorem hexL_bytes (k : Nat) : bytesOf (strOfNums (hexL 17 k)) = hexL 17 k := by
  unfold bytesOf
  rw [strOfNums_data, List.map_map]
  refine (List.map_congr_left (fun n hn => ?_)).trans (List.map_id _)
  have h1 := hexL_range 17 k n hn
  simp only [Function.comp_apply, UInt8.toNat_ofNat', id]
  omega
theorem part_reads {w : World} {A : Option Addr} {l : List Int} {sz : Nat} (h : ReadsInt w .u8 A l.length l) (x : Part l sz) : ReadsInt w .u8 (A.map (·.add (x.1 * sz))) x.bytes.length x.bytes := by
  have h1 := h.drop_ (c := l.length + 1) (x.1 * sz) (Nat.le_of_lt x.2) (by omega)
  rw [if_neg (by have := x.2; omega)] at h1
  have h2 := h1.take_ x.len (by unfold Part.len; omega)
  have h3 : (l.drop (x.1 * sz)).take x.len = x.bytes := by
    unfold Part.len Part.bytes
    rcases Nat.le_total sz (l.length - x.1 * sz) with h | h
    · rw [Nat.min_eq_left h]
    · rw [Nat.min_eq_right h, List.take_of_length_le (by simp), List.take_of_length_le (by simpa using h)]
  rw [h3] at h2
  rw [Part.bytes_length]
  exact h2
theorem crlf_reads {w : World} {g : Nat} {e : TypeId} (h : ∃ fr, w.heap[g]? = some (.cells #[.int .u8 13, .int .u8 10] e fr)) : ReadsInt w .u8 (some ⟨g, 0, none⟩) 2 [13, 10] := by
  obtain ⟨fr, h⟩ := h
  refine ⟨rfl, by omega, fun _ => ⟨_, rfl, fun j hj => ?_⟩⟩
  rcases j with _ | _ | j
  · simp [World.cell?, Addr.add, h]
  · simp [World.cell?, Addr.add, h]
  · omega
theorem want {P : Program} {ops : Array Oper} {o : Oper} {a : Act} {w : World} {K : Act → World → Prop} {Q : Exit → Act → World → Prop} {E : Prop} (hg : o.guard = none) (h : Oper.wp P o a w K Q) : if Region.wanted o (yielded ops a.tmps) = true then Oper.wp P o a w K Q else E := by
  rw [if_pos (by simp [Region.wanted, hg])]
  exact h
theorem wp_value {P : Program} {o : Oper} {a : Act} {w w' : World} {v : Value} {K : Act → World → Prop} {Q : Exit → Act → World → Prop} (h : (execOp a.eval o).run P w = .ok (.value v) w') (hk : K (a.put o.dst v) w') : Oper.wp P o a w K Q := by
  unfold Oper.wp; rw [h]; exact hk
theorem wp_call {P : Program} {o : Oper} {a : Act} {w : World} {f : FuncId} {args : Array Value} {K : Act → World → Prop} {Q : Exit → Act → World → Prop} (h : (execOp a.eval o).run P w = .ok (.enter f args) w) (hk : Calls P f args w fun e w' => ∃ v, e = .returned v ∧ K (a.put o.dst v) w') : Oper.wp P o a w K Q := by
  unfold Oper.wp; rw [h]
  refine Calls.mono hk ?_
  rintro e w' ⟨v, rfl, h⟩
  exact h

/-- What chunk.Bytes tells. -/
def bytesF (l : List Int) (size : Int) : List Int :=
  ((List.range ((l.length + (max size 1).toNat - 1) / (max size 1).toNat)).map fun k => chunkE ((l.drop (k * (max size 1).toNat)).take (max size 1).toNat)).flatten ++ [48, 13, 10, 13, 10]
theorem chunksE_all {l : List Int} {sz : Nat} (ys : List (Part l sz)) (h1 : ys.map (·.1) = List.range ys.length) (h2 : l.length ≤ ys.length * sz) (h3 : 0 < ys.length → (ys.length - 1) * sz < l.length) (hz : 1 ≤ sz) :
    chunksE ys = ((List.range ((l.length + sz - 1) / sz)).map fun k => chunkE ((l.drop (k * sz)).take sz)).flatten := by
  have hm : (l.length + sz - 1) / sz = ys.length := by
    refine Nat.div_eq_of_lt_le ?_ ?_
    · rcases Nat.eq_zero_or_pos ys.length with h | h
      · rw [h]; omega
      · have h4 := h3 h
        have h5 : ys.length * sz = (ys.length - 1) * sz + sz := by
          obtain ⟨k, hk⟩ : ∃ k, ys.length = k + 1 := ⟨ys.length - 1, by omega⟩
          rw [hk, Nat.add_sub_cancel, Nat.add_mul, Nat.one_mul]
        omega
    · rw [Nat.add_mul, Nat.one_mul]; omega
  rw [hm, ← h1, List.map_map]
  rfl

set_option maxHeartbeats 4000000 in
set_option maxRecDepth 100000 in
theorem bytes_calls (A : Option Addr) (c : Nat) (l : List Int) (size : Int) (w : World) (hr : ReadsInt w .u8 A l.length l) (hl : l.length ≤ 1048576) (hc : l.length ≤ c) (hs : size ≤ 9223372036854775807) (hT : Tz w) :
    Calls Tryd.prog 14 #[.slice A l.length c, .int .i64 size] w fun e w' => ∃ v, e = .returned v ∧ w'.ownsRow w.heap.size 5 1 v (bytesF l size).length (nums .u8 (bytesF l size)) ∧ Below w.heap.size w w' := by
  have HR := Aside0.mk hr
  have HT := Aside0.mk hT
  clear hr hT
  obtain ⟨sz, hsz, hsz1, hsz2⟩ : ∃ sz : Nat, (max size 1 = (sz : Int)) ∧ 1 ≤ sz ∧ sz ≤ 9223372036854775807 := ⟨(max size 1).toNat, by omega, by omega, by omega⟩
  have hif : (if size < 1 then (1 : Int) else size) = (sz : Int) := by split <;> omega
  refine (callsIn_wide (n := 3)).1 ?_
  refine callsIn_of_wp_marks Tryd.func14 rfl trivial ?_ rfl
  simp only [Tryd.ntmps14, List.size_toArray, List.length_cons, List.length_nil, Nat.reduceAdd, Nat.reduceSub, Array.replicate_succ, Array.replicate_zero, List.push_toArray, List.append_toArray, List.nil_append, List.cons_append]
  gi_wp2_with (refine ⟨trivial, ?_⟩; gi_at_call 33; refine (callsIn_wide.2 (chunk_calls A l.length c sz _ (by omega))).mono ?_; rintro e w' ⟨rfl, rfl⟩)
  obtain ⟨W0, hW0, hz0, hx0, hx1, hx2, hb0⟩ : ∃ W0, ((w.alloc (.cells #[.slice none 0 0] 22)).alloc (.cells #[.slice A l.length c] 22)).alloc (.cells #[.int .i64 sz] 3) = W0 ∧ W0.heap.size = w.heap.size + 3 ∧ Boxed W0 w.heap.size 22 (.slice none 0 0) ∧
      W0.heap[w.heap.size + 1]? = some (.cells #[.slice A l.length c] 22 (0, 0)) ∧ W0.heap[w.heap.size + 1 + 1]? = some (.cells #[.int .i64 sz] 3 (0, 0)) ∧ Below w.heap.size w W0 := by
    refine ⟨_, rfl, by simp, ((Boxed.new w _ _).alloc _).alloc _, ?_, ?_, ((((Below.refl _ w).alloc (Nat.le_refl _) _).alloc (by simp) _).alloc (by simp; omega) _)⟩
    · have := Boxed.new (w.alloc (.cells #[.slice none 0 0] 22)) 22 (.slice A l.length c)
      have := this.alloc (.cells #[.int .i64 sz] 3)
      simpa [Boxed] using this
    · have := Boxed.new ((w.alloc (.cells #[.slice none 0 0] 22)).alloc (.cells #[.slice A l.length c] 22)) 3 (.int .i64 sz)
      simpa [Boxed] using this
  try simp only [hW0]
  have hparts := parts_stop A c l sz hsz1 hl hc hsz2 2 (w.heap.size + 1) W0 (by omega) hx1 hx2
  refine wpIn_rangeFunc_ownF rfl (by omega) (gf := 64) (lb := #[.pointer (some ⟨w.heap.size + 1, 0, none⟩), .pointer (some ⟨w.heap.size + 1 + 1, 0, none⟩)]) ?ev trivial (enters_of Tryd.func64 (by kernel_rfl) rfl) hparts ?kt ?kb (Below.refl _ _) (fun _ => rfl)
    (fun pre W => (∃ v, Boxed W w.heap.size 22 v ∧ W.ownsRow w.heap.size 5 1 v (chunksE pre).length (nums .u8 (chunksE pre)) ∧ True) ∧ Below w.heap.size W0 W) (fun _ _ _ => False)
    (OwnFrom.and (Own.from (holdsRow_own w.heap.size w.heap.size 22 5 1 (fun pre => (chunksE pre).length) (fun pre => nums .u8 (chunksE pre)) (fun _ _ => True)) _) (ownFrom_below (by omega) (by omega)))
    (fun _ _ _ _ _ hs _ _ => hs) ⟨⟨_, hx0, World.ownsRow_nil _ _ _ _, trivial⟩, Below.refl _ _⟩
    (fun x => { tmps := #[.slice A l.length c, .int .i64 size, undef, undef, .slice none 0 0, .pointer (some ⟨w.heap.size, 0, none⟩), .slice (A.map (·.add (x.1 * sz))) x.len x.len, .slice A l.length c, .int .i64 size, .int .i64 sz, .func (.func 64) #[] #[.pointer (some ⟨w.heap.size + 1, 0, none⟩), .pointer (some ⟨w.heap.size + 1 + 1, 0, none⟩)], .slice (A.map (·.add (x.1 * sz))) x.len x.len, undef, undef, undef, undef, undef, undef, undef, undef, undef, undef, undef, undef, undef, undef], defers := [] }) ?assign ?body ?done ?stop
  case ev => rfl
  case kt => exact fun h k i hi => (k i hi).trans (h i hi)
  case kb =>
    intro W l' o o' hl' ho hc' hw' i hi
    exact (World.putObj_heap_other (by omega))
  case assign =>
    intro l1 x W K hK
    unfold Part.enc
    gi_wp2
    exact hK
  case body =>
    rintro l' pre x W ⟨⟨v, hbx, hown, _⟩, hBW0⟩ hlt
    have hBW := hb0.trans hBW0
    have hWs := hBW0.size
    have HP := Aside0.mk (part_reads (HR.out.below (hBW.mono (Nat.le_refl _))) x)
    have hrow : Kd.R (Kd.int .u8) 5 W w.heap.size (fun _ => True) v (chunksE pre) := Kd.R_of_own hown (fun _ _ => trivial)
    obtain ⟨Ao, co, rfl⟩ := Kd.R_slice hrow
    gi_wp2
    refine wpIn_region_any (by kernel_rfl) ?_
    refine any_in ?nd ?lo _ _ _ _ ?_
    case nd =>
      intro i o c ho
      have hi := (Array.getElem?_eq_some_iff.1 ho).1
      simp only [List.size_toArray, List.length_cons, List.length_nil, Nat.reduceAdd] at hi
      rcases i with _ | _ | _ | _ | _ | _ | _ | _ | _ | _ | _ | _ | _ | i <;> first | (cases ho; intro h; cases h) | omega
    case lo =>
      rintro ⟨a1, w1, h1⟩
      exact h1
    refine wpAny_of_last (S := fun _ => True) (ds := []) _ _ _ _ ?_
    obtain ⟨W1, hW1⟩ : ∃ W1, W.drew = W1 := ⟨_, rfl⟩
    refine inv_ (B := [0, 0, 2, 6, 14, 0, 32, 0, 0, 256, 1023, 2047, 4095]) [0, 1, 2, 3, 4, 5, 6, 7, 8, 9, 10, 11, 12]
      (RI (RV W.heap.size Ao co (chunksE pre) (A.map (·.add (x.1 * sz))) x.bytes) (.pointer (some ⟨w.heap.size, 0, none⟩)) (.slice (A.map (·.add (x.1 * sz))) x.bytes.length x.bytes.length) W (fun w' => KeepsOthers W w' ∧ KeepB (w.heap.size + 1) W w' ∧ (∃ v, Boxed w' w.heap.size 22 v ∧ w'.ownsRow w.heap.size 5 1 v (chunksE (pre ++ [x])).length (nums .u8 (chunksE (pre ++ [x]))) ∧ True) ∧ Below w.heap.size W0 w')) rfl (by kernel_rfl) (by kernel_rfl) (by kernel_rfl) ?_ ?_ ?_
    · refine ⟨fun h => (by cases h), fun _ => ⟨rfl, rfl, by rw [Part.bytes_length]; rfl, ⟨rfl, rfl, rfl, Nat.le_refl _, fun _ _ => rfl⟩, fun j _ h => (by cases h)⟩⟩
    · refine steps_cons ?_ (steps_cons ?_ (steps_cons ?_ (steps_cons ?_ (steps_cons ?_ (steps_cons ?_ (steps_cons ?_ (steps_cons ?_ (steps_cons ?_ (steps_cons ?_ (steps_cons ?_ (steps_cons ?_ (steps_cons ?_ steps_nil))))))))))))
      · intro b a W2 hI hb hon hoff
        have h12 : b 12 = false := hoff 12 rfl
        have h11 : b 11 = false := hoff 11 rfl
        obtain ⟨g1, g2, g3, g4, g5⟩ := hI.2 h12
        have hbx2 : Boxed W2 w.heap.size 22 _ := (g4.block _ hbx.lt).trans hbx
        have hc2 := hbx2.cell
        refine ⟨_, rfl, fun K hK => ?_⟩
        refine want rfl ?_
        refine wp_value ?_ (hK _ _ (RI.step 0 (by omega) hI h12 h11 (Mn.refl _) g4 (fun j hj v => RV_mono (Mn.refl _) hj) rfl))
        simp [execOp, Act.eval, g2, go_sem, hc2]
      · intro b a W2 hI hb hon hoff
        have h12 : b 12 = false := hoff 12 rfl
        have h11 : b 11 = false := hoff 11 rfl
        obtain ⟨g1, g2, g3, g4, g5⟩ := hI.2 h12
        refine ⟨_, rfl, fun K hK => ?_⟩
        refine want rfl ?_
        refine wp_value ?_ (hK _ _ (RI.step 1 (by omega) hI h12 h11 (Mn.refl _) g4 (fun j hj v => RV_mono (Mn.refl _) hj) rfl))
        simp [execOp, Act.eval, g3, go_sem]
      · intro b a W2 hI hb hon hoff
        have h12 : b 12 = false := hoff 12 rfl
        have h11 : b 11 = false := hoff 11 rfl
        obtain ⟨g1, g2, g3, g4, g5⟩ := hI.2 h12
        obtain ⟨v1, hv1, hV1⟩ := g5 1 (by omega) (hon 1 rfl)
        replace hv1 : a.tmps[13]? = some v1 := hv1
        obtain rfl := hV1
        refine ⟨_, rfl, fun K hK => ?_⟩
        refine want rfl ?_
        refine wp_value ?_ (hK _ _ (RI.step 2 (by omega) hI h12 h11 (Mn.refl _) g4 (fun j hj v => RV_mono (Mn.refl _) hj) rfl))
        simp [execOp, Act.eval, hv1, go_sem]
      · intro b a W2 hI hb hon hoff
        have h12 : b 12 = false := hoff 12 rfl
        have h11 : b 11 = false := hoff 11 rfl
        obtain ⟨g1, g2, g3, g4, g5⟩ := hI.2 h12
        obtain ⟨v2, hv2, hV2⟩ := g5 2 (by omega) (hon 2 rfl)
        replace hv2 : a.tmps[14]? = some v2 := hv2
        obtain rfl := hV2
        refine ⟨_, rfl, fun K hK => ?_⟩
        refine want rfl ?_
        have hB2 : Below w.heap.size w W2 := hBW.trans (g4.mono hBW.size)
        refine wp_call (f := 35) (args := #[.int .i64 (x.bytes.length : Nat), .int .i64 16]) ?_ ((formatInt_calls x.bytes.length W2 ?_ (tz_below HT.out hB2)).mono ?_)
        · simp [execOp, Act.eval, hv2, go_sem]
        · have := chunkE_length x; rw [Part.bytes_length]; unfold Part.len; omega
        · rintro e w' ⟨rfl, hbw⟩
          exact ⟨_, rfl, hK _ _ (RI.step 3 (by omega) hI h12 h11 (Mn.of_below hbw) (g4.trans (hbw.mono g4.size)) (fun j hj v => RV_mono (Mn.of_below hbw) hj) rfl)⟩
      · intro b a W2 hI hb hon hoff
        have h12 : b 12 = false := hoff 12 rfl
        have h11 : b 11 = false := hoff 11 rfl
        obtain ⟨g1, g2, g3, g4, g5⟩ := hI.2 h12
        obtain ⟨v3, hv3, hV3⟩ := g5 3 (by omega) (hon 3 rfl)
        replace hv3 : a.tmps[15]? = some v3 := hv3
        obtain rfl := hV3
        have hkb := print_bytes (P := Tryd.prog) 9 22 5 Tryd.underlying9 Tryd.underlying22 Tryd.underlying5 (strOfNums (hexL 17 x.bytes.length)) W2
        have hbb : Below W2.heap.size W2 (Lib.bytesWorld W2 5 (strOfNums (hexL 17 x.bytes.length))) := bytes_below (Below.refl _ _) (Nat.le_refl _) _ _
        have hl17 := hexL_length 17 x.bytes.length
        have hrd := bytes_reads W2 5 (strOfNums (hexL 17 x.bytes.length)) (by rw [strOfNums_size]; omega)
        rw [strOfNums_size, hexL_bytes] at hrd
        rw [strOfNums_size] at hkb
        generalize grownCap W2 (hexL 17 x.bytes.length).length 0 5 = cp at hkb
        refine ⟨_, rfl, fun K hK => ?_⟩
        refine want rfl ?_
        refine wp_value ?_ (hK _ _ (RI.step 4 (by omega) hI h12 h11 (Mn.of_below hbb) (g4.trans (hbb.mono g4.size)) (fun j hj v => RV_mono (Mn.of_below hbb) hj) ⟨_, cp, rfl, hrd⟩))
        simp [execOp, Act.eval, hv3, go_sem, hkb]
      · intro b a W2 hI hb hon hoff
        have h12 : b 12 = false := hoff 12 rfl
        have h11 : b 11 = false := hoff 11 rfl
        obtain ⟨g1, g2, g3, g4, g5⟩ := hI.2 h12
        have hba : Below W2.heap.size W2 (W2.alloc (.cells #[.int .u8 13, .int .u8 10] 5)) := (Below.refl _ _).alloc (Nat.le_refl _) _
        refine ⟨_, rfl, fun K hK => ?_⟩
        refine want rfl ?_
        refine wp_value ?_ (hK _ _ (RI.step 5 (by omega) hI h12 h11 (Mn.of_below hba) (g4.trans (hba.mono g4.size)) (fun j hj v => RV_mono (Mn.of_below hba) hj) ⟨_, _, rfl, g4.size, World.alloc_heap_new _ _⟩))
        simp [execOp, go_sem]
      · intro b a W2 hI hb hon hoff
        have h12 : b 12 = false := hoff 12 rfl
        have h11 : b 11 = false := hoff 11 rfl
        obtain ⟨g1, g2, g3, g4, g5⟩ := hI.2 h12
        obtain ⟨v5, hv5, hV5⟩ := g5 5 (by omega) (hon 5 rfl)
        replace hv5 : a.tmps[17]? = some v5 := hv5
        obtain ⟨g, fr, rfl, hg, hcs⟩ := hV5
        obtain ⟨w', hrun, hm, hbl⟩ := conv_const (P := Tryd.prog) W2 22 5 _ fr 2 2 g Tryd.underlying22 Tryd.underlying5 hcs
        have hrd : ReadsInt w' .u8 (some ⟨g, 0, none⟩) 2 [13, 10] := crlf_reads (hm.cells _ _ _ _ hcs)
        refine ⟨_, rfl, fun K hK => ?_⟩
        refine want rfl ?_
        refine wp_value ?_ (hK _ _ (RI.step 6 (by omega) hI h12 h11 hm (g4.trans (hbl _ hg)) (fun j hj v => RV_mono hm hj) ⟨_, 2, rfl, hrd⟩))
        simp [execOp, Act.eval, hv5, go_sem, hrun]
      · intro b a W2 hI hb hon hoff
        have h12 : b 12 = false := hoff 12 rfl
        have h11 : b 11 = false := hoff 11 rfl
        obtain ⟨g1, g2, g3, g4, g5⟩ := hI.2 h12
        refine ⟨_, rfl, fun K hK => ?_⟩
        refine want rfl ?_
        refine wp_value ?_ (hK _ _ (RI.step 7 (by omega) hI h12 h11 (Mn.refl _) g4 (fun j hj v => RV_mono (Mn.refl _) hj) rfl))
        simp [execOp, Act.eval, g3, go_sem]
      · intro b a W2 hI hb hon hoff
        have h12 : b 12 = false := hoff 12 rfl
        have h11 : b 11 = false := hoff 11 rfl
        obtain ⟨g1, g2, g3, g4, g5⟩ := hI.2 h12
        have hba : Below W2.heap.size W2 (W2.alloc (.cells #[.int .u8 13, .int .u8 10] 5)) := (Below.refl _ _).alloc (Nat.le_refl _) _
        refine ⟨_, rfl, fun K hK => ?_⟩
        refine want rfl ?_
        refine wp_value ?_ (hK _ _ (RI.step 8 (by omega) hI h12 h11 (Mn.of_below hba) (g4.trans (hba.mono g4.size)) (fun j hj v => RV_mono (Mn.of_below hba) hj) ⟨_, _, rfl, g4.size, World.alloc_heap_new _ _⟩))
        simp [execOp, go_sem]
      · intro b a W2 hI hb hon hoff
        have h12 : b 12 = false := hoff 12 rfl
        have h11 : b 11 = false := hoff 11 rfl
        obtain ⟨g1, g2, g3, g4, g5⟩ := hI.2 h12
        obtain ⟨v8, hv8, hV8⟩ := g5 8 (by omega) (hon 8 rfl)
        replace hv8 : a.tmps[20]? = some v8 := hv8
        obtain ⟨g, fr, rfl, hg, hcs⟩ := hV8
        obtain ⟨w', hrun, hm, hbl⟩ := conv_const (P := Tryd.prog) W2 22 5 _ fr 2 2 g Tryd.underlying22 Tryd.underlying5 hcs
        have hrd : ReadsInt w' .u8 (some ⟨g, 0, none⟩) 2 [13, 10] := crlf_reads (hm.cells _ _ _ _ hcs)
        refine ⟨_, rfl, fun K hK => ?_⟩
        refine want rfl ?_
        refine wp_value ?_ (hK _ _ (RI.step 9 (by omega) hI h12 h11 hm (g4.trans (hbl _ hg)) (fun j hj v => RV_mono hm hj) ⟨_, 2, rfl, hrd⟩))
        simp [execOp, Act.eval, hv8, go_sem, hrun]
      · intro b a W2 hI hb hon hoff
        have h12 : b 12 = false := hoff 12 rfl
        have h11 : b 11 = false := hoff 11 rfl
        obtain ⟨g1, g2, g3, g4, g5⟩ := hI.2 h12
        obtain ⟨v0, hv0, hV0⟩ := g5 0 (by omega) (hon 0 rfl)
        replace hv0 : a.tmps[12]? = some v0 := hv0
        obtain ⟨v4, hv4, hV4⟩ := g5 4 (by omega) (hon 4 rfl)
        replace hv4 : a.tmps[16]? = some v4 := hv4
        obtain ⟨v6, hv6, hV6⟩ := g5 6 (by omega) (hon 6 rfl)
        replace hv6 : a.tmps[18]? = some v6 := hv6
        obtain ⟨v7, hv7, hV7⟩ := g5 7 (by omega) (hon 7 rfl)
        replace hv7 : a.tmps[19]? = some v7 := hv7
        obtain ⟨v9, hv9, hV9⟩ := g5 9 (by omega) (hon 9 rfl)
        replace hv9 : a.tmps[21]? = some v9 := hv9
        obtain rfl := hV0
        obtain rfl := hV7
        obtain ⟨A4, c4, rfl, hr4⟩ := hV4
        obtain ⟨A6, c6, rfl, hr6⟩ := hV6
        obtain ⟨A9, c9, rfl, hr9⟩ := hV9
        have hba : ∀ o, Below W2.heap.size W2 (W2.alloc o) := fun o => (Below.refl _ _).alloc (Nat.le_refl _) _
        have hm0 := Mn.of_below (g4.mono (Nat.le_refl _))
        have hrows : Rows1 (W2.alloc (.cells #[.slice Ao (chunksE pre).length co, .slice A4 (hexL 17 x.bytes.length).length c4, .slice A6 2 c6, .slice (A.map (·.add (x.1 * sz))) x.bytes.length x.bytes.length, .slice A9 2 c9] 22)) (some ⟨W2.heap.size, 0, none⟩) [chunksE pre, hexL 17 x.bytes.length, [13, 10], x.bytes, [13, 10]] := by
          refine ⟨by simp, fun j hj => ?_⟩
          have hm := Mn.of_below (hba (.cells #[.slice Ao (chunksE pre).length co, .slice A4 (hexL 17 x.bytes.length).length c4, .slice A6 2 c6, .slice (A.map (·.add (x.1 * sz))) x.bytes.length x.bytes.length, .slice A9 2 c9] 22))
          simp only [List.length_cons, List.length_nil] at hj
          rcases j with _ | _ | _ | _ | _ | j
          · exact ⟨_, _, _, rfl, by rw [add_plain, World.cell?_alloc_new]; rfl, hm.reads (hm0.reads (own_reads' hown))⟩
          · exact ⟨_, _, _, rfl, by rw [add_plain, World.cell?_alloc_new]; rfl, hm.reads hr4⟩
          · exact ⟨_, _, _, rfl, by rw [add_plain, World.cell?_alloc_new]; rfl, hm.reads hr6⟩
          · exact ⟨_, _, _, rfl, by rw [add_plain, World.cell?_alloc_new]; rfl, hm.reads (hm0.reads HP.out)⟩
          · exact ⟨_, _, _, rfl, by rw [add_plain, World.cell?_alloc_new]; rfl, hm.reads hr9⟩
          · omega
        refine ⟨_, rfl, fun K hK => ?_⟩
        refine want rfl ?_
        refine wp_value ?_ (hK _ _ (RI.step 10 (by omega) hI h12 h11 (Mn.of_below (hba _)) (g4.trans ((hba _).mono g4.size)) (fun j hj v => RV_mono (Mn.of_below (hba _)) hj) ⟨_, 5, rfl, hrows⟩))
        simp [execOp, Act.eval, hv0, hv4, hv6, hv7, hv9, go_sem]
      · intro b a W2 hI hb hon hoff
        have h12 : b 12 = false := hoff 12 rfl
        have h11 : b 11 = false := hb
        obtain ⟨g1, g2, g3, g4, g5⟩ := hI.2 h12
        obtain ⟨v10, hv10, hV10⟩ := g5 10 (by omega) (hon 10 rfl)
        replace hv10 : a.tmps[22]? = some v10 := hv10
        obtain ⟨A10, c10, rfl, hr10⟩ := hV10
        have hfl : ([chunksE pre, hexL 17 x.bytes.length, [13, 10], x.bytes, [13, 10]] : List (List Int)).flatten = chunksE pre ++ chunkE x.bytes := by simp [chunkE]
        have hll : (chunksE pre ++ chunkE x.bytes).length ≤ 140737488355328 := by
          have h1 := chunksE_length pre
          have h2 := chunkE_length x
          have h3 : pre.length * (l.length + 21) ≤ 1048576 * (1048576 + 21) := Nat.mul_le_mul (by omega) (by omega)
          rw [List.length_append]
          omega
        refine ⟨_, rfl, fun K hK => ?_⟩
        refine want rfl ?_
        refine wp_call (f := 34) (args := #[.slice A10 5 c10]) ?_ ((concat_calls A10 c10 _ W2 hr10 (by rw [hfl]; exact hll)).mono ?_)
        · simp [execOp, Act.eval, hv10, go_sem]
        · rintro e w' ⟨v', rfl, hR, hbw⟩
          rw [hfl] at hR
          refine ⟨_, rfl, hK _ _ (RI.step 11 (by omega) hI h12 h11 (Mn.of_below hbw) (g4.trans (hbw.mono g4.size)) (fun j hj v => RV_mono (Mn.of_below hbw) hj) ?_)⟩
          exact own_le (Kd.own_of_R hR) g4.size
      · intro b a W2 hI hb hon hoff
        obtain ⟨g1, g2, g3, g4, g5⟩ := hI.2 hb
        obtain ⟨v11, hv11, hV11⟩ := g5 11 (by omega) (hon 11 rfl)
        replace hv11 : a.tmps[23]? = some v11 := hv11
        have hown11 : W2.ownsRow W.heap.size 5 1 v11 (chunksE pre ++ chunkE x.bytes).length (nums .u8 (chunksE pre ++ chunkE x.bytes)) := hV11
        have hbx2 : Boxed W2 w.heap.size 22 _ := (g4.block _ hbx.lt).trans hbx
        have hc2 := hbx2.cell
        have hf2 := hbx2.frozen
        refine ⟨_, rfl, fun K hK => ?_⟩
        refine want rfl ?_
        have hko : KeepsOthers W W2 := ⟨g4.size, fun k o hk _ => (g4.block k (Array.getElem?_eq_some_iff.1 hk).1).trans hk⟩
        have hE : RI (RV W.heap.size Ao co (chunksE pre) (A.map (·.add (x.1 * sz))) x.bytes) (.pointer (some ⟨w.heap.size, 0, none⟩)) (.slice (A.map (·.add (x.1 * sz))) x.bytes.length x.bytes.length) W (fun w' => KeepsOthers W w' ∧ KeepB (w.heap.size + 1) W w' ∧ (∃ v, Boxed w' w.heap.size 22 v ∧ w'.ownsRow w.heap.size 5 1 v (chunksE (pre ++ [x])).length (nums .u8 (chunksE (pre ++ [x]))) ∧ True) ∧ Below w.heap.size W0 w') (up b 12) a (W2.setCell ⟨w.heap.size, 0, none⟩ v11) := by
          refine ⟨fun _ => ⟨hko.trans (KeepsOthers.setCell _ _ _), fun k hk => ?_, ⟨v11, hbx2.set v11, ?_, trivial⟩, (hBW0.trans (g4.mono (by omega))).setCell (Nat.le_refl _) _⟩, fun h => by rw [up_self] at h; cases h⟩
          · rw [Below.heap_setCell _ _ _ k (by show k ≠ w.heap.size; omega)]
            exact g4.block k (by omega)
          · rw [chunksE_append]
            refine own_le (base := W.heap.size) ?_ (by omega)
            exact ownsRow_setCell_below hown11 hbx.lt _
        unfold Oper.wp
        obtain ⟨A11, c11, rfl⟩ : ∃ A c, v11 = .slice A (chunksE pre ++ chunkE x.bytes).length c := by
          obtain ⟨A, c, h, _⟩ := own_reads hown11
          exact ⟨A, c, h⟩
        simp [execOp, Act.eval, g2, hv11, go_sem, hc2, hf2, Oper.upon]
        rw [← List.length_append]
        exact hK _ _ hE
    · intro b a W2 hb hI
      exact hI.1 (hb 12 rfl)
  case done =>
    rintro D ys W hD hS ⟨⟨v, hbx, hown, _⟩, hBW0⟩ hK
    have hBW := hb0.trans hBW0
    have hc2 := hbx.cell
    have hout : (chunksE ys).length ≤ 1048576 * (1048576 + 21) := by
      have h1 := chunksE_length ys
      have h3 : ys.length ≤ 1048576 := by
        rcases Nat.eq_zero_or_pos ys.length with h | h
        · omega
        · have h4 := hS.2.2 h
          have h5 : (ys.length - 1) * 1 ≤ (ys.length - 1) * sz := Nat.mul_le_mul_left _ hsz1
          omega
      have h4 : ys.length * (l.length + 21) ≤ 1048576 * (1048576 + 21) := Nat.mul_le_mul h3 (by omega)
      omega
    gi_wp2_with (gi_at_builtin; refine app_str_in W w w.heap.size rfl (.tmp 24) (.const (Value.string { data := #[48, 13, 10, 13, 10] })) 22 9 5 rfl Tryd.underlying22 Tryd.underlying9 j5' v (chunksE ys) _ [48, 13, 10, 13, 10] (by rfl) rfl rfl hown hBW hBW.size (by have : (ByteArray.mk #[48, 13, 10, 13, 10]).size = 5 := rfl; omega) ?_; intro v1 w1 ho1 hb1 hg1; replace ho1 := Aside0.mk ho1; replace hb1 := Aside0.mk hb1; replace hg1 := Aside0.mk hg1)
    have hne : some D ≠ v.ownBlock := by
      rcases hown.2 with ⟨rfl, _⟩ | ⟨g, cap, cur, rfl, _, hgb, _⟩
      · simp [Value.ownBlock]
      · intro e'
        obtain rfl : D = g := by simpa [Value.ownBlock] using e'
        have := hK.symm.trans hgb
        cases this
    have hK1 : w1.heap[D]? = some (.deferred (some [])) := (hg1.out.block D (Array.getElem?_eq_some_iff.1 hK).1 hne).trans hK
    have hF : bytesF l size = chunksE ys ++ [48, 13, 10, 13, 10] := by
      unfold bytesF
      rw [hsz, Int.toNat_natCast, chunksE_all ys hS.1 hS.2.1 hS.2.2 hsz1]
    refine ⟨by simp, .inl ⟨_, _, rfl, run_takeDeferred hK1, ?_⟩⟩
    refine ⟨_, results_tmp rfl _ _ _, _, rfl, ?_, hb1.out.trans (belowK_b (w := w) (Nat.le_refl _) w1 D _ _ (by omega) hK1 rfl rfl)⟩
    rw [hF]
    exact ownsRow_putObj ho1.out _ hK1 rfl
  case stop =>
    rintro D c pre W _ _ h _
    exact h.elim
end Go.Proofs.YtibgcbngnfaaiaaDoor.H
