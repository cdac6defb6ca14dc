/- (*chunk.reader).end walked. -/
import Derived.Test.YtibgcbngnfaaiaaDoorHb
import Derived.StillTailTactics
import Derived.Lib.SlBytesConst
import Derived.Outline
namespace Go.Proofs.YtibgcbngnfaaiaaDoor.H
open Go.RowKit Go.Proofs.YtibgcbngnfaaiaaDoorW.PrintWords Go.Proofs.YtibgcbngnfaaiaaDoorW.PrintLast Go.Proofs.YtibgcbngnfaaiaaDoorW.PrintMore
set_option linter.unusedVariables false
set_option linter.unusedSimpArgs false

/-- A reader's block. -/
def Rdr (w : World) (g : Nat) (A : Option Addr) (c : Nat) (l : List Int) (p : Nat) : Prop := w.heap[g]? = some (.cells #[.slice A l.length c, .int .i64 p] 68 (0, 0))

theorem rdr_lt {w : World} {g : Nat} {A : Option Addr} {c p : Nat} {l : List Int} (h : Rdr w g A c l p) : g < w.heap.size := by
  unfold Rdr at h
  exact blk_lt h
theorem rdr_set {w : World} {g : Nat} {A : Option Addr} {c p q : Nat} {l : List Int} (h : Rdr w g A c l p) : Rdr (w.drew.setCell ⟨g, 1, none⟩ (.int .i64 q)) g A c l q := by
  unfold Rdr at h ⊢
  exact blk_set (blk_drew h) 1 _

/-- The end of a line, d bytes of it still to come. -/
def endF (l : List Int) : Nat → Nat → Except Int Nat
  | 0, p => .ok p
  | d + 1, p => if p < l.length then (if rd l p = (if d = 0 then 10 else 13) then endF l d (p + 1) else .error 94) else .error 92

def EndPost (l : List Int) (A : Option Addr) (c p g : Nat) (w : World) (e : Ending) (w' : World) : Prop :=
  match endF l 2 p with
  | .ok q => e = .returned (.tuple #[]) ∧ w.grownBy w' (some g) ∧ Rdr w' g A c l q
  | .error x => e = .panicked (stopC x) ∧ w.grownBy w' (some g)

theorem gdrew {w w1 : World} {row : Option Nat} (h : w.grownBy w1 row) : w.grownBy w1.drew row := ⟨h.os, h.tape, h.output, h.size, h.block⟩
theorem gset {w w1 : World} {g : Nat} (h : w.grownBy w1 (some g)) (j : Nat) (v : Value) : w.grownBy (w1.setCell ⟨g, j, none⟩ v) (some g) :=
  ⟨h.os, h.tape, h.output, by simp [World.setCell]; exact h.size, fun k hk hne => by
    rw [Below.heap_setCell _ _ _ _ (fun e => hne (by rw [e]))]
    exact h.block k hk hne⟩
theorem epost_err {l : List Int} {A : Option Addr} {c p g : Nat} {w w' : World} {x : Int} (h : endF l 2 p = .error x) (hw : w.grownBy w' (some g)) : EndPost l A c p g w (.panicked (stopC x)) w' := by
  unfold EndPost; rw [h]; exact ⟨rfl, hw⟩
theorem epost_ok {l : List Int} {A : Option Addr} {c p g q : Nat} {w w' : World} (h : endF l 2 p = .ok q) (hw : w.grownBy w' (some g)) (hr : Rdr w' g A c l q) : EndPost l A c p g w (.returned (.tuple #[])) w' := by
  unfold EndPost; rw [h]; exact ⟨rfl, hw, hr⟩

set_option maxHeartbeats 4000000 in
set_option maxRecDepth 100000 in
theorem end_calls (g : Nat) (A : Option Addr) (c : Nat) (l : List Int) (p : Nat) (w : World) (hg : Rdr w g A c l p)
    (hr : ∀ W, w.grownBy W (some g) → ReadsInt W .u8 A l.length l) (hp : p ≤ l.length) :
    Calls Tryd.prog 71 #[.pointer (some ⟨g, 0, none⟩)] w (EndPost l A c p g w) := by
  have HR := Aside0.mk hr
  have HG := Aside0.mk hg
  clear hr hg
  have kc := fun (w : World) (C : Array Value) (n c : Nat) => Lib.run_convert_bytes_const (P := Tryd.prog) w 22 5 C n c Tryd.underlying22 Tryd.underlying5
  go_enter Tryd.func71, Tryd.ntmps71
  go_wp2
  clear kc
  go_loopw [7] (fun i wr => ∃ k q : Nat, k ≤ 2 ∧ i = .int .i64 k ∧ Aside0 (w.grownBy wr (some g)) ∧ Aside0 (wr.heap[w.heap.size]? = some (.cells #[.int .u8 13, .int .u8 10] 5 (2, 3))) ∧ Aside0 (Rdr wr g A c l q) ∧ q ≤ l.length ∧ Aside0 (endF l 2 p = endF l (2 - k) q)) (fun i _ => 2 - (intOf i).toNat)
  case atStart => exact ⟨0, p, by omega, rfl, ⟨World.grownBy_alloc _ _ _⟩, ⟨blk_new _ _⟩, ⟨blk_alloc HG.out _⟩, hp, ⟨rfl⟩⟩
  case round =>
    obtain ⟨k, q, hk, rfl, HW, HLIT, HRD, hq, HE⟩ := hrel
    by_cases hlt : k < 2
    · have hb0 : wr.cell? ⟨g, 0, none⟩ = some (.slice A l.length c) := blk_cell HRD.out 0
      have hb1 : wr.cell? ⟨g, 1, none⟩ = some (.int .i64 q) := blk_cell HRD.out 1
      have hf1 : wr.frozen? ⟨g, 1, none⟩ = false := blk_frozen HRD.out 1
      obtain ⟨v, hv⟩ : ∃ v : Int, v = if k = 0 then 13 else 10 := ⟨_, rfl⟩
      have hlit : wr.cell? ⟨w.heap.size, k, none⟩ = some (.int .u8 v) := by
        rw [World.cell?, HLIT.out, hv]
        rcases (show k = 0 ∨ k = 1 by omega) with rfl | rfl <;> rfl
      have HV := Aside0.mk hv
      clear hv
      have HEk : Aside0 (endF l 2 p = if q < l.length then (if rd l q = v then endF l (2 - (k + 1)) (q + 1) else .error 94) else .error 92) := ⟨by
        rw [HE.out, HV.out]
        rcases (show k = 0 ∨ k = 1 by omega) with rfl | rfl <;> rfl⟩
      have hn := (HR.out w ⟨rfl, rfl, rfl, Nat.le_refl _, fun _ _ _ => rfl⟩).2.1
      by_cases hql : q < l.length
      · have hql' : decide ((q : Int) < (l.length : Int)) = true := by simp; omega
        obtain ⟨ad, hA, hx⟩ := (HR.out wr HW.out).at_ (q : Int) (by omega) (by omega)
        rw [Int.toNat_natCast] at hx
        subst hA
        have hq0 : 0 ≤ (q : Int) := by omega
        by_cases hqv : rd l (q : Int) = v
        · have hqv' : (rd l (q : Int) == v) = true := by simpa using hqv
          have HF : Aside0 (endF l 2 p = endF l (2 - (k + 1)) (q + 1)) := ⟨by rw [HEk.out, if_pos hql, if_pos hqv]⟩
          clear hqv
          go_wp2
          go_still_tail 10, (by kernel_rfl)
          change wpList _ _ _ _ _ wr.drew
          obtain ⟨w2, hw2, HW2, HLIT2, HRD2, hb02, hb12, hf12, hlit2, hx2⟩ : ∃ w2, wr.drew = w2 ∧ Aside0 (w.grownBy w2 (some g)) ∧ Aside0 (w2.heap[w.heap.size]? = some (.cells #[.int .u8 13, .int .u8 10] 5 (2, 3))) ∧ Aside0 (Rdr w2 g (some ad) c l q) ∧
              w2.cell? ⟨g, 0, none⟩ = some (.slice (some ad) l.length c) ∧ w2.cell? ⟨g, 1, none⟩ = some (.int .i64 q) ∧ w2.frozen? ⟨g, 1, none⟩ = false ∧ w2.cell? ⟨w.heap.size, k, none⟩ = some (.int .u8 v) ∧ w2.cell? (ad.add q) = some (.int .u8 (rd l q)) :=
            ⟨_, rfl, ⟨gdrew HW.out⟩, ⟨HLIT.out⟩, ⟨HRD.out⟩, hb0, hb1, hf1, hlit, hx⟩
          rw [hw2]
          clear hw2 hb0 hb1 hf1 hlit hx
          go_wp2_with (go_at_call 70; ((with_reducible refine (must_ok _ _).mono ?_); rintro e w' ⟨rfl, rfl⟩))
          go_still_tail 12, (by kernel_rfl)
          change wpList _ _ _ _ _ w2.drew
          go_wp2_with (go_at_call 70; ((with_reducible refine (must_ok _ _).mono ?_); rintro e w' ⟨rfl, rfl⟩))
          go_roundw
          case rel => exact ⟨k + 1, q + 1, by omega, by go_num, ⟨gset (gdrew HW2.out) _ _⟩, ⟨(Below.heap_setCell _ _ _ _ (Nat.ne_of_gt (rdr_lt HG.out))).trans (blk_drew HLIT2.out)⟩, ⟨rdr_set HRD2.out⟩, by omega, HF⟩
          case measure => simp [intOf]; omega
        · have hqv' : (rd l (q : Int) == v) = false := by simpa using hqv
          have HF : Aside0 (endF l 2 p = .error 94) := ⟨by rw [HEk.out, if_pos hql, if_neg hqv]⟩
          clear hqv
          go_wp2
          go_still_tail 10, (by kernel_rfl)
          change wpList _ _ _ _ _ wr.drew
          obtain ⟨w2, hw2, HW2, HLIT2, HRD2, hb02, hb12, hf12, hlit2, hx2⟩ : ∃ w2, wr.drew = w2 ∧ Aside0 (w.grownBy w2 (some g)) ∧ Aside0 (w2.heap[w.heap.size]? = some (.cells #[.int .u8 13, .int .u8 10] 5 (2, 3))) ∧ Aside0 (Rdr w2 g (some ad) c l q) ∧
              w2.cell? ⟨g, 0, none⟩ = some (.slice (some ad) l.length c) ∧ w2.cell? ⟨g, 1, none⟩ = some (.int .i64 q) ∧ w2.frozen? ⟨g, 1, none⟩ = false ∧ w2.cell? ⟨w.heap.size, k, none⟩ = some (.int .u8 v) ∧ w2.cell? (ad.add q) = some (.int .u8 (rd l q)) :=
            ⟨_, rfl, ⟨gdrew HW.out⟩, ⟨HLIT.out⟩, ⟨HRD.out⟩, hb0, hb1, hf1, hlit, hx⟩
          rw [hw2]
          clear hw2 hb0 hb1 hf1 hlit hx
          go_wp2_with (go_at_call 70; ((with_reducible refine (must_ok _ _).mono ?_); rintro e w' ⟨rfl, rfl⟩))
          go_still_tail 12, (by kernel_rfl)
          change wpList _ _ _ _ _ w2.drew
          go_wp2_with (go_at_call 70; ((with_reducible refine (must_no _ _).mono ?_); rintro e w' ⟨rfl, rfl⟩))
          exact ⟨rfl, epost_err HF.out (gdrew HW2.out)⟩
      · have hql' : decide ((q : Int) < (l.length : Int)) = false := by simp; omega
        have HF : Aside0 (endF l 2 p = .error 92) := ⟨by rw [HEk.out, if_neg hql]⟩
        go_wp2
        go_still_tail 10, (by kernel_rfl)
        change wpList _ _ _ _ _ wr.drew
        go_wp2_with (go_at_call 70; ((with_reducible refine (must_no _ _).mono ?_); rintro e w' ⟨rfl, rfl⟩))
        exact ⟨rfl, epost_err HF.out (gdrew HW.out)⟩
    · obtain rfl : k = 2 := by omega
      go_wp2
      go_end0
      exact epost_ok HE.out HW.out HRD.out
end Go.Proofs.YtibgcbngnfaaiaaDoor.H
