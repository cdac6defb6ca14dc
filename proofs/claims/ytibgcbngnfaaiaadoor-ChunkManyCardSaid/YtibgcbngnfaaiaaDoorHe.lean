/- (*chunk.reader).trailers walked. -/
import Derived.Test.YtibgcbngnfaaiaaDoorHd
import Derived.Test.YtibgcbngnfaaiaaDoorPAx5
import Derived.Outline
namespace Go.Proofs.YtibgcbngnfaaiaaDoor.H
open Go.RowKit Go.Proofs.YtibgcbngnfaaiaaDoorW.PrintWords Go.Proofs.YtibgcbngnfaaiaaDoorW.PrintLast Go.Proofs.YtibgcbngnfaaiaaDoorW.PrintMore
set_option linter.unusedVariables false
set_option linter.unusedSimpArgs false

theorem gtrans {w w1 w2 : World} {row : Option Nat} (h : w.grownBy w1 row) (k : w1.grownBy w2 row) : w.grownBy w2 row := World.grownBy.trans h k
theorem gbelow {w w1 w2 : World} {row : Option Nat} (h : w.grownBy w1 row) (k : Below w1.heap.size w1 w2) : w.grownBy w2 row := World.grownBy.trans h (grown_of_below k row)
theorem grefl (w : World) (row : Option Nat) : w.grownBy w row := ⟨rfl, rfl, rfl, Nat.le_refl _, fun _ _ _ => rfl⟩
theorem rdr_below {w w1 : World} {g : Nat} {A : Option Addr} {c p : Nat} {l : List Int} (h : Rdr w g A c l p) (k : Below w.heap.size w w1) : Rdr w1 g A c l p := by
  unfold Rdr at h ⊢
  exact blk_below h k

theorem galloc {w w1 : World} {row : Option Nat} (h : w.grownBy w1 row) (o : Obj) : w.grownBy (w1.alloc o) row := World.grownBy.trans h (World.grownBy_alloc _ _ _)
theorem rdr_alloc {w : World} {g : Nat} {A : Option Addr} {c p : Nat} {l : List Int} (h : Rdr w g A c l p) (o : Obj) : Rdr (w.alloc o) g A c l p := by
  unfold Rdr at h ⊢
  exact blk_alloc h o
/-- One text in a block of its own. -/
theorem reads_one (w : World) (s : ByteArray) (e : TypeId) : ReadsOf Value.string ByteArray.empty (w.alloc (.cells #[.string s] e)) (some ⟨w.heap.size, 0, none⟩) 1 [s] :=
  ⟨rfl, by omega, fun _ => ⟨_, rfl, fun j hj => by
    obtain rfl : j = 0 := by omega
    exact blk_cell (blk_new w _) 0⟩⟩

/-- A line that is there. -/
theorem line_ok {g : Nat} {A : Option Addr} {c : Nat} {l : List Int} {p : Nat} {w : World} {s r : List Int} (h : lineL 0 (l.drop p) = .ok (s, r)) (hg : Rdr w g A c l p) (hr : ReadsInt w .u8 A l.length l) (hc : l.length ≤ c) (hp : p ≤ l.length) :
    Calls Tryd.prog 68 #[.pointer (some ⟨g, 0, none⟩)] w fun e w' => e = .returned (.string (strOfNums s)) ∧ w.grownBy w' (some g) ∧ Rdr w' g A c l (l.length - r.length) := by
  refine (line_calls g A c l p w hg hr hc hp).mono fun e w' hq => ?_
  unfold LinePost at hq
  rw [h] at hq
  obtain ⟨he, q, rfl⟩ := hq
  refine ⟨he, gset (show w.grownBy (w.drewN q) (some g) from ⟨rfl, rfl, rfl, Nat.le_refl _, fun _ _ _ => rfl⟩) _ _, ?_⟩
  unfold Rdr at hg ⊢
  exact blk_set (blk_drewN hg q) 1 _
theorem line_err {g : Nat} {A : Option Addr} {c : Nat} {l : List Int} {p : Nat} {w : World} {x : Int} (h : lineL 0 (l.drop p) = .error x) (hg : Rdr w g A c l p) (hr : ReadsInt w .u8 A l.length l) (hc : l.length ≤ c) (hp : p ≤ l.length) :
    Calls Tryd.prog 68 #[.pointer (some ⟨g, 0, none⟩)] w fun e w' => e = .panicked (stopC x) ∧ w = w' := by
  refine (line_calls g A c l p w hg hr hc hp).mono fun e w' hq => ?_
  unfold LinePost at hq
  rw [h] at hq
  exact hq

/-- The trailers from place p on, n of them read. -/
def trailF (ok : ByteArray → Bool) (l : List Int) : Nat → Nat → Nat → Except Int Nat
  | 0, _, _ => .error 0
  | d + 1, n, p =>
    match lineL 0 (l.drop p) with
    | .error x => .error x
    | .ok (s, r) => if s = [] then .ok (l.length - r.length) else if ok (strOfNums s) = true ∧ n < 100 then trailF ok l d (n + 1) (l.length - r.length) else .error 94
theorem trail_err {ok : ByteArray → Bool} {l : List Int} {d n p : Nat} {x : Int} (h : lineL 0 (l.drop p) = .error x) : trailF ok l (d + 1) n p = .error x := by rw [trailF, h]
theorem trail_ok {ok : ByteArray → Bool} {l : List Int} {d n p : Nat} {s r : List Int} (h : lineL 0 (l.drop p) = .ok (s, r)) :
    trailF ok l (d + 1) n p = if s = [] then .ok (l.length - r.length) else if ok (strOfNums s) = true ∧ n < 100 then trailF ok l d (n + 1) (l.length - r.length) else .error 94 := by rw [trailF, h]

def TrailPost (ok : ByteArray → Bool) (l : List Int) (A : Option Addr) (c p g : Nat) (w : World) (e : Ending) (w' : World) : Prop :=
  match trailF ok l (l.length + 1) 0 p with
  | .ok q => e = .returned (.tuple #[]) ∧ w.grownBy w' (some g) ∧ Rdr w' g A c l q
  | .error x => e = .panicked (stopC x) ∧ w.grownBy w' (some g)
theorem tpost_err {ok : ByteArray → Bool} {l : List Int} {A : Option Addr} {c p g : Nat} {w w' : World} {x : Int} (h : trailF ok l (l.length + 1) 0 p = .error x) (hw : w.grownBy w' (some g)) : TrailPost ok l A c p g w (.panicked (stopC x)) w' := by
  unfold TrailPost; rw [h]; exact ⟨rfl, hw⟩
theorem tpost_ok {ok : ByteArray → Bool} {l : List Int} {A : Option Addr} {c p g q : Nat} {w w' : World} (h : trailF ok l (l.length + 1) 0 p = .ok q) (hw : w.grownBy w' (some g)) (hr : Rdr w' g A c l q) : TrailPost ok l A c p g w (.returned (.tuple #[])) w' := by
  unfold TrailPost; rw [h]; exact ⟨rfl, hw, hr⟩

/-- head.Parse of one line. -/
def FieldOk (ok : ByteArray → Bool) : Prop := ∀ (s : ByteArray) (A : Option Addr) (c : Nat) (W : World), ReadsOf Value.string ByteArray.empty W A 1 [s] → 1 ≤ c → s.size ≤ 4294967296 →
  Calls Tryd.prog 78 #[.slice A 1 c] W fun e W' => ∃ (v : Value) (r : Int), e = .returned (.tuple #[v, .int .i64 r]) ∧ Aside0 ((r == 0) = ok s) ∧ Below W.heap.size W W'

theorem field_ok {ok : ByteArray → Bool} (h : FieldOk ok) {s : ByteArray} {A : Option Addr} {c : Nat} {W : World} (h1 : ReadsOf Value.string ByteArray.empty W A 1 [s]) (h2 : 1 ≤ c) (h3 : s.size ≤ 4294967296) :
    Calls Tryd.prog 78 #[.slice A 1 c] W fun e W' => ∃ (v : Value) (r : Int), e = .returned (.tuple #[v, .int .i64 r]) ∧ Aside0 ((r == 0) = ok s) ∧ Below W.heap.size W W' := h s A c W h1 h2 h3

set_option maxHeartbeats 4000000 in
set_option maxRecDepth 100000 in
theorem trailers_calls (ok : ByteArray → Bool) (hok : FieldOk ok) (g : Nat) (A : Option Addr) (c : Nat) (l : List Int) (p : Nat) (w : World) (hg : Rdr w g A c l p)
    (hr : ∀ W, w.grownBy W (some g) → ReadsInt W .u8 A l.length l) (hc : l.length ≤ c) (hp : p ≤ l.length) :
    Calls Tryd.prog 69 #[.pointer (some ⟨g, 0, none⟩)] w (TrailPost ok l A c p g w) := by
  have HR := Aside0.mk hr
  have HG := Aside0.mk hg
  have HC := Aside0.mk hc
  have HOK := Aside0.mk hok
  clear hr hg hc hok
  go_enter Tryd.func69, Tryd.ntmps69
  go_wp2
  go_loopw [2] (fun i wr => ∃ n q d : Nat, n ≤ 100 ∧ i = .int .i64 n ∧ Aside0 (w.grownBy wr (some g)) ∧ Aside0 (Rdr wr g A c l q) ∧ q ≤ l.length ∧ Aside0 (l.length < d + q) ∧ Aside0 (trailF ok l (l.length + 1) 0 p = trailF ok l d n q)) (fun i _ => 100 - (intOf i).toNat)
  case atStart => exact ⟨0, p, l.length + 1, by omega, rfl, ⟨grefl _ _⟩, HG, hp, ⟨by omega⟩, ⟨rfl⟩⟩
  case round =>
    obtain ⟨n, q, d, hn, rfl, HW, HRD, hq, HD, HE⟩ := hrel
    obtain ⟨d, rfl⟩ : ∃ d', d = d' + 1 := ⟨d - 1, by have := HD.out; omega⟩
    cases hl : lineL 0 (l.drop q) with
    | error x =>
      have HL := Aside0.mk hl
      have HF : Aside0 (trailF ok l (l.length + 1) 0 p = .error x) := ⟨by rw [HE.out, trail_err hl]⟩
      clear hl
      go_wp2_with (go_at_call 68; ((with_reducible refine (line_err HL.out HRD.out (HR.out _ HW.out) HC.out hq).mono ?_); rintro e w' ⟨rfl, rfl⟩))
      exact ⟨rfl, tpost_err HF.out HW.out⟩
    | ok sr =>
      obtain ⟨s, r⟩ := sr
      have HL := Aside0.mk hl
      have hll := line_len _ _ _ _ hl
      rw [List.length_drop] at hll
      clear hl
      by_cases hs : s = []
      · subst hs
        have HF : Aside0 (trailF ok l (l.length + 1) 0 p = .ok (l.length - r.length)) := ⟨by rw [HE.out, trail_ok HL.out, if_pos rfl]⟩
        have hemp : (strOfNums []).toList.isEmpty = true := by simp [strOfNums]
        go_wp2_with (go_at_call 68; ((with_reducible refine (line_ok HL.out HRD.out (HR.out _ HW.out) HC.out hq).mono ?_); rintro e w1 ⟨rfl, hw1, hr1⟩))
        refine bodyPost_ret (results_none rfl _ _ _) rfl ?_
        exact tpost_ok HF.out (gtrans HW.out hw1) hr1
      · have hemp : (strOfNums s).toList.isEmpty = false := by
          cases s with
          | nil => exact absurd rfl hs
          | cons x s => simp [strOfNums]
        have HS : Aside0 ((strOfNums s).size ≤ 4294967296) := ⟨by rw [strOfNums_size]; have := line_short _ _ _ _ HL.out; omega⟩
        have HN : Aside0 (trailF ok l (l.length + 1) 0 p = if ok (strOfNums s) = true ∧ n < 100 then trailF ok l d (n + 1) (l.length - r.length) else .error 94) := ⟨by rw [HE.out, trail_ok HL.out, if_neg hs]⟩
        clear hs
        cases hq1 : ok (strOfNums s) with
        | true =>
          by_cases hn1 : n < 100
          · have hn2 : decide ((n : Int) < 100) = true := by simp; omega
            have HF : Aside0 (trailF ok l (l.length + 1) 0 p = trailF ok l d (n + 1) (l.length - r.length)) := ⟨by rw [HN.out, if_pos ⟨hq1, hn1⟩]⟩
            have HQ := Aside0.mk hq1
            clear hq1
            go_wp2_with (first | (go_at_call 68; ((with_reducible refine (line_ok HL.out HRD.out (HR.out _ HW.out) HC.out hq).mono ?_); rintro e w1 ⟨rfl, hw1, hr1⟩; replace hw1 := Aside0.mk hw1; replace hr1 := Aside0.mk hr1)) | (go_at_call 78; ((with_reducible refine (field_ok HOK.out (reads_one _ (strOfNums s) _) (Nat.le_refl _) HS.out).mono ?_); rintro e w2 ⟨v, r0, rfl, hk, hb⟩; have hk' : (r0 == 0) = true := hk.out.trans HQ.out; replace hb := Aside0.mk hb)) | (go_at_call 70; ((with_reducible refine (must_ok _ _).mono ?_); rintro e w' ⟨rfl, rfl⟩)))
            go_roundw
            case rel => exact ⟨n + 1, l.length - r.length, d, by omega, by go_num, ⟨gbelow (galloc (gtrans HW.out hw1.out) _) hb.out⟩, ⟨rdr_below (rdr_alloc hr1.out _) hb.out⟩, by omega, ⟨by have := HD.out; omega⟩, HF⟩
            case measure => simp [intOf]; omega
          · have hn2 : decide ((n : Int) < 100) = false := by simp; omega
            have HF : Aside0 (trailF ok l (l.length + 1) 0 p = .error 94) := ⟨by rw [HN.out, if_neg (fun h => hn1 h.2)]⟩
            have HQ := Aside0.mk hq1
            clear hq1
            go_wp2_with (first | (go_at_call 68; ((with_reducible refine (line_ok HL.out HRD.out (HR.out _ HW.out) HC.out hq).mono ?_); rintro e w1 ⟨rfl, hw1, hr1⟩; replace hw1 := Aside0.mk hw1; replace hr1 := Aside0.mk hr1)) | (go_at_call 78; ((with_reducible refine (field_ok HOK.out (reads_one _ (strOfNums s) _) (Nat.le_refl _) HS.out).mono ?_); rintro e w2 ⟨v, r0, rfl, hk, hb⟩; have hk' : (r0 == 0) = true := hk.out.trans HQ.out; replace hb := Aside0.mk hb)) | (go_at_call 70; ((with_reducible refine (must_no _ _).mono ?_); rintro e w' ⟨rfl, rfl⟩)))
            exact ⟨rfl, tpost_err HF.out (gbelow (galloc (gtrans HW.out hw1.out) _) hb.out)⟩
        | false =>
          have HF : Aside0 (trailF ok l (l.length + 1) 0 p = .error 94) := ⟨by rw [HN.out, if_neg (fun h => by rw [hq1] at h; exact absurd h.1 (by simp))]⟩
          have HQ := Aside0.mk hq1
          clear hq1
          go_wp2_with (first | (go_at_call 68; ((with_reducible refine (line_ok HL.out HRD.out (HR.out _ HW.out) HC.out hq).mono ?_); rintro e w1 ⟨rfl, hw1, hr1⟩; replace hw1 := Aside0.mk hw1; replace hr1 := Aside0.mk hr1)) | (go_at_call 78; ((with_reducible refine (field_ok HOK.out (reads_one _ (strOfNums s) _) (Nat.le_refl _) HS.out).mono ?_); rintro e w2 ⟨v, r0, rfl, hk, hb⟩; have hk' : (r0 == 0) = false := hk.out.trans HQ.out; replace hb := Aside0.mk hb)) | (go_at_call 70; ((with_reducible refine (must_no _ _).mono ?_); rintro e w' ⟨rfl, rfl⟩)))
          exact ⟨rfl, tpost_err HF.out (gbelow (galloc (gtrans HW.out hw1.out) _) hb.out)⟩
end Go.Proofs.YtibgcbngnfaaiaaDoor.H
