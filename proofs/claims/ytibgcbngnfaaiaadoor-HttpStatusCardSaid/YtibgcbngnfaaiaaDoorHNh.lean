/- (*chunk.reader).trailers walked. · (*chunk.reader).body walked. · (*chunk.reader).body walked: the loop. · chunk.Open walked. -/
import Derived.Test.YtibgcbngnfaaiaaDoorHNa
import Derived.Test.YtibgcbngnfaaiaaDoorPAx5
import Derived.Outline
import Derived.StillTailTactics
import Derived.IntWalk
import Derived.Defers
namespace Go.Proofs.YtibgcbngnfaaiaaDoor.H
open Go.RowKit Go.Proofs.YtibgcbngnfaaiaaDoorW.PrintWords Go.Proofs.YtibgcbngnfaaiaaDoorW.PrintLast Go.Proofs.YtibgcbngnfaaiaaDoorW.PrintMore
set_option linter.unusedVariables false
set_option linter.unusedSimpArgs false

theorem gtrans {w w1 w2 : World} {row : Option Nat} (h : w.grownBy w1 row) (k : w1.grownBy w2 row) : w.grownBy w2 row := World.grownBy.trans h k
theorem gbelow {w w1 w2 : World} {row : Option Nat} (h : w.grownBy w1 row) (k : Below w1.heap.size w1 w2) : w.grownBy w2 row := World.grownBy.trans h (grown_of_below k row)
theorem grefl (w : World) (row : Option Nat) : w.grownBy w row := ⟨rfl, rfl, rfl, Nat.le_refl _, fun _ _ _ => rfl⟩
theorem rdr_below {w w1 : World} {g : Nat} {A : Option Addr} {c p : Nat} {l : List Int} (h : Rdr w g A c l p) (k : Below w.heap.size w w1) : Rdr w1 g A c l p := by
  unfold Rdr at h ⊢
  exact blk_below h k

theorem galloc {w w1 : World} {row : Option Nat} (h : w.grownBy w1 row) (o : Obj) : w.grownBy (w1.alloc o) row := World.grownBy.trans h (World.grownBy_alloc _ _ _)
theorem rdr_alloc {w : World} {g : Nat} {A : Option Addr} {c p : Nat} {l : List Int} (h : Rdr w g A c l p) (o : Obj) : Rdr (w.alloc o) g A c l p := by
  unfold Rdr at h ⊢
  exact blk_alloc h o
/-- One text in a block of its own. -/
theorem reads_one (w : World) (s : ByteArray) (e : TypeId) : ReadsOf Value.string ByteArray.empty (w.alloc (.cells #[.string s] e)) (some ⟨w.heap.size, 0, none⟩) 1 [s] :=
  ⟨rfl, by omega, fun _ => ⟨_, rfl, fun j hj => by
    obtain rfl : j = 0 := by omega
    exact blk_cell (blk_new w _) 0⟩⟩

/-- A line that is there. -/
theorem line_ok {g : Nat} {A : Option Addr} {c : Nat} {l : List Int} {p : Nat} {w : World} {s r : List Int} (h : lineL 0 (l.drop p) = .ok (s, r)) (hg : Rdr w g A c l p) (hr : ReadsInt w .u8 A l.length l) (hc : l.length ≤ c) (hp : p ≤ l.length) :
    Calls Tryd.prog 68 #[.pointer (some ⟨g, 0, none⟩)] w fun e w' => e = .returned (.string (strOfNums s)) ∧ w.grownBy w' (some g) ∧ Rdr w' g A c l (l.length - r.length) := by
  refine (line_calls g A c l p w hg hr hc hp).mono fun e w' hq => ?_
  unfold LinePost at hq
  rw [h] at hq
  obtain ⟨he, q, rfl⟩ := hq
  refine ⟨he, gset (show w.grownBy (w.drewN q) (some g) from ⟨rfl, rfl, rfl, Nat.le_refl _, fun _ _ _ => rfl⟩) _ _, ?_⟩
  unfold Rdr at hg ⊢
  exact blk_set (blk_drewN hg q) 1 _
theorem line_err {g : Nat} {A : Option Addr} {c : Nat} {l : List Int} {p : Nat} {w : World} {x : Int} (h : lineL 0 (l.drop p) = .error x) (hg : Rdr w g A c l p) (hr : ReadsInt w .u8 A l.length l) (hc : l.length ≤ c) (hp : p ≤ l.length) :
    Calls Tryd.prog 68 #[.pointer (some ⟨g, 0, none⟩)] w fun e w' => e = .panicked (stopC x) ∧ w = w' := by
  refine (line_calls g A c l p w hg hr hc hp).mono fun e w' hq => ?_
  unfold LinePost at hq
  rw [h] at hq
  exact hq

/-- The trailers from place p on, n of them read. -/
def trailF (ok : ByteArray → Bool) (l : List Int) : Nat → Nat → Nat → Except Int Nat
  | 0, _, _ => .error 0
  | d + 1, n, p =>
    match lineL 0 (l.drop p) with
    | .error x => .error x
    | .ok (s, r) => if s = [] then .ok (l.length - r.length) else if ok (strOfNums s) = true ∧ n < 100 then trailF ok l d (n + 1) (l.length - r.length) else .error 94
theorem trail_err {ok : ByteArray → Bool} {l : List Int} {d n p : Nat} {x : Int} (h : lineL 0 (l.drop p) = .error x) : trailF ok l (d + 1) n p = .error x := by rw [trailF, h]
theorem trail_ok {ok : ByteArray → Bool} {l : List Int} {d n p : Nat} {s r : List Int} (h : lineL 0 (l.drop p) = .ok (s, r)) :
    trailF ok l (d + 1) n p = if s = [] then .ok (l.length - r.length) else if ok (strOfNums s) = true ∧ n < 100 then trailF ok l d (n + 1) (l.length - r.length) else .error 94 := by rw [trailF, h]

def TrailPost (ok : ByteArray → Bool) (l : List Int) (A : Option Addr) (c p g : Nat) (w : World) (e : Ending) (w' : World) : Prop :=
  match trailF ok l (l.length + 1) 0 p with
  | .ok q => e = .returned (.tuple #[]) ∧ w.grownBy w' (some g) ∧ Rdr w' g A c l q
  | .error x => e = .panicked (stopC x) ∧ w.grownBy w' (some g)
theorem tpost_err {ok : ByteArray → Bool} {l : List Int} {A : Option Addr} {c p g : Nat} {w w' : World} {x : Int} (h : trailF ok l (l.length + 1) 0 p = .error x) (hw : w.grownBy w' (some g)) : TrailPost ok l A c p g w (.panicked (stopC x)) w' := by
  unfold TrailPost; rw [h]; exact ⟨rfl, hw⟩
theorem tpost_ok {ok : ByteArray → Bool} {l : List Int} {A : Option Addr} {c p g q : Nat} {w w' : World} (h : trailF ok l (l.length + 1) 0 p = .ok q) (hw : w.grownBy w' (some g)) (hr : Rdr w' g A c l q) : TrailPost ok l A c p g w (.returned (.tuple #[])) w' := by
  unfold TrailPost; rw [h]; exact ⟨rfl, hw, hr⟩

/-- head.Parse of one line. -/
def FieldOk (ok : ByteArray → Bool) : Prop := ∀ (s : ByteArray) (A : Option Addr) (c : Nat) (W : World), ReadsOf Value.string ByteArray.empty W A 1 [s] → 1 ≤ c → s.size ≤ 4294967296 →
  Calls Tryd.prog 78 #[.slice A 1 c] W fun e W' => ∃ (v : Value) (r : Int), e = .returned (.tuple #[v, .int .i64 r]) ∧ Aside0 ((r == 0) = ok s) ∧ Below W.heap.size W W'

theorem field_ok {ok : ByteArray → Bool} (h : FieldOk ok) {s : ByteArray} {A : Option Addr} {c : Nat} {W : World} (h1 : ReadsOf Value.string ByteArray.empty W A 1 [s]) (h2 : 1 ≤ c) (h3 : s.size ≤ 4294967296) :
    Calls Tryd.prog 78 #[.slice A 1 c] W fun e W' => ∃ (v : Value) (r : Int), e = .returned (.tuple #[v, .int .i64 r]) ∧ Aside0 ((r == 0) = ok s) ∧ Below W.heap.size W W' := h s A c W h1 h2 h3

set_option maxHeartbeats 4000000 in
set_option maxRecDepth 100000 in
theorem trailers_calls (ok : ByteArray → Bool) (hok : FieldOk ok) (g : Nat) (A : Option Addr) (c : Nat) (l : List Int) (p : Nat) (w : World) (hg : Rdr w g A c l p)
    (hr : ∀ W, w.grownBy W (some g) → ReadsInt W .u8 A l.length l) (hc : l.length ≤ c) (hp : p ≤ l.length) :
    Calls Tryd.prog 69 #[.pointer (some ⟨g, 0, none⟩)] w (TrailPost ok l A c p g w) := by
  have HR := Aside0.mk hr
  have HG := Aside0.mk hg
  have HC := Aside0.mk hc
  have HOK := Aside0.mk hok
  clear hr hg hc hok
  go_enter Tryd.func69, Tryd.ntmps69
  go_wp2
  go_loopw [2] (fun i wr => ∃ n q d : Nat, n ≤ 100 ∧ i = .int .i64 n ∧ Aside0 (w.grownBy wr (some g)) ∧ Aside0 (Rdr wr g A c l q) ∧ q ≤ l.length ∧ Aside0 (l.length < d + q) ∧ Aside0 (trailF ok l (l.length + 1) 0 p = trailF ok l d n q)) (fun i _ => 100 - (intOf i).toNat)
  case atStart => exact ⟨0, p, l.length + 1, by omega, rfl, ⟨grefl _ _⟩, HG, hp, ⟨by omega⟩, ⟨rfl⟩⟩
  case round =>
    obtain ⟨n, q, d, hn, rfl, HW, HRD, hq, HD, HE⟩ := hrel
    obtain ⟨d, rfl⟩ : ∃ d', d = d' + 1 := ⟨d - 1, by have := HD.out; omega⟩
    cases hl : lineL 0 (l.drop q) with
    | error x =>
      have HL := Aside0.mk hl
      have HF : Aside0 (trailF ok l (l.length + 1) 0 p = .error x) := ⟨by rw [HE.out, trail_err hl]⟩
      clear hl
      go_wp2_with (go_at_call 68; ((with_reducible refine (line_err HL.out HRD.out (HR.out _ HW.out) HC.out hq).mono ?_); rintro e w' ⟨rfl, rfl⟩))
      exact ⟨rfl, tpost_err HF.out HW.out⟩
    | ok sr =>
      obtain ⟨s, r⟩ := sr
      have HL := Aside0.mk hl
      have hll := line_len _ _ _ _ hl
      rw [List.length_drop] at hll
      clear hl
      by_cases hs : s = []
      · subst hs
        have HF : Aside0 (trailF ok l (l.length + 1) 0 p = .ok (l.length - r.length)) := ⟨by rw [HE.out, trail_ok HL.out, if_pos rfl]⟩
        have hemp : (strOfNums []).toList.isEmpty = true := by simp [strOfNums]
        go_wp2_with (go_at_call 68; ((with_reducible refine (line_ok HL.out HRD.out (HR.out _ HW.out) HC.out hq).mono ?_); rintro e w1 ⟨rfl, hw1, hr1⟩))
        refine bodyPost_ret (results_none rfl _ _ _) rfl ?_
        exact tpost_ok HF.out (gtrans HW.out hw1) hr1
      · have hemp : (strOfNums s).toList.isEmpty = false := by
          cases s with
          | nil => exact absurd rfl hs
          | cons x s => simp [strOfNums]
        have HS : Aside0 ((strOfNums s).size ≤ 4294967296) := ⟨by rw [strOfNums_size]; have := line_short _ _ _ _ HL.out; omega⟩
        have HN : Aside0 (trailF ok l (l.length + 1) 0 p = if ok (strOfNums s) = true ∧ n < 100 then trailF ok l d (n + 1) (l.length - r.length) else .error 94) := ⟨by rw [HE.out, trail_ok HL.out, if_neg hs]⟩
        clear hs
        cases hq1 : ok (strOfNums s) with
        | true =>
          by_cases hn1 : n < 100
          · have hn2 : decide ((n : Int) < 100) = true := by simp; omega
            have HF : Aside0 (trailF ok l (l.length + 1) 0 p = trailF ok l d (n + 1) (l.length - r.length)) := ⟨by rw [HN.out, if_pos ⟨hq1, hn1⟩]⟩
            have HQ := Aside0.mk hq1
            clear hq1
            go_wp2_with (first | (go_at_call 68; ((with_reducible refine (line_ok HL.out HRD.out (HR.out _ HW.out) HC.out hq).mono ?_); rintro e w1 ⟨rfl, hw1, hr1⟩; replace hw1 := Aside0.mk hw1; replace hr1 := Aside0.mk hr1)) | (go_at_call 78; ((with_reducible refine (field_ok HOK.out (reads_one _ (strOfNums s) _) (Nat.le_refl _) HS.out).mono ?_); rintro e w2 ⟨v, r0, rfl, hk, hb⟩; have hk' : (r0 == 0) = true := hk.out.trans HQ.out; replace hb := Aside0.mk hb)) | (go_at_call 70; ((with_reducible refine (must_ok _ _).mono ?_); rintro e w' ⟨rfl, rfl⟩)))
            go_roundw
            case rel => exact ⟨n + 1, l.length - r.length, d, by omega, by go_num, ⟨gbelow (galloc (gtrans HW.out hw1.out) _) hb.out⟩, ⟨rdr_below (rdr_alloc hr1.out _) hb.out⟩, by omega, ⟨by have := HD.out; omega⟩, HF⟩
            case measure => simp [intOf]; omega
          · have hn2 : decide ((n : Int) < 100) = false := by simp; omega
            have HF : Aside0 (trailF ok l (l.length + 1) 0 p = .error 94) := ⟨by rw [HN.out, if_neg (fun h => hn1 h.2)]⟩
            have HQ := Aside0.mk hq1
            clear hq1
            go_wp2_with (first | (go_at_call 68; ((with_reducible refine (line_ok HL.out HRD.out (HR.out _ HW.out) HC.out hq).mono ?_); rintro e w1 ⟨rfl, hw1, hr1⟩; replace hw1 := Aside0.mk hw1; replace hr1 := Aside0.mk hr1)) | (go_at_call 78; ((with_reducible refine (field_ok HOK.out (reads_one _ (strOfNums s) _) (Nat.le_refl _) HS.out).mono ?_); rintro e w2 ⟨v, r0, rfl, hk, hb⟩; have hk' : (r0 == 0) = true := hk.out.trans HQ.out; replace hb := Aside0.mk hb)) | (go_at_call 70; ((with_reducible refine (must_no _ _).mono ?_); rintro e w' ⟨rfl, rfl⟩)))
            exact ⟨rfl, tpost_err HF.out (gbelow (galloc (gtrans HW.out hw1.out) _) hb.out)⟩
        | false =>
          have HF : Aside0 (trailF ok l (l.length + 1) 0 p = .error 94) := ⟨by rw [HN.out, if_neg (fun h => by rw [hq1] at h; exact absurd h.1 (by simp))]⟩
          have HQ := Aside0.mk hq1
          clear hq1
          go_wp2_with (first | (go_at_call 68; ((with_reducible refine (line_ok HL.out HRD.out (HR.out _ HW.out) HC.out hq).mono ?_); rintro e w1 ⟨rfl, hw1, hr1⟩; replace hw1 := Aside0.mk hw1; replace hr1 := Aside0.mk hr1)) | (go_at_call 78; ((with_reducible refine (field_ok HOK.out (reads_one _ (strOfNums s) _) (Nat.le_refl _) HS.out).mono ?_); rintro e w2 ⟨v, r0, rfl, hk, hb⟩; have hk' : (r0 == 0) = false := hk.out.trans HQ.out; replace hb := Aside0.mk hb)) | (go_at_call 70; ((with_reducible refine (must_no _ _).mono ?_); rintro e w' ⟨rfl, rfl⟩)))
          exact ⟨rfl, tpost_err HF.out (gbelow (galloc (gtrans HW.out hw1.out) _) hb.out)⟩
end Go.Proofs.YtibgcbngnfaaiaaDoor.H

namespace Go.Proofs.YtibgcbngnfaaiaaDoor.H
open Go.RowKit Go.Proofs.YtibgcbngnfaaiaaDoorW.PrintWords Go.Proofs.YtibgcbngnfaaiaaDoorW.PrintLast Go.Proofs.YtibgcbngnfaaiaaDoorW.PrintMore
set_option linter.unusedVariables false
set_option linter.unusedSimpArgs false

theorem lenAt_range (ok : ByteArray → Bool) (s : ByteArray) : ∀ (d i : Nat) (n m : Int), 0 ≤ n → lenAt ok s d i n = .ok m → 0 ≤ m := by
  intro d
  induction d with
  | zero =>
    intro i n m h0 h
    unfold lenAt at h
    split at h
    · cases h; exact h0
    · cases h
  | succ d ih =>
    intro i n m h0 h
    unfold lenAt at h
    split at h
    · split at h
      · cases h; exact h0
      · cases h
    · split at h
      · cases h
      · exact ih _ _ _ (by omega) h

def BytesOk (ok : ByteArray → Bool) : Prop := ∀ (t : ByteArray) (W : World), t.size ≤ 4294967296 → Calls Tryd.prog 92 #[.string t] W fun e W' => e = .returned (.bool (ok t)) ∧ Drawn0 W W'
theorem length_ok {ok : ByteArray → Bool} (hok : BytesOk ok) {s : ByteArray} {n : Int} {w : World} (h : lenAt ok s s.size 0 0 = .ok n) (hs : s.size ≤ 4294967296) :
    Calls Tryd.prog 67 #[.string s] w fun e w' => e = .returned (.int .i64 n) ∧ Drawn0 w w' := by
  refine (length_calls ok s w (by omega) (fun t W ht => hok t W (by omega))).mono fun e w' hq => ?_
  unfold LenPost at hq
  rw [h] at hq
  exact hq
theorem length_err {ok : ByteArray → Bool} (hok : BytesOk ok) {s : ByteArray} {x : Int} {w : World} (h : lenAt ok s s.size 0 0 = .error x) (hs : s.size ≤ 4294967296) :
    Calls Tryd.prog 67 #[.string s] w fun e w' => e = .panicked (stopC x) ∧ Drawn0 w w' := by
  refine (length_calls ok s w (by omega) (fun t W ht => hok t W (by omega))).mono fun e w' hq => ?_
  unfold LenPost at hq
  rw [h] at hq
  exact hq
theorem trailers_ok {ok : ByteArray → Bool} (hok : FieldOk ok) {g : Nat} {A : Option Addr} {c : Nat} {l : List Int} {p q : Nat} {w : World} (h : trailF ok l (l.length + 1) 0 p = .ok q) (hg : Rdr w g A c l p)
    (hr : ∀ W, w.grownBy W (some g) → ReadsInt W .u8 A l.length l) (hc : l.length ≤ c) (hp : p ≤ l.length) :
    Calls Tryd.prog 69 #[.pointer (some ⟨g, 0, none⟩)] w fun e w' => e = .returned (.tuple #[]) ∧ w.grownBy w' (some g) ∧ Rdr w' g A c l q := by
  refine (trailers_calls ok hok g A c l p w hg hr hc hp).mono fun e w' hq => ?_
  unfold TrailPost at hq
  rw [h] at hq
  exact hq
theorem trailers_err {ok : ByteArray → Bool} (hok : FieldOk ok) {g : Nat} {A : Option Addr} {c : Nat} {l : List Int} {p : Nat} {x : Int} {w : World} (h : trailF ok l (l.length + 1) 0 p = .error x) (hg : Rdr w g A c l p)
    (hr : ∀ W, w.grownBy W (some g) → ReadsInt W .u8 A l.length l) (hc : l.length ≤ c) (hp : p ≤ l.length) :
    Calls Tryd.prog 69 #[.pointer (some ⟨g, 0, none⟩)] w fun e w' => e = .panicked (stopC x) ∧ w.grownBy w' (some g) := by
  refine (trailers_calls ok hok g A c l p w hg hr hc hp).mono fun e w' hq => ?_
  unfold TrailPost at hq
  rw [h] at hq
  exact hq
theorem end_ok {g : Nat} {A : Option Addr} {c : Nat} {l : List Int} {p q : Nat} {w : World} (h : endF l 2 p = .ok q) (hg : Rdr w g A c l p)
    (hr : ∀ W, w.grownBy W (some g) → ReadsInt W .u8 A l.length l) (hp : p ≤ l.length) :
    Calls Tryd.prog 71 #[.pointer (some ⟨g, 0, none⟩)] w fun e w' => e = .returned (.tuple #[]) ∧ w.grownBy w' (some g) ∧ Rdr w' g A c l q := by
  refine (end_calls g A c l p w hg hr hp).mono fun e w' hq => ?_
  unfold EndPost at hq
  rw [h] at hq
  exact hq
theorem end_err {g : Nat} {A : Option Addr} {c : Nat} {l : List Int} {p : Nat} {x : Int} {w : World} (h : endF l 2 p = .error x) (hg : Rdr w g A c l p)
    (hr : ∀ W, w.grownBy W (some g) → ReadsInt W .u8 A l.length l) (hp : p ≤ l.length) :
    Calls Tryd.prog 71 #[.pointer (some ⟨g, 0, none⟩)] w fun e w' => e = .panicked (stopC x) ∧ w.grownBy w' (some g) := by
  refine (end_calls g A c l p w hg hr hp).mono fun e w' hq => ?_
  unfold EndPost at hq
  rw [h] at hq
  exact hq
theorem end_le {l : List Int} {p q : Nat} (h : endF l 2 p = .ok q) : q = p + 2 ∧ p + 2 ≤ l.length := by
  simp only [endF, Nat.one_ne_zero, if_false, if_true] at h
  by_cases h1 : p < l.length
  · rw [if_pos h1] at h
    by_cases h2 : rd l p = 13
    · rw [if_pos h2] at h
      by_cases h3 : p + 1 < l.length
      · rw [if_pos h3] at h
        by_cases h4 : rd l ((p + 1 : Nat) : Int) = 10
        · rw [if_pos h4] at h; simp only [Except.ok.injEq] at h; omega
        · rw [if_neg h4] at h; cases h
      · rw [if_neg h3] at h; cases h
    · rw [if_neg h2] at h; cases h
  · rw [if_neg h1] at h; cases h

/-- The body from place p on, 'out' read. -/
def bodyF (okb okf : ByteArray → Bool) (l : List Int) : Nat → Nat → List Int → Except Int (List Int × Nat)
  | 0, _, _ => .error 0
  | d + 1, p, out =>
    match lineL 0 (l.drop p) with
    | .error x => .error x
    | .ok (s, r) =>
      match lenAt okb (strOfNums s) (strOfNums s).size 0 0 with
      | .error x => .error x
      | .ok n =>
        if n = 0 then (match trailF okf l (l.length + 1) 0 (l.length - r.length) with | .error x => .error x | .ok q => .ok (out, q))
        else if ¬ n ≤ 65536 - (out.length : Int) then .error 93
        else if ¬ n ≤ (l.length : Int) - ((l.length - r.length : Nat) : Int) then .error 92
        else match endF l 2 (l.length - r.length + n.toNat) with
          | .error x => .error x
          | .ok q => bodyF okb okf l d q (out ++ (l.take (l.length - r.length + n.toNat)).drop (l.length - r.length))

def BodyPost (okb okf : ByteArray → Bool) (l : List Int) (A : Option Addr) (c p g : Nat) (w : World) (e : Ending) (w' : World) : Prop :=
  match bodyF okb okf l (l.length + 1) p [] with
  | .ok (out, q) => ∃ v, e = .returned v ∧ w'.ownsRow w.heap.size 5 1 v out.length (nums .u8 out) ∧ w.grownBy w' (some g) ∧ Rdr w' g A c l q
  | .error x => e = .panicked (stopC x) ∧ w.grownBy w' (some g)
theorem bpost_err {okb okf : ByteArray → Bool} {l : List Int} {A : Option Addr} {c p g : Nat} {w w' : World} {x : Int} (h : bodyF okb okf l (l.length + 1) p [] = .error x) (hw : w.grownBy w' (some g)) : BodyPost okb okf l A c p g w (.panicked (stopC x)) w' := by
  unfold BodyPost; rw [h]; exact ⟨rfl, hw⟩
theorem bpost_ok {okb okf : ByteArray → Bool} {l out : List Int} {A : Option Addr} {c p g q : Nat} {w w' : World} {v : Value} (h : bodyF okb okf l (l.length + 1) p [] = .ok (out, q)) (ho : w'.ownsRow w.heap.size 5 1 v out.length (nums .u8 out))
    (hw : w.grownBy w' (some g)) (hr : Rdr w' g A c l q) : BodyPost okb okf l A c p g w (.returned v) w' := by
  unfold BodyPost; rw [h]; exact ⟨v, rfl, ho, hw, hr⟩

theorem own_but {w w' : World} {base g n : Nat} {e : TypeId} {size : Nat} {v : Value} {xs : List Value} (h : w.ownsRow base e size v n xs) (hb : g < base) (hg : w.grownBy w' (some g)) : w'.ownsRow base e size v n xs :=
  h.kept hg (.inr (fun e => by have := (h.lt _ e).1; omega))
theorem grownBy_below {w w1 w2 : World} {row : Option Nat} (h : w.grownBy w1 row) (k : Below w.heap.size w1 w2) : w.grownBy w2 row :=
  ⟨k.os.trans h.os, k.tape.trans h.tape, k.output.trans h.output, Nat.le_trans h.size k.size, fun i hi hne => (k.block i hi).trans (h.block i hi hne)⟩
theorem rdr_belowB {w w1 : World} {B g : Nat} {A : Option Addr} {c p : Nat} {l : List Int} (h : Rdr w g A c l p) (hB : g < B) (k : Below B w w1) : Rdr w1 g A c l p := by
  unfold Rdr at h ⊢
  exact (k.block g hB).trans h
theorem rdr_set0 {w : World} {g : Nat} {A : Option Addr} {c p q : Nat} {l : List Int} (h : Rdr w g A c l p) : Rdr (w.setCell ⟨g, 1, none⟩ (.int .i64 q)) g A c l q := by
  unfold Rdr at h ⊢
  exact blk_set h 1 _
end Go.Proofs.YtibgcbngnfaaiaaDoor.H

namespace Go.Proofs.YtibgcbngnfaaiaaDoor.H
open Go.RowKit Go.Proofs.YtibgcbngnfaaiaaDoorW.PrintWords Go.Proofs.YtibgcbngnfaaiaaDoorW.PrintLast Go.Proofs.YtibgcbngnfaaiaaDoorW.PrintMore
set_option linter.unusedVariables false
set_option linter.unusedSimpArgs false

theorem rdr_c0 {w : World} {g : Nat} {A : Option Addr} {c p : Nat} {l : List Int} (h : Rdr w g A c l p) : w.cell? ⟨g, 0, none⟩ = some (.slice A l.length c) := by unfold Rdr at h; exact blk_cell h 0
theorem rdr_c1 {w : World} {g : Nat} {A : Option Addr} {c p : Nat} {l : List Int} (h : Rdr w g A c l p) : w.cell? ⟨g, 1, none⟩ = some (.int .i64 p) := by unfold Rdr at h; exact blk_cell h 1
theorem rdr_f1 {w : World} {g : Nat} {A : Option Addr} {c p : Nat} {l : List Int} (h : Rdr w g A c l p) : w.frozen? ⟨g, 1, none⟩ = false := by unfold Rdr at h; exact blk_frozen h 1
theorem rdr_setz {w : World} {g : Nat} {A : Option Addr} {c p q : Nat} {l : List Int} {z : Int} (h : Rdr w g A c l p) (hz : z = (q : Int)) : Rdr (w.setCell ⟨g, 1, none⟩ (.int .i64 z)) g A c l q := by
  subst hz; exact rdr_set0 h
theorem rdrQ {w1 w2 : World} {g : Nat} {A : Option Addr} {c q1 : Nat} {l r : List Int} (hq : q1 = l.length - r.length) (h : Rdr w1 g A c l (l.length - r.length)) (hd : Drawn0 w1 w2) : Rdr w2 g A c l q1 := by
  rw [hq]; exact rdr_below h hd.below
theorem readsQ {w wr w1 w2 : World} {g : Nat} {A : Option Addr} {l : List Int} (hr : ∀ W, w.grownBy W (some g) → ReadsInt W .u8 A l.length l) (hW : w.grownBy wr (some g)) (h1 : wr.grownBy w1 (some g)) (hd : Drawn0 w1 w2) :
    ∀ W, w2.grownBy W (some g) → ReadsInt W .u8 A l.length l := fun W h => hr W (gtrans (gbelow (gtrans hW h1) hd.below) h)

set_option maxHeartbeats 8000000 in
set_option maxRecDepth 100000 in
theorem body_calls (okb okf : ByteArray → Bool) (hkb : BytesOk okb) (hkf : FieldOk okf) (g : Nat) (A : Option Addr) (c : Nat) (l : List Int) (p : Nat) (w : World) (hg : Rdr w g A c l p)
    (hr : ∀ W, w.grownBy W (some g) → ReadsInt W .u8 A l.length l) (hc : l.length ≤ c) (hp : p ≤ l.length) :
    Calls Tryd.prog 37 #[.pointer (some ⟨g, 0, none⟩)] w (BodyPost okb okf l A c p g w) := by
  have HR := Aside0.mk hr
  have HG := Aside0.mk hg
  have HC := Aside0.mk hc
  have HKB := Aside0.mk hkb
  have HKF := Aside0.mk hkf
  have hgw := rdr_lt hg
  have hn := (hr w (grefl _ _)).2.1
  clear hr hg hc hkb hkf
  go_enter Tryd.func37, Tryd.ntmps37
  go_wp2
  go_loopg [3] (l.length + 1) (fun d v3 wr => ∃ (out : List Int) (q : Nat) (Av : Option Addr) (cv : Nat), v3 = .slice Av out.length cv ∧ out.length ≤ 65536 ∧ Aside0 (wr.ownsRow w.heap.size 5 1 (.slice Av out.length cv) out.length (nums .u8 out)) ∧
    Aside0 (w.grownBy wr (some g)) ∧ Aside0 (Rdr wr g A c l q) ∧ q ≤ l.length ∧ Aside0 (l.length < d + q) ∧ Aside0 (bodyF okb okf l (l.length + 1) p [] = bodyF okb okf l d q out))
  case atStart => exact ⟨[], p, none, 0, rfl, by simp, ⟨own_nil _ _ _ _⟩, ⟨grefl _ _⟩, HG, hp, ⟨by omega⟩, ⟨rfl⟩⟩
  case round =>
    obtain ⟨out, q, Av, cv, rfl, ho, HO, HW, HRD, hq, HD, HE⟩ := hrel
    obtain ⟨d, rfl⟩ : ∃ d', gk = d' + 1 := ⟨gk - 1, by have := HD.out; omega⟩
    cases hl : lineL 0 (l.drop q) with
    | error x =>
      have HL := Aside0.mk hl
      have HF : Aside0 (bodyF okb okf l (l.length + 1) p [] = .error x) := ⟨by rw [HE.out, bodyF, hl]⟩
      clear hl
      go_wp2_with (go_at_call 68; ((with_reducible refine (line_err HL.out HRD.out (HR.out _ HW.out) HC.out hq).mono ?_); rintro e w' ⟨rfl, rfl⟩))
      exact ⟨rfl, bpost_err HF.out HW.out⟩
    | ok sr =>
      obtain ⟨s, r⟩ := sr
      have HL := Aside0.mk hl
      have hll := line_len _ _ _ _ hl
      rw [List.length_drop] at hll
      have HSZ : Aside0 ((strOfNums s).size ≤ 4294967296) := ⟨by rw [strOfNums_size]; have := line_short _ _ _ _ hl; omega⟩
      obtain ⟨q1, hq1⟩ : ∃ q1, q1 = l.length - r.length := ⟨_, rfl⟩
      have hq2 : q + 2 ≤ q1 := by omega
      have hq3 : q1 ≤ l.length := by omega
      have HQ1 := Aside0.mk hq1
      clear hl hll hq1
      cases hln : lenAt okb (strOfNums s) (strOfNums s).size 0 0 with
      | error x =>
        have HLN := Aside0.mk hln
        have HF : Aside0 (bodyF okb okf l (l.length + 1) p [] = .error x) := ⟨by rw [HE.out, bodyF, HL.out]; simp only []; rw [hln]⟩
        clear hln
        go_wp2_with (first | (go_at_call 68; ((with_reducible refine (line_ok HL.out HRD.out (HR.out _ HW.out) HC.out hq).mono ?_); rintro e w1 ⟨rfl, hw1, hr1⟩; replace hw1 := Aside0.mk hw1; replace hr1 := Aside0.mk hr1)) | (go_at_call 67; ((with_reducible refine (length_err HKB.out HLN.out HSZ.out).mono ?_); rintro e w2 ⟨rfl, hw2⟩; replace hw2 := Aside0.mk hw2)))
        exact ⟨rfl, bpost_err HF.out (gbelow (gtrans HW.out hw1.out) hw2.out.below)⟩
      | ok n =>
        have HLN := Aside0.mk hln
        have h0n := lenAt_range _ _ _ _ _ _ (Int.le_refl 0) hln
        obtain ⟨N, rfl⟩ := Int.eq_ofNat_of_zero_le h0n
        have HN : Aside0 (bodyF okb okf l (l.length + 1) p [] = if (N : Int) = 0 then (match trailF okf l (l.length + 1) 0 q1 with | .error x => .error x | .ok q => .ok (out, q))
          else if ¬ (N : Int) ≤ 65536 - (out.length : Int) then .error 93 else if ¬ (N : Int) ≤ (l.length : Int) - (q1 : Int) then .error 92
          else match endF l 2 (q1 + N) with | .error x => .error x | .ok q => bodyF okb okf l d q (out ++ (l.take (q1 + N)).drop q1)) := ⟨by rw [HE.out, bodyF, HL.out]; simp only []; rw [hln]; simp only [← HQ1.out, Int.toNat_natCast]; try rfl⟩
        clear hln h0n
        by_cases hN0 : (N : Int) = 0
        · have hN0' : ((N : Int) == 0) = true := by simpa using hN0
          cases ht : trailF okf l (l.length + 1) 0 q1 with
          | error x =>
            have HT := Aside0.mk ht
            have HF : Aside0 (bodyF okb okf l (l.length + 1) p [] = .error x) := ⟨by rw [HN.out, if_pos hN0, ht]⟩
            clear ht hN0
            go_wp2_with (first | (go_at_call 68; ((with_reducible refine (line_ok HL.out HRD.out (HR.out _ HW.out) HC.out hq).mono ?_); rintro e w1 ⟨rfl, hw1, hr1⟩; replace hw1 := Aside0.mk hw1; replace hr1 := Aside0.mk hr1)) | (go_at_call 67; ((with_reducible refine (length_ok HKB.out HLN.out HSZ.out).mono ?_); rintro e w2 ⟨rfl, hw2⟩; replace hw2 := Aside0.mk hw2)) | (go_at_call 69; ((with_reducible refine (trailers_err HKF.out HT.out (rdrQ HQ1.out hr1.out hw2.out) (readsQ HR.out HW.out hw1.out hw2.out) HC.out hq3).mono ?_); rintro e w3 ⟨rfl, hw3⟩; replace hw3 := Aside0.mk hw3)))
            exact ⟨rfl, bpost_err HF.out (gtrans (gbelow (gtrans HW.out hw1.out) hw2.out.below) hw3.out)⟩
          | ok q2 =>
            have HT := Aside0.mk ht
            have HF : Aside0 (bodyF okb okf l (l.length + 1) p [] = .ok (out, q2)) := ⟨by rw [HN.out, if_pos hN0, ht]⟩
            clear ht hN0
            go_wp2_with (first | (go_at_call 68; ((with_reducible refine (line_ok HL.out HRD.out (HR.out _ HW.out) HC.out hq).mono ?_); rintro e w1 ⟨rfl, hw1, hr1⟩; replace hw1 := Aside0.mk hw1; replace hr1 := Aside0.mk hr1)) | (go_at_call 67; ((with_reducible refine (length_ok HKB.out HLN.out HSZ.out).mono ?_); rintro e w2 ⟨rfl, hw2⟩; replace hw2 := Aside0.mk hw2)) | (go_at_call 69; ((with_reducible refine (trailers_ok HKF.out HT.out (rdrQ HQ1.out hr1.out hw2.out) (readsQ HR.out HW.out hw1.out hw2.out) HC.out hq3).mono ?_); rintro e w3 ⟨rfl, hw3, hr3⟩; replace hw3 := Aside0.mk hw3; replace hr3 := Aside0.mk hr3)))
            go_ret
            exact bpost_ok HF.out (own_but (pw_own_below (own_but HO.out hgw hw1.out) hw2.out.below) hgw hw3.out) (gtrans (gbelow (gtrans HW.out hw1.out) hw2.out.below) hw3.out) hr3.out
        · have hN0' : ((N : Int) == 0) = false := by simpa using hN0
          by_cases hlong : (N : Int) ≤ 65536 - (out.length : Int)
          · have hlong' : decide ((N : Int) ≤ 65536 - (out.length : Int)) = true := by simpa using hlong
            by_cases hshort : (N : Int) ≤ (l.length : Int) - (q1 : Int)
            · have hshort' : decide ((N : Int) ≤ (l.length : Int) - (q1 : Int)) = true := by simpa using hshort
              have HN2 : Aside0 (bodyF okb okf l (l.length + 1) p [] = match endF l 2 (q1 + N) with | .error x => .error x | .ok q => bodyF okb okf l d q (out ++ (l.take (q1 + N)).drop q1)) := ⟨by rw [HN.out, if_neg hN0, if_neg (by omega), if_neg (by omega)]⟩
              have hNb : N ≤ 65536 := by omega
              have hqN : q1 + N ≤ l.length := by omega
              have HLE := Aside0.mk hqN
              have hob : out.length + N ≤ 65536 := by omega
              clear hN0 hlong hshort
              go_wp2_with (first | (go_at_call 68; ((with_reducible refine (line_ok HL.out HRD.out (HR.out _ HW.out) HC.out hq).mono ?_); rintro e w1 ⟨rfl, hw1, hr1⟩; replace hw1 := Aside0.mk hw1; replace hr1 := Aside0.mk hr1)) | (go_at_call 67; ((with_reducible refine (length_ok HKB.out HLN.out HSZ.out).mono ?_); rintro e w2 ⟨rfl, hw2⟩; replace hw2 := Aside0.mk hw2)) | (go_at_call 70; ((with_reducible refine (must_ok _ _).mono ?_); rintro e w' ⟨rfl, rfl⟩)))
              have HW2 : Aside0 (w.grownBy w2 (some g)) := ⟨gbelow (gtrans HW.out hw1.out) hw2.out.below⟩
              have HRD2 : Aside0 (Rdr w2 g A c l q1) := ⟨rdrQ HQ1.out hr1.out hw2.out⟩
              have HO2 : Aside0 (w2.ownsRow w.heap.size 5 1 (.slice Av out.length cv) out.length (nums .u8 out)) := ⟨pw_own_below (own_but HO.out hgw hw1.out) hw2.out.below⟩
              have hc0 := rdr_c0 HRD2.out
              have hc1 := rdr_c1 HRD2.out
              have hw9 : IntKind.i64.wrap ((l.length : Int) - (q1 : Int)) = (l.length : Int) - (q1 : Int) := IntWalk.i64_in _ (by omega)
              go_still_tail 12, (by kernel_rfl)
              change wpList _ _ _ _ _ w2.drew
              obtain ⟨w3, hw3, HW3, HRD3, HO3, hc03, hc13⟩ : ∃ w3, w2.drew = w3 ∧ Aside0 (w.grownBy w3 (some g)) ∧ Aside0 (Rdr w3 g A c l q1) ∧ Aside0 (w3.ownsRow w.heap.size 5 1 (.slice Av out.length cv) out.length (nums .u8 out)) ∧
                  w3.cell? ⟨g, 0, none⟩ = some (.slice A l.length c) ∧ w3.cell? ⟨g, 1, none⟩ = some (.int .i64 q1) :=
                ⟨_, rfl, ⟨gdrew HW2.out⟩, ⟨HRD2.out⟩, ⟨HO2.out⟩, hc0, hc1⟩
              rw [hw3]
              clear hw3 hc0 hc1 hw9
              obtain ⟨i0, hi0, _, hsz, _⟩ := info_parts i5
              obtain ⟨A14, n14, c14, hcut, hn14, hc14, hrd⟩ := mid_reads (P := Tryd.prog) Tryd.underlying22 hi0 hsz (HR.out w3 HW3.out) HC.out q1 (q1 + N) (by omega) hqN
              rw [show ((q1 + N : Nat) : Int) = (q1 : Int) + (N : Int) from by omega] at hcut
              have HRDS := Aside0.mk hrd
              have hn15 : n14 ≤ 65536 := by omega
              clear hc14 hrd hi0 hsz hn14
              go_wp2_with (go_at_call 70; ((with_reducible refine (must_ok _ _).mono ?_); rintro e w' ⟨rfl, rfl⟩))
              have hw9 : IntKind.i64.wrap ((q1 : Int) + (N : Int)) = (q1 : Int) + (N : Int) := IntWalk.i64_in _ (by omega)
              go_still_tail 16, (by kernel_rfl)
              change wpList _ _ _ _ _ w3.drew
              obtain ⟨w4, hw4, HW4, HRD4, HO4, HB4, hc04, hc14⟩ : ∃ w4, w3.drew = w4 ∧ Aside0 (w.grownBy w4 (some g)) ∧ Aside0 (Rdr w4 g A c l q1) ∧ Aside0 (w4.ownsRow w.heap.size 5 1 (.slice Av out.length cv) out.length (nums .u8 out)) ∧
                  Aside0 (w.heap.size ≤ w4.heap.size) ∧ w4.cell? ⟨g, 0, none⟩ = some (.slice A l.length c) ∧ w4.cell? ⟨g, 1, none⟩ = some (.int .i64 q1) :=
                ⟨_, rfl, ⟨gdrew HW3.out⟩, ⟨HRD3.out⟩, ⟨HO3.out⟩, ⟨HW3.out.size⟩, hc03, hc13⟩
              rw [hw4]
              clear hw4 hc03 hc13 hw9
              have hrd := HRDS.out
              cases hen : endF l 2 (q1 + N) with
              | error x =>
                have HEN := Aside0.mk hen
                have HF : Aside0 (bodyF okb okf l (l.length + 1) p [] = .error x) := ⟨by rw [HN2.out, hen]⟩
                clear hen
                go_wp2_with (first | (at_builtin; refine print_append_row (w0 := w4) w.heap.size rfl (.tmp 32) (.tmp 47) 22 5 .u8 1 rfl Tryd.underlying22 i5 (by decide) (.slice Av out.length cv) out ((l.take (q1 + N)).drop q1) A14 n14 c14 rfl rfl HO4.out (hrd w4 (HR.out w4 HW4.out)) (Below.refl _ _) HB4.out (by omega) ?_; intro v5 w5 hown5 hbel5 hgr5 hat5; clear hat5; have HO5 := Aside0.mk hown5; have HW5 := Aside0.mk (grownBy_below HW4.out hbel5); have HRD5 := Aside0.mk (rdr_belowB HRD4.out hgw hbel5); clear hown5 hbel5 hgr5; have hc0 := rdr_c0 HRD5.out; have hc1 := rdr_c1 HRD5.out; have hf1 := rdr_f1 HRD5.out) | (go_at_call 71; ((with_reducible refine (end_err HEN.out (rdr_setz HRD5.out (Int.natCast_add q1 N).symm) (fun W h => HR.out W (gtrans (gset HW5.out 1 _) h)) HLE.out).mono ?_); rintro e w6 ⟨rfl, hw6⟩; replace hw6 := Aside0.mk hw6)))
                exact ⟨rfl, bpost_err HF.out (gtrans (gset HW5.out 1 _) hw6.out)⟩
              | ok q2 =>
                have HEN := Aside0.mk hen
                have HF : Aside0 (bodyF okb okf l (l.length + 1) p [] = bodyF okb okf l d q2 (out ++ (l.take (q1 + N)).drop q1)) := ⟨by rw [HN2.out, hen]⟩
                have HQ2 := Aside0.mk (end_le hen)
                clear hen
                go_wp2_with (first | (at_builtin; refine print_append_row (w0 := w4) w.heap.size rfl (.tmp 32) (.tmp 47) 22 5 .u8 1 rfl Tryd.underlying22 i5 (by decide) (.slice Av out.length cv) out ((l.take (q1 + N)).drop q1) A14 n14 c14 rfl rfl HO4.out (hrd w4 (HR.out w4 HW4.out)) (Below.refl _ _) HB4.out (by omega) ?_; intro v5 w5 hown5 hbel5 hgr5 hat5; clear hat5; have HO5 := Aside0.mk hown5; have HW5 := Aside0.mk (grownBy_below HW4.out hbel5); have HRD5 := Aside0.mk (rdr_belowB HRD4.out hgw hbel5); clear hown5 hbel5 hgr5; have hc0 := rdr_c0 HRD5.out; have hc1 := rdr_c1 HRD5.out; have hf1 := rdr_f1 HRD5.out) | (go_at_call 71; ((with_reducible refine (end_ok HEN.out (rdr_setz HRD5.out (Int.natCast_add q1 N).symm) (fun W h => HR.out W (gtrans (gset HW5.out 1 _) h)) HLE.out).mono ?_); rintro e w6 ⟨rfl, hw6, hr6⟩; replace hw6 := Aside0.mk hw6; replace hr6 := Aside0.mk hr6)))
                obtain ⟨A5, c5, rfl⟩ := own_slice HO5.out
                go_roundg d
                case measure => omega
                case rel => exact ⟨out ++ (l.take (q1 + N)).drop q1, q2, A5, c5, by rfl, by simp; omega, ⟨own_but HO5.out hgw (gtrans (gset (grefl _ _) 1 _) hw6.out)⟩, ⟨gtrans (gset HW5.out 1 _) hw6.out⟩, hr6, by have := HQ2.out; omega, ⟨by have := HD.out; have := HQ2.out; omega⟩, HF⟩
            · have hshort' : decide ((N : Int) ≤ (l.length : Int) - (q1 : Int)) = false := by simpa using hshort
              have HF : Aside0 (bodyF okb okf l (l.length + 1) p [] = .error 92) := ⟨by rw [HN.out, if_neg hN0, if_neg (by omega), if_pos hshort]⟩
              clear hN0 hlong hshort
              go_wp2_with (first | (go_at_call 68; ((with_reducible refine (line_ok HL.out HRD.out (HR.out _ HW.out) HC.out hq).mono ?_); rintro e w1 ⟨rfl, hw1, hr1⟩; replace hw1 := Aside0.mk hw1; replace hr1 := Aside0.mk hr1)) | (go_at_call 67; ((with_reducible refine (length_ok HKB.out HLN.out HSZ.out).mono ?_); rintro e w2 ⟨rfl, hw2⟩; replace hw2 := Aside0.mk hw2)) | (go_at_call 70; ((with_reducible refine (must_ok _ _).mono ?_); rintro e w' ⟨rfl, rfl⟩)))
              have HW2 : Aside0 (w.grownBy w2 (some g)) := ⟨gbelow (gtrans HW.out hw1.out) hw2.out.below⟩
              have HRD2 : Aside0 (Rdr w2 g A c l q1) := ⟨rdrQ HQ1.out hr1.out hw2.out⟩
              have HO2 : Aside0 (w2.ownsRow w.heap.size 5 1 (.slice Av out.length cv) out.length (nums .u8 out)) := ⟨pw_own_below (own_but HO.out hgw hw1.out) hw2.out.below⟩
              have hc0 := rdr_c0 HRD2.out
              have hc1 := rdr_c1 HRD2.out
              have hw9 : IntKind.i64.wrap ((l.length : Int) - (q1 : Int)) = (l.length : Int) - (q1 : Int) := IntWalk.i64_in _ (by omega)
              go_still_tail 12, (by kernel_rfl)
              change wpList _ _ _ _ _ w2.drew
              go_wp2_with (go_at_call 70; ((with_reducible refine (must_no _ _).mono ?_); rintro e w' ⟨rfl, rfl⟩))
              exact ⟨rfl, bpost_err HF.out (gdrew HW2.out)⟩
          · have hlong' : decide ((N : Int) ≤ 65536 - (out.length : Int)) = false := by simpa using hlong
            have HF : Aside0 (bodyF okb okf l (l.length + 1) p [] = .error 93) := ⟨by rw [HN.out, if_neg hN0, if_pos hlong]⟩
            clear hN0 hlong
            go_wp2_with (first | (go_at_call 68; ((with_reducible refine (line_ok HL.out HRD.out (HR.out _ HW.out) HC.out hq).mono ?_); rintro e w1 ⟨rfl, hw1, hr1⟩; replace hw1 := Aside0.mk hw1; replace hr1 := Aside0.mk hr1)) | (go_at_call 67; ((with_reducible refine (length_ok HKB.out HLN.out HSZ.out).mono ?_); rintro e w2 ⟨rfl, hw2⟩; replace hw2 := Aside0.mk hw2)) | (go_at_call 70; ((with_reducible refine (must_no _ _).mono ?_); rintro e w' ⟨rfl, rfl⟩)))
            exact ⟨rfl, bpost_err HF.out (gbelow (gtrans HW.out hw1.out) hw2.out.below)⟩
end Go.Proofs.YtibgcbngnfaaiaaDoor.H

namespace Go.Proofs.YtibgcbngnfaaiaaDoor.H
open Go.RowKit Go.Proofs.YtibgcbngnfaaiaaDoorW.PrintWords Go.Proofs.YtibgcbngnfaaiaaDoorW.PrintLast Go.Proofs.YtibgcbngnfaaiaaDoorW.PrintMore
set_option linter.unusedVariables false
set_option linter.unusedSimpArgs false

theorem body_ok {okb okf : ByteArray → Bool} (hkb : BytesOk okb) (hkf : FieldOk okf) {g : Nat} {A : Option Addr} {c : Nat} {l out : List Int} {p q : Nat} {w : World} (h : bodyF okb okf l (l.length + 1) p [] = .ok (out, q)) (hg : Rdr w g A c l p)
    (hr : ∀ W, w.grownBy W (some g) → ReadsInt W .u8 A l.length l) (hc : l.length ≤ c) (hp : p ≤ l.length) :
    Calls Tryd.prog 37 #[.pointer (some ⟨g, 0, none⟩)] w fun e w' => ∃ v, e = .returned v ∧ w'.ownsRow w.heap.size 5 1 v out.length (nums .u8 out) ∧ w.grownBy w' (some g) ∧ Rdr w' g A c l q := by
  refine (body_calls okb okf hkb hkf g A c l p w hg hr hc hp).mono fun e w' hq => ?_
  unfold BodyPost at hq
  rw [h] at hq
  exact hq
theorem body_err {okb okf : ByteArray → Bool} (hkb : BytesOk okb) (hkf : FieldOk okf) {g : Nat} {A : Option Addr} {c : Nat} {l : List Int} {p : Nat} {x : Int} {w : World} (h : bodyF okb okf l (l.length + 1) p [] = .error x) (hg : Rdr w g A c l p)
    (hr : ∀ W, w.grownBy W (some g) → ReadsInt W .u8 A l.length l) (hc : l.length ≤ c) (hp : p ≤ l.length) :
    Calls Tryd.prog 37 #[.pointer (some ⟨g, 0, none⟩)] w fun e w' => e = .panicked (stopC x) ∧ w.grownBy w' (some g) := by
  refine (body_calls okb okf hkb hkf g A c l p w hg hr hc hp).mono fun e w' hq => ?_
  unfold BodyPost at hq
  rw [h] at hq
  exact hq

/-- What chunk.Open tells. -/
def openF (okb okf : ByteArray → Bool) (l : List Int) : List Int × Int × Int :=
  match bodyF okb okf l (l.length + 1) 0 [] with
  | .ok (out, q) => (out, q, 0)
  | .error x => ([], 0, x)

theorem blk_at {w : World} {g : Nat} {t : TypeId} {cs : Array Value} (h : w.heap[g]? = some (.cells cs t (0, 0))) {p : Addr} (hp : g ≠ p.block) (u : Value) : (w.setCell p u).heap[g]? = some (.cells cs t (0, 0)) :=
  (Below.heap_setCell w p u g hp).trans h
/-- The four blocks that chunk.Open lays. -/
def openW (w : World) (A : Option Addr) (c : Nat) (l : List Int) : World :=
  (((w.alloc (.cells #[.slice none 0 0] 22)).alloc (.cells #[.int .i64 0] 3)).alloc (.cells #[.int .i64 0] 25)).alloc (.cells #[.slice A l.length c, .int .i64 0] 68)
theorem openW_0 (w : World) (A : Option Addr) (c : Nat) (l : List Int) : (openW w A c l).heap[w.heap.size]? = some (.cells #[.slice none 0 0] 22 (0, 0)) :=
  blk_alloc (blk_alloc (blk_alloc (blk_new _ _) _) _) _
theorem openW_1 (w : World) (A : Option Addr) (c : Nat) (l : List Int) : (openW w A c l).heap[w.heap.size + 1]? = some (.cells #[.int .i64 0] 3 (0, 0)) :=
  blk_alloc (blk_alloc (by simpa using blk_new (w.alloc (.cells #[.slice none 0 0] 22)) (.cells #[.int .i64 0] 3)) _) _
theorem openW_2 (w : World) (A : Option Addr) (c : Nat) (l : List Int) : (openW w A c l).heap[w.heap.size + 1 + 1]? = some (.cells #[.int .i64 0] 25 (0, 0)) :=
  blk_alloc (by simpa using blk_new ((w.alloc (.cells #[.slice none 0 0] 22)).alloc (.cells #[.int .i64 0] 3)) (.cells #[.int .i64 0] 25)) _
theorem openW_3 (w : World) (A : Option Addr) (c : Nat) (l : List Int) : Rdr (openW w A c l) (w.heap.size + 1 + 1 + 1) A c l 0 := by
  unfold Rdr openW
  have h := blk_new (((w.alloc (.cells #[.slice none 0 0] 22)).alloc (.cells #[.int .i64 0] 3)).alloc (.cells #[.int .i64 0] 25)) (.cells #[.slice A l.length c, .int .i64 0] 68)
  simp only [World.size_alloc] at h
  exact h
theorem openW_size (w : World) (A : Option Addr) (c : Nat) (l : List Int) : (openW w A c l).heap.size = w.heap.size + 4 := by simp [openW]
theorem openW_below (w : World) (A : Option Addr) (c : Nat) (l : List Int) : Below w.heap.size w (openW w A c l) :=
  below_alloc (below_alloc (below_alloc (below_alloc (Below.refl _ _) _) _) _) _
theorem openW_reads {w : World} {A : Option Addr} {c : Nat} {l : List Int} (hr : ReadsInt w .u8 A l.length l) : ∀ W, (openW w A c l).grownBy W (some (w.heap.size + 1 + 1 + 1)) → ReadsInt W .u8 A l.length l := fun W h =>
  hr.below ((openW_below w A c l).grown h (by rw [openW_size]; omega) (fun k hk => by cases hk; omega))

set_option maxRecDepth 100000 in
set_option maxHeartbeats 4000000 in
theorem openF_calls (okb okf : ByteArray → Bool) (hkb : BytesOk okb) (hkf : FieldOk okf) (A : Option Addr) (c : Nat) (l : List Int) (w : World) (hr : ReadsInt w .u8 A l.length l) (hc : l.length ≤ c) :
    Calls Tryd.prog 15 #[.slice A l.length c] w fun e w' => ∃ v, e = .returned (.tuple #[v, .int .i64 (openF okb okf l).2.1, .int .i64 (openF okb okf l).2.2]) ∧
      w'.ownsRow w.heap.size 5 1 v (openF okb okf l).1.length (nums .u8 (openF okb okf l).1) ∧ Below w.heap.size w w' := by
  have hmf : ∀ (fn : Fn) (first cap : Array Value) (w : World), (Instr.makeFunc fn first cap).run Tryd.prog w = .ok (.func fn first cap) w := fun _ _ _ _ => rfl
  have HR := Aside0.mk hr
  have HC := Aside0.mk hc
  have HKB := Aside0.mk hkb
  have HKF := Aside0.mk hkf
  clear hr hc hkb hkf
  cases hb : bodyF okb okf l (l.length + 1) 0 [] with
  | error x =>
    have HB := Aside0.mk hb
    have HO : Aside0 (openF okb okf l = ([], 0, x)) := ⟨by unfold openF; rw [hb]⟩
    clear hb
    go_enter_defers Tryd.func15, Tryd.ntmps15
    go_wp2_with fail
    refine (body_err (A := A) (w := openW w A c l) HKB.out HKF.out HB.out (openW_3 w A c l) (openW_reads HR.out) HC.out (Nat.zero_le _)).mono ?_
    rintro e w1 ⟨rfl, hw1⟩
    have k0 : w1.heap[w.heap.size]? = _ := blk_grown (openW_0 w A c l) hw1 (by simp; omega)
    have k1 : w1.heap[w.heap.size + 1]? = _ := blk_grown (openW_1 w A c l) hw1 (by simp)
    have k2 : w1.heap[w.heap.size + 1 + 1]? = _ := blk_grown (openW_2 w A c l) hw1 (by simp)
    have HW1 := Aside0.mk hw1
    clear hw1
    refine leaves_cons (f := 36) (args := #[.pointer (some ⟨w.heap.size, 0, none⟩), .pointer (some ⟨w.heap.size + 1, 0, none⟩), .pointer (some ⟨w.heap.size + 1 + 1, 0, none⟩)]) (by simp) (by simp [go_sem]) ?_
    refine (open1_catch _ _ _ x _ _ _ _ _ _ w1 k0 k1 k2 (by omega) (by omega) (by omega)).mono ?_
    rintro e u' w2 ⟨rfl, rfl, n, rfl⟩
    have m0 := blk_alloc (blk_at (blk_at (blk_set (blk_drewN k0 n) 0 (.slice none 0 0)) (p := ⟨w.heap.size + 1, 0, none⟩) (by simp) (.int .i64 0)) (p := ⟨w.heap.size + 1 + 1, 0, none⟩) (by simp; omega) (.int .i64 x)) (.cells #[.int .i64 x] 64)
    have m1 := blk_alloc (blk_at (blk_set (blk_at (blk_drewN k1 n) (p := ⟨w.heap.size, 0, none⟩) (by simp) (.slice none 0 0)) 0 (.int .i64 0)) (p := ⟨w.heap.size + 1 + 1, 0, none⟩) (by simp) (.int .i64 x)) (.cells #[.int .i64 x] 64)
    have m2 := blk_alloc (blk_set (blk_at (blk_at (blk_drewN k2 n) (p := ⟨w.heap.size, 0, none⟩) (by simp; omega) (.slice none 0 0)) (p := ⟨w.heap.size + 1, 0, none⟩) (by simp) (.int .i64 0)) 0 (.int .i64 x)) (.cells #[.int .i64 x] 64)
    have hbel : Below w.heap.size w (((((w1.drewN n).setCell ⟨w.heap.size, 0, none⟩ (.slice none 0 0)).setCell ⟨w.heap.size + 1, 0, none⟩ (.int .i64 0)).setCell ⟨w.heap.size + 1 + 1, 0, none⟩ (.int .i64 x)).alloc (.cells #[.int .i64 x] 64)) := by
      have h1 : Below w.heap.size w w1 := (openW_below w A c l).grown HW1.out (by rw [openW_size]; omega) (fun k hk => by cases hk; omega)
      have h2 := (((pw_below_drewN h1 n).setCell (p := ⟨w.heap.size, 0, none⟩) (Nat.le_refl _) (.slice none 0 0)).setCell (p := ⟨w.heap.size + 1, 0, none⟩) (by simp) (.int .i64 0)).setCell (p := ⟨w.heap.size + 1 + 1, 0, none⟩) (by simp; omega) (.int .i64 x)
      exact h2.alloc h2.size _
    generalize ((((w1.drewN n).setCell ⟨w.heap.size, 0, none⟩ (.slice none 0 0)).setCell ⟨w.heap.size + 1, 0, none⟩ (.int .i64 0)).setCell ⟨w.heap.size + 1 + 1, 0, none⟩ (.int .i64 x)).alloc (.cells #[.int .i64 x] 64) = w2 at m0 m1 m2 hbel ⊢
    have q0 : w2.cell? ⟨w.heap.size, 0, none⟩ = some (.slice none 0 0) := blk_cell m0 0
    have q1 : w2.cell? ⟨w.heap.size + 1, 0, none⟩ = some (.int .i64 0) := blk_cell m1 0
    have q2 : w2.cell? ⟨w.heap.size + 1 + 1, 0, none⟩ = some (.int .i64 x) := blk_cell m2 0
    refine ⟨.tuple #[.slice none 0 0, .int .i64 0, .int .i64 x], ?_, _, by rw [HO.out], by rw [HO.out]; exact own_nil _ _ _ _, hbel⟩
    simp [results, Tryd.results15, go_sem, q0, q1, q2]
  | ok oq =>
    obtain ⟨out, q⟩ := oq
    have HB := Aside0.mk hb
    have HO : Aside0 (openF okb okf l = (out, (q : Int), 0)) := ⟨by unfold openF; rw [hb]⟩
    clear hb
    go_enter_defers Tryd.func15, Tryd.ntmps15
    go_wp2_with fail
    refine (body_ok (A := A) (w := openW w A c l) HKB.out HKF.out HB.out (openW_3 w A c l) (openW_reads HR.out) HC.out (Nat.zero_le _)).mono ?_
    rintro e w1 ⟨v, rfl, hown, hw1, hr1⟩
    obtain ⟨Av, cv, rfl⟩ := own_slice hown
    have k0 : w1.heap[w.heap.size]? = _ := blk_grown (openW_0 w A c l) hw1 (by simp; omega)
    have k1 : w1.heap[w.heap.size + 1]? = _ := blk_grown (openW_1 w A c l) hw1 (by simp)
    have k2 : w1.heap[w.heap.size + 1 + 1]? = _ := blk_grown (openW_2 w A c l) hw1 (by simp)
    have c0 : w1.cell? ⟨w.heap.size, 0, none⟩ = some (.slice none 0 0) := blk_cell k0 0
    have c1 : w1.cell? ⟨w.heap.size + 1, 0, none⟩ = some (.int .i64 0) := blk_cell k1 0
    have c2 : w1.cell? ⟨w.heap.size + 1 + 1, 0, none⟩ = some (.int .i64 0) := blk_cell k2 0
    have f0 : w1.frozen? ⟨w.heap.size, 0, none⟩ = false := blk_frozen k0 0
    have f1 : w1.frozen? ⟨w.heap.size + 1, 0, none⟩ = false := blk_frozen k1 0
    have f2 : w1.frozen? ⟨w.heap.size + 1 + 1, 0, none⟩ = false := blk_frozen k2 0
    have c3 : w1.cell? ⟨w.heap.size + 1 + 1 + 1, 1, none⟩ = some (.int .i64 q) := rdr_c1 hr1
    have HW1 := Aside0.mk hw1
    have HOWN := Aside0.mk hown
    have K0 := Aside0.mk k0
    have K1 := Aside0.mk k1
    have K2 := Aside0.mk k2
    clear hw1 hown k0 k1 k2 hr1
    go_wp2
    go_region
    go_wp2
    have m0 := blk_drew (blk_at (blk_at (blk_set (blk_set K0.out 0 (.slice Av out.length cv)) 0 (.slice Av out.length cv)) (p := ⟨w.heap.size + 1, 0, none⟩) (by simp) (.int .i64 q)) (p := ⟨w.heap.size + 1 + 1, 0, none⟩) (by simp; omega) (.int .i64 0))
    have m1 := blk_drew (blk_at (blk_set (blk_at (blk_at K1.out (p := ⟨w.heap.size, 0, none⟩) (by simp) (.slice Av out.length cv)) (p := ⟨w.heap.size, 0, none⟩) (by simp) (.slice Av out.length cv)) 0 (.int .i64 q)) (p := ⟨w.heap.size + 1 + 1, 0, none⟩) (by simp) (.int .i64 0))
    have m2 := blk_drew (blk_set (blk_at (blk_at (blk_at K2.out (p := ⟨w.heap.size, 0, none⟩) (by simp; omega) (.slice Av out.length cv)) (p := ⟨w.heap.size, 0, none⟩) (by simp; omega) (.slice Av out.length cv)) (p := ⟨w.heap.size + 1, 0, none⟩) (by simp) (.int .i64 q)) 0 (.int .i64 0))
    have hbel : Below w.heap.size w ((((w1.setCell ⟨w.heap.size, 0, none⟩ (.slice Av out.length cv)).setCell ⟨w.heap.size, 0, none⟩ (.slice Av out.length cv)).setCell ⟨w.heap.size + 1, 0, none⟩ (.int .i64 q)).setCell ⟨w.heap.size + 1 + 1, 0, none⟩ (.int .i64 0)).drew := by
      have h1 : Below w.heap.size w w1 := (openW_below w A c l).grown HW1.out (by rw [openW_size]; omega) (fun k hk => by cases hk; omega)
      exact below_drew ((((h1.setCell (p := ⟨w.heap.size, 0, none⟩) (Nat.le_refl _) (.slice Av out.length cv)).setCell (p := ⟨w.heap.size, 0, none⟩) (Nat.le_refl _) (.slice Av out.length cv)).setCell (p := ⟨w.heap.size + 1, 0, none⟩) (by simp) (.int .i64 q)).setCell (p := ⟨w.heap.size + 1 + 1, 0, none⟩) (by simp; omega) (.int .i64 0))
    have hown : ((((w1.setCell ⟨w.heap.size, 0, none⟩ (.slice Av out.length cv)).setCell ⟨w.heap.size, 0, none⟩ (.slice Av out.length cv)).setCell ⟨w.heap.size + 1, 0, none⟩ (.int .i64 q)).setCell ⟨w.heap.size + 1 + 1, 0, none⟩ (.int .i64 0)).drew.ownsRow w.heap.size 5 1 (.slice Av out.length cv) out.length (nums .u8 out) := by
      have hz := openW_size w A c l
      have h1 := ownsRow_setCell_below (ownsRow_setCell_below (ownsRow_setCell_below (ownsRow_setCell_below HOWN.out (a := ⟨w.heap.size, 0, none⟩) (by simp; omega) (.slice Av out.length cv)) (a := ⟨w.heap.size, 0, none⟩) (by simp; omega) (.slice Av out.length cv)) (a := ⟨w.heap.size + 1, 0, none⟩) (by simp; omega) (.int .i64 q)) (a := ⟨w.heap.size + 1 + 1, 0, none⟩) (by simp; omega) (.int .i64 0)
      exact pw_own_below (own_weaken h1 (by omega)) (below_drew (Below.refl _ _))
    generalize ((((w1.setCell ⟨w.heap.size, 0, none⟩ (.slice Av out.length cv)).setCell ⟨w.heap.size, 0, none⟩ (.slice Av out.length cv)).setCell ⟨w.heap.size + 1, 0, none⟩ (.int .i64 q)).setCell ⟨w.heap.size + 1 + 1, 0, none⟩ (.int .i64 0)).drew = w2 at m0 m1 m2 hbel hown ⊢
    have q0 : w2.cell? ⟨w.heap.size, 0, none⟩ = some (.slice Av out.length cv) := blk_cell m0 0
    have q1 : w2.cell? ⟨w.heap.size + 1, 0, none⟩ = some (.int .i64 q) := blk_cell m1 0
    have q2 : w2.cell? ⟨w.heap.size + 1 + 1, 0, none⟩ = some (.int .i64 0) := blk_cell m2 0
    refine leaves_cons (f := 36) (args := #[.pointer (some ⟨w.heap.size, 0, none⟩), .pointer (some ⟨w.heap.size + 1, 0, none⟩), .pointer (some ⟨w.heap.size + 1 + 1, 0, none⟩)]) (by simp) (by simp [go_sem]) ?_
    refine (open1_idle _ _ _ w2).mono ?_
    rintro e u' w3 ⟨rfl, rfl, rfl⟩
    refine ⟨.tuple #[.slice Av out.length cv, .int .i64 q, .int .i64 0], ?_, _, by rw [HO.out], by rw [HO.out]; exact hown, hbel⟩
    simp [results, Tryd.results15, go_sem, q0, q1, q2]
end Go.Proofs.YtibgcbngnfaaiaaDoor.H
