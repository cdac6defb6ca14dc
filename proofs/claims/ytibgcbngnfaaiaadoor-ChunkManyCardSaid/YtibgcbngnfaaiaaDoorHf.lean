/- (*chunk.reader).body walked. -/
import Derived.Test.YtibgcbngnfaaiaaDoorHe
import Derived.Test.YtibgcbngnfaaiaaDoorHc
import Derived.Outline
namespace Go.Proofs.YtibgcbngnfaaiaaDoor.H
open Go.RowKit Go.Proofs.YtibgcbngnfaaiaaDoorW.PrintWords Go.Proofs.YtibgcbngnfaaiaaDoorW.PrintLast Go.Proofs.YtibgcbngnfaaiaaDoorW.PrintMore
set_option linter.unusedVariables false
set_option linter.unusedSimpArgs false

theorem lenAt_range (ok : ByteArray → Bool) (s : ByteArray) : ∀ (d i : Nat) (n m : Int), 0 ≤ n → lenAt ok s d i n = .ok m → 0 ≤ m := by
  intro d
  induction d with
  | zero =>
    intro i n m h0 h
    unfold lenAt at h
    split at h
    · cases h; exact h0
    · cases h
  | succ d ih =>
    intro i n m h0 h
    unfold lenAt at h
    split at h
    · split at h
      · cases h; exact h0
      · cases h
    · split at h
      · cases h
      · exact ih _ _ _ (by omega) h

def BytesOk (ok : ByteArray → Bool) : Prop := ∀ (t : ByteArray) (W : World), t.size ≤ 4294967296 → Calls Tryd.prog 92 #[.string t] W fun e W' => e = .returned (.bool (ok t)) ∧ Drawn0 W W'
theorem length_ok {ok : ByteArray → Bool} (hok : BytesOk ok) {s : ByteArray} {n : Int} {w : World} (h : lenAt ok s s.size 0 0 = .ok n) (hs : s.size ≤ 4294967296) :
    Calls Tryd.prog 67 #[.string s] w fun e w' => e = .returned (.int .i64 n) ∧ Drawn0 w w' := by
  refine (length_calls ok s w (by omega) (fun t W ht => hok t W (by omega))).mono fun e w' hq => ?_
  unfold LenPost at hq
  rw [h] at hq
  exact hq
theorem length_err {ok : ByteArray → Bool} (hok : BytesOk ok) {s : ByteArray} {x : Int} {w : World} (h : lenAt ok s s.size 0 0 = .error x) (hs : s.size ≤ 4294967296) :
    Calls Tryd.prog 67 #[.string s] w fun e w' => e = .panicked (stopC x) ∧ Drawn0 w w' := by
  refine (length_calls ok s w (by omega) (fun t W ht => hok t W (by omega))).mono fun e w' hq => ?_
  unfold LenPost at hq
  rw [h] at hq
  exact hq
theorem trailers_ok {ok : ByteArray → Bool} (hok : FieldOk ok) {g : Nat} {A : Option Addr} {c : Nat} {l : List Int} {p q : Nat} {w : World} (h : trailF ok l (l.length + 1) 0 p = .ok q) (hg : Rdr w g A c l p)
    (hr : ∀ W, w.grownBy W (some g) → ReadsInt W .u8 A l.length l) (hc : l.length ≤ c) (hp : p ≤ l.length) :
    Calls Tryd.prog 69 #[.pointer (some ⟨g, 0, none⟩)] w fun e w' => e = .returned (.tuple #[]) ∧ w.grownBy w' (some g) ∧ Rdr w' g A c l q := by
  refine (trailers_calls ok hok g A c l p w hg hr hc hp).mono fun e w' hq => ?_
  unfold TrailPost at hq
  rw [h] at hq
  exact hq
theorem trailers_err {ok : ByteArray → Bool} (hok : FieldOk ok) {g : Nat} {A : Option Addr} {c : Nat} {l : List Int} {p : Nat} {x : Int} {w : World} (h : trailF ok l (l.length + 1) 0 p = .error x) (hg : Rdr w g A c l p)
    (hr : ∀ W, w.grownBy W (some g) → ReadsInt W .u8 A l.length l) (hc : l.length ≤ c) (hp : p ≤ l.length) :
    Calls Tryd.prog 69 #[.pointer (some ⟨g, 0, none⟩)] w fun e w' => e = .panicked (stopC x) ∧ w.grownBy w' (some g) := by
  refine (trailers_calls ok hok g A c l p w hg hr hc hp).mono fun e w' hq => ?_
  unfold TrailPost at hq
  rw [h] at hq
  exact hq
theorem end_ok {g : Nat} {A : Option Addr} {c : Nat} {l : List Int} {p q : Nat} {w : World} (h : endF l 2 p = .ok q) (hg : Rdr w g A c l p)
    (hr : ∀ W, w.grownBy W (some g) → ReadsInt W .u8 A l.length l) (hp : p ≤ l.length) :
    Calls Tryd.prog 71 #[.pointer (some ⟨g, 0, none⟩)] w fun e w' => e = .returned (.tuple #[]) ∧ w.grownBy w' (some g) ∧ Rdr w' g A c l q := by
  refine (end_calls g A c l p w hg hr hp).mono fun e w' hq => ?_
  unfold EndPost at hq
  rw [h] at hq
  exact hq
theorem end_err {g : Nat} {A : Option Addr} {c : Nat} {l : List Int} {p : Nat} {x : Int} {w : World} (h : endF l 2 p = .error x) (hg : Rdr w g A c l p)
    (hr : ∀ W, w.grownBy W (some g) → ReadsInt W .u8 A l.length l) (hp : p ≤ l.length) :
    Calls Tryd.prog 71 #[.pointer (some ⟨g, 0, none⟩)] w fun e w' => e = .panicked (stopC x) ∧ w.grownBy w' (some g) := by
  refine (end_calls g A c l p w hg hr hp).mono fun e w' hq => ?_
  unfold EndPost at hq
  rw [h] at hq
  exact hq
theorem end_le {l : List Int} {p q : Nat} (h : endF l 2 p = .ok q) : q = p + 2 ∧ p + 2 ≤ l.length := by
  simp only [endF, Nat.one_ne_zero, if_false, if_true] at h
  by_cases h1 : p < l.length
  · rw [if_pos h1] at h
    by_cases h2 : rd l p = 13
    · rw [if_pos h2] at h
      by_cases h3 : p + 1 < l.length
      · rw [if_pos h3] at h
        by_cases h4 : rd l ((p + 1 : Nat) : Int) = 10
        · rw [if_pos h4] at h; simp only [Except.ok.injEq] at h; omega
        · rw [if_neg h4] at h; cases h
      · rw [if_neg h3] at h; cases h
    · rw [if_neg h2] at h; cases h
  · rw [if_neg h1] at h; cases h

/-- The body from place p on, 'out' read. -/
def bodyF (okb okf : ByteArray → Bool) (l : List Int) : Nat → Nat → List Int → Except Int (List Int × Nat)
  | 0, _, _ => .error 0
  | d + 1, p, out =>
    match lineL 0 (l.drop p) with
    | .error x => .error x
    | .ok (s, r) =>
      match lenAt okb (strOfNums s) (strOfNums s).size 0 0 with
      | .error x => .error x
      | .ok n =>
        if n = 0 then (match trailF okf l (l.length + 1) 0 (l.length - r.length) with | .error x => .error x | .ok q => .ok (out, q))
        else if ¬ n ≤ 65536 - (out.length : Int) then .error 93
        else if ¬ n ≤ (l.length : Int) - ((l.length - r.length : Nat) : Int) then .error 92
        else match endF l 2 (l.length - r.length + n.toNat) with
          | .error x => .error x
          | .ok q => bodyF okb okf l d q (out ++ (l.take (l.length - r.length + n.toNat)).drop (l.length - r.length))

def BodyPost (okb okf : ByteArray → Bool) (l : List Int) (A : Option Addr) (c p g : Nat) (w : World) (e : Ending) (w' : World) : Prop :=
  match bodyF okb okf l (l.length + 1) p [] with
  | .ok (out, q) => ∃ v, e = .returned v ∧ w'.ownsRow w.heap.size 5 1 v out.length (nums .u8 out) ∧ w.grownBy w' (some g) ∧ Rdr w' g A c l q
  | .error x => e = .panicked (stopC x) ∧ w.grownBy w' (some g)
theorem bpost_err {okb okf : ByteArray → Bool} {l : List Int} {A : Option Addr} {c p g : Nat} {w w' : World} {x : Int} (h : bodyF okb okf l (l.length + 1) p [] = .error x) (hw : w.grownBy w' (some g)) : BodyPost okb okf l A c p g w (.panicked (stopC x)) w' := by
  unfold BodyPost; rw [h]; exact ⟨rfl, hw⟩
theorem bpost_ok {okb okf : ByteArray → Bool} {l out : List Int} {A : Option Addr} {c p g q : Nat} {w w' : World} {v : Value} (h : bodyF okb okf l (l.length + 1) p [] = .ok (out, q)) (ho : w'.ownsRow w.heap.size 5 1 v out.length (nums .u8 out))
    (hw : w.grownBy w' (some g)) (hr : Rdr w' g A c l q) : BodyPost okb okf l A c p g w (.returned v) w' := by
  unfold BodyPost; rw [h]; exact ⟨v, rfl, ho, hw, hr⟩

theorem own_but {w w' : World} {base g n : Nat} {e : TypeId} {size : Nat} {v : Value} {xs : List Value} (h : w.ownsRow base e size v n xs) (hb : g < base) (hg : w.grownBy w' (some g)) : w'.ownsRow base e size v n xs :=
  h.kept hg (.inr (fun e => by have := (h.lt _ e).1; omega))
theorem grownBy_below {w w1 w2 : World} {row : Option Nat} (h : w.grownBy w1 row) (k : Below w.heap.size w1 w2) : w.grownBy w2 row :=
  ⟨k.os.trans h.os, k.tape.trans h.tape, k.output.trans h.output, Nat.le_trans h.size k.size, fun i hi hne => (k.block i hi).trans (h.block i hi hne)⟩
theorem rdr_belowB {w w1 : World} {B g : Nat} {A : Option Addr} {c p : Nat} {l : List Int} (h : Rdr w g A c l p) (hB : g < B) (k : Below B w w1) : Rdr w1 g A c l p := by
  unfold Rdr at h ⊢
  exact (k.block g hB).trans h
theorem rdr_set0 {w : World} {g : Nat} {A : Option Addr} {c p q : Nat} {l : List Int} (h : Rdr w g A c l p) : Rdr (w.setCell ⟨g, 1, none⟩ (.int .i64 q)) g A c l q := by
  unfold Rdr at h ⊢
  exact blk_set h 1 _
end Go.Proofs.YtibgcbngnfaaiaaDoor.H
