/- chunk.Open walked. -/
import Derived.Test.YtibgcbngnfaaiaaDoorHg
import Derived.Test.YtibgcbngnfaaiaaDoorHh
import Derived.Defers
import Derived.Outline
namespace Go.Proofs.YtibgcbngnfaaiaaDoor.H
open Go.RowKit Go.Proofs.YtibgcbngnfaaiaaDoorW.PrintWords Go.Proofs.YtibgcbngnfaaiaaDoorW.PrintLast Go.Proofs.YtibgcbngnfaaiaaDoorW.PrintMore
set_option linter.unusedVariables false
set_option linter.unusedSimpArgs false

theorem body_ok {okb okf : ByteArray → Bool} (hkb : BytesOk okb) (hkf : FieldOk okf) {g : Nat} {A : Option Addr} {c : Nat} {l out : List Int} {p q : Nat} {w : World} (h : bodyF okb okf l (l.length + 1) p [] = .ok (out, q)) (hg : Rdr w g A c l p)
    (hr : ∀ W, w.grownBy W (some g) → ReadsInt W .u8 A l.length l) (hc : l.length ≤ c) (hp : p ≤ l.length) :
    Calls Tryd.prog 37 #[.pointer (some ⟨g, 0, none⟩)] w fun e w' => ∃ v, e = .returned v ∧ w'.ownsRow w.heap.size 5 1 v out.length (nums .u8 out) ∧ w.grownBy w' (some g) ∧ Rdr w' g A c l q := by
  refine (body_calls okb okf hkb hkf g A c l p w hg hr hc hp).mono fun e w' hq => ?_
  unfold BodyPost at hq
  rw [h] at hq
  exact hq
theorem body_err {okb okf : ByteArray → Bool} (hkb : BytesOk okb) (hkf : FieldOk okf) {g : Nat} {A : Option Addr} {c : Nat} {l : List Int} {p : Nat} {x : Int} {w : World} (h : bodyF okb okf l (l.length + 1) p [] = .error x) (hg : Rdr w g A c l p)
    (hr : ∀ W, w.grownBy W (some g) → ReadsInt W .u8 A l.length l) (hc : l.length ≤ c) (hp : p ≤ l.length) :
    Calls Tryd.prog 37 #[.pointer (some ⟨g, 0, none⟩)] w fun e w' => e = .panicked (stopC x) ∧ w.grownBy w' (some g) := by
  refine (body_calls okb okf hkb hkf g A c l p w hg hr hc hp).mono fun e w' hq => ?_
  unfold BodyPost at hq
  rw [h] at hq
  exact hq

/-- What chunk.Open tells. -/
def openF (okb okf : ByteArray → Bool) (l : List Int) : List Int × Int × Int :=
  match bodyF okb okf l (l.length + 1) 0 [] with
  | .ok (out, q) => (out, q, 0)
  | .error x => ([], 0, x)

theorem blk_at {w : World} {g : Nat} {t : TypeId} {cs : Array Value} (h : w.heap[g]? = some (.cells cs t (0, 0))) {p : Addr} (hp : g ≠ p.block) (u : Value) : (w.setCell p u).heap[g]? = some (.cells cs t (0, 0)) :=
  (Below.heap_setCell w p u g hp).trans h
/-- The four blocks that chunk.Open lays. -/
def openW (w : World) (A : Option Addr) (c : Nat) (l : List Int) : World :=
  (((w.alloc (.cells #[.slice none 0 0] 22)).alloc (.cells #[.int .i64 0] 3)).alloc (.cells #[.int .i64 0] 25)).alloc (.cells #[.slice A l.length c, .int .i64 0] 68)
theorem openW_0 (w : World) (A : Option Addr) (c : Nat) (l : List Int) : (openW w A c l).heap[w.heap.size]? = some (.cells #[.slice none 0 0] 22 (0, 0)) :=
  blk_alloc (blk_alloc (blk_alloc (blk_new _ _) _) _) _
theorem openW_1 (w : World) (A : Option Addr) (c : Nat) (l : List Int) : (openW w A c l).heap[w.heap.size + 1]? = some (.cells #[.int .i64 0] 3 (0, 0)) :=
  blk_alloc (blk_alloc (by simpa using blk_new (w.alloc (.cells #[.slice none 0 0] 22)) (.cells #[.int .i64 0] 3)) _) _
theorem openW_2 (w : World) (A : Option Addr) (c : Nat) (l : List Int) : (openW w A c l).heap[w.heap.size + 1 + 1]? = some (.cells #[.int .i64 0] 25 (0, 0)) :=
  blk_alloc (by simpa using blk_new ((w.alloc (.cells #[.slice none 0 0] 22)).alloc (.cells #[.int .i64 0] 3)) (.cells #[.int .i64 0] 25)) _
theorem openW_3 (w : World) (A : Option Addr) (c : Nat) (l : List Int) : Rdr (openW w A c l) (w.heap.size + 1 + 1 + 1) A c l 0 := by
  unfold Rdr openW
  have h := blk_new (((w.alloc (.cells #[.slice none 0 0] 22)).alloc (.cells #[.int .i64 0] 3)).alloc (.cells #[.int .i64 0] 25)) (.cells #[.slice A l.length c, .int .i64 0] 68)
  simp only [World.size_alloc] at h
  exact h
theorem openW_size (w : World) (A : Option Addr) (c : Nat) (l : List Int) : (openW w A c l).heap.size = w.heap.size + 4 := by simp [openW]
theorem openW_below (w : World) (A : Option Addr) (c : Nat) (l : List Int) : Below w.heap.size w (openW w A c l) :=
  below_alloc (below_alloc (below_alloc (below_alloc (Below.refl _ _) _) _) _) _
theorem openW_reads {w : World} {A : Option Addr} {c : Nat} {l : List Int} (hr : ReadsInt w .u8 A l.length l) : ∀ W, (openW w A c l).grownBy W (some (w.heap.size + 1 + 1 + 1)) → ReadsInt W .u8 A l.length l := fun W h =>
  hr.below ((openW_below w A c l).grown h (by rw [openW_size]; omega) (fun k hk => by cases hk; omega))

set_option maxRecDepth 100000 in
set_option maxHeartbeats 4000000 in
theorem openF_calls (okb okf : ByteArray → Bool) (hkb : BytesOk okb) (hkf : FieldOk okf) (A : Option Addr) (c : Nat) (l : List Int) (w : World) (hr : ReadsInt w .u8 A l.length l) (hc : l.length ≤ c) :
    Calls Tryd.prog 15 #[.slice A l.length c] w fun e w' => ∃ v, e = .returned (.tuple #[v, .int .i64 (openF okb okf l).2.1, .int .i64 (openF okb okf l).2.2]) ∧
      w'.ownsRow w.heap.size 5 1 v (openF okb okf l).1.length (nums .u8 (openF okb okf l).1) ∧ Below w.heap.size w w' := by
  have hmf : ∀ (fn : Fn) (first cap : Array Value) (w : World), (Instr.makeFunc fn first cap).run Tryd.prog w = .ok (.func fn first cap) w := fun _ _ _ _ => rfl
  have HR := Aside0.mk hr
  have HC := Aside0.mk hc
  have HKB := Aside0.mk hkb
  have HKF := Aside0.mk hkf
  clear hr hc hkb hkf
  cases hb : bodyF okb okf l (l.length + 1) 0 [] with
  | error x =>
    have HB := Aside0.mk hb
    have HO : Aside0 (openF okb okf l = ([], 0, x)) := ⟨by unfold openF; rw [hb]⟩
    clear hb
    go_enter_defers Tryd.func15, Tryd.ntmps15
    go_wp2_with fail
    refine (body_err (A := A) (w := openW w A c l) HKB.out HKF.out HB.out (openW_3 w A c l) (openW_reads HR.out) HC.out (Nat.zero_le _)).mono ?_
    rintro e w1 ⟨rfl, hw1⟩
    have k0 : w1.heap[w.heap.size]? = _ := blk_grown (openW_0 w A c l) hw1 (by simp; omega)
    have k1 : w1.heap[w.heap.size + 1]? = _ := blk_grown (openW_1 w A c l) hw1 (by simp)
    have k2 : w1.heap[w.heap.size + 1 + 1]? = _ := blk_grown (openW_2 w A c l) hw1 (by simp)
    have HW1 := Aside0.mk hw1
    clear hw1
    refine leaves_cons (f := 36) (args := #[.pointer (some ⟨w.heap.size, 0, none⟩), .pointer (some ⟨w.heap.size + 1, 0, none⟩), .pointer (some ⟨w.heap.size + 1 + 1, 0, none⟩)]) (by simp) (by simp [go_sem]) ?_
    refine (open1_catch _ _ _ x _ _ _ _ _ _ w1 k0 k1 k2 (by omega) (by omega) (by omega)).mono ?_
    rintro e u' w2 ⟨rfl, rfl, n, rfl⟩
    have m0 := blk_alloc (blk_at (blk_at (blk_set (blk_drewN k0 n) 0 (.slice none 0 0)) (p := ⟨w.heap.size + 1, 0, none⟩) (by simp) (.int .i64 0)) (p := ⟨w.heap.size + 1 + 1, 0, none⟩) (by simp; omega) (.int .i64 x)) (.cells #[.int .i64 x] 64)
    have m1 := blk_alloc (blk_at (blk_set (blk_at (blk_drewN k1 n) (p := ⟨w.heap.size, 0, none⟩) (by simp) (.slice none 0 0)) 0 (.int .i64 0)) (p := ⟨w.heap.size + 1 + 1, 0, none⟩) (by simp) (.int .i64 x)) (.cells #[.int .i64 x] 64)
    have m2 := blk_alloc (blk_set (blk_at (blk_at (blk_drewN k2 n) (p := ⟨w.heap.size, 0, none⟩) (by simp; omega) (.slice none 0 0)) (p := ⟨w.heap.size + 1, 0, none⟩) (by simp) (.int .i64 0)) 0 (.int .i64 x)) (.cells #[.int .i64 x] 64)
    have hbel : Below w.heap.size w (((((w1.drewN n).setCell ⟨w.heap.size, 0, none⟩ (.slice none 0 0)).setCell ⟨w.heap.size + 1, 0, none⟩ (.int .i64 0)).setCell ⟨w.heap.size + 1 + 1, 0, none⟩ (.int .i64 x)).alloc (.cells #[.int .i64 x] 64)) := by
      have h1 : Below w.heap.size w w1 := (openW_below w A c l).grown HW1.out (by rw [openW_size]; omega) (fun k hk => by cases hk; omega)
      have h2 := (((pw_below_drewN h1 n).setCell (p := ⟨w.heap.size, 0, none⟩) (Nat.le_refl _) (.slice none 0 0)).setCell (p := ⟨w.heap.size + 1, 0, none⟩) (by simp) (.int .i64 0)).setCell (p := ⟨w.heap.size + 1 + 1, 0, none⟩) (by simp; omega) (.int .i64 x)
      exact h2.alloc h2.size _
    generalize ((((w1.drewN n).setCell ⟨w.heap.size, 0, none⟩ (.slice none 0 0)).setCell ⟨w.heap.size + 1, 0, none⟩ (.int .i64 0)).setCell ⟨w.heap.size + 1 + 1, 0, none⟩ (.int .i64 x)).alloc (.cells #[.int .i64 x] 64) = w2 at m0 m1 m2 hbel ⊢
    have q0 : w2.cell? ⟨w.heap.size, 0, none⟩ = some (.slice none 0 0) := blk_cell m0 0
    have q1 : w2.cell? ⟨w.heap.size + 1, 0, none⟩ = some (.int .i64 0) := blk_cell m1 0
    have q2 : w2.cell? ⟨w.heap.size + 1 + 1, 0, none⟩ = some (.int .i64 x) := blk_cell m2 0
    refine ⟨.tuple #[.slice none 0 0, .int .i64 0, .int .i64 x], ?_, _, by rw [HO.out], by rw [HO.out]; exact own_nil _ _ _ _, hbel⟩
    simp [results, Tryd.results15, go_sem, q0, q1, q2]
  | ok oq =>
    obtain ⟨out, q⟩ := oq
    have HB := Aside0.mk hb
    have HO : Aside0 (openF okb okf l = (out, (q : Int), 0)) := ⟨by unfold openF; rw [hb]⟩
    clear hb
    go_enter_defers Tryd.func15, Tryd.ntmps15
    go_wp2_with fail
    refine (body_ok (A := A) (w := openW w A c l) HKB.out HKF.out HB.out (openW_3 w A c l) (openW_reads HR.out) HC.out (Nat.zero_le _)).mono ?_
    rintro e w1 ⟨v, rfl, hown, hw1, hr1⟩
    obtain ⟨Av, cv, rfl⟩ := own_slice hown
    have k0 : w1.heap[w.heap.size]? = _ := blk_grown (openW_0 w A c l) hw1 (by simp; omega)
    have k1 : w1.heap[w.heap.size + 1]? = _ := blk_grown (openW_1 w A c l) hw1 (by simp)
    have k2 : w1.heap[w.heap.size + 1 + 1]? = _ := blk_grown (openW_2 w A c l) hw1 (by simp)
    have c0 : w1.cell? ⟨w.heap.size, 0, none⟩ = some (.slice none 0 0) := blk_cell k0 0
    have c1 : w1.cell? ⟨w.heap.size + 1, 0, none⟩ = some (.int .i64 0) := blk_cell k1 0
    have c2 : w1.cell? ⟨w.heap.size + 1 + 1, 0, none⟩ = some (.int .i64 0) := blk_cell k2 0
    have f0 : w1.frozen? ⟨w.heap.size, 0, none⟩ = false := blk_frozen k0 0
    have f1 : w1.frozen? ⟨w.heap.size + 1, 0, none⟩ = false := blk_frozen k1 0
    have f2 : w1.frozen? ⟨w.heap.size + 1 + 1, 0, none⟩ = false := blk_frozen k2 0
    have c3 : w1.cell? ⟨w.heap.size + 1 + 1 + 1, 1, none⟩ = some (.int .i64 q) := rdr_c1 hr1
    have HW1 := Aside0.mk hw1
    have HOWN := Aside0.mk hown
    have K0 := Aside0.mk k0
    have K1 := Aside0.mk k1
    have K2 := Aside0.mk k2
    clear hw1 hown k0 k1 k2 hr1
    go_wp2
    go_region
    go_wp2
    have m0 := blk_drew (blk_at (blk_at (blk_set (blk_set K0.out 0 (.slice Av out.length cv)) 0 (.slice Av out.length cv)) (p := ⟨w.heap.size + 1, 0, none⟩) (by simp) (.int .i64 q)) (p := ⟨w.heap.size + 1 + 1, 0, none⟩) (by simp; omega) (.int .i64 0))
    have m1 := blk_drew (blk_at (blk_set (blk_at (blk_at K1.out (p := ⟨w.heap.size, 0, none⟩) (by simp) (.slice Av out.length cv)) (p := ⟨w.heap.size, 0, none⟩) (by simp) (.slice Av out.length cv)) 0 (.int .i64 q)) (p := ⟨w.heap.size + 1 + 1, 0, none⟩) (by simp) (.int .i64 0))
    have m2 := blk_drew (blk_set (blk_at (blk_at (blk_at K2.out (p := ⟨w.heap.size, 0, none⟩) (by simp; omega) (.slice Av out.length cv)) (p := ⟨w.heap.size, 0, none⟩) (by simp; omega) (.slice Av out.length cv)) (p := ⟨w.heap.size + 1, 0, none⟩) (by simp) (.int .i64 q)) 0 (.int .i64 0))
    have hbel : Below w.heap.size w ((((w1.setCell ⟨w.heap.size, 0, none⟩ (.slice Av out.length cv)).setCell ⟨w.heap.size, 0, none⟩ (.slice Av out.length cv)).setCell ⟨w.heap.size + 1, 0, none⟩ (.int .i64 q)).setCell ⟨w.heap.size + 1 + 1, 0, none⟩ (.int .i64 0)).drew := by
      have h1 : Below w.heap.size w w1 := (openW_below w A c l).grown HW1.out (by rw [openW_size]; omega) (fun k hk => by cases hk; omega)
      exact below_drew ((((h1.setCell (p := ⟨w.heap.size, 0, none⟩) (Nat.le_refl _) (.slice Av out.length cv)).setCell (p := ⟨w.heap.size, 0, none⟩) (Nat.le_refl _) (.slice Av out.length cv)).setCell (p := ⟨w.heap.size + 1, 0, none⟩) (by simp) (.int .i64 q)).setCell (p := ⟨w.heap.size + 1 + 1, 0, none⟩) (by simp; omega) (.int .i64 0))
    have hown : ((((w1.setCell ⟨w.heap.size, 0, none⟩ (.slice Av out.length cv)).setCell ⟨w.heap.size, 0, none⟩ (.slice Av out.length cv)).setCell ⟨w.heap.size + 1, 0, none⟩ (.int .i64 q)).setCell ⟨w.heap.size + 1 + 1, 0, none⟩ (.int .i64 0)).drew.ownsRow w.heap.size 5 1 (.slice Av out.length cv) out.length (nums .u8 out) := by
      have hz := openW_size w A c l
      have h1 := ownsRow_setCell_below (ownsRow_setCell_below (ownsRow_setCell_below (ownsRow_setCell_below HOWN.out (a := ⟨w.heap.size, 0, none⟩) (by simp; omega) (.slice Av out.length cv)) (a := ⟨w.heap.size, 0, none⟩) (by simp; omega) (.slice Av out.length cv)) (a := ⟨w.heap.size + 1, 0, none⟩) (by simp; omega) (.int .i64 q)) (a := ⟨w.heap.size + 1 + 1, 0, none⟩) (by simp; omega) (.int .i64 0)
      exact pw_own_below (own_weaken h1 (by omega)) (below_drew (Below.refl _ _))
    generalize ((((w1.setCell ⟨w.heap.size, 0, none⟩ (.slice Av out.length cv)).setCell ⟨w.heap.size, 0, none⟩ (.slice Av out.length cv)).setCell ⟨w.heap.size + 1, 0, none⟩ (.int .i64 q)).setCell ⟨w.heap.size + 1 + 1, 0, none⟩ (.int .i64 0)).drew = w2 at m0 m1 m2 hbel hown ⊢
    have q0 : w2.cell? ⟨w.heap.size, 0, none⟩ = some (.slice Av out.length cv) := blk_cell m0 0
    have q1 : w2.cell? ⟨w.heap.size + 1, 0, none⟩ = some (.int .i64 q) := blk_cell m1 0
    have q2 : w2.cell? ⟨w.heap.size + 1 + 1, 0, none⟩ = some (.int .i64 0) := blk_cell m2 0
    refine leaves_cons (f := 36) (args := #[.pointer (some ⟨w.heap.size, 0, none⟩), .pointer (some ⟨w.heap.size + 1, 0, none⟩), .pointer (some ⟨w.heap.size + 1 + 1, 0, none⟩)]) (by simp) (by simp [go_sem]) ?_
    refine (open1_idle _ _ _ w2).mono ?_
    rintro e u' w3 ⟨rfl, rfl, rfl⟩
    refine ⟨.tuple #[.slice Av out.length cv, .int .i64 q, .int .i64 0], ?_, _, by rw [HO.out], by rw [HO.out]; exact hown, hbel⟩
    simp [results, Tryd.results15, go_sem, q0, q1, q2]
end Go.Proofs.YtibgcbngnfaaiaaDoor.H
