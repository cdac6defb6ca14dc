/- ambrylaw12.known walked. · Heads of lines: where they end, what they are. · ambrylaw12.HttpStatus. -/
import Derived.Test.YtibgcbngnfaaiaaDoorHNf
import Derived.Lib.SlBytesConst
namespace Go.Proofs.YtibgcbngnfaaiaaDoor.H
open Go.RowKit Go.Proofs.YtibgcbngnfaaiaaDoorW.PrintWords Go.Proofs.YtibgcbngnfaaiaaDoorW.PrintLast Go.Proofs.YtibgcbngnfaaiaaDoorW.PrintMore Go.Proofs.YtibgcbngnfaaiaaDoor.PA
set_option linter.unusedVariables false
set_option linter.unusedSimpArgs false

def evq1 : Bool := match reqS [71, 69, 84, 32, 47, 32, 72, 84, 84, 80, 47, 49, 46, 49, 13, 10, 72, 111, 115, 116, 58, 32, 104, 13, 10, 13, 10, 109, 111, 114, 101] with
  | .ok (m, t, fs, b, n) => decide (m = [71, 69, 84] ∧ fs.length = 1 ∧ n = 27)
  | .error _ => false
theorem evq1_true : evq1 = true := by decide +kernel
def evq2 : Bool := match reqS [71, 69, 84, 32, 47, 13, 10, 13, 10] with
  | .ok _ => false
  | .error x => decide (x = 95)
theorem evq2_true : evq2 = true := by decide +kernel
def evq3 : Bool := match respS [72, 84, 84, 80, 47, 49, 46, 49, 32, 50, 48, 48, 32, 79, 75, 13, 10, 67, 111, 110, 116, 101, 110, 116, 45, 76, 101, 110, 103, 116, 104, 58, 32, 50, 13, 10, 13, 10, 104, 105, 33] ⟨#[71, 69, 84]⟩ with
  | .ok (n, r, fs, b) => decide (b = [104, 105])
  | .error _ => false
theorem evq3_true : evq3 = true := by decide +kernel
def evq4 : Bool := match respS [] ⟨#[71, 69, 84]⟩ with
  | .ok _ => false
  | .error x => decide (x = 92)
theorem evq4_true : evq4 = true := by decide +kernel
theorem kreq_ok (l : List UInt8) (m t : List UInt8) (fs : List S103) (b : List Int) (n : Int) (h : reqS l = .ok (m, t, fs, b, n)) (hl : l.length ≤ 1000) (w : World) (hM : Mz w) (C : Array Value) (hC : (nums .u8 (iL l)).toArray = C) (k : Nat) (hk : l.length = k) (fr : Nat × Nat) :
    Calls Tryd.prog 24 #[.slice (some ⟨w.heap.size, 0, none⟩) k k] (w.alloc (.cells C 5 fr)) fun e w' => ∃ A1 c1 A2 c2, e = .returned (.tuple #[.agg #[.string (ofL m), .string (ofL t), .slice A1 fs.length c1, .slice A2 b.length c2], .int .i64 n, .int .i64 0]) ∧ ReadsInt w' .u8 A2 b.length b ∧ Below w.heap.size w w' := by
  subst hC; subst hk
  have hb := below_alloc (Below.refl w.heap.size w) (.cells (nums .u8 (iL l)).toArray 5 fr)
  have hr : ReadsInt (w.alloc (.cells (nums .u8 (iL l)).toArray 5 fr)) .u8 (some ⟨w.heap.size, 0, none⟩) l.length (iL l) := by
    refine ⟨iL_length l, by omega, fun _ => ⟨_, rfl, fun j hj => ?_⟩⟩
    rw [add_plain, World.cell?_alloc_mark]
    simp [nums, List.getD_eq_getElem?_getD, List.getElem?_eq_getElem (show j < (iL l).length by rw [iL_length]; exact hj)]
  refine (request_calls _ l.length l _ hr (Nat.le_refl _) (by omega) (mz_below hM hb)).mono fun e w' hq => ?_
  unfold RequestPost at hq
  rw [h] at hq
  obtain ⟨A1, c1, A2, c2, rfl, h1, h2, h3⟩ := hq
  exact ⟨A1, c1, A2, c2, rfl, h2.reads.2, bt' hb h3⟩
theorem kreq_no (l : List UInt8) (x : Int) (h : reqS l = .error x) (hl : l.length ≤ 1000) (w : World) (hM : Mz w) (C : Array Value) (hC : (nums .u8 (iL l)).toArray = C) (k : Nat) (hk : l.length = k) (fr : Nat × Nat) :
    Calls Tryd.prog 24 #[.slice (some ⟨w.heap.size, 0, none⟩) k k] (w.alloc (.cells C 5 fr)) fun e w' => e = .returned (.tuple #[.agg #[.string ⟨#[]⟩, .string ⟨#[]⟩, .slice none 0 0, .slice none 0 0], .int .i64 0, .int .i64 x]) ∧ Below w.heap.size w w' := by
  subst hC; subst hk
  have hb := below_alloc (Below.refl w.heap.size w) (.cells (nums .u8 (iL l)).toArray 5 fr)
  have hr : ReadsInt (w.alloc (.cells (nums .u8 (iL l)).toArray 5 fr)) .u8 (some ⟨w.heap.size, 0, none⟩) l.length (iL l) := by
    refine ⟨iL_length l, by omega, fun _ => ⟨_, rfl, fun j hj => ?_⟩⟩
    rw [add_plain, World.cell?_alloc_mark]
    simp [nums, List.getD_eq_getElem?_getD, List.getElem?_eq_getElem (show j < (iL l).length by rw [iL_length]; exact hj)]
  refine (request_calls _ l.length l _ hr (Nat.le_refl _) (by omega) (mz_below hM hb)).mono fun e w' hq => ?_
  unfold RequestPost at hq
  rw [h] at hq
  exact ⟨hq.1, bt' hb hq.2⟩
theorem kresp_ok (l : List UInt8) (me : ByteArray) (n : Int) (r : List UInt8) (fs : List S103) (b : List Int) (h : respS l me = .ok (n, r, fs, b)) (hl : l.length ≤ 1000) (w : World) (hM : Mz w) (C : Array Value) (hC : (nums .u8 (iL l)).toArray = C) (k : Nat) (hk : l.length = k) (fr : Nat × Nat) :
    Calls Tryd.prog 26 #[.slice (some ⟨w.heap.size, 0, none⟩) k k, .string me] (w.alloc (.cells C 5 fr)) fun e w' => ∃ A1 c1 A2 c2, e = .returned (.tuple #[.agg #[.int .i64 n, .string (ofL r), .slice A1 fs.length c1, .slice A2 b.length c2], .int .i64 0]) ∧ ReadsInt w' .u8 A2 b.length b ∧ Below w.heap.size w w' := by
  subst hC; subst hk
  have hb := below_alloc (Below.refl w.heap.size w) (.cells (nums .u8 (iL l)).toArray 5 fr)
  have hr : ReadsInt (w.alloc (.cells (nums .u8 (iL l)).toArray 5 fr)) .u8 (some ⟨w.heap.size, 0, none⟩) l.length (iL l) := by
    refine ⟨iL_length l, by omega, fun _ => ⟨_, rfl, fun j hj => ?_⟩⟩
    rw [add_plain, World.cell?_alloc_mark]
    simp [nums, List.getD_eq_getElem?_getD, List.getElem?_eq_getElem (show j < (iL l).length by rw [iL_length]; exact hj)]
  refine (response_calls _ l.length l me _ hr (Nat.le_refl _) (by omega) (mz_below hM hb)).mono fun e w' hq => ?_
  unfold ResponsePost at hq
  rw [h] at hq
  obtain ⟨A1, c1, A2, c2, rfl, h1, h2, h3⟩ := hq
  exact ⟨A1, c1, A2, c2, rfl, h2.reads.2, bt' hb h3⟩
theorem kq1 (w : World) (hM : Mz w) : Calls Tryd.prog 24 #[.slice (some ⟨w.heap.size, 0, none⟩) 31 31] (w.alloc (.cells #[.int .u8 71, .int .u8 69, .int .u8 84, .int .u8 32, .int .u8 47, .int .u8 32, .int .u8 72, .int .u8 84, .int .u8 84, .int .u8 80, .int .u8 47, .int .u8 49, .int .u8 46, .int .u8 49, .int .u8 13, .int .u8 10, .int .u8 72, .int .u8 111, .int .u8 115, .int .u8 116, .int .u8 58, .int .u8 32, .int .u8 104, .int .u8 13, .int .u8 10, .int .u8 13, .int .u8 10, .int .u8 109, .int .u8 111, .int .u8 114, .int .u8 101] 5 (31, 32))) fun e w' => ∃ A1 c1 A2 c2 t k, e = .returned (.tuple #[.agg #[.string ⟨#[71, 69, 84]⟩, .string t, .slice A1 1 c1, .slice A2 k c2], .int .i64 27, .int .i64 0]) ∧ Below w.heap.size w w' := by
  have h := evq1_true
  unfold evq1 at h
  split at h
  · rename_i m t fs b n heq
    obtain ⟨rfl, h2, rfl⟩ := of_decide_eq_true h
    refine (kreq_ok _ _ _ _ _ _ heq (by decide) w hM _ rfl _ rfl _).mono ?_
    rintro e w' ⟨A1, c1, A2, c2, rfl, _, hb⟩
    rw [h2]
    exact ⟨A1, c1, A2, c2, _, _, rfl, hb⟩
  · cases h
theorem kq2 (w : World) (o : Obj) (hM : Mz (w.alloc o)) : Calls Tryd.prog 24 #[.slice (some ⟨w.heap.size + 1, 0, none⟩) 9 9] ((w.alloc o).alloc (.cells #[.int .u8 71, .int .u8 69, .int .u8 84, .int .u8 32, .int .u8 47, .int .u8 13, .int .u8 10, .int .u8 13, .int .u8 10] 5 (9, 10))) fun e w' => e = .returned (.tuple #[.agg #[.string ⟨#[]⟩, .string ⟨#[]⟩, .slice none 0 0, .slice none 0 0], .int .i64 0, .int .i64 95]) ∧ Below (w.alloc o).heap.size (w.alloc o) w' := by
  have h := evq2_true
  unfold evq2 at h
  split at h
  · cases h
  · rename_i x heq
    obtain rfl := of_decide_eq_true h
    have h1 := kreq_no _ _ heq (by decide) (w.alloc o) hM _ rfl _ rfl (9, 10)
    rw [World.size_alloc] at h1
    rw [World.size_alloc]
    exact h1
theorem kq3 (w : World) (o : Obj) (hM : Mz (w.alloc o)) : Calls Tryd.prog 26 #[.slice (some ⟨w.heap.size + 1, 0, none⟩) 41 41, .string ⟨#[71, 69, 84]⟩] ((w.alloc o).alloc (.cells #[.int .u8 72, .int .u8 84, .int .u8 84, .int .u8 80, .int .u8 47, .int .u8 49, .int .u8 46, .int .u8 49, .int .u8 32, .int .u8 50, .int .u8 48, .int .u8 48, .int .u8 32, .int .u8 79, .int .u8 75, .int .u8 13, .int .u8 10, .int .u8 67, .int .u8 111, .int .u8 110, .int .u8 116, .int .u8 101, .int .u8 110, .int .u8 116, .int .u8 45, .int .u8 76, .int .u8 101, .int .u8 110, .int .u8 103, .int .u8 116, .int .u8 104, .int .u8 58, .int .u8 32, .int .u8 50, .int .u8 13, .int .u8 10, .int .u8 13, .int .u8 10, .int .u8 104, .int .u8 105, .int .u8 33] 5 (41, 42))) fun e w' => ∃ A1 c1 A2 c2 n r k, e = .returned (.tuple #[.agg #[.int .i64 n, .string r, .slice A1 k c1, .slice A2 2 c2], .int .i64 0]) ∧ ReadsInt w' .u8 A2 2 [104, 105] ∧ Below (w.alloc o).heap.size (w.alloc o) w' := by
  have h := evq3_true
  unfold evq3 at h
  split at h
  · rename_i n r fs b heq
    obtain rfl := of_decide_eq_true h
    have h1 := kresp_ok _ _ _ _ _ _ heq (by decide) (w.alloc o) hM _ rfl _ rfl (41, 42)
    rw [World.size_alloc] at h1
    rw [World.size_alloc]
    refine h1.mono ?_
    rintro e w' ⟨A1, c1, A2, c2, rfl, hr, hb⟩
    exact ⟨A1, c1, A2, c2, _, _, _, rfl, hr, hb⟩
  · cases h
theorem kq4 (w : World) (hM : Mz w) : Calls Tryd.prog 26 #[.slice none 0 0, .string ⟨#[71, 69, 84]⟩] w fun e w' => e = .returned (.tuple #[.agg #[.int .i64 0, .string ⟨#[]⟩, .slice none 0 0, .slice none 0 0], .int .i64 92]) ∧ Below w.heap.size w w' := by
  have h := evq4_true
  unfold evq4 at h
  split at h
  · cases h
  · rename_i x heq
    obtain rfl := of_decide_eq_true h
    have h0 := response_calls none 0 [] ⟨#[71, 69, 84]⟩ w ⟨rfl, by decide, fun h => absurd h (by decide)⟩ (Nat.le_refl _) (by decide) hM
    refine h0.mono fun e w' hq => ?_
    unfold ResponsePost at hq
    rw [heq] at hq
    exact hq
theorem evstr : strOfNums [104, 105] = ⟨#[104, 105]⟩ := by decide +kernel
set_option maxHeartbeats 4000000 in
set_option maxRecDepth 100000 in
theorem known12_calls (w : World) (hM : Mz w) : Calls Tryd.prog 23 #[] w fun e w' => e = .returned (.bool true) ∧ Below w.heap.size w w' := by
  have HM := Aside0.mk hM
  clear hM
  have kc := fun (w : World) (C : Array Value) (n c : Nat) => Lib.run_convert_bytes_const (P := Tryd.prog) w 22 5 C n c Tryd.underlying22 Tryd.underlying5
  go_enter Tryd.func23, Tryd.ntmps23
  have kc1 := fun (w : World) (o : Obj) (C : Array Value) (n c : Nat) => by
    have h := kc (w.alloc o) C n c
    rw [World.size_alloc] at h
    exact h
  go_wp2_with (first
    | (go_at_call 24; ((with_reducible refine (kq1 _ HM.out).mono ?_); rintro e w1 ⟨A1, c1, A2, c2, t, k, rfl, hb1⟩; have HB1 := Aside0.mk (below_alloc hb1 (.cells #[.string ⟨#[71, 69, 84]⟩, .string t, .slice A1 1 c1, .slice A2 k c2] 41)); replace hb1 := Aside0.mk hb1))
    | (go_at_call 24; ((with_reducible refine (kq2 _ _ (mz_below HM.out HB1.out)).mono ?_); rintro e w2 ⟨rfl, hb2⟩; have kq2 := Aside0.mk (blk_below (blk_new w1 (.cells #[.string ⟨#[71, 69, 84]⟩, .string t, .slice A1 1 c1, .slice A2 k c2] 41)) hb2); have HB2 := Aside0.mk (below_alloc (bt' HB1.out hb2) (.cells #[.string ⟨#[]⟩, .string ⟨#[]⟩, .slice none 0 0, .slice none 0 0] 41)); replace hb2 := Aside0.mk hb2))
    | (go_at_call 26; ((with_reducible refine (kq3 _ _ (mz_below HM.out HB2.out)).mono ?_); rintro e w3 ⟨A3, c3, A4, c4, n3, r3, k3, rfl, hr3, hb3⟩; have kq3 := Aside0.mk (blk_below (blk_alloc kq2.out _) hb3); have HB3 := Aside0.mk (below_alloc (bt' HB2.out hb3) (.cells #[.int .i64 n3, .string r3, .slice A3 k3 c3, .slice A4 2 c4] 47)); replace hr3 := Aside0.mk hr3; replace hb3 := Aside0.mk hb3))
    | (go_at_call 26; ((with_reducible refine (kq4 _ (mz_below HM.out HB3.out)).mono ?_); rintro e w4 ⟨rfl, hb4⟩; have kq4 := blk_alloc (blk_below (blk_alloc kq3.out (.cells #[.int .i64 n3, .string r3, .slice A3 k3 c3, .slice A4 2 c4] 47)) hb4) (.cells #[.int .i64 0, .string ⟨#[]⟩, .slice none 0 0, .slice none 0 0] 47); have kr4 := blk_alloc (blk_below (blk_new w3 (.cells #[.int .i64 n3, .string r3, .slice A3 k3 c3, .slice A4 2 c4] 47)) hb4) (.cells #[.int .i64 0, .string ⟨#[]⟩, .slice none 0 0, .slice none 0 0] 47); have q0 : (w4.alloc (.cells #[.int .i64 0, .string ⟨#[]⟩, .slice none 0 0, .slice none 0 0] 47)).cell? ⟨w1.heap.size, 0, none⟩ = some (.string ⟨#[71, 69, 84]⟩) := blk_cell kq4 0; have q2 : (w4.alloc (.cells #[.int .i64 0, .string ⟨#[]⟩, .slice none 0 0, .slice none 0 0] 47)).cell? ⟨w1.heap.size, 2, none⟩ = some (.slice A1 1 c1) := blk_cell kq4 2; have r3' : (w4.alloc (.cells #[.int .i64 0, .string ⟨#[]⟩, .slice none 0 0, .slice none 0 0] 47)).cell? ⟨w3.heap.size, 3, none⟩ = some (.slice A4 2 c4) := blk_cell kr4 3; have hcv := string_of_reads (P := Tryd.prog) (dst := 9) Tryd.underlying22 Tryd.underlying5 Tryd.underlying9 (c := c4) ((hr3.out.below (below_alloc (Below.refl _ _) (.cells #[.int .i64 n3, .string r3, .slice A3 k3 c3, .slice A4 2 c4] 47))).below (below_alloc hb4 (.cells #[.int .i64 0, .string ⟨#[]⟩, .slice none 0 0, .slice none 0 0] 47))); rw [evstr] at hcv; have HB4 := Aside0.mk (below_alloc (bt' HB3.out hb4) (.cells #[.int .i64 0, .string ⟨#[]⟩, .slice none 0 0, .slice none 0 0] 47)); clear kq4 kr4 hb4))
    | (go_at_call 31; ((with_reducible refine (bodiless_C 204 _ _ true rfl).mono ?_); rintro e w5 ⟨rfl, hb5⟩; replace hb5 := Aside0.mk hb5)))
  go_ret
  exact ⟨rfl, bt' HB4.out hb5.out⟩
end Go.Proofs.YtibgcbngnfaaiaaDoor.H

namespace Go.Proofs.YtibgcbngnfaaiaaDoor.H
set_option linter.unusedVariables false
set_option linter.unusedSimpArgs false

/-- Lines, CR LF between them. -/
def joinC : List (List UInt8) → List UInt8
  | [] => []
  | [x] => x
  | x :: y :: r => x ++ 13 :: 10 :: joinC (y :: r)
theorem noCR_cons {c : UInt8} {r : List UInt8} (h : noCR (c :: r) = true) : c ≠ 13 ∧ c ≠ 10 ∧ noCR r = true := by
  unfold noCR at h ⊢
  rw [List.all_cons, Bool.and_eq_true, Bool.and_eq_true] at h
  obtain ⟨⟨h1, h2⟩, h3⟩ := h
  refine ⟨fun e => ?_, fun e => ?_, h3⟩
  · rw [e] at h1; exact absurd h1 (by decide)
  · rw [e] at h2; exact absurd h2 (by decide)
theorem endAt_on {c : UInt8} {r : List UInt8} (h : ¬ ([13, 10, 13, 10] : List UInt8).isPrefixOf (c :: r) = true) : endAt (c :: r) = (endAt r).map (· + 1) := by rw [endAt, if_neg h]
theorem pre_ne {c : UInt8} {r : List UInt8} (h : c ≠ 13) : ¬ ([13, 10, 13, 10] : List UInt8).isPrefixOf (c :: r) = true := by
  intro e
  simp only [List.isPrefixOf, Bool.and_eq_true, beq_iff_eq] at e
  exact h e.1.symm
theorem endAt_line : ∀ (x y : List UInt8), noCR x = true → endAt (x ++ y) = (endAt y).map (· + x.length)
  | [], y, _ => by cases h : endAt y <;> simp [h]
  | c :: r, y, h => by
    obtain ⟨h1, h2, h3⟩ := noCR_cons h
    rw [List.cons_append, endAt_on (pre_ne h1), endAt_line r y h3]
    cases endAt y <;> simp; omega
theorem endAt_crlf (y : List UInt8) (h : ∀ c r, y = c :: r → c ≠ 13) : endAt (13 :: 10 :: y) = (endAt y).map (· + 2) := by
  have h1 : ¬ ([13, 10, 13, 10] : List UInt8).isPrefixOf (13 :: 10 :: y) = true := by
    intro e
    cases y with
    | nil => simp [List.isPrefixOf] at e
    | cons c r =>
      simp only [List.isPrefixOf, Bool.and_eq_true, beq_iff_eq] at e
      exact h c r rfl e.2.2.1.symm
  rw [endAt_on h1, endAt_on (pre_ne (by decide))]
  cases endAt y <;> simp
theorem joinC_head {y : List UInt8} {r : List (List UInt8)} (hy : noCR y = true) (h0 : y ≠ []) (t : List UInt8) : ∀ c s, joinC (y :: r) ++ t = c :: s → c ≠ 13 := by
  intro c s e
  cases y with
  | nil => exact (h0 rfl).elim
  | cons d y =>
    have h1 := (noCR_cons hy).1
    cases r with
    | nil => rw [joinC] at e; injection e with e1 _; rw [← e1]; exact h1
    | cons z r => rw [joinC] at e; injection e with e1 _; rw [← e1]; exact h1
theorem endAt_join (b : List UInt8) : ∀ (x : List UInt8) (L : List (List UInt8)), (∀ y ∈ x :: L, noCR y = true) → (∀ y ∈ L, y ≠ []) → endAt (joinC (x :: L) ++ 13 :: 10 :: 13 :: 10 :: b) = some (joinC (x :: L)).length
  | x, [], h, _ => by
    rw [joinC, endAt_line x _ (h x (by simp)), endAt, if_pos (by simp [List.isPrefixOf])]
    simp
  | x, y :: r, h, h0 => by
    have ih := endAt_join b y r (fun z hz => h z (List.mem_cons_of_mem _ hz)) (fun z hz => h0 z (List.mem_cons_of_mem _ hz))
    rw [joinC, List.append_assoc, endAt_line x _ (h x (by simp)), List.cons_append, List.cons_append, endAt_crlf _ (joinC_head (h y (by simp)) (h0 y (by simp)) _), ih]
    simp; omega
theorem splitCR_line : ∀ (cur x : List UInt8), noCR x = true → splitCR cur x = [cur ++ x]
  | cur, [], _ => by simp [splitCR]
  | cur, c :: r, h => by
    obtain ⟨h1, h2, h3⟩ := noCR_cons h
    rw [splitCR_on _ _ _ (fun e => h1 (UInt8.toNat_inj.1 e.1)), splitCR_line _ r h3]
    simp
theorem splitCR_step : ∀ (cur x y : List UInt8), noCR x = true → splitCR cur (x ++ 13 :: 10 :: y) = (cur ++ x) :: splitCR [] y
  | cur, [], y, _ => by rw [List.nil_append, splitCR_hit _ _ _ _ ⟨rfl, rfl⟩, List.append_nil]
  | cur, c :: r, y, h => by
    obtain ⟨h1, h2, h3⟩ := noCR_cons h
    rw [List.cons_append, splitCR_on _ _ _ (fun e => h1 (UInt8.toNat_inj.1 e.1)), splitCR_step _ r y h3]
    simp
theorem splitCR_join : ∀ (x : List UInt8) (L : List (List UInt8)), (∀ y ∈ x :: L, noCR y = true) → splitCR [] (joinC (x :: L)) = x :: L
  | x, [], h => by rw [joinC, splitCR_line _ _ (h x (by simp))]; simp
  | x, y :: r, h => by
    rw [joinC, splitCR_step _ _ _ (h x (by simp)), splitCR_join y r (fun z hz => h z (List.mem_cons_of_mem _ hz))]
    simp
theorem endAt_take : ∀ (l : List UInt8) (i k : Nat), endAt l = some i → i + 4 ≤ k → endAt (l.take k) = some i
  | [], i, k, h, _ => by cases h
  | c :: r, i, k, h, hk => by
    rw [endAt] at h
    obtain ⟨k', rfl⟩ : ∃ k', k = k' + 1 := ⟨k - 1, by omega⟩
    rw [List.take_succ_cons, endAt]
    by_cases hp : ([13, 10, 13, 10] : List UInt8).isPrefixOf (c :: r) = true
    · rw [if_pos hp] at h
      cases h
      rw [if_pos]
      rw [List.isPrefixOf_iff_prefix] at hp ⊢
      rw [← List.take_succ_cons]
      exact List.prefix_take_iff.2 ⟨hp, by simp; omega⟩
    · rw [if_neg hp] at h
      have hp2 : ¬ ([13, 10, 13, 10] : List UInt8).isPrefixOf (c :: r.take k') = true := by
        intro e
        apply hp
        rw [List.isPrefixOf_iff_prefix] at e ⊢
        rw [← List.take_succ_cons] at e
        exact e.trans (List.take_prefix _ _)
      rw [if_neg hp2]
      cases hr : endAt r with
      | none => rw [hr] at h; cases h
      | some j =>
        rw [hr, Option.map_some] at h
        obtain rfl := Option.some.inj h
        rw [endAt_take r j k' hr (by omega)]
        rfl
theorem headS_join (x : List UInt8) (L : List (List UInt8)) (b : List UInt8) (h : ∀ y ∈ x :: L, noCR y = true) (h0 : ∀ y ∈ L, y ≠ []) (hl : (joinC (x :: L)).length + 4 ≤ 8192) :
    headS (joinC (x :: L) ++ 13 :: 10 :: 13 :: 10 :: b) = .ok (x :: L, (joinC (x :: L)).length + 4) := by
  unfold headS
  rw [endAt_take _ _ _ (endAt_join b x L h h0) hl]
  simp only []
  rw [List.take_left, splitCR_join x L h, if_pos]
  rw [List.all_eq_true]
  exact h
theorem drop_join (a b : List UInt8) : (a ++ 13 :: 10 :: 13 :: 10 :: b).drop (a.length + 4) = b := by
  rw [show a ++ 13 :: 10 :: 13 :: 10 :: b = (a ++ [13, 10, 13, 10]) ++ b by simp, List.drop_left' (by simp)]
end Go.Proofs.YtibgcbngnfaaiaaDoor.H

namespace Go.Proofs.YtibgcbngnfaaiaaDoor.H
open Go.RowKit Go.Proofs.YtibgcbngnfaaiaaDoorW.PrintWords Go.Proofs.YtibgcbngnfaaiaaDoorW.PrintLast Go.Proofs.YtibgcbngnfaaiaaDoorW.PrintMore Go.Proofs.YtibgcbngnfaaiaaDoor.PA
set_option linter.unusedVariables false
set_option linter.unusedSimpArgs false

def dig (k : Nat) : UInt8 := UInt8.ofNat (48 + k)
theorem dig_nat (k : Nat) (h : k < 10) : (dig k).toNat = 48 + k := by
  unfold dig
  rw [UInt8.toNat_ofNat']
  exact Nat.mod_eq_of_lt (by omega)
abbrev clLine : List UInt8 := [67, 111, 110, 116, 101, 110, 116, 45, 76, 101, 110, 103, 116, 104, 58, 32, 50]
abbrev getN : ByteArray := ⟨#[71, 69, 84]⟩
def statL (n : Nat) (r : List UInt8) : List UInt8 := verL ++ ([dig (n / 100), dig (n / 10 % 10), dig (n % 10)] ++ 32 :: r)
theorem numL_dig (n : Nat) (h : n < 1000) : numL [dig (n / 100), dig (n / 10 % 10), dig (n % 10)] 0 = .ok (n : Int) := by
  have h1 := dig_nat (n / 100) (by omega)
  have h2 := dig_nat (n / 10 % 10) (by omega)
  have h3 := dig_nat (n % 10) (by omega)
  rw [numL, if_pos (by omega), numL, if_pos (by omega), numL, if_pos (by omega), numL, h1, h2, h3]
  congr 1
  omega
theorem statusS_statL (n : Nat) (r : List UInt8) (h : n < 1000) (hr : r.all textB = true) : statusS (statL n r) = if 200 ≤ n ∧ n ≤ 599 then .ok ((n : Int), r) else .error 95 := by
  unfold statusS statL
  have h1 : (verL.isPrefixOf (verL ++ ([dig (n / 100), dig (n / 10 % 10), dig (n % 10)] ++ 32 :: r)) && decide (12 ≤ (verL ++ ([dig (n / 100), dig (n / 10 % 10), dig (n % 10)] ++ 32 :: r)).length)) = true := by
    rw [Bool.and_eq_true]
    refine ⟨List.isPrefixOf_iff_prefix.2 (List.prefix_append _ _), decide_eq_true ?_⟩
    simp [verL]
  rw [if_pos h1, List.drop_left' (by simp [verL])]
  rw [show ([dig (n / 100), dig (n / 10 % 10), dig (n % 10)] ++ 32 :: r).take 3 = [dig (n / 100), dig (n / 10 % 10), dig (n % 10)] from rfl, numL_dig n h]
  simp only []
  have h2 : (verL ++ ([dig (n / 100), dig (n / 10 % 10), dig (n % 10)] ++ 32 :: r)).drop 12 = 32 :: r := rfl
  rw [h2]
  have h3 : tailS (n : Int) (32 :: r) = .ok ((n : Int), r) := by
    exact if_pos (by rw [hr]; rfl)
  rw [h3]
  by_cases hc : 200 ≤ n ∧ n ≤ 599
  · rw [if_pos hc, if_pos (by omega)]
  · rw [if_neg hc, if_neg (by omega)]
def evst : Bool := match parseS [ofL clLine] with
  | (fs, x) => decide (x = 0) && (match framedS fs [104, 105] with | .ok (b, n, told) => decide (b = [104, 105]) && told | .error _ => false)
theorem evst_true : evst = true := by decide +kernel
theorem evst_ex : ∃ fs n, parseS [ofL clLine] = (fs, 0) ∧ framedS fs [104, 105] = .ok ([104, 105], n, true) := by
  have h := evst_true
  unfold evst at h
  split at h
  rename_i fs x h1
  rw [Bool.and_eq_true] at h
  obtain rfl := of_decide_eq_true h.1
  have h2 := h.2
  split at h2
  · rename_i b n told h3
    rw [Bool.and_eq_true] at h2
    obtain rfl := of_decide_eq_true h2.1
    exact ⟨fs, n, h1, by rw [h3, h2.2]⟩
  · cases h2
theorem noCR_text {r : List UInt8} (h : r.all textB = true) : noCR r = true := by
  unfold noCR
  rw [List.all_eq_true] at h ⊢
  intro c hc
  have h1 := h c hc
  unfold textB at h1
  simp only [Bool.not_eq_true', Bool.or_eq_false_iff, Bool.and_eq_false_imp, decide_eq_true_eq, beq_eq_false_iff_ne, bne_eq_false_iff_eq] at h1
  simp only [Bool.and_eq_true, bne_iff_ne, ne_eq]
  constructor <;> (intro e; have := h1.1 (by omega); omega)
theorem noCR_append (a b : List UInt8) : noCR (a ++ b) = (noCR a && noCR b) := by unfold noCR; exact List.all_append ..
theorem noCR_dig (k : Nat) (h : k < 10) : (dig k).toNat ≠ 13 ∧ (dig k).toNat ≠ 10 := by rw [dig_nat k h]; omega
theorem noCR_statL (n : Nat) (r : List UInt8) (h : n < 1000) (hr : r.all textB = true) : noCR (statL n r) = true := by
  unfold statL
  rw [noCR_append, noCR_append, Bool.and_eq_true, Bool.and_eq_true]
  refine ⟨by decide, ?_, ?_⟩
  · unfold noCR
    have h1 := noCR_dig (n / 100) (by omega)
    have h2 := noCR_dig (n / 10 % 10) (by omega)
    have h3 := noCR_dig (n % 10) (by omega)
    simp [h1, h2, h3]
  · have := noCR_text hr
    unfold noCR at this ⊢
    rw [List.all_cons, this]
    rfl
def lStat (n : Nat) (r : List UInt8) : List UInt8 := statL n r ++ [13, 10, 67, 111, 110, 116, 101, 110, 116, 45, 76, 101, 110, 103, 116, 104, 58, 32, 50, 13, 10, 13, 10, 104, 105]
theorem lStat_join (n : Nat) (r : List UInt8) : lStat n r = joinC [statL n r, clLine] ++ 13 :: 10 :: 13 :: 10 :: [104, 105] := by
  unfold lStat
  rw [joinC, joinC, List.append_assoc]
  rfl
theorem status_no (n : Nat) (r : List UInt8) (h : n < 1000) (hr : r.all textB = true) (hl : r.length ≤ 50) (hn : ¬ (200 ≤ n ∧ n ≤ 599)) : respS (lStat n r) getN = .error 95 := by
  have hh : headS (lStat n r) = .ok ([statL n r, clLine], (joinC [statL n r, clLine]).length + 4) := by
    rw [lStat_join]
    refine headS_join _ _ _ (fun y hy => ?_) (fun y hy => ?_) ?_
    · simp only [List.mem_cons, List.not_mem_nil, or_false] at hy
      rcases hy with rfl | rfl
      · exact noCR_statL n r h hr
      · decide
    · simp only [List.mem_cons, List.not_mem_nil, or_false] at hy
      rw [hy]; decide
    · simp [joinC, statL, verL]; omega
  unfold respS
  rw [hh]
  simp only [List.headD_cons]
  rw [statusS_statL n r h hr, if_neg hn]
  rfl
theorem status_yes (n : Nat) (r : List UInt8) (h : n < 1000) (hr : r.all textB = true) (hl : r.length ≤ 50) (hn : 200 ≤ n ∧ n ≤ 599) :
    ∃ fs b, respS (lStat n r) getN = .ok ((n : Int), r, fs, b) ∧ b.length = (if n = 204 ∨ n = 304 then 0 else 2) := by
  have hh : headS (lStat n r) = .ok ([statL n r, clLine], (joinC [statL n r, clLine]).length + 4) := by
    rw [lStat_join]
    refine headS_join _ _ _ (fun y hy => ?_) (fun y hy => ?_) ?_
    · simp only [List.mem_cons, List.not_mem_nil, or_false] at hy
      rcases hy with rfl | rfl
      · exact noCR_statL n r h hr
      · decide
    · simp only [List.mem_cons, List.not_mem_nil, or_false] at hy
      rw [hy]; decide
    · simp [joinC, statL, verL]; omega
  obtain ⟨fs, m, h1, h2⟩ := evst_ex
  have hb : bodilessB (n : Int) getN = decide (n = 204 ∨ n = 304) := by
    unfold bodilessB
    by_cases ha : n = 204
    · subst ha; decide
    · by_cases hb : n = 304
      · subst hb; decide
      · rw [decide_eq_false (by omega : ¬ (n = 204 ∨ n = 304))]
        simp only [Bool.or_eq_false_iff, beq_eq_false_iff_ne, decide_eq_false_iff_not]
        refine ⟨⟨⟨by decide, by omega⟩, by omega⟩, by omega⟩
  have hd : (lStat n r).drop ((joinC [statL n r, clLine]).length + 4) = [104, 105] := by rw [lStat_join]; exact drop_join _ _
  refine ⟨fs, if n = 204 ∨ n = 304 then [] else [104, 105], ?_, by split <;> rfl⟩
  unfold respS
  rw [hh]
  simp only [List.headD_cons, List.tail_cons]
  rw [hd, statusS_statL n r h hr, if_pos hn]
  unfold withStatus behindR
  simp only [List.map_cons, List.map_nil]
  rw [h1]
  simp only [if_true]
  unfold bodyS
  rw [hb, h2]
  by_cases hc : n = 204 ∨ n = 304
  · rw [if_pos (decide_eq_true hc), if_pos hc]; rfl
  · rw [if_neg (by rw [decide_eq_false hc]; decide), if_neg hc]; rfl
theorem str_reads (B : ByteArray) (l : List UInt8) (hl : toL B = l) (hB : l.length ≤ 1000000000) (W : World) : ReadsInt (Lib.bytesWorld W 5 B) .u8 (some ⟨W.heap.size, 0, none⟩) l.length (iL l) := by
  subst hl
  rw [← bytesOf_iL]
  rw [toL_length] at hB ⊢
  exact bytes_reads W _ B (by omega)
theorem resp_strok (B : ByteArray) (l : List UInt8) (hl : toL B = l) (hB : l.length ≤ 1000000000) (me : ByteArray) (n : Int) (r : List UInt8) (fs : List S103) (b : List Int) (h : respS l me = .ok (n, r, fs, b)) (rs : ByteArray) (hrs : ofL r = rs) (W : World) (hM : Mz W) :
    Calls Tryd.prog 26 #[.slice (some ⟨W.heap.size, 0, none⟩) B.size (grownCap W B.size 0 5), .string me] (Lib.bytesWorld W 5 B) fun e w' => ∃ A1 c1 A2 c2, e = .returned (.tuple #[.agg #[.int .i64 n, .string rs, .slice A1 fs.length c1, .slice A2 b.length c2], .int .i64 0]) ∧ OwnF w' W.heap.size A1 c1 fs ∧ OwnB w' W.heap.size A2 c2 b ∧ Below W.heap.size W w' := by
  have hb := bytes_below (Below.refl W.heap.size W) (Nat.le_refl _) 5 B
  have hsz : B.size = l.length := by rw [← hl, toL_length]
  have hr := str_reads B l hl hB W
  have h0 := response_calls (some ⟨W.heap.size, 0, none⟩) (grownCap W B.size 0 5) l me _ hr (by rw [← hsz]; exact grownCap_ge _ _ _ _) hB (mz_below hM hb)
  rw [hsz] at h0 ⊢
  refine h0.mono fun e w' hq => ?_
  unfold ResponsePost at hq
  rw [h] at hq
  obtain ⟨A1, c1, A2, c2, rfl, h1, h2, h3⟩ := hq
  subst hrs
  exact ⟨A1, c1, A2, c2, rfl, OwnF.lower h1 hb.size, OwnB.lower h2 hb.size, bt' hb h3⟩
theorem resp_strno (B : ByteArray) (l : List UInt8) (hl : toL B = l) (hB : l.length ≤ 1000000000) (me : ByteArray) (x : Int) (h : respS l me = .error x) (W : World) (hM : Mz W) :
    Calls Tryd.prog 26 #[.slice (some ⟨W.heap.size, 0, none⟩) B.size (grownCap W B.size 0 5), .string me] (Lib.bytesWorld W 5 B) fun e w' => e = .returned (.tuple #[.agg #[.int .i64 0, .string ⟨#[]⟩, .slice none 0 0, .slice none 0 0], .int .i64 x]) ∧ Below W.heap.size W w' := by
  have hb := bytes_below (Below.refl W.heap.size W) (Nat.le_refl _) 5 B
  have hsz : B.size = l.length := by rw [← hl, toL_length]
  have hr := str_reads B l hl hB W
  have h0 := response_calls (some ⟨W.heap.size, 0, none⟩) (grownCap W B.size 0 5) l me _ hr (by rw [← hsz]; exact grownCap_ge _ _ _ _) hB (mz_below hM hb)
  rw [hsz] at h0 ⊢
  refine h0.mono fun e w' hq => ?_
  unfold ResponsePost at hq
  rw [h] at hq
  exact ⟨hq.1, bt' hb hq.2⟩
theorem ofL_append (a b : List UInt8) : ofL a ++ ofL b = ofL (a ++ b) := by
  apply ByteArray.ext
  simp [ofL]
theorem dig_ext (k : Nat) (h : k < 10) : (⟨#[48, 49, 50, 51, 52, 53, 54, 55, 56, 57]⟩ : ByteArray).extract k (k + 1) = ofL [dig k] := by
  have : ∀ k : Fin 10, (⟨#[48, 49, 50, 51, 52, 53, 54, 55, 56, 57]⟩ : ByteArray).extract k.1 (k.1 + 1) = ofL [dig k.1] := by decide +kernel
  exact this ⟨k, h⟩
theorem stat_str (n : Nat) (h : n < 1000) (s : ByteArray) :
    (⟨#[72, 84, 84, 80, 47, 49, 46, 49, 32]⟩ : ByteArray) ++ (⟨#[48, 49, 50, 51, 52, 53, 54, 55, 56, 57]⟩ : ByteArray).extract (n / 100) (n / 100 + 1) ++ (⟨#[48, 49, 50, 51, 52, 53, 54, 55, 56, 57]⟩ : ByteArray).extract (n / 10 % 10) (n / 10 % 10 + 1) ++ (⟨#[48, 49, 50, 51, 52, 53, 54, 55, 56, 57]⟩ : ByteArray).extract (n % 10) (n % 10 + 1) ++ (⟨#[32]⟩ : ByteArray) ++ s = ofL (statL n (toL s)) := by
  rw [dig_ext _ (by omega), dig_ext _ (by omega), dig_ext _ (by omega)]
  conv => lhs; rw [← ofL_toL s]
  rw [show (⟨#[72, 84, 84, 80, 47, 49, 46, 49, 32]⟩ : ByteArray) = ofL verL from rfl, show (⟨#[32]⟩ : ByteArray) = ofL [32] from rfl]
  simp only [ofL_append]
  unfold statL
  simp
theorem stat_str2 (n : Nat) (r : List UInt8) : ofL (statL n r) ++ (⟨#[13, 10, 67, 111, 110, 116, 101, 110, 116, 45, 76, 101, 110, 103, 116, 104, 58, 32, 50, 13, 10, 13, 10, 104, 105]⟩ : ByteArray) = ofL (lStat n r) := by
  rw [show (⟨#[13, 10, 67, 111, 110, 116, 101, 110, 116, 45, 76, 101, 110, 103, 116, 104, 58, 32, 50, 13, 10, 13, 10, 104, 105]⟩ : ByteArray) = ofL [13, 10, 67, 111, 110, 116, 101, 110, 116, 45, 76, 101, 110, 103, 116, 104, 58, 32, 50, 13, 10, 13, 10, 104, 105] from rfl, ofL_append]
  rfl
/-- A number from 0 to m - 1. -/
theorem place_calls (k m : Int) (hm : 1 ≤ m ∧ m ≤ 1000000000) : ∃ n : Nat, (n : Int) < m ∧ ∀ w, Calls Tryd.prog 21 #[.int .i64 k, .int .i64 m] w fun e w' => e = .returned (.int .i64 n) ∧ Drawn0 w w' := by
  have h0 := Int.tmod_lt_of_pos k (show 0 < m by omega)
  have h1 := Int.lt_tmod_of_pos k (show 0 < m by omega)
  by_cases hn : Int.tmod k m < 0
  · refine ⟨(Int.tmod k m + m).toNat, by omega, fun w => ambryhelp_Place.calls k m _ w ?_⟩
    unfold ambryhelp_Place.f
    rw [if_neg (by omega), if_pos hn, IntWalk.wrap64_in _ (by omega)]
    congr 1; omega
  · refine ⟨(Int.tmod k m).toNat, by omega, fun w => ambryhelp_Place.calls k m _ w ?_⟩
    unfold ambryhelp_Place.f
    rw [if_neg (by omega), if_neg hn]
    congr 1; omega
theorem text_calls (s : ByteArray) (hs : s.size ≤ 1000000000) (b : Bool) (h : (toL s).all textB = b) (w : World) : Calls Tryd.prog 18 #[.string s] w fun e w' => e = .returned (.bool b) ∧ Drawn0 w w' := by
  subst h
  obtain ⟨K, hK⟩ := rtext_f (toL s) (by rw [toL_length]; omega)
  rw [ofL_toL] at hK
  exact ambryref10_Text.calls K s _ w (hK K (Nat.le_refl _))
set_option maxHeartbeats 8000000 in
set_option maxRecDepth 100000 in
theorem httpStatus_calls (k : Int) (s : ByteArray) (w : World) (hM : Mz w) : Calls Tryd.prog 11 #[.int .i64 k, .string s] w fun e w' => e = .returned (.bool true) ∧ Below w.heap.size w w' := by
  have HM := Aside0.mk hM
  clear hM
  obtain ⟨n, hn, hpl⟩ := place_calls k 1000 (by omega)
  have HPL := Aside0.mk hpl
  clear hpl
  by_cases hlen : s.size ≤ 50
  · have hlen' : decide (50 < (s.size : Int)) = false := decide_eq_false (by omega)
    cases htx : (toL s).all textB with
    | false =>
      have HTX := Aside0.mk htx
      clear htx
      go_enter Tryd.func11, Tryd.ntmps11
      go_wp2_with (first
        | (go_at_call 23; ((with_reducible refine (known12_calls _ HM.out).mono ?_); rintro e w1 ⟨rfl, hb1⟩; replace hb1 := Aside0.mk hb1))
        | (go_at_call 21; ((with_reducible refine (HPL.out _).mono ?_); rintro e w2 ⟨rfl, hd2⟩; have hb2 := Aside0.mk (bt' hb1.out hd2.below); clear hd2))
        | (go_at_call 18; ((with_reducible refine (text_calls s (by omega) _ HTX.out _).mono ?_); rintro e w3 ⟨rfl, hd3⟩; have hb3 := Aside0.mk (bt' hb2.out hd3.below); clear hd3)))
      go_ret
      exact ⟨rfl, hb3.out⟩
    | true =>
      have HTX := Aside0.mk htx
      clear htx
      go_enter Tryd.func11, Tryd.ntmps11
      go_wp2_with (first
        | (go_at_call 23; ((with_reducible refine (known12_calls _ HM.out).mono ?_); rintro e w1 ⟨rfl, hb1⟩; replace hb1 := Aside0.mk hb1))
        | (go_at_call 21; ((with_reducible refine (HPL.out _).mono ?_); rintro e w2 ⟨rfl, hd2⟩; have hb2 := Aside0.mk (bt' hb1.out hd2.below); clear hd2))
        | (go_at_call 18; ((with_reducible refine (text_calls s (by omega) _ HTX.out _).mono ?_); rintro e w3 ⟨rfl, hd3⟩; have hb3 := Aside0.mk (bt' hb2.out hd3.below); clear hd3)))
      go_quiet (fail)
      rw [stat_str n (by omega) s]
      obtain ⟨S1, hS1⟩ : ∃ S1, ofL (statL n (toL s)) = S1 := ⟨_, rfl⟩
      obtain ⟨B, hB⟩ : ∃ B, ofL (lStat n (toL s)) = B := ⟨_, rfl⟩
      have hadd : S1 ++ (⟨#[13, 10, 67, 111, 110, 116, 101, 110, 116, 45, 76, 101, 110, 103, 116, 104, 58, 32, 50, 13, 10, 13, 10, 104, 105]⟩ : ByteArray) = B := by rw [← hS1, ← hB]; exact stat_str2 _ _
      have HB : Aside0 (toL B = lStat n (toL s) ∧ (lStat n (toL s)).length ≤ 1000000000) := ⟨by rw [← hB, toL_ofL], by simp [lStat, statL, verL]; rw [toL_length]; omega⟩
      have HLS : Aside0 ((toL s).length ≤ 50) := ⟨by rw [toL_length]; exact hlen⟩
      have hb4 : Aside0 (Below w.heap.size w (w3.drewN nq)) := ⟨below_of_drawn hb3.out nq⟩
      have kb := fun W => print_bytes (P := Tryd.prog) 9 22 5 Tryd.underlying9 Tryd.underlying22 Tryd.underlying5 B W
      have hS1z : ¬ 9223372036854775807 < S1.size + 25 := by
        rw [← hS1, ofL_size]
        have := HLS.out
        simp [statL, verL]; omega
      rw [hS1]
      clear hS1 hB
      generalize hW4 : w3.drewN nq = w4 at hb4 ⊢
      clear hW4
      by_cases hin : 200 ≤ n ∧ n ≤ 599
      · have g1 : decide ((n : Int) < 200) = false := decide_eq_false (by omega)
        have g2 : decide ((599 : Int) < (n : Int)) = false := decide_eq_false (by omega)
        by_cases h204 : n = 204
        · subst h204
          obtain ⟨fs, b, hrs, hbl⟩ := status_yes 204 (toL s) (by omega) HTX.out HLS.out (by omega)
          have HRS := Aside0.mk hrs
          have HRE : Aside0 (ofL (toL s) = s) := ⟨ofL_toL s⟩
          have HG : Aside0 (bodilessB (204) getN = true) := ⟨by decide⟩
          have HH : Aside0 (bodilessB (204) ⟨#[72, 69, 65, 68]⟩ = true) := ⟨by decide⟩
          rw [if_pos (by omega)] at hbl
          clear hrs
          go_wp2_with (first
            | (go_at_call 26; ((with_reducible refine (resp_strok B _ HB.out.1 HB.out.2 getN _ _ _ _ HRS.out s HRE.out _ (mz_below HM.out hb4.out)).mono ?_); rintro e w5 ⟨A1, c1, A2, c2, rfl, h51, h52, hb5⟩; have hb6 := Aside0.mk (bt' hb4.out hb5); clear h51 h52 hb5))
            | (go_at_call 31; ((with_reducible refine (bodiless_C _ getN _ true HG.out).mono ?_); rintro e wG ⟨rfl, hbG⟩; replace hbG := Aside0.mk hbG))
            | (go_at_call 31; ((with_reducible refine (bodiless_C _ ⟨#[72, 69, 65, 68]⟩ _ true HH.out).mono ?_); rintro e wH ⟨rfl, hbH⟩; replace hbH := Aside0.mk hbH)))
          go_ret
          exact ⟨rfl, bt' (bt' (below_alloc hb6.out _) hbG.out) hbH.out⟩
        · by_cases h304 : n = 304
          · subst h304
            obtain ⟨fs, b, hrs, hbl⟩ := status_yes 304 (toL s) (by omega) HTX.out HLS.out (by omega)
            have HRS := Aside0.mk hrs
            have HRE : Aside0 (ofL (toL s) = s) := ⟨ofL_toL s⟩
            have HG : Aside0 (bodilessB (304) getN = true) := ⟨by decide⟩
            have HH : Aside0 (bodilessB (304) ⟨#[72, 69, 65, 68]⟩ = true) := ⟨by decide⟩
            rw [if_pos (by omega)] at hbl
            clear hrs
            go_wp2_with (first
              | (go_at_call 26; ((with_reducible refine (resp_strok B _ HB.out.1 HB.out.2 getN _ _ _ _ HRS.out s HRE.out _ (mz_below HM.out hb4.out)).mono ?_); rintro e w5 ⟨A1, c1, A2, c2, rfl, h51, h52, hb5⟩; have hb6 := Aside0.mk (bt' hb4.out hb5); clear h51 h52 hb5))
              | (go_at_call 31; ((with_reducible refine (bodiless_C _ getN _ true HG.out).mono ?_); rintro e wG ⟨rfl, hbG⟩; replace hbG := Aside0.mk hbG))
              | (go_at_call 31; ((with_reducible refine (bodiless_C _ ⟨#[72, 69, 65, 68]⟩ _ true HH.out).mono ?_); rintro e wH ⟨rfl, hbH⟩; replace hbH := Aside0.mk hbH)))
            go_ret
            exact ⟨rfl, bt' (bt' (below_alloc hb6.out _) hbG.out) hbH.out⟩
          · have g3 : ((n : Int) == 204) = false := beq_eq_false_iff_ne.2 (by omega)
            have g4 : ((n : Int) == 304) = false := beq_eq_false_iff_ne.2 (by omega)
            obtain ⟨fs, b, hrs, hbl⟩ := status_yes n (toL s) (by omega) HTX.out HLS.out (by omega)
            have HRS := Aside0.mk hrs
            have HRE : Aside0 (ofL (toL s) = s) := ⟨ofL_toL s⟩
            have HG : Aside0 (bodilessB ((n : Nat) : Int) getN = false) := ⟨by unfold bodilessB; simp only [Bool.or_eq_false_iff, beq_eq_false_iff_ne, decide_eq_false_iff_not]; exact ⟨⟨⟨by decide, by omega⟩, by omega⟩, by omega⟩⟩
            have HH : Aside0 (bodilessB ((n : Nat) : Int) ⟨#[72, 69, 65, 68]⟩ = true) := ⟨rfl⟩
            rw [if_neg (by omega)] at hbl
            clear hrs
            go_wp2_with (first
              | (go_at_call 26; ((with_reducible refine (resp_strok B _ HB.out.1 HB.out.2 getN _ _ _ _ HRS.out s HRE.out _ (mz_below HM.out hb4.out)).mono ?_); rintro e w5 ⟨A1, c1, A2, c2, rfl, h51, h52, hb5⟩; have hb6 := Aside0.mk (bt' hb4.out hb5); clear h51 h52 hb5))
              | (go_at_call 31; ((with_reducible refine (bodiless_C _ getN _ false HG.out).mono ?_); rintro e wG ⟨rfl, hbG⟩; replace hbG := Aside0.mk hbG))
              | (go_at_call 31; ((with_reducible refine (bodiless_C _ ⟨#[72, 69, 65, 68]⟩ _ true HH.out).mono ?_); rintro e wH ⟨rfl, hbH⟩; replace hbH := Aside0.mk hbH)))
            go_ret
            exact ⟨rfl, bt' (bt' (below_alloc hb6.out _) hbG.out) hbH.out⟩
      · have HRS := Aside0.mk (status_no n (toL s) (by omega) HTX.out HLS.out hin)
        by_cases hlo : n < 200
        · have g1 : decide ((n : Int) < 200) = true := decide_eq_true (by omega)
          go_wp2_with (first
            | (go_at_call 26; ((with_reducible refine (resp_strno B _ HB.out.1 HB.out.2 getN _ HRS.out _ (mz_below HM.out hb4.out)).mono ?_); rintro e w5 ⟨rfl, hb5⟩; have hb6 := Aside0.mk (bt' hb4.out hb5); clear hb5)))
          go_ret
          exact ⟨rfl, below_alloc hb6.out _⟩
        · have g1 : decide ((n : Int) < 200) = false := decide_eq_false (by omega)
          have g2 : decide ((599 : Int) < (n : Int)) = true := decide_eq_true (by omega)
          go_wp2_with (first
            | (go_at_call 26; ((with_reducible refine (resp_strno B _ HB.out.1 HB.out.2 getN _ HRS.out _ (mz_below HM.out hb4.out)).mono ?_); rintro e w5 ⟨rfl, hb5⟩; have hb6 := Aside0.mk (bt' hb4.out hb5); clear hb5)))
          go_ret
          exact ⟨rfl, below_alloc hb6.out _⟩
  · have hlen' : decide (50 < (s.size : Int)) = true := decide_eq_true (by omega)
    go_enter Tryd.func11, Tryd.ntmps11
    go_wp2_with (first
      | (go_at_call 23; ((with_reducible refine (known12_calls _ HM.out).mono ?_); rintro e w1 ⟨rfl, hb1⟩; replace hb1 := Aside0.mk hb1))
      | (go_at_call 21; ((with_reducible refine (HPL.out _).mono ?_); rintro e w2 ⟨rfl, hd2⟩; have hb2 := Aside0.mk (bt' hb1.out hd2.below); clear hd2)))
    go_ret
    exact ⟨rfl, hb2.out⟩
end Go.Proofs.YtibgcbngnfaaiaaDoor.H
