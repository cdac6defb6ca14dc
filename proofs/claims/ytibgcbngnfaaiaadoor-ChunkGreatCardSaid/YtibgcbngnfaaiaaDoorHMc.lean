/- The reference's Chunks tells what chunk.Open tells. · append onto a row that []byte(..) of a string has laid: its mark stands behind its last cell. · ambrylaw11.known walked. · ambrylaw11.ChunkLines is true, whatever it is given. -/
import Derived.Test.YtibgcbngnfaaiaaDoorHMa
import Derived.Test.YtibgcbngnfaaiaaDoorHopen
import Derived.Test.YtibgcbngnfaaiaaDoorPAx10
import Derived.Test.YtibgcbngnfaaiaaDoorHMb
import Derived.Lib.FrozenHead2
import Derived.Outline
import Derived.Lib.SlBytesConst
import Derived.Test.YtibgcbngnfaaiaaDoorPAx5
namespace Go.Proofs.YtibgcbngnfaaiaaDoor.H
open Go.RowKit Go.Proofs.YtibgcbngnfaaiaaDoorW.PrintWords Go.Proofs.YtibgcbngnfaaiaaDoorW.PrintLast Go.Proofs.YtibgcbngnfaaiaaDoorW.PrintMore Go.Proofs.YtibgcbngnfaaiaaDoor.PA
set_option linter.unusedVariables false
set_option linter.unusedSimpArgs false

theorem toList_data (s : ByteArray) : s.toList = toL s := by
  have h := ofL_toList (toL s)
  rwa [ofL_toL] at h
theorem lenR_ok (n : Int) : lenR (.ok n) = (n, true) := rfl
theorem lenR_err (n : Int) : lenR (.error n) = (0, false) := rfl
theorem line_ne (c : Nat) (l : List Int) (x : Int) (h : lineL c l = .error x) : ¬ x = 0 := by
  induction l generalizing c x with
  | nil => rw [line_nil] at h; cases h; decide
  | cons y l ih =>
    by_cases hy : y = 13
    · subst hy
      match l, h with
      | [], h => rw [line_cr] at h; cases h; decide
      | z :: l', h =>
        by_cases hz : z = 10
        · subst hz; rw [line_crlf] at h; cases h
        · rw [line_crx _ _ _ hz] at h; cases h; decide
    · by_cases hb : y = 10 ∨ 1024 ≤ c
      · rw [line_bad _ _ _ hy hb] at h; cases h; decide
      · rw [line_on _ _ _ hy hb] at h
        cases e : lineL (c + 1) l with
        | error v => rw [e] at h; cases h; exact ih _ _ e
        | ok p => rw [e] at h; cases h
theorem len_range {ok : ByteArray → Bool} {s : ByteArray} : ∀ (d i : Nat) (m n : Int), lenAt ok s d i m = .ok n → 0 ≤ m → m < (16 : Int) ^ i → i ≤ 8 → 0 ≤ n ∧ n < 4294967297
  | 0, i, m, n, h, h0, h1, h8 => by
    have := pow16 i h8
    unfold lenAt at h
    split at h
    · cases h; exact ⟨h0, by omega⟩
    · cases h
  | d + 1, i, m, n, h, h0, h1, h8 => by
    have := pow16 i h8
    unfold lenAt at h
    split at h
    · split at h
      · cases h; exact ⟨h0, by omega⟩
      · cases h
    · split at h
      · cases h
      · rename_i hx h9
        have hr := hexv_range (bt s i)
        exact len_range d (i + 1) _ n h (by omega) (by rw [Int.pow_succ]; omega) (by omega)

/-- A result as the reference tells it. -/
def resE (e : Except Int (List Int × Nat)) : List Int × Int × Int := match e with | .ok (o, q) => (o, (q : Int), 0) | .error x => ([], 0, x)
theorem open_resE (l : List Int) : openF okbS okfS l = resE (bodyF okbS okfS l (l.length + 1) 0 []) := by
  unfold openF resE
  cases bodyF okbS okfS l (l.length + 1) 0 [] with
  | ok p => rfl
  | error x => rfl
theorem rline_some (l : List Int) (p : Nat) (hp : p ≤ l.length) (hl : l.length ≤ 4611686018427387904) : ambryref10_line.f l (p : Int) = some (rlineF l p) := by
  unfold ambryref10_line.f
  rw [if_pos ⟨by omega, by omega, hl⟩, Int.toNat_natCast]

theorem rtrail (l body : List Int) (hl : l.length ≤ 1073741824) : ∀ (d n p : Nat) (L : List ByteArray), L.length = n → n ≤ 100 → L.all okfS = true → (∀ s ∈ L, s.size ≤ 4611686018427387904) → p ≤ l.length → l.length - p < d →
    Evl (fun k => ambryref10_Chunks.l2 k l body (p : Int) L) (resE (match trailF okfS l d n p with | .error x => .error x | .ok q => .ok (body, q))) := by
  intro d
  induction d with
  | zero => intro n p L _ _ _ _ _ h; omega
  | succ d ih =>
    intro n p L hLn hn hall hsz hp hd
    refine Evl.step (fun k => by rw [ambryref10_Chunks.l2]) ?_
    simp only [rline_some l p hp (by omega), Option.bind_some]
    cases e : lineL 0 (l.drop p) with
    | error x =>
      rw [trail_err e]
      simp only [rline_err e, if_neg (line_ne _ _ _ e)]
      exact Evl.some _
    | ok sr =>
      obtain ⟨s, r⟩ := sr
      have hlen := line_len _ _ _ _ e
      rw [List.length_drop] at hlen
      have hshort := line_short _ _ _ _ e
      rw [trail_ok e]
      simp only [rline_ok e, if_true]
      by_cases h0 : s = []
      · subst h0
        have hnil : (strOfNums []).toList = ([] : List UInt8) := by rw [toList_data]; rfl
        simp only [hnil, if_true]
        exact Evl.some _
      · have hnn : ¬ (strOfNums s).toList = ([] : List UInt8) := by
          intro h
          apply h0
          have h2 : (strOfNums s).data.toList = [] := by rw [toList_data] at h; exact h
          rw [strOfNums_data] at h2
          simpa using h2
        have hL2 : L.length < 8796093022208 := by omega
        rw [if_neg h0]
        simp only [if_neg hnn, if_pos hL2, Option.bind_some]
        have hszS : ∀ t ∈ L ++ [strOfNums s], t.size ≤ 4611686018427387904 := by
          intro t ht
          rcases List.mem_append.1 ht with h | h
          · exact hsz t h
          · rw [List.mem_singleton] at h; subst h; rw [strOfNums_size]; omega
        obtain ⟨v, hv, hiff⟩ := rparse_f (L ++ [strOfNums s]) hszS
        refine Evl.bind hv ?_
        by_cases hok : okfS (strOfNums s) = true ∧ n < 100
        · rw [if_pos hok]
          have hallS : (L ++ [strOfNums s]).all okfS = true := by rw [List.all_append, hall]; simp [hok.1]
          have hlenS : (L ++ [strOfNums s]).length = n + 1 := by simp [hLn]
          have hv0 : v.2 = 0 := hiff.2 ⟨by omega, hallS⟩
          simp only [if_pos hv0]
          exact ih (n + 1) (l.length - r.length) _ hlenS (by omega) hallS hszS (by omega) (by omega)
        · rw [if_neg hok]
          have hv0 : ¬ v.2 = 0 := by
            intro h
            have h2 := hiff.1 h
            rw [List.all_append, Bool.and_eq_true] at h2
            simp only [List.length_append, List.length_cons, List.length_nil] at h2
            exact hok ⟨by simpa using h2.2.2, by omega⟩
          simp only [if_neg hv0]
          exact Evl.some _

theorem rend (l body : List Int) (hl : l.length ≤ 1073741824) (p : Nat) (v : List Int × Int × Int) (hp : p ≤ l.length)
    (hv : match endF l 2 p with | .error x => v = ([], 0, x) | .ok q => Evl (fun k => ambryref10_Chunks.l0 k l body (q : Int)) v) : Evl (fun k => ambryref10_Chunks.l1 k l body (p : Int) 0) v := by
  have b0 : bt (⟨#[13, 10]⟩ : ByteArray) 0 = 13 := rfl
  have b1 : bt (⟨#[13, 10]⟩ : ByteArray) 1 = 10 := rfl
  have hw0 : wrap64 ((0 : Int) + 1) = 1 := IntWalk.wrap64_in 1 (by omega)
  have hw1 : wrap64 ((1 : Int) + 1) = 2 := IntWalk.wrap64_in 2 (by omega)
  refine Evl.step (fun k => by rw [ambryref10_Chunks.l1]) ?_
  unfold endF at hv
  by_cases h1 : p < l.length
  · have c1 : ¬ (p : Int) ≥ (l.length : Int) := by omega
    have c2 : (0 : Int) ≤ (p : Int) := by omega
    have c3 : (p : Int) < (l.length : Int) := by omega
    have hw : wrap64 ((p : Int) + 1) = ((p + 1 : Nat) : Int) := by rw [IntWalk.wrap64_in _ (by omega)]; omega
    rw [if_pos h1] at hv
    simp only [show ((0 : Int) < 2) from by decide, if_true, if_neg c1, if_pos c2, if_pos c3, show ((0 : Int) ≤ 0) from by decide, b0, hw, hw0]
    by_cases h13 : rd l (p : Int) = 13
    · rw [if_pos (by simpa using h13)] at hv
      simp only [if_pos h13]
      refine Evl.step (fun k => by rw [ambryref10_Chunks.l1]) ?_
      unfold endF at hv
      by_cases h2 : p + 1 < l.length
      · have c1 : ¬ ((p + 1 : Nat) : Int) ≥ (l.length : Int) := by omega
        have c2 : (0 : Int) ≤ ((p + 1 : Nat) : Int) := by omega
        have c3 : ((p + 1 : Nat) : Int) < (l.length : Int) := by omega
        have hw : wrap64 (((p + 1 : Nat) : Int) + 1) = ((p + 1 + 1 : Nat) : Int) := by rw [IntWalk.wrap64_in _ (by omega)]; omega
        rw [if_pos h2] at hv
        simp only [show ((1 : Int) < 2) from by decide, if_true, if_neg c1, if_pos c2, if_pos c3, show ((0 : Int) ≤ 1) from by decide, b1, hw, hw1]
        by_cases h10 : rd l ((p + 1 : Nat) : Int) = 10
        · rw [if_pos (by simpa using h10)] at hv
          simp only [if_pos h10]
          refine Evl.step (fun k => by rw [ambryref10_Chunks.l1]) ?_
          simp only [show ¬ ((2 : Int) < 2) from by decide, if_false]
          exact hv
        · rw [if_neg (by simpa using h10)] at hv
          simp only [if_neg h10]
          simp only [] at hv
          subst hv
          exact Evl.some _
      · have c1 : ((p + 1 : Nat) : Int) ≥ (l.length : Int) := by omega
        rw [if_neg h2] at hv
        simp only [show ((1 : Int) < 2) from by decide, if_true, if_pos c1]
        simp only [] at hv
        subst hv
        exact Evl.some _
    · rw [if_neg (by simpa using h13)] at hv
      simp only [if_neg h13]
      simp only [] at hv
      subst hv
      exact Evl.some _
  · have c1 : (p : Int) ≥ (l.length : Int) := by omega
    rw [if_neg h1] at hv
    simp only [show ((0 : Int) < 2) from by decide, if_true, if_pos c1]
    simp only [] at hv
    subst hv
    exact Evl.some _

set_option maxHeartbeats 1000000 in
theorem rbody (l : List Int) (hl : l.length ≤ 1073741824) : ∀ (d p : Nat) (out : List Int), out.length ≤ 65536 → p ≤ l.length → l.length - p < d →
    Evl (fun k => ambryref10_Chunks.l0 k l out (p : Int)) (resE (bodyF okbS okfS l d p out)) := by
  intro d
  induction d with
  | zero => intro p out _ _ h; omega
  | succ d ih =>
    intro p out ho hp hd
    refine Evl.step (fun k => by rw [ambryref10_Chunks.l0]) ?_
    simp only [rline_some l p hp (by omega), Option.bind_some]
    cases e : lineL 0 (l.drop p) with
    | error x =>
      have hb : bodyF okbS okfS l (d + 1) p out = .error x := by rw [bodyF, e]
      rw [hb]
      simp only [rline_err e, if_neg (line_ne _ _ _ e)]
      exact Evl.some _
    | ok sr =>
      obtain ⟨s, r⟩ := sr
      have hlen := line_len _ _ _ _ e
      rw [List.length_drop] at hlen
      have hshort := line_short _ _ _ _ e
      simp only [rline_ok e, if_true]
      have hrl := rlength_f (toL (strOfNums s)) (by rw [toL_length, strOfNums_size]; omega)
      rw [ofL_toL] at hrl
      cases e2 : lenAt okbS (strOfNums s) (strOfNums s).size 0 0 with
      | error x =>
        have hx := len_err _ _ _ _ e2
        subst hx
        have hb : bodyF okbS okfS l (d + 1) p out = .error 94 := by rw [bodyF, e]; simp only [e2]
        rw [hb]
        rw [e2, lenR_err] at hrl
        refine Evl.bind hrl ?_
        simp only [Bool.false_eq_true, if_false]
        exact Evl.some _
      | ok n =>
        obtain ⟨m, rfl, hm⟩ : ∃ m : Nat, n = (m : Int) ∧ m < 4294967297 := by
          have hrange := len_range _ _ _ _ e2 (by omega) (by decide) (by omega)
          exact ⟨n.toNat, by omega, by omega⟩
        rw [e2, lenR_ok] at hrl
        refine Evl.bind hrl ?_
        simp only [if_true]
        have hp' : l.length - r.length ≤ l.length := Nat.sub_le _ _
        by_cases hn0 : (m : Int) = 0
        · have hb : bodyF okbS okfS l (d + 1) p out = (match trailF okfS l (l.length + 1) 0 (l.length - r.length) with | .error x => .error x | .ok q => .ok (out, q)) := by rw [bodyF, e]; simp only [e2, if_pos hn0]; try rfl
          rw [hb]
          simp only [if_pos hn0]
          exact rtrail l out hl (l.length + 1) 0 (l.length - r.length) [] rfl (by omega) rfl (fun s h => by cases h) hp' (by omega)
        · simp only [if_neg hn0]
          have hw1 : wrap64 (65536 - (out.length : Int)) = 65536 - (out.length : Int) := IntWalk.wrap64_in _ (by omega)
          have hw2 : wrap64 ((l.length : Int) - ((l.length - r.length : Nat) : Int)) = (l.length : Int) - ((l.length - r.length : Nat) : Int) := IntWalk.wrap64_in _ (by omega)
          have hw3 : wrap64 (((l.length - r.length : Nat) : Int) + (m : Int)) = ((l.length - r.length + m : Nat) : Int) := by rw [IntWalk.wrap64_in _ (by omega)]; omega
          simp only [hw1, hw2, hw3]
          clear hw1 hw2 hw3
          by_cases h93 : (m : Int) ≤ 65536 - (out.length : Int)
          · have c93 : ¬ (m : Int) > 65536 - (out.length : Int) := Int.not_lt.mpr h93
            simp only [if_neg c93]
            by_cases h92 : (m : Int) ≤ (l.length : Int) - ((l.length - r.length : Nat) : Int)
            · have c92 : ¬ (l.length : Int) - ((l.length - r.length : Nat) : Int) < (m : Int) := Int.not_lt.mpr h92
              have c1 : (0 : Int) ≤ ((l.length - r.length : Nat) : Int) := by omega
              have c2 : ((l.length - r.length : Nat) : Int) ≤ ((l.length - r.length + m : Nat) : Int) := by omega
              have c3 : ((l.length - r.length + m : Nat) : Int) ≤ (l.length : Int) := by omega
              have hmid : ((l.take (l.length - r.length + m)).drop (l.length - r.length)).length = m := by rw [List.length_drop, List.length_take]; omega
              have c4 : out.length + ((l.take ((l.length - r.length + m : Nat) : Int).toNat).drop ((l.length - r.length : Nat) : Int).toNat).length < 140737488355328 := by
                rw [Int.toNat_natCast, Int.toNat_natCast, hmid]; omega
              simp only [if_neg c92, if_pos c1, if_pos c2, if_pos c3, if_pos c4]
              simp only [Int.toNat_natCast]
              have hb : bodyF okbS okfS l (d + 1) p out = (match endF l 2 (l.length - r.length + m) with
                  | .error x => .error x
                  | .ok q => bodyF okbS okfS l d q (out ++ (l.take (l.length - r.length + m)).drop (l.length - r.length))) := by
                rw [bodyF, e]; simp only [e2, if_neg hn0, Decidable.not_not, h93, h92, if_false, not_true, Int.toNat_natCast]; try rfl
              rw [hb]
              refine rend l _ hl _ _ (by omega) ?_
              cases e3 : endF l 2 (l.length - r.length + m) with
              | error x => rfl
              | ok q =>
                have hq := end_le e3
                exact ih q _ (by rw [List.length_append, hmid]; omega) (by omega) (by omega)
            · have c92 : (l.length : Int) - ((l.length - r.length : Nat) : Int) < (m : Int) := Int.not_le.mp h92
              have hb : bodyF okbS okfS l (d + 1) p out = .error 92 := by rw [bodyF, e]; simp only [e2, if_neg hn0, Decidable.not_not, h93, h92, if_false, not_true, if_true, not_false_eq_true]
              rw [hb]
              simp only [if_pos c92]
              exact Evl.some _
          · have c93 : (m : Int) > 65536 - (out.length : Int) := Int.not_le.mp h93
            have hb : bodyF okbS okfS l (d + 1) p out = .error 93 := by rw [bodyF, e]; simp only [e2, if_neg hn0, h93, if_true, not_false_eq_true]
            rw [hb]
            simp only [if_pos c93]
            exact Evl.some _
/-- The reference's Chunks, as chunk.Open. -/
theorem rchunks_calls (A : Option Addr) (c : Nat) (l : List Int) (w : World) (hr : ReadsInt w .u8 A l.length l) (hc : l.length ≤ c) (hl : l.length ≤ 1073741824) :
    Calls Tryd.prog 22 #[.slice A l.length c] w fun e w' => ∃ v, e = .returned (.tuple #[v, .int .i64 (openF okbS okfS l).2.1, .int .i64 (openF okbS okfS l).2.2]) ∧
      w'.ownsRow w.heap.size 5 1 v (openF okbS okfS l).1.length (nums .u8 (openF okbS okfS l).1) ∧ Below w.heap.size w w' := by
  obtain ⟨K, hK⟩ := rbody l hl (l.length + 1) 0 [] (by simp) (Nat.zero_le _) (by omega)
  rw [← open_resE] at hK
  obtain ⟨⟨r1, r2, r3⟩, hr3⟩ : ∃ r, openF okbS okfS l = r := ⟨_, rfl⟩
  rw [hr3] at hK ⊢
  have h := ambryref10_Chunks.calls K A c l r1 r2 r3 w (Kd.C_of_reads (h1 := fun _ => rfl) hr) hc (hK K (Nat.le_refl _))
  refine h.mono ?_
  rintro e w' ⟨v, rfl, hR, hb⟩
  exact ⟨v, rfl, Kd.own_of_R hR, hb⟩
theorem open_calls (A : Option Addr) (c : Nat) (l : List Int) (w : World) (hr : ReadsInt w .u8 A l.length l) (hc : l.length ≤ c) :
    Calls Tryd.prog 15 #[.slice A l.length c] w fun e w' => ∃ v, e = .returned (.tuple #[v, .int .i64 (openF okbS okfS l).2.1, .int .i64 (openF okbS okfS l).2.2]) ∧
      w'.ownsRow w.heap.size 5 1 v (openF okbS okfS l).1.length (nums .u8 (openF okbS okfS l).1) ∧ Below w.heap.size w w' := openF_calls okbS okfS bytesOk_okb fieldOk_okf A c l w hr hc
end Go.Proofs.YtibgcbngnfaaiaaDoor.H

namespace Go.Proofs.YtibgcbngnfaaiaaDoor.H
open Go.RowKit Go.Proofs.YtibgcbngnfaaiaaDoorW.PrintWords Go.Proofs.YtibgcbngnfaaiaaDoorW.PrintLast Go.Proofs.YtibgcbngnfaaiaaDoorW.PrintMore
set_option linter.unusedVariables false
set_option linter.unusedSimpArgs false

/-- A row of bytes of one's own, its mark behind all its cells (or none). -/
def MRow (w : World) (base : Nat) (e : TypeId) (v : Value) (xs : List Int) : Prop :=
  ∃ (g cap : Nat) (cur : Array Value) (fz : Nat × Nat), v = .slice (some ⟨g, 0, none⟩) xs.length cap ∧ base ≤ g ∧ w.heap[g]? = some (.cells cur e fz) ∧ (cap ≤ fz.1 ∨ fz = (0, 0)) ∧ xs.length ≤ cap ∧ cap ≤ maxLen ∧ cur.size = cap ∧ cur.toList.take xs.length = nums .u8 xs

theorem store_free (P : Program) (g o : Nat) (t : TypeId) (fz : Nat × Nat) : ∀ (vs : List Value) (i : Nat) (cur : Array Value) (w : World), w.heap[g]? = some (.cells cur t fz) → (cur.size ≤ fz.1 ∨ fz = (0, 0)) → o + i + vs.length ≤ cur.size → (∀ v ∈ vs, v.oneCell' = true) →
    (storeCells ⟨g, o, none⟩ vs i).run P w = .ok () (w.setRow g (cur.toList.take (o + i) ++ vs ++ cur.toList.drop (o + i + vs.length)).toArray)
  | [], i, cur, w, hg, _, _, _ => by
    simp only [storeCells, List.append_nil, List.length_nil, Nat.add_zero, List.take_append_drop, Array.toArray_toList]
    rw [setRow_self w g cur t fz hg]
    rfl
  | v :: rest, i, cur, w, hg, hfz, hl, h1 => by
    have hi : o + i < cur.size := by simp at hl; omega
    have hadd : (⟨g, o, none⟩ : Addr).add i = ⟨g, o + i, none⟩ := by unfold Addr.add; split <;> simp_all
    have hcell : w.cell? ⟨g, o + i, none⟩ = some cur[o + i] := by simp [World.cell?, hg, hi]
    have hfro : w.frozen? ⟨g, o + i, none⟩ = false := by
      obtain ⟨lo, hi'⟩ := fz
      simp only [World.frozen?, hg, Bool.and_eq_false_iff, decide_eq_false_iff_not]
      rcases hfz with h | h
      · left; simp only at h; omega
      · right; cases h; omega
    have hst : (store ((⟨g, o, none⟩ : Addr).add i) v).run P w = .ok () (w.setRow g (cur.setIfInBounds (o + i) v)) := by
      rw [hadd, run_store P w _ v _ (h1 v (by simp)), hcell]
      simp [hfro, setCell_eq_setRow w g (o + i) cur t fz v hg]
    have ih := store_free P g o t fz rest (i + 1) (cur.setIfInBounds (o + i) v) (w.setRow g (cur.setIfInBounds (o + i) v)) (setRow_heap w g cur _ t _ hg) (by simpa using hfz) (by simp at hl ⊢; omega) (fun x hx => h1 x (by simp [hx]))
    simp only [storeCells, Sem.run_bind, hst, Result.andThen_ok, ih, setRow_setRow]
    congr 3
    have e := list_seg_step cur.toList (o + i) v rest (by simp at hl ⊢; omega)
    simpa [Array.toList_setIfInBounds, Nat.add_assoc] using e

theorem mrow_cells {w : World} {base : Nat} {e : TypeId} {xs : List Int} {g cap : Nat} {cur : Array Value} {fz : Nat × Nat} (hg : w.heap[g]? = some (.cells cur e fz)) (ht : cur.toList.take xs.length = nums .u8 xs) :
    ∀ j u, (nums .u8 xs)[j]? = some u → w.cell? ((⟨g, 0, none⟩ : Addr).add j) = some u := by
  intro j u hu
  have hadd : (⟨g, 0, none⟩ : Addr).add j = ⟨g, j, none⟩ := by unfold Addr.add; split <;> simp_all
  rw [hadd, cell_of_row w g j cur e fz hg]
  rw [← ht, List.getElem?_take] at hu
  split at hu
  · simpa using hu
  · cases hu
theorem MRow.reads {w : World} {base : Nat} {e : TypeId} {v : Value} {xs : List Int} (h : MRow w base e v xs) : ∃ A c, v = .slice A xs.length c ∧ xs.length ≤ c ∧ ReadsInt w .u8 A xs.length xs := by
  obtain ⟨g, cap, cur, fz, rfl, hb, hg, _, hn, hm, _, ht⟩ := h
  refine ⟨_, _, rfl, hn, rfl, by simp only [maxLen] at hm; omega, fun _ => ⟨_, rfl, fun j hj => ?_⟩⟩
  refine mrow_cells (base := base) (cap := cap) hg ht j _ ?_
  simp [nums, List.getD_eq_getElem?_getD, List.getElem?_eq_getElem hj]
theorem mrow_bytes (W : World) (e : TypeId) (s : ByteArray) (hs : s.size ≤ maxLen) : MRow (Lib.bytesWorld W e s) W.heap.size e (.slice (some ⟨W.heap.size, 0, none⟩) s.size (grownCap W s.size 0 e)) (bytesOf s) := by
  have hge := grownCap_ge W s.size 0 e
  have hcm := grownCap_le_maxLen W s.size 0 e hs
  have hsz : (Lib.bytesCells W e s).size = grownCap W s.size 0 e := by
    simp [Lib.bytesCells]
    omega
  refine ⟨W.heap.size, _, _, _, by rw [bytesOf_length], Nat.le_refl _, Lib.bytesWorld_at_new W e s, .inl (by rw [hsz]; exact Nat.le_refl _), by rw [bytesOf_length]; exact hge, hcm, hsz, ?_⟩
  rw [bytesOf_length]
  simp [Lib.bytesCells, nums, bytesOf]

/-- A string behind it. -/
theorem run_append_mstr {P : Program} (w : World) (base : Nat) (t u ty e : TypeId) (ht : P.underlying t = some (.slice e)) (hu : P.underlying u = some .string) (hinfo : (P.info? e).map (fun i => (i.zero, i.size, i.bytes)) = some (some (.int .u8 0), 1, 1))
    (v : Value) (xs ys : List Int) (s : ByteArray) (hy : bytesOf s = ys) (h : MRow w base e v xs) (hbytes : xs.length + s.size ≤ 140737488355328) (hbase : base ≤ w.heap.size) :
    ∃ v' w', (Builtin.append_ #[t, u] ty #[v, .string s]).run P w = .ok v' w' ∧ MRow w' base e v' (xs ++ ys) ∧ Below base w w' := by
  subst hy
  obtain ⟨i, hi, hzz⟩ := Option.map_eq_some_iff.1 hinfo
  simp only [Prod.mk.injEq] at hzz
  obtain ⟨hz, hsize, hby⟩ := hzz
  obtain ⟨g, cap, cur, fz, rfl, hbg, hg, hfz, hnc, hcm, hcs, htake⟩ := h
  have hxl : (nums .u8 xs).length = xs.length := nums_length _ _
  have hsc : Lib.strCells s = nums .u8 (bytesOf s) := by simp [nums, bytesOf, Lib.strCells]
  have hlen2 : (xs ++ bytesOf s).length = xs.length + s.size := by rw [List.length_append, bytesOf_length]
  have hlen : (nums .u8 xs ++ Lib.strCells s).length = xs.length + s.size := by rw [List.length_append, hxl, Lib.strCells_length]
  have hnum : nums .u8 (xs ++ bytesOf s) = nums .u8 xs ++ Lib.strCells s := by rw [nums_append, hsc]
  by_cases hroom : xs.length + s.size ≤ cap
  · have hf := Lib.run_firstCells_string (P := P) w 1 s
    have hst := store_free P g xs.length e fz (Lib.strCells s) 0 cur w hg (by rw [hcs]; exact hfz) (by rw [Lib.strCells_length]; omega) (Lib.strCells_oneCell s)
    simp only [Nat.add_zero, Lib.strCells_length] at hst
    have hr : (Builtin.append_ #[t, u] ty #[.slice (some ⟨g, 0, none⟩) xs.length cap, .string s]).run P w = .ok (.slice (some ⟨g, 0, none⟩) (xs.length + s.size) cap) (w.setRow g (cur.toList.take xs.length ++ Lib.strCells s ++ cur.toList.drop (xs.length + s.size)).toArray) := by
      simp [Builtin.append_, run_underlying ht, run_underlying hu, sizeOf, typeInfo, hi, hsize, Builtin.lenOf, hroom, hf, Addr.add_lit, hst]
    refine ⟨_, _, hr, ⟨g, cap, _, fz, by rw [hlen2], hbg, setRow_heap w g cur _ e _ hg, hfz, by rw [hlen2]; exact hroom, hcm, ?_, ?_⟩, ⟨rfl, rfl, rfl, by simp, fun k hk => setRow_other w g k _ (by omega)⟩⟩
    · simp only [List.size_toArray, List.length_append, List.length_take, List.length_drop, Array.length_toList, Lib.strCells_length]
      omega
    · rw [htake, hlen2, hnum, ← hlen]
      exact List.take_left
  · have holds := mrow_cells (base := base) (cap := cap) hg htake
    have hr := Lib.run_append_grow_string (P := P) w t u ty e i (.int .u8 0) ht hu hi hz ⟨g, 0, none⟩ xs.length cap (nums .u8 xs) (by rw [hsize]; omega) holds s (by omega) (by omega) (by rw [hby]; exact growslice_fits (by omega) (by omega))
    have h63 : xs.length + s.size ≤ maxLen := by simp only [maxLen]; omega
    have hge := grownCap_ge w (xs.length + s.size) cap e
    have hcm2 : grownCap w (xs.length + s.size) cap e ≤ maxLen := grownCap_le_maxLen w (xs.length + s.size) cap e h63
    refine ⟨_, _, hr, ⟨w.heap.size, _, _, (0, 0), by rw [hlen2], hbase, heap_alloc_new w.drew _, .inr rfl, by rw [hlen2]; exact hge, hcm2, ?_, ?_⟩, ⟨rfl, rfl, rfl, by simp, fun k hk => heap_alloc_old w.drew _ (show k < w.heap.size by omega)⟩⟩
    · have hz1 : (Value.int IntKind.u8 0).cells.size = 1 := rfl
      simp only [Array.size_append, List.size_toArray, size_zeroCells, hz1, hxl, Lib.strCells_length]
      omega
    · simp only [Array.toList_append, List.append_assoc]
      rw [← List.append_assoc, hlen2, hnum, ← hlen]
      exact List.take_left
/-- A row behind it. -/
theorem run_append_mrow {P : Program} (w : World) (base : Nat) (t ty e : TypeId) (ht : P.underlying t = some (.slice e)) (hinfo : (P.info? e).map (fun i => (i.zero, i.size, i.bytes)) = some (some (.int .u8 0), 1, 1))
    (v : Value) (xs ys : List Int) (A : Option Addr) (m c : Nat) (h : MRow w base e v xs) (hR : ReadsInt w .u8 A m ys) (hbytes : xs.length + m ≤ 140737488355328) (hbase : base ≤ w.heap.size) :
    ∃ v' w', (Builtin.append_ #[t, t] ty #[v, .slice A m c]).run P w = .ok v' w' ∧ MRow w' base e v' (xs ++ ys) ∧ Below base w w' := by
  obtain ⟨i, hi, hzz⟩ := Option.map_eq_some_iff.1 hinfo
  simp only [Prod.mk.injEq] at hzz
  obtain ⟨hz, hsize, hby⟩ := hzz
  have hym := hR.1
  have hxl : (nums .u8 xs).length = xs.length := nums_length _ _
  have hyl : (nums .u8 ys).length = m := by rw [nums_length, hym]
  have hlen2 : (xs ++ ys).length = xs.length + m := by rw [List.length_append, hym]
  have hlen : (nums .u8 xs ++ nums .u8 ys).length = xs.length + m := by rw [List.length_append, hxl, hyl]
  rcases A with _ | ad
  · have h0 : m = 0 := by
      rcases Nat.eq_zero_or_pos m with h0 | h0
      · exact h0
      · obtain ⟨ad, h, _⟩ := hR.2.2 h0
        cases h
    subst h0
    obtain rfl : ys = [] := List.eq_nil_of_length_eq_zero hym
    refine ⟨v, w, ?_, by simpa using h, Below.refl _ _⟩
    obtain ⟨g, cap, cur, fz, rfl, hbg, hg, hfz, hnc, hcm, hcs, htake⟩ := h
    simp [Builtin.append_, run_underlying ht, sizeOf, typeInfo, hi, Builtin.lenOf, Builtin.firstCells, hnc, storeCells]
  · obtain ⟨g, cap, cur, fz, rfl, hbg, hg, hfz, hnc, hcm, hcs, htake⟩ := h
    have hcells : ∀ j u, (nums .u8 ys)[j]? = some u → w.cell? (ad.add j) = some u := by
      intro j u hu
      have hj : j < ys.length := by
        rcases Nat.lt_or_ge j ys.length with h | h
        · exact h
        · simp [nums, List.getElem?_eq_none h] at hu
      obtain ⟨ad', h', hc⟩ := hR.2.2 (by omega)
      injection h' with h'
      subst h'
      have := hc j (by omega)
      simp [nums, List.getElem?_eq_getElem hj] at hu
      subst hu
      rw [this]
      simp [List.getD_eq_getElem?_getD, List.getElem?_eq_getElem hj]
    have hone : ∀ u ∈ nums .u8 ys, u.oneCell' = true := by
      intro u hu; simp only [nums, List.mem_map] at hu; obtain ⟨q, _, rfl⟩ := hu; rfl
    by_cases hroom : xs.length + m ≤ cap
    · have hf := run_firstCells_some (P := P) w i.size m ad m c (nums .u8 ys) (by rw [hsize]; omega) hcells
      have hst := store_free P g xs.length e fz (nums .u8 ys) 0 cur w hg (by rw [hcs]; exact hfz) (by rw [hyl]; omega) hone
      simp only [Nat.add_zero] at hst
      rw [hsize] at hf
      have hr : (Builtin.append_ #[t, t] ty #[.slice (some ⟨g, 0, none⟩) xs.length cap, .slice (some ad) m c]).run P w = .ok (.slice (some ⟨g, 0, none⟩) (xs.length + m) cap) (w.setRow g (cur.toList.take xs.length ++ nums .u8 ys ++ cur.toList.drop (xs.length + (nums .u8 ys).length)).toArray) := by
        simp [Builtin.append_, run_underlying ht, sizeOf, typeInfo, hi, hsize, Builtin.lenOf, hroom, hf, Addr.add_lit, hst]
      refine ⟨_, _, hr, ⟨g, cap, _, fz, by rw [hlen2], hbg, setRow_heap w g cur _ e _ hg, hfz, by rw [hlen2]; exact hroom, hcm, ?_, ?_⟩, ⟨rfl, rfl, rfl, by simp, fun k hk => setRow_other w g k _ (by omega)⟩⟩
      · simp only [List.size_toArray, List.length_append, List.length_take, List.length_drop, Array.length_toList, hyl]
        omega
      · rw [htake, hlen2, nums_append, ← hlen]
        exact List.take_left
    · have holds := mrow_cells (base := base) (cap := cap) hg htake
      have hr := run_append_grow (P := P) w t ty e i (.int .u8 0) ht hi hz ⟨g, 0, none⟩ xs.length cap (nums .u8 xs) (by rw [hsize]; omega) holds ad m c (nums .u8 ys) (by rw [hsize]; omega) hcells (by omega) (by omega) (by rw [hby]; exact growslice_fits (by omega) (by omega))
      have h63 : xs.length + m ≤ maxLen := by simp only [maxLen]; omega
      have hge := grownCap_ge w (xs.length + m) cap e
      have hcm2 : grownCap w (xs.length + m) cap e ≤ maxLen := grownCap_le_maxLen w (xs.length + m) cap e h63
      refine ⟨_, _, hr, ⟨w.heap.size, _, _, (0, 0), by rw [hlen2], hbase, heap_alloc_new w.drew _, .inr rfl, by rw [hlen2]; exact hge, hcm2, ?_, ?_⟩, ⟨rfl, rfl, rfl, by simp, fun k hk => heap_alloc_old w.drew _ (show k < w.heap.size by omega)⟩⟩
      · have hz1 : (Value.int IntKind.u8 0).cells.size = 1 := rfl
        simp only [Array.size_append, List.size_toArray, size_zeroCells, hz1, hxl, hyl]
        omega
      · simp only [Array.toList_append, List.append_assoc]
        rw [← List.append_assoc, hlen2, nums_append, ← hlen]
        exact List.take_left
section
variable {P : Program} {ops : Array Oper} {rest : List Oper} {o : Oper} {a : Act} {Q : Exit → Act → World → Prop}
theorem wp_append_mstr (w : World) (base : Nat) (hgd : o.guard = none) (s x : Operand) (t u e : TypeId) (ho : o.op = .call { callee := .builtin .append, args := #[s, x], argTypes := #[t, u] })
    (ht : P.underlying t = some (.slice e)) (hu : P.underlying u = some .string) (hinfo : (P.info? e).map (fun i => (i.zero, i.size, i.bytes)) = some (some (.int .u8 0), 1, 1))
    (v : Value) (xs ys : List Int) (y : ByteArray) (hy : bytesOf y = ys) (hs : a.eval s = v) (hx : a.eval x = .string y) (h0 : MRow w base e v xs) (hbytes : xs.length + y.size ≤ 140737488355328) (hbase : base ≤ w.heap.size)
    (h : ∀ v' w', MRow w' base e v' (xs ++ ys) → Below base w w' → wpList P ops Q rest (a.put o.dst v') w') : wpList P ops Q (o :: rest) a w := by
  obtain ⟨v', w', hr, h1, h2⟩ := run_append_mstr (P := P) w base t u o.type e ht hu hinfo v xs ys y hy h0 hbytes hbase
  refine wpList_plain hgd fun K hK => ?_
  unfold Oper.wp execOp
  simp only [ho, resolve, invoke, builtin, Sem.run_bind, Sem.run_pure, Result.andThen_ok, List.map_toArray, List.map_cons, List.map_nil, hs, hx, hr]
  exact hK _ _ (h v' w' h1 h2)
theorem wp_append_mrow (w : World) (base : Nat) (hgd : o.guard = none) (s x : Operand) (t e : TypeId) (ho : o.op = .call { callee := .builtin .append, args := #[s, x], argTypes := #[t, t] })
    (ht : P.underlying t = some (.slice e)) (hinfo : (P.info? e).map (fun i => (i.zero, i.size, i.bytes)) = some (some (.int .u8 0), 1, 1))
    (v : Value) (xs ys : List Int) (A : Option Addr) (m c : Nat) (hs : a.eval s = v) (hx : a.eval x = .slice A m c) (h0 : MRow w base e v xs) (hR : ReadsInt w .u8 A m ys) (hbytes : xs.length + m ≤ 140737488355328) (hbase : base ≤ w.heap.size)
    (h : ∀ v' w', MRow w' base e v' (xs ++ ys) → Below base w w' → wpList P ops Q rest (a.put o.dst v') w') : wpList P ops Q (o :: rest) a w := by
  obtain ⟨v', w', hr, h1, h2⟩ := run_append_mrow (P := P) w base t o.type e ht hinfo v xs ys A m c h0 hR hbytes hbase
  refine wpList_plain hgd fun K hK => ?_
  unfold Oper.wp execOp
  simp only [ho, resolve, invoke, builtin, Sem.run_bind, Sem.run_pure, Result.andThen_ok, List.map_toArray, List.map_cons, List.map_nil, hs, hx, hr]
  exact hK _ _ (h v' w' h1 h2)
end
end Go.Proofs.YtibgcbngnfaaiaaDoor.H

namespace Go.Proofs.YtibgcbngnfaaiaaDoor.H
open Go.RowKit Go.Proofs.YtibgcbngnfaaiaaDoorW.PrintWords Go.Proofs.YtibgcbngnfaaiaaDoorW.PrintLast Go.Proofs.YtibgcbngnfaaiaaDoorW.PrintMore
set_option linter.unusedVariables false
set_option linter.unusedSimpArgs false

theorem const_reads (w : World) (l : List Int) (e : TypeId) (fr : Nat × Nat) (hl : l.length ≤ 9223372036854775807) : ReadsInt (w.alloc (.cells (nums .u8 l).toArray e fr)) .u8 (some ⟨w.heap.size, 0, none⟩) l.length l := by
  refine ⟨rfl, hl, fun _ => ⟨_, rfl, fun j hj => ?_⟩⟩
  rw [add_plain, World.cell?_alloc_mark]
  simp [nums, List.getD_eq_getElem?_getD, List.getElem?_eq_getElem hj]
theorem known_open (l : List Int) (r : List Int × Int × Int) (h : openF okbS okfS l = r) (hl : l.length ≤ 1000) (w : World) (C : Array Value) (hC : (nums .u8 l).toArray = C) (n : Nat) (hn : l.length = n) (fr : Nat × Nat) :
    Calls Tryd.prog 15 #[.slice (some ⟨w.heap.size, 0, none⟩) n n] (w.alloc (.cells C 5 fr)) fun e w' => ∃ A c, e = .returned (.tuple #[.slice A r.1.length c, .int .i64 r.2.1, .int .i64 r.2.2]) ∧ ReadsInt w' .u8 A r.1.length r.1 ∧ Below w.heap.size w w' := by
  subst h; subst hC; subst hn
  refine (open_calls _ l.length l _ (const_reads w l 5 fr (by omega)) (Nat.le_refl _)).mono ?_
  rintro e w' ⟨v, rfl, ho, hb⟩
  obtain ⟨A, c, rfl, hr⟩ := own_reads ho
  exact ⟨A, c, rfl, hr, (below_alloc (Below.refl _ _) _).trans (hb.mono (by simp))⟩
theorem known_bytes (l : List Int) (size : Int) (r : List Int) (h : bytesF l size = r) (hl : l.length ≤ 1000) (hs : size ≤ 9223372036854775807) (w : World) (hT : Tz w) (C : Array Value) (hC : (nums .u8 l).toArray = C) (n : Nat) (hn : l.length = n) (fr : Nat × Nat) :
    Calls Tryd.prog 14 #[.slice (some ⟨w.heap.size, 0, none⟩) n n, .int .i64 size] (w.alloc (.cells C 5 fr)) fun e w' => ∃ A c, e = .returned (.slice A r.length c) ∧ ReadsInt w' .u8 A r.length r ∧ Below w.heap.size w w' := by
  subst h; subst hC; subst hn
  refine (bytes_calls _ l.length l size _ (const_reads w l 5 fr (by omega)) (by omega) (Nat.le_refl _) hs (tz_below hT (below_alloc (Below.refl _ _) _))).mono ?_
  rintro e w' ⟨v, rfl, ho, hb⟩
  obtain ⟨A, c, rfl, hr⟩ := own_reads ho
  exact ⟨A, c, rfl, hr, (below_alloc (Below.refl _ _) _).trans (hb.mono (by simp))⟩

theorem ev1 : openF okbS okfS [51, 13, 10, 97, 98, 99, 13, 10, 48, 13, 10, 13, 10] = ([97, 98, 99], 13, 0) := by decide +kernel
theorem ev2 : openF okbS okfS [122, 122, 13, 10] = ([], 0, 94) := by decide +kernel
theorem ev3 : openF okbS okfS [51, 13, 10, 97, 98] = ([], 0, 92) := by decide +kernel
theorem ev4 : bytesF [97, 98, 99] 2 = [50, 13, 10, 97, 98, 13, 10, 49, 13, 10, 99, 13, 10, 48, 13, 10, 13, 10] := by decide +kernel
theorem evs1 : strOfNums [97, 98, 99] = ⟨#[97, 98, 99]⟩ := by decide +kernel
theorem evs2 : strOfNums [50, 13, 10, 97, 98, 13, 10, 49, 13, 10, 99, 13, 10, 48, 13, 10, 13, 10] = ⟨#[50, 13, 10, 97, 98, 13, 10, 49, 13, 10, 99, 13, 10, 48, 13, 10, 13, 10]⟩ := by decide +kernel

theorem ko1 (w : World) : Calls Tryd.prog 15 #[.slice (some ⟨w.heap.size, 0, none⟩) 13 13] (w.alloc (.cells #[.int .u8 51, .int .u8 13, .int .u8 10, .int .u8 97, .int .u8 98, .int .u8 99, .int .u8 13, .int .u8 10, .int .u8 48, .int .u8 13, .int .u8 10, .int .u8 13, .int .u8 10] 5 (13, 14))) fun e w' => ∃ A c, e = .returned (.tuple #[.slice A 3 c, .int .i64 13, .int .i64 0]) ∧ ReadsInt w' .u8 A 3 [97, 98, 99] ∧ Below w.heap.size w w' :=
  known_open [51, 13, 10, 97, 98, 99, 13, 10, 48, 13, 10, 13, 10] _ ev1 (by decide) w _ rfl _ rfl _
theorem ko2 (w : World) : Calls Tryd.prog 15 #[.slice (some ⟨w.heap.size, 0, none⟩) 4 4] (w.alloc (.cells #[.int .u8 122, .int .u8 122, .int .u8 13, .int .u8 10] 5 (4, 5))) fun e w' => ∃ A c, e = .returned (.tuple #[.slice A 0 c, .int .i64 0, .int .i64 94]) ∧ ReadsInt w' .u8 A 0 [] ∧ Below w.heap.size w w' :=
  known_open [122, 122, 13, 10] _ ev2 (by decide) w _ rfl _ rfl _
theorem ko3 (w : World) : Calls Tryd.prog 15 #[.slice (some ⟨w.heap.size, 0, none⟩) 5 5] (w.alloc (.cells #[.int .u8 51, .int .u8 13, .int .u8 10, .int .u8 97, .int .u8 98] 5 (5, 6))) fun e w' => ∃ A c, e = .returned (.tuple #[.slice A 0 c, .int .i64 0, .int .i64 92]) ∧ ReadsInt w' .u8 A 0 [] ∧ Below w.heap.size w w' :=
  known_open [51, 13, 10, 97, 98] _ ev3 (by decide) w _ rfl _ rfl _
theorem ko4 (w : World) (hT : Tz w) : Calls Tryd.prog 14 #[.slice (some ⟨w.heap.size, 0, none⟩) 3 3, .int .i64 2] (w.alloc (.cells #[.int .u8 97, .int .u8 98, .int .u8 99] 5 (3, 4))) fun e w' => ∃ A c, e = .returned (.slice A 18 c) ∧ ReadsInt w' .u8 A 18 [50, 13, 10, 97, 98, 13, 10, 49, 13, 10, 99, 13, 10, 48, 13, 10, 13, 10] ∧ Below w.heap.size w w' :=
  known_bytes [97, 98, 99] 2 _ ev4 (by decide) (by decide) w hT _ rfl _ rfl _

set_option maxHeartbeats 4000000 in
set_option maxRecDepth 100000 in
theorem known11_calls (w : World) (hT : Tz w) : Calls Tryd.prog 13 #[] w fun e w' => e = .returned (.bool true) ∧ Below w.heap.size w w' := by
  have HT := Aside0.mk hT
  clear hT
  have kc := fun (w : World) (C : Array Value) (n c : Nat) => Lib.run_convert_bytes_const (P := Tryd.prog) w 22 5 C n c Tryd.underlying22 Tryd.underlying5
  go_enter Tryd.func13, Tryd.ntmps13
  go_wp2_with (first
    | (go_at_call 15; ((with_reducible refine (ko1 _).mono ?_); rintro e w1 ⟨A1, c1, rfl, hr1, hb1⟩; replace hr1 := Aside0.mk hr1; replace hb1 := Aside0.mk hb1))
    | (go_at_call 15; ((with_reducible refine (ko2 _).mono ?_); rintro e w2 ⟨A2, c2, rfl, hr2, hb2⟩; replace hr2 := Aside0.mk hr2; replace hb2 := Aside0.mk hb2))
    | (go_at_call 15; ((with_reducible refine (ko3 _).mono ?_); rintro e w3 ⟨A3, c3, rfl, hr3, hb3⟩; have HB := Aside0.mk ((hb1.out.trans (hb2.out.mono hb1.out.size)).trans (hb3.mono (hb1.out.trans (hb2.out.mono hb1.out.size)).size)); have hcv := string_of_reads (P := Tryd.prog) (dst := 9) Tryd.underlying22 Tryd.underlying5 Tryd.underlying9 (c := c1) ((hr1.out.below (hb2.out.mono (Nat.le_refl _))).below (hb3.mono (Nat.le_refl _))); rw [evs1] at hcv; replace hr3 := Aside0.mk hr3; replace hb3 := Aside0.mk hb3))
    | (go_at_call 14; ((with_reducible refine (ko4 _ (tz_below HT.out HB.out)).mono ?_); rintro e w4 ⟨A4, c4, rfl, hr4, hb4⟩; have hcv4 := string_of_reads (P := Tryd.prog) (dst := 9) Tryd.underlying22 Tryd.underlying5 Tryd.underlying9 (c := c4) hr4; rw [evs2] at hcv4; replace hr4 := Aside0.mk hr4; replace hb4 := Aside0.mk hb4)))

  go_ret
  exact ⟨rfl, HB.out.trans (hb4.out.mono HB.out.size)⟩
end Go.Proofs.YtibgcbngnfaaiaaDoor.H

namespace Go.Proofs.YtibgcbngnfaaiaaDoor.H
open Go.RowKit Go.Proofs.YtibgcbngnfaaiaaDoorW.PrintWords Go.Proofs.YtibgcbngnfaaiaaDoorW.PrintLast Go.Proofs.YtibgcbngnfaaiaaDoorW.PrintMore Go.Proofs.YtibgcbngnfaaiaaDoor.PA
set_option linter.unusedVariables false
set_option linter.unusedSimpArgs false

/-- ambryhelp.Bytes of a row and the same row. -/
theorem same_bytes (A B : Option Addr) (c d : Nat) (l : List Int) (w : World) (h1 : ReadsInt w .u8 A l.length l) (hc : l.length ≤ c) (h2 : ReadsInt w .u8 B l.length l) (hd : l.length ≤ d) :
    Calls Tryd.prog 16 #[.slice A l.length c, .slice B l.length d] w fun e w' => e = .returned (.bool true) ∧ Drawn0 w w' :=
  ambryhelp_Bytes.calls A c l B d l true w (Kd.C_of_reads (h1 := fun _ => rfl) h1) hc (Kd.C_of_reads (h1 := fun _ => rfl) h2) hd (by unfold ambryhelp_Bytes.f; simp)
theorem bytesOf_app (s t : ByteArray) : bytesOf (s ++ t) = bytesOf s ++ bytesOf t := by simp [bytesOf]
theorem open_calls' (A : Option Addr) (c : Nat) (l : List Int) (w : World) (hr : ReadsInt w .u8 A l.length l) (hc : l.length ≤ c) (r : List Int × Int × Int) (h : openF okbS okfS l = r) :
    Calls Tryd.prog 15 #[.slice A l.length c] w fun e w' => ∃ A1 c1, e = .returned (.tuple #[.slice A1 r.1.length c1, .int .i64 r.2.1, .int .i64 r.2.2]) ∧ r.1.length ≤ c1 ∧ ReadsInt w' .u8 A1 r.1.length r.1 ∧ Below w.heap.size w w' := by
  subst h
  refine (open_calls A c l w hr hc).mono ?_
  rintro e w' ⟨v, rfl, ho, hb⟩
  obtain ⟨A1, c1, rfl, h1, h2⟩ := Kd.R_reads (Kd.R_of_own (enc := Value.int .u8) (h1 := fun _ => rfl) (ok := fun _ => True) ho (fun _ _ => trivial))
  exact ⟨A1, c1, rfl, h1, Kd.reads_of_C h2, hb⟩
theorem rchunks_calls' (A : Option Addr) (c : Nat) (l : List Int) (w : World) (hr : ReadsInt w .u8 A l.length l) (hc : l.length ≤ c) (hl : l.length ≤ 1073741824) (r : List Int × Int × Int) (h : openF okbS okfS l = r) :
    Calls Tryd.prog 22 #[.slice A l.length c] w fun e w' => ∃ A1 c1, e = .returned (.tuple #[.slice A1 r.1.length c1, .int .i64 r.2.1, .int .i64 r.2.2]) ∧ r.1.length ≤ c1 ∧ ReadsInt w' .u8 A1 r.1.length r.1 ∧ Below w.heap.size w w' := by
  subst h
  refine (rchunks_calls A c l w hr hc hl).mono ?_
  rintro e w' ⟨v, rfl, ho, hb⟩
  obtain ⟨A1, c1, rfl, h1, h2⟩ := Kd.R_reads (Kd.R_of_own (enc := Value.int .u8) (h1 := fun _ => rfl) (ok := fun _ => True) ho (fun _ _ => trivial))
  exact ⟨A1, c1, rfl, h1, Kd.reads_of_C h2, hb⟩

set_option maxHeartbeats 4000000 in
set_option maxRecDepth 100000 in
theorem chunkLines_calls (s : ByteArray) (hs : s.size ≤ 9223372036854775807) (A : Option Addr) (c : Nat) (l : List Int) (w : World) (hr : ReadsInt w .u8 A l.length l) (hc : l.length ≤ c) (hT : Tz w) :
    Calls Tryd.prog 6 #[.string s, .slice A l.length c] w fun e w' => e = .returned (.bool true) ∧ Below w.heap.size w w' := by
  have HR := Aside0.mk hr
  have HC := Aside0.mk hc
  have HT := Aside0.mk hT
  clear hr hc hT
  by_cases h1 : 1100 < s.size
  · have h1' : decide ((1100 : Int) < (s.size : Int)) = true := by simp; omega
    go_enter Tryd.func6, Tryd.ntmps6
    go_wp2_with (go_at_call 13; ((with_reducible refine (known11_calls _ HT.out).mono ?_); rintro e w1 ⟨rfl, hb1⟩))
    go_ret
    exact ⟨rfl, hb1⟩
  · have h1' : decide ((1100 : Int) < (s.size : Int)) = false := by simp; omega
    by_cases h2 : 300 < l.length
    · have h2' : decide ((300 : Int) < (l.length : Int)) = true := by simp; omega
      go_enter Tryd.func6, Tryd.ntmps6
      go_wp2_with (go_at_call 13; ((with_reducible refine (known11_calls _ HT.out).mono ?_); rintro e w1 ⟨rfl, hb1⟩))
      go_ret
      exact ⟨rfl, hb1⟩
    · have h2' : decide ((300 : Int) < (l.length : Int)) = false := by simp; omega
      obtain ⟨t, ht⟩ : ∃ t, s ++ (⟨#[13, 10]⟩ : ByteArray) = t := ⟨_, rfl⟩
      have hts : t.size = s.size + 2 := by rw [← ht, ByteArray.size_append]; rfl
      have kb := fun W => print_bytes (P := Tryd.prog) 9 22 5 Tryd.underlying9 Tryd.underlying22 Tryd.underlying5 t W
      obtain ⟨b, hb⟩ : ∃ b, bytesOf t ++ l ++ [13, 10, 48, 13, 10, 13, 10] = b := ⟨_, rfl⟩
      have hbl : b.length ≤ 1073741824 := by rw [← hb]; simp only [List.length_append, bytesOf_length, List.length_cons, List.length_nil]; omega
      obtain ⟨r, hr⟩ : ∃ r, openF okbS okfS b = r := ⟨_, rfl⟩
      obtain ⟨x, n, f⟩ := r
      have HO := Aside0.mk hr
      have HB := Aside0.mk hb
      have HBL := Aside0.mk hbl
      have HTS := Aside0.mk hts
      have HL : Aside0 (t.size + l.length ≤ 100000) := ⟨by omega⟩
      have HL2 : Aside0 ((bytesOf t ++ l).length ≤ 100000) := ⟨by rw [List.length_append, bytesOf_length]; omega⟩
      obtain ⟨bl, hbl2⟩ : ∃ bl, bytesOf t ++ l = bl := ⟨_, rfl⟩
      rw [hbl2] at HB HL2
      have HBT := Aside0.mk hbl2
      clear hbl2
      clear hr hb hbl hts
      go_enter Tryd.func6, Tryd.ntmps6
      go_wp2_with (first
        | (go_at_call 13; ((with_reducible refine (known11_calls _ HT.out).mono ?_); rintro e w1 ⟨rfl, hb1⟩; have HR1 := Aside0.mk ((HR.out.below hb1).below (bytes_below (Below.refl w1.heap.size w1) (Nat.le_refl _) 5 t)); have HM1 := Aside0.mk (mrow_bytes w1 5 t (by have := HL.out; simp only [maxLen]; omega)); replace hb1 := Aside0.mk hb1))
        | (at_builtin; refine wp_append_mrow _ w1.heap.size rfl (.tmp 24) (.tmp 25) 22 5 rfl Tryd.underlying22 j5' _ (bytesOf t) l A l.length c rfl rfl HM1.out HR1.out (by have := HL.out; rw [bytesOf_length]; omega) (by rw [Lib.bytesWorld_size]; omega) ?_; intro v2 w2 hm2 hb2; rw [HBT.out] at hm2; have HM2 := Aside0.mk hm2; obtain ⟨A2, c2, rfl, hc2, hrd2⟩ := hm2.reads; clear hrd2 hm2; replace hc2 := Aside0.mk hc2; replace hb2 := Aside0.mk hb2)
        | (at_builtin; refine wp_append_mstr _ w1.heap.size rfl (.tmp 27) (.const (Value.string { data := #[13, 10, 48, 13, 10, 13, 10] })) 22 9 5 rfl Tryd.underlying22 Tryd.underlying9 j5' _ bl [13, 10, 48, 13, 10, 13, 10] _ (by rfl) rfl rfl HM2.out (by have := HL2.out; have e : (ByteArray.mk #[13, 10, 48, 13, 10, 13, 10]).size = 7 := rfl; omega) (by have := hb2.out.size; rw [Lib.bytesWorld_size] at this; omega) ?_; intro v3 w3 hm3 hb3; rw [HB.out] at hm3; obtain ⟨A3, c3, rfl, hc3, hrd3⟩ := hm3.reads; clear hm3; replace hc3 := Aside0.mk hc3; replace hrd3 := Aside0.mk hrd3; replace hb3 := Aside0.mk hb3)
        | (go_at_call 15; ((with_reducible refine (open_calls' A3 c3 b _ hrd3.out hc3.out _ HO.out).mono ?_); rintro e w4 ⟨A4, c4, rfl, hc4, hrd4, hb4⟩; replace hc4 := Aside0.mk hc4; replace hrd4 := Aside0.mk hrd4; replace hb4 := Aside0.mk hb4))
        | (go_at_call 22; ((with_reducible refine (rchunks_calls' A3 c3 b _ (hrd3.out.below hb4.out) hc3.out HBL.out _ HO.out).mono ?_); rintro e w5 ⟨A5, c5, rfl, hc5, hrd5, hb5⟩; replace hc5 := Aside0.mk hc5; replace hrd5 := Aside0.mk hrd5; replace hb5 := Aside0.mk hb5))
        | (go_at_call 16; ((with_reducible refine (same_bytes A4 A5 c4 c5 x _ (hrd4.out.below hb5.out) hc4.out hrd5.out hc5.out).mono ?_); rintro e w6 ⟨rfl, hd6⟩)))
      go_ret
      have B1 := hb1.out.trans ((bytes_below (Below.refl w1.heap.size w1) (Nat.le_refl _) 5 t).mono hb1.out.size)
      have B3 := (B1.trans (hb2.out.mono hb1.out.size)).trans (hb3.out.mono hb1.out.size)
      have B4 := B3.trans (hb4.out.mono B3.size)
      have B5 := B4.trans (hb5.out.mono B4.size)
      exact ⟨rfl, B5.trans (hd6.below.mono B5.size)⟩
end Go.Proofs.YtibgcbngnfaaiaaDoor.H
