/- What head's printed functions on fields come to: Same, All, List, and http.target. · What head's printed List comes to; http.target. · What head's printed List and http's target come to. · What head's and the reference's printed Parse come to. · strings.Split at a space and at CR LF, as plain functions; the end of a message's head. -/
import Derived.Test.YtibgcbngnfaaiaaDoorHNb
import Derived.Test.YtibgcbngnfaaiaaDoorPAx5
import Derived.Test.YtibgcbngnfaaiaaDoorPAx6
import Derived.Test.YtibgcbngnfaaiaaDoorShelf
import Derived.Lib.SplitLaws
namespace Go.Proofs.YtibgcbngnfaaiaaDoor.H
open Go.RowKit Go.Proofs.YtibgcbngnfaaiaaDoorW.PrintWords Go.Proofs.YtibgcbngnfaaiaaDoorW.PrintLast Go.Proofs.YtibgcbngnfaaiaaDoorW.PrintMore Go.Proofs.YtibgcbngnfaaiaaDoor.PA
set_option linter.unusedVariables false
set_option linter.unusedSimpArgs false

def lowB (c : UInt8) : UInt8 := if 65 ≤ c.toNat ∧ c.toNat ≤ 90 then c + 32 else c
def lowL (l : List UInt8) : List UInt8 := l.map lowB
def sameS (a b : ByteArray) : Bool := lowL (toL a) == lowL (toL b)
theorem small_f (c : UInt8) : head_small.f (c.toNat : Int) = some ((lowB c).toNat : Int) := by
  refine u8_all (p := fun n c => head_small.f n = some ((lowB c).toNat : Int)) ?_ c
  decide +kernel
theorem same_l0 (a b : List UInt8) (hn : a.length = b.length) (hl : a.length ≤ 9223372036854775807) : ∀ (n i : Nat), a.length - i = n → i ≤ a.length → Evl (fun k => head_Same.l0 k (ofL a) (ofL b) (a.length : Int) (i : Int)) (lowL (a.drop i) == lowL (b.drop i))
  | 0, i, h, hi => by
    have hi2 : i = a.length := by omega
    subst hi2
    refine Evl.step (fun k => by rw [head_Same.l0]) ?_
    rw [List.drop_length, hn, List.drop_length]
    simp only [Int.lt_irrefl, if_false]
    exact Evl.some _
  | n + 1, i, h, hi => by
    have hlt : i < a.length := by omega
    have hlt2 : i < b.length := by omega
    have hw : wrap64 ((i : Int) + 1) = ((i + 1 : Nat) : Int) := by rw [IntWalk.wrap64_in _ (by omega)]; omega
    refine Evl.step (fun k => by rw [head_Same.l0]) ?_
    have h1 : (i : Int) < (a.length : Int) := by omega
    have h2 : (i : Int) < (b.length : Int) := by omega
    have h3 : (0 : Int) ≤ (i : Int) := by omega
    simp only [ofL_size, if_pos h1, if_pos h2, if_pos h3, bt_ofL a i hlt, bt_ofL b i hlt2, small_f, Option.bind_some, hw]
    rw [List.drop_eq_getElem_cons hlt, List.drop_eq_getElem_cons hlt2]
    have e : (lowL (a[i] :: a.drop (i + 1)) == lowL (b[i] :: b.drop (i + 1))) = ((lowB a[i] == lowB b[i]) && (lowL (a.drop (i + 1)) == lowL (b.drop (i + 1)))) := rfl
    rw [e]
    by_cases hb : lowB a[i] = lowB b[i]
    · rw [hb]
      simp only [if_true, beq_self_eq_true, Bool.true_and]
      exact same_l0 a b hn hl n (i + 1) (by omega) (by omega)
    · have hb2 : ¬ (((lowB a[i]).toNat : Int) = ((lowB b[i]).toNat : Int)) := fun e => hb (UInt8.toNat_inj.1 (by omega))
      simp only [if_neg hb2, beq_eq_false_iff_ne.2 hb, Bool.false_and]
      exact Evl.some _
theorem same_f (a b : ByteArray) (hl : a.size ≤ 9223372036854775807) : Evl (fun k => head_Same.f k a b) (sameS a b) := by
  unfold sameS
  rw [← ofL_toL a, ← ofL_toL b, toL_ofL, toL_ofL]
  rw [← toL_length] at hl
  generalize toL a = l at hl ⊢
  generalize toL b = m
  by_cases h : l.length = m.length
  · have h1 : (l.length : Int) = (m.length : Int) := by omega
    refine Evl.eq (g := fun k => head_Same.l0 k (ofL l) (ofL m) (l.length : Int) 0) (fun k => by unfold head_Same.f; rw [ofL_size, ofL_size, if_pos h1]) ?_
    exact same_l0 l m h hl _ 0 rfl (by omega)
  · have h1 : ¬ (l.length : Int) = (m.length : Int) := by omega
    refine Evl.eq (g := fun k => some false) (fun k => by unfold head_Same.f; rw [ofL_size, ofL_size, if_neg h1]) ?_
    have : (lowL l == lowL m) = false := beq_eq_false_iff_ne.2 (fun e => h (by have := congrArg List.length e; simpa [lowL] using this))
    rw [this]
    exact Evl.some _

/-- The values of a name's fields. -/
def allS (l : List S103) (name : ByteArray) : List ByteArray := (l.filter fun f => sameS f.f0 name).map (·.f1)
theorem allS_snoc (l : List S103) (f : S103) (name : ByteArray) : allS (l ++ [f]) name = if sameS f.f0 name = true then allS l name ++ [f.f1] else allS l name := by
  unfold allS
  rw [List.filter_append, List.map_append]
  by_cases h : sameS f.f0 name = true
  · rw [if_pos h]; simp [List.filter_cons, h]
  · rw [if_neg h]; simp [List.filter_cons, h]
theorem allS_le (l : List S103) (name : ByteArray) : (allS l name).length ≤ l.length := by
  unfold allS; rw [List.length_map]; exact List.length_filter_le _ _
theorem rdT_at (l : List S103) (i : Nat) (h : i < l.length) : rd_T103 l (i : Int) = l[i] := by
  unfold rd_T103; simp [List.getD_eq_getElem?_getD, List.getElem?_eq_getElem h]
theorem take_snoc' {α : Type} (l : List α) (i : Nat) (h : i < l.length) : l.take (i + 1) = l.take i ++ [l[i]] := by
  rw [List.take_succ_eq_append_getElem h]
theorem all_l0 (l : List S103) (name : ByteArray) (hl : l.length ≤ 1000000) (hs : ∀ f ∈ l, f.f0.size ≤ 9223372036854775807) : ∀ (n i : Nat), l.length - i = n → i ≤ l.length → Evl (fun k => head_All.l0 k name (allS (l.take i) name) l (l.length : Int) (i : Int)) (allS l name)
  | 0, i, h, hi => by
    have hi2 : i = l.length := by omega
    subst hi2
    refine Evl.step (fun k => by rw [head_All.l0]) ?_
    rw [List.take_length]
    simp only [Int.lt_irrefl, if_false]
    exact Evl.some _
  | n + 1, i, h, hi => by
    have hlt : i < l.length := by omega
    have hw : wrap64 ((i : Int) + 1) = ((i + 1 : Nat) : Int) := by rw [IntWalk.wrap64_in _ (by omega)]; omega
    refine Evl.step (fun k => by rw [head_All.l0]) ?_
    have h1 : (i : Int) < (l.length : Int) := by omega
    have h3 : (0 : Int) ≤ (i : Int) := by omega
    simp only [if_pos h1, if_pos h3, rdT_at l i hlt, hw]
    refine Evl.bind (same_f l[i].f0 name (hs _ (List.getElem_mem hlt))) ?_
    have ih := all_l0 l name hl hs n (i + 1) (by omega) (by omega)
    rw [take_snoc' l i hlt, allS_snoc] at ih
    have hle : (allS (l.take i) name).length < 8796093022208 := by
      have := allS_le (l.take i) name
      rw [List.length_take] at this; omega
    by_cases hb : sameS l[i].f0 name = true
    · simp only [if_pos hb] at ih ⊢
      simp only [if_pos hle]
      exact ih
    · simp only [if_neg hb] at ih ⊢
      exact ih
theorem all_f (l : List S103) (name : ByteArray) (hl : l.length ≤ 1000000) (hs : ∀ f ∈ l, f.f0.size ≤ 9223372036854775807) : Evl (fun k => head_All.f k l name) (allS l name) :=
  all_l0 l name hl hs _ 0 rfl (by omega)
end Go.Proofs.YtibgcbngnfaaiaaDoor.H

namespace Go.Proofs.YtibgcbngnfaaiaaDoor.H
open Go.RowKit Go.Proofs.YtibgcbngnfaaiaaDoorW.PrintWords Go.Proofs.YtibgcbngnfaaiaaDoorW.PrintLast Go.Proofs.YtibgcbngnfaaiaaDoorW.PrintMore Go.Proofs.YtibgcbngnfaaiaaDoor.PA
set_option linter.unusedVariables false
set_option linter.unusedSimpArgs false

/-- A text cut at commas outside quotes: within quotes?, what the piece holds, what is left. -/
def cutG : Bool → List UInt8 → List UInt8 → List (List UInt8)
  | _, cur, [] => [cur]
  | q, cur, [c] => if (q && c.toNat == 92) = true then [cur ++ [c]] else if c.toNat = 34 then [cur ++ [c]] else if (c.toNat == 44 && !q) = true then [cur, []] else [cur ++ [c]]
  | q, cur, c :: d :: r =>
    if (q && c.toNat == 92) = true then cutG q (cur ++ [c, d]) r
    else if c.toNat = 34 then cutG (!q) (cur ++ [c]) (d :: r)
    else if (c.toNat == 44 && !q) = true then cur :: cutG q [] (d :: r)
    else cutG q (cur ++ [c]) (d :: r)
theorem cutG_bs (cur : List UInt8) (c d : UInt8) (r : List UInt8) (h : c.toNat = 92) : cutG true cur (c :: d :: r) = cutG true (cur ++ [c, d]) r := by
  rw [cutG, if_pos (by simp [h])]
theorem cutG_bs1 (cur : List UInt8) (c : UInt8) (h : c.toNat = 92) : cutG true cur [c] = [cur ++ [c]] := by
  rw [cutG, if_pos (by simp [h])]
theorem cutG_q (q : Bool) (cur : List UInt8) (c : UInt8) (r : List UInt8) (h : c.toNat = 34) : cutG q cur (c :: r) = cutG (!q) (cur ++ [c]) r := by
  have hn : ¬ (q && c.toNat == 92) = true := by simp [h]
  cases r with
  | nil => simp [cutG, h]
  | cons d r => rw [cutG, if_neg hn, if_pos h]
theorem cutG_comma (cur : List UInt8) (c : UInt8) (r : List UInt8) (h : c.toNat = 44) : cutG false cur (c :: r) = cur :: cutG false [] r := by
  have hn : ¬ (false && c.toNat == 92) = true := by simp
  have hq : ¬ c.toNat = 34 := by omega
  cases r with
  | nil => simp [cutG, h]
  | cons d r => rw [cutG, if_neg hn, if_neg hq, if_pos (by simp [h])]
theorem cutG_on (q : Bool) (cur : List UInt8) (c : UInt8) (r : List UInt8) (h1 : ¬ (q = true ∧ c.toNat = 92)) (h2 : ¬ c.toNat = 34) (h3 : ¬ (c.toNat = 44 ∧ q = false)) : cutG q cur (c :: r) = cutG q (cur ++ [c]) r := by
  have k1 : ¬ (q && c.toNat == 92) = true := by simp only [Bool.and_eq_true, beq_iff_eq]; exact h1
  have k3 : ¬ (c.toNat == 44 && !q) = true := by simp only [Bool.and_eq_true, beq_iff_eq, Bool.not_eq_true']; exact h3
  cases r with
  | nil => simp only [cutG, if_neg k1, if_neg h2, if_neg k3]
  | cons d r => rw [cutG, if_neg k1, if_neg h2, if_neg k3]
theorem cutG_len : ∀ (n : Nat) (q : Bool) (cur l : List UInt8), l.length = n → (cutG q cur l).length ≤ n + 1
  | 0, q, cur, l, h => by
    obtain rfl := List.eq_nil_of_length_eq_zero h
    simp [cutG]
  | n + 1, q, cur, c :: r, h => by
    have hr : r.length = n := by simpa using h
    by_cases h1 : q = true ∧ c.toNat = 92
    · obtain ⟨rfl, h1⟩ := h1
      cases r with
      | nil => rw [cutG_bs1 _ _ h1]; simp
      | cons d r =>
        rw [cutG_bs _ _ _ _ h1]
        have := cutG_len r.length true (cur ++ [c, d]) r rfl
        simp at hr; omega
    · by_cases h2 : c.toNat = 34
      · rw [cutG_q _ _ _ _ h2]; have := cutG_len n (!q) (cur ++ [c]) r hr; omega
      · by_cases h3 : c.toNat = 44 ∧ q = false
        · obtain ⟨h3, rfl⟩ := h3
          rw [cutG_comma _ _ _ h3]; have := cutG_len n false [] r hr; simp; omega
        · rw [cutG_on _ _ _ _ h1 h2 h3]; have := cutG_len n q (cur ++ [c]) r hr; omega
  | n + 1, q, cur, [], h => by cases h
theorem take_drop_snoc (l : List UInt8) (b i : Nat) (hb : b ≤ i) (h : i < l.length) : (l.take (i + 1)).drop b = (l.take i).drop b ++ [l[i]] := by
  rw [take_snoc' l i h, List.drop_append_of_le_length (by rw [List.length_take]; omega)]
theorem cut_l0 (l : List UInt8) (hl : l.length ≤ 4611686018427387904) : ∀ (n i b : Nat) (q : Bool) (out : List ByteArray), l.length - i = n → b ≤ i → i ≤ l.length → out.length + n + 1 ≤ 8000000000000 →
    Evl (fun k => head_cut.l0 k (ofL l) out (b : Int) q (i : Int)) (out ++ (cutG q ((l.take i).drop b) (l.drop i)).map ofL) := by
  intro n
  induction n using Nat.strongRecOn with
  | ind n ih =>
    intro i b q out h hb hi ho
    have fin : ∀ (j : Nat), l.length ≤ j → Evl (fun k => head_cut.l0 k (ofL l) out (b : Int) q (j : Int)) (out ++ [ofL (l.drop b)]) := by
      intro j hj
      refine Evl.step (fun k => by rw [head_cut.l0]) ?_
      have h1 : ¬ ((j : Int) < (l.length : Int)) := by omega
      have h2 : (0 : Int) ≤ (b : Int) := by omega
      have h3 : (b : Int) ≤ (l.length : Int) := by omega
      have h4 : out.length < 8796093022208 := by omega
      have h5 : (ofL l).extract (b : Int).toNat (ofL l).size = ofL (l.drop b) := by rw [ofL_extract, ofL_size, List.take_length]; rfl
      simp only [ofL_size] at h5
      simp only [ofL_size, if_neg h1, if_pos h2, if_pos h3, if_pos h4, h5]
      exact Evl.some _
    by_cases hlt : i < l.length
    · have hw : wrap64 ((i : Int) + 1) = ((i + 1 : Nat) : Int) := by rw [IntWalk.wrap64_in _ (by omega)]; omega
      have hw2 : wrap64 (((i + 1 : Nat) : Int) + 1) = ((i + 2 : Nat) : Int) := by rw [IntWalk.wrap64_in _ (by omega)]; omega
      have hd : l.drop i = l[i] :: l.drop (i + 1) := List.drop_eq_getElem_cons hlt
      have hs := take_drop_snoc l b i hb hlt
      have h1 : (i : Int) < (l.length : Int) := by omega
      have h3 : (0 : Int) ≤ (i : Int) := by omega
      refine Evl.step (fun k => by rw [head_cut.l0]) ?_
      simp only [ofL_size, if_pos h1, if_pos h3, bt_ofL l i hlt]
      have plain : ∀ (x : Bool), x = (q && (((l[i].toNat : Int)) == 92)) → (¬ (q = true ∧ l[i].toNat = 92)) → Evl (fun k => head_cut.j1 k (ofL l) out (b : Int) q (i : Int) ((l[i].toNat : Int)) x) (out ++ (cutG q ((l.take i).drop b) (l.drop i)).map ofL) := by
        intro x hx hn
        have hxf : ¬ x = true := by
          rw [hx]; simp only [Bool.and_eq_true, beq_iff_eq]; intro ⟨e1, e2⟩; exact hn ⟨e1, by omega⟩
        refine Evl.step (fun k => by rw [head_cut.j1]) ?_
        simp only [if_neg hxf, hw]
        by_cases hq : l[i].toNat = 34
        · have hq' : ((l[i].toNat : Int)) = 34 := by omega
          simp only [if_pos hq']
          rw [hd, cutG_q _ _ _ _ hq, ← hs]
          exact ih (n - 1) (by omega) (i + 1) b (!q) out (by omega) (by omega) (by omega) (by omega)
        · have hq' : ¬ ((l[i].toNat : Int)) = 34 := by omega
          simp only [if_neg hq']
          by_cases hc : l[i].toNat = 44
          · have hc' : ((l[i].toNat : Int)) = 44 := by omega
            simp only [if_pos hc']
            cases q with
            | true =>
              simp only [if_true]
              rw [hd, cutG_on _ _ _ _ hn hq (by simp), ← hs]
              exact ih (n - 1) (by omega) (i + 1) b true out (by omega) (by omega) (by omega) (by omega)
            | false =>
              have k1 : (0 : Int) ≤ (b : Int) := by omega
              have k2 : (b : Int) ≤ (i : Int) := by omega
              have k3 : (i : Int) ≤ (l.length : Int) := by omega
              have k4 : out.length < 8796093022208 := by omega
              have k5 : (ofL l).extract (b : Int).toNat (i : Int).toNat = ofL ((l.take i).drop b) := by rw [ofL_extract]; rfl
              simp only [ofL_size, Bool.false_eq_true, if_false, if_pos k1, if_pos k2, if_pos k3, if_pos k4, k5]
              rw [hd, cutG_comma _ _ _ hc, List.map_cons]
              have := ih (n - 1) (by omega) (i + 1) (i + 1) false (out ++ [ofL ((l.take i).drop b)]) (by omega) (by omega) (by omega) (by simp; omega)
              rw [List.drop_of_length_le (show (l.take (i + 1)).length ≤ i + 1 by rw [List.length_take]; omega), List.append_assoc] at this
              exact this
          · have hc' : ¬ ((l[i].toNat : Int)) = 44 := by omega
            simp only [if_neg hc']
            rw [hd, cutG_on _ _ _ _ hn hq (by simp [hc]), ← hs]
            exact ih (n - 1) (by omega) (i + 1) b q out (by omega) (by omega) (by omega) (by omega)
      cases q with
      | false =>
        simp only [Bool.false_eq_true, if_false]
        exact plain false rfl (by simp)
      | true =>
        simp only [if_true]
        by_cases h92 : l[i].toNat = 92
        · have h92' : (((l[i].toNat : Int)) == 92) = true := by rw [beq_iff_eq]; omega
          refine Evl.step (fun k => by rw [head_cut.j1]) ?_
          simp only [h92', if_true, hw, hw2]
          by_cases h2 : i + 1 < l.length
          · have hd2 : l.drop (i + 1) = l[i + 1] :: l.drop (i + 2) := List.drop_eq_getElem_cons h2
            have hs2 := take_drop_snoc l b (i + 1) (by omega) h2
            have := ih (n - 2) (by omega) (i + 2) b true out (by omega) (by omega) (by omega) (by omega)
            rw [hd, hd2, cutG_bs _ _ _ _ h92]
            rw [hs2, hs, List.append_assoc] at this
            exact this
          · have hd2 : l.drop (i + 1) = [] := List.drop_of_length_le (by omega)
            have e : (l.take i).drop b ++ [l[i]] = l.drop b := by
              rw [← hs, List.take_of_length_le (by omega)]
            rw [hd, hd2, cutG_bs1 _ _ h92, e]
            exact fin (i + 2) (by omega)
        · have h92' : (((l[i].toNat : Int)) == 92) = false := by rw [beq_eq_false_iff_ne]; omega
          rw [h92']
          exact plain false (by rw [h92']; rfl) (by simp [h92])
    · have e : i = l.length := by omega
      rw [List.drop_of_length_le (show l.length ≤ i by omega), List.take_of_length_le (show l.length ≤ i by omega)]
      show Evl _ (out ++ [ofL (l.drop b)])
      exact fin i (by omega)
theorem cut_f (l : List UInt8) (hl : l.length ≤ 1000000000) : Evl (fun k => head_cut.f k (ofL l)) ((cutG false [] l).map ofL) := by
  have := cut_l0 l (by omega) l.length 0 0 false [] (by omega) (by omega) (by omega) (by simp; omega)
  simp at this
  exact this
end Go.Proofs.YtibgcbngnfaaiaaDoor.H

namespace Go.Proofs.YtibgcbngnfaaiaaDoor.H
open Go.RowKit Go.Proofs.YtibgcbngnfaaiaaDoorW.PrintWords Go.Proofs.YtibgcbngnfaaiaaDoorW.PrintLast Go.Proofs.YtibgcbngnfaaiaaDoorW.PrintMore Go.Proofs.YtibgcbngnfaaiaaDoor.PA
set_option linter.unusedVariables false
set_option linter.unusedSimpArgs false

/-- A value's parts. -/
def partsS (l : List UInt8) : List (List UInt8) := ((cutG false [] l).map trimL).filter fun p => !p.isEmpty
/-- The parts of all of a name's values. -/
def listS (l : List S103) (name : ByteArray) : List ByteArray := ((allS l name).map fun v => (partsS (toL v)).map ofL).flatten
def partsF (ps : List (List UInt8)) : List ByteArray := ((ps.map trimL).filter fun p => !p.isEmpty).map ofL
theorem partsF_snoc (ps : List (List UInt8)) (p : List UInt8) : partsF (ps ++ [p]) = if trimL p = [] then partsF ps else partsF ps ++ [ofL (trimL p)] := by
  unfold partsF
  rw [List.map_append, List.filter_append, List.map_append]
  by_cases h : trimL p = []
  · rw [if_pos h]; simp [h]
  · rw [if_neg h]; simp [h]
theorem partsF_le (ps : List (List UInt8)) : (partsF ps).length ≤ ps.length := by
  unfold partsF
  rw [List.length_map]
  have := List.length_filter_le (fun p : List UInt8 => !p.isEmpty) (ps.map trimL)
  rw [List.length_map] at this
  exact this
theorem rdOf_ofL (ps : List (List UInt8)) (i : Nat) (h : i < ps.length) : rdOf ByteArray.empty (ps.map ofL) (i : Int) = ofL ps[i] := by
  unfold rdOf; simp [List.getD_eq_getElem?_getD, List.getElem?_eq_getElem h]
theorem rdOf_at (vs : List ByteArray) (i : Nat) (h : i < vs.length) : rdOf ByteArray.empty vs (i : Int) = vs[i] := by
  unfold rdOf; simp [List.getD_eq_getElem?_getD, List.getElem?_eq_getElem h]
theorem list_l1 (vs : List ByteArray) (z i : Int) (ps : List (List UInt8)) (hp : ps.length ≤ 1000000000) (hs : ∀ p ∈ ps, p.length ≤ 9223372036854775807) (out : List ByteArray) (ho : out.length ≤ 1000000000000) (v : List ByteArray)
    (hv : Evl (fun k => head_List.l0 k (out ++ partsF ps) vs z (wrap64 (i + 1))) v) : ∀ (n j : Nat), ps.length - j = n → j ≤ ps.length →
    Evl (fun k => head_List.l1 k (out ++ partsF (ps.take j)) vs z i (ps.map ofL) (ps.length : Int) (j : Int)) v
  | 0, j, h, hj => by
    have hj2 : j = ps.length := by omega
    subst hj2
    refine Evl.step (fun k => by rw [head_List.l1]) ?_
    rw [List.take_length]
    simp only [Int.lt_irrefl, if_false]
    exact hv
  | n + 1, j, h, hj => by
    have hlt : j < ps.length := by omega
    have hw : wrap64 ((j : Int) + 1) = ((j + 1 : Nat) : Int) := by rw [IntWalk.wrap64_in _ (by omega)]; omega
    refine Evl.step (fun k => by rw [head_List.l1]) ?_
    have h1 : (j : Int) < (ps.length : Int) := by omega
    have h3 : (0 : Int) ≤ (j : Int) := by omega
    have ih := list_l1 vs z i ps hp hs out ho v hv n (j + 1) (by omega) (by omega)
    rw [take_snoc' ps j hlt, partsF_snoc] at ih
    simp only [List.length_map, if_pos h1, if_pos h3, rdOf_ofL ps j hlt, hw]
    refine Evl.bind (trim_f ps[j] (hs _ (List.getElem_mem hlt))) ?_
    simp only [ofL_toList]
    by_cases he : trimL ps[j] = []
    · simp only [if_pos he] at ih ⊢
      exact ih
    · have hlen : (out ++ partsF (ps.take j)).length < 8796093022208 := by
        have := partsF_le (ps.take j)
        rw [List.length_take] at this
        rw [List.length_append]; omega
      simp only [if_neg he] at ih ⊢
      simp only [if_pos hlen]
      rw [← List.append_assoc] at ih
      exact ih
def partsV (vs : List ByteArray) : List ByteArray := (vs.map fun v => (partsS (toL v)).map ofL).flatten
theorem partsV_snoc (vs : List ByteArray) (v : ByteArray) : partsV (vs ++ [v]) = partsV vs ++ partsF (cutG false [] (toL v)) := by
  unfold partsV partsS partsF; simp
theorem partsV_le (vs : List ByteArray) (m : Nat) (h : ∀ v ∈ vs, v.size ≤ m) : (partsV vs).length ≤ vs.length * (m + 1) := by
  induction vs with
  | nil => simp [partsV]
  | cons v vs ih =>
    have h1 := ih (fun x hx => h x (by simp [hx]))
    have h2 : ((partsS (toL v)).map ofL).length ≤ m + 1 := by
      rw [List.length_map]
      unfold partsS
      have h3 := List.length_filter_le (fun p : List UInt8 => !p.isEmpty) ((cutG false [] (toL v)).map trimL)
      rw [List.length_map] at h3
      have h4 := cutG_len (toL v).length false [] (toL v) rfl
      have h5 := h v (by simp)
      rw [toL_length] at h4
      omega
    unfold partsV at h1 ⊢
    rw [List.map_cons, List.flatten_cons, List.length_append, List.length_cons, Nat.add_mul, Nat.one_mul]
    omega
theorem cutG_pieces : ∀ (n : Nat) (q : Bool) (cur l : List UInt8), l.length = n → ∀ p ∈ cutG q cur l, p.length ≤ cur.length + n
  | 0, q, cur, l, h, p, hp => by
    obtain rfl := List.eq_nil_of_length_eq_zero h
    simp [cutG] at hp; rw [hp]; omega
  | n + 1, q, cur, c :: r, h, p, hp => by
    have hr : r.length = n := by simpa using h
    by_cases h1 : q = true ∧ c.toNat = 92
    · obtain ⟨rfl, h1⟩ := h1
      cases r with
      | nil => rw [cutG_bs1 _ _ h1] at hp; simp at hp; rw [hp]; simp only [List.length_append, List.length_cons, List.length_nil]; omega
      | cons d r =>
        rw [cutG_bs _ _ _ _ h1] at hp
        have := cutG_pieces r.length true (cur ++ [c, d]) r rfl p hp
        simp only [List.length_append, List.length_cons, List.length_nil] at hr this; omega
    · by_cases h2 : c.toNat = 34
      · rw [cutG_q _ _ _ _ h2] at hp; have := cutG_pieces n (!q) (cur ++ [c]) r hr p hp; simp only [List.length_append, List.length_cons, List.length_nil] at this; omega
      · by_cases h3 : c.toNat = 44 ∧ q = false
        · obtain ⟨h3, rfl⟩ := h3
          rw [cutG_comma _ _ _ h3, List.mem_cons] at hp
          rcases hp with hp | hp
          · rw [hp]; omega
          · have := cutG_pieces n false [] r hr p hp; simp only [List.length_nil] at this; omega
        · rw [cutG_on _ _ _ _ h1 h2 h3] at hp; have := cutG_pieces n q (cur ++ [c]) r hr p hp; simp only [List.length_append, List.length_cons, List.length_nil] at this; omega
  | n + 1, q, cur, [], h, p, hp => by cases h
theorem list_l0 (vs : List ByteArray) (hn : vs.length ≤ 1000) (hs : ∀ v ∈ vs, v.size ≤ 100000000) : ∀ (n i : Nat), vs.length - i = n → i ≤ vs.length →
    Evl (fun k => head_List.l0 k (partsV (vs.take i)) vs (vs.length : Int) (i : Int)) (partsV vs)
  | 0, i, h, hi => by
    have hi2 : i = vs.length := by omega
    subst hi2
    refine Evl.step (fun k => by rw [head_List.l0]) ?_
    rw [List.take_length]
    simp only [Int.lt_irrefl, if_false]
    exact Evl.some _
  | n + 1, i, h, hi => by
    have hlt : i < vs.length := by omega
    have hw : wrap64 ((i : Int) + 1) = ((i + 1 : Nat) : Int) := by rw [IntWalk.wrap64_in _ (by omega)]; omega
    refine Evl.step (fun k => by rw [head_List.l0]) ?_
    have h1 : (i : Int) < (vs.length : Int) := by omega
    have h3 : (0 : Int) ≤ (i : Int) := by omega
    have ih := list_l0 vs hn hs n (i + 1) (by omega) (by omega)
    rw [take_snoc' vs i hlt, partsV_snoc] at ih
    have hv := hs _ (List.getElem_mem hlt)
    have hvl : (toL vs[i]).length ≤ 100000000 := by rw [toL_length]; exact hv
    simp only [if_pos h1, if_pos h3, rdOf_at vs i hlt]
    refine Evl.bind (a := (cutG false [] (toL vs[i])).map ofL) ?_ ?_
    · have := cut_f (toL vs[i]) (by omega)
      rw [ofL_toL] at this
      exact this
    · have hc := cutG_len _ false [] (toL vs[i]) rfl
      have hle := partsV_le (vs.take i) 100000000 (fun v hv => hs v (List.mem_of_mem_take hv))
      rw [List.length_take] at hle
      have := list_l1 vs (vs.length : Int) (i : Int) (cutG false [] (toL vs[i])) (by omega) (fun p hp => by have := cutG_pieces _ _ _ _ rfl p hp; simp at this; omega) (partsV (vs.take i))
        (Nat.le_trans hle (by have := Nat.mul_le_mul_right (100000000 + 1) (show min i vs.length ≤ 1000 by omega); omega)) (partsV vs) (by rw [hw]; exact ih) _ 0 rfl (by omega)
      have e0 : partsF ((cutG false [] (toL vs[i])).take 0) = [] := by simp [partsF]
      rw [e0, List.append_nil] at this
      simp only [List.length_map]
      exact this
theorem list_f (l : List S103) (name : ByteArray) (hl : l.length ≤ 1000) (hs : ∀ f ∈ l, f.f0.size ≤ 100000000 ∧ f.f1.size ≤ 100000000) : Evl (fun k => head_List.f k l name) (listS l name) := by
  have h1 := all_f l name (by omega) (fun f hf => by have := (hs f hf).1; omega)
  have h2 := list_l0 (allS l name) (Nat.le_trans (allS_le l name) hl) (fun v hv => by
    unfold allS at hv
    rw [List.mem_map] at hv
    obtain ⟨f, hf, rfl⟩ := hv
    exact (hs f ((List.mem_filter.1 hf).1)).2) _ 0 rfl (by omega)
  refine Evl.bind h1 ?_
  have e : partsV ((allS l name).take 0) = [] := by simp [partsV]
  rw [e] at h2
  exact h2

/-- Is a text a target? -/
def targetB (c : UInt8) : Bool := decide (33 ≤ c.toNat) && decide (c.toNat ≤ 126)
def slashB : List UInt8 → Bool | [] => false | c :: _ => c.toNat == 47
def targetL (l : List UInt8) : Bool := l.all targetB && slashB l
theorem target_l0 (l : List UInt8) (hl : l.length ≤ 9223372036854775807) : ∀ (n i : Nat), l.length - i = n → i ≤ l.length → Evl (fun k => http_target.l0 k (ofL l) (l.length : Int) (i : Int)) ((l.drop i).all targetB && slashB l)
  | 0, i, h, hi => by
    have hi2 : i = l.length := by omega
    subst hi2
    refine Evl.step (fun k => by rw [http_target.l0]) ?_
    rw [List.drop_length]
    simp only [Int.lt_irrefl, if_false, ofL_toList, ofL_size]
    cases l with
    | nil => exact Evl.some _
    | cons c r =>
      have h1 : ¬ (c :: r) = [] := by simp
      have h2 : (0 : Int) < ((c :: r).length : Int) := by simp
      simp only [if_neg h1, if_pos h2, bt_head]
      have e : ((c.toNat : Int) == 47) = (c.toNat == 47) := by
        by_cases hc : c.toNat = 47
        · simp [hc]
        · rw [beq_eq_false_iff_ne.2 hc, beq_eq_false_iff_ne]; omega
      rw [e]
      simp only [List.all_nil, Bool.true_and]
      exact Evl.some _
  | n + 1, i, h, hi => by
    have hlt : i < l.length := by omega
    have hw : wrap64 ((i : Int) + 1) = ((i + 1 : Nat) : Int) := by rw [IntWalk.wrap64_in _ (by omega)]; omega
    refine Evl.step (fun k => by rw [http_target.l0]) ?_
    have h1 : (i : Int) < (l.length : Int) := by omega
    have h3 : (0 : Int) ≤ (i : Int) := by omega
    simp only [ofL_size, if_pos h1, if_pos h3, bt_ofL l i hlt, hw]
    rw [List.drop_eq_getElem_cons hlt, List.all_cons]
    by_cases ha : l[i].toNat < 33
    · have ha' : ((l[i].toNat : Int)) < 33 := by omega
      have e : targetB l[i] = false := by unfold targetB; simp; omega
      simp only [if_pos ha', e, Bool.false_and]
      exact Evl.some _
    · have ha' : ¬ ((l[i].toNat : Int)) < 33 := by omega
      by_cases hb : 126 < l[i].toNat
      · have hb' : ((l[i].toNat : Int)) > 126 := by omega
        have e : targetB l[i] = false := by unfold targetB; simp; omega
        simp only [if_neg ha', if_pos hb', e, Bool.false_and]
        exact Evl.some _
      · have hb' : ¬ ((l[i].toNat : Int)) > 126 := by omega
        have e : targetB l[i] = true := by unfold targetB; simp; omega
        simp only [if_neg ha', if_neg hb', e, Bool.true_and]
        exact target_l0 l hl n (i + 1) (by omega) (by omega)
theorem target_f (l : List UInt8) (hl : l.length ≤ 9223372036854775807) : Evl (fun k => http_target.f k (ofL l)) (targetL l) := by
  have := target_l0 l hl _ 0 rfl (by omega)
  refine Evl.eq (g := fun k => http_target.l0 k (ofL l) (l.length : Int) 0) (fun k => by unfold http_target.f; rw [ofL_size]) ?_
  exact this
end Go.Proofs.YtibgcbngnfaaiaaDoor.H

namespace Go.Proofs.YtibgcbngnfaaiaaDoor.H
open Go.RowKit Go.Proofs.YtibgcbngnfaaiaaDoorW.PrintWords Go.Proofs.YtibgcbngnfaaiaaDoorW.PrintLast Go.Proofs.YtibgcbngnfaaiaaDoorW.PrintMore Go.Proofs.YtibgcbngnfaaiaaDoor.PA
set_option linter.unusedVariables false
set_option linter.unusedSimpArgs false

def fieldS (l : List UInt8) : S103 := match colon l with | none => ⟨ofL [], ofL []⟩ | some i => ⟨ofL (l.take i), ofL (trimL (l.drop (i + 1)))⟩
def fieldsS (L : List ByteArray) : List S103 := L.map fun s => fieldS (toL s)
def parseS (L : List ByteArray) : List S103 × Int := if 100 < L.length then ([], 91) else if L.all okfS = true then (fieldsS L, 0) else ([], 90)
theorem fieldS_some {l : List UInt8} {i : Nat} (h : colon l = some i) : fieldS l = ⟨ofL (l.take i), ofL (trimL (l.drop (i + 1)))⟩ := by unfold fieldS; rw [h]
theorem fieldsS_snoc (L : List ByteArray) (s : ByteArray) : fieldsS (L ++ [s]) = fieldsS L ++ [fieldS (toL s)] := by simp [fieldsS]
theorem cut_colon (l : List UInt8) (hl : l.length ≤ 4611686018427387904) : strings_Cut.f (ofL l) (⟨#[58]⟩ : ByteArray) = some (match colon l with | none => (ofL l, ofL [], false) | some i => (ofL (l.take i), ofL (l.drop (i + 1)), true)) := by
  unfold strings_Cut.f cutS
  show (if (ofL l).size ≤ 9223372036854775807 then (if Lib.indexByte (ofL l).data.toList 58 < 0 then some (ofL l, (⟨#[]⟩ : ByteArray), false) else some ((ofL l).extract 0 (Lib.indexByte (ofL l).data.toList 58).toNat, (ofL l).extract ((Lib.indexByte (ofL l).data.toList 58).toNat + 1) (ofL l).size, true)) else none) = _
  rw [if_pos (by rw [ofL_size]; omega), show (ofL l).data.toList = l from toL_ofL l, colon_index l]
  cases h : colon l with
  | none =>
    simp only []
    rw [if_pos (by omega)]
    rfl
  | some i =>
    have hi := colon_lt l i h
    simp only []
    rw [if_neg (by omega), ofL_extract, ofL_extract, ofL_size, Int.toNat_natCast, List.drop_zero, List.take_of_length_le (Nat.le_refl _)]
theorem parse_l0 (L : List ByteArray) (hL : L.length ≤ 100) (hs : ∀ s ∈ L, s.size ≤ 4611686018427387904) : ∀ (n i : Nat), L.length - i = n → i ≤ L.length →
    Evl (fun k => head_Parse.l0 k (fieldsS (L.take i)) L (L.length : Int) (i : Int)) (if (L.drop i).all okfS = true then (fieldsS L, 0) else ([], 90)) := by
  intro n
  induction n with
  | zero =>
    intro i hn hi
    have e : i = L.length := by omega
    subst e
    refine Evl.step (fun k => by rw [head_Parse.l0]) ?_
    rw [List.take_length, List.drop_length]
    simp only [Int.lt_irrefl, if_false, List.all_nil, if_true]
    exact Evl.some _
  | succ n ih =>
    intro i hn hi
    have h1 : i < L.length := by omega
    have h0 : (i : Int) < (L.length : Int) := by omega
    have h2 : (0 : Int) ≤ (i : Int) := by omega
    have hw : wrap64 ((i : Int) + 1) = ((i + 1 : Nat) : Int) := by rw [IntWalk.wrap64_in _ (by omega)]; omega
    have hsz := hs _ (List.getElem_mem h1)
    have ih := ih (i + 1) (by omega) (by omega)
    rw [take_snoc' L i h1, fieldsS_snoc] at ih
    refine Evl.step (fun k => by rw [head_Parse.l0]) ?_
    rw [List.drop_eq_getElem_cons h1, List.all_cons]
    simp only [if_pos h0, if_pos h2, rdOf_at L i h1, hw]
    obtain ⟨l, hl⟩ : ∃ l, L[i] = ofL l := ⟨toL L[i], (ofL_toL _).symm⟩
    rw [hl, ofL_size] at hsz
    rw [hl, toL_ofL] at ih
    rw [hl, cut_colon l hsz, show okfS (ofL l) = fieldL l from by unfold okfS; rw [toL_ofL]]
    simp only [Option.bind_some]
    have hf : fieldL l = (match colon l with | none => false | some i => tokL (l.take i) && (trimL (l.drop (i + 1))).all textB) := rfl
    cases h : colon l with
    | none =>
      rw [h] at hf
      simp only [] at hf
      rw [hf]
      simp only [Bool.false_and, Bool.false_eq_true, if_false]
      refine Evl.bind (trim_f [] (by simp)) ?_
      exact Evl.some _
    | some q =>
      rw [h] at hf
      simp only [] at hf
      rw [fieldS_some h] at ih
      have hq := colon_lt l q h
      have htk := token_f (l.take q) (by rw [List.length_take]; omega)
      have htr := trim_f (l.drop (q + 1)) (by rw [List.length_drop]; omega)
      have hva := value_f (trimL (l.drop (q + 1))) (by have := trimL_le (l.drop (q + 1)); rw [List.length_drop] at this; omega)
      rw [trimL_trimL, beq_self_eq_true, Bool.and_true] at hva
      simp only [if_true]
      refine Evl.bind htr (Evl.bind htk ?_)
      rw [hf]
      by_cases k1 : tokL (l.take q) = true
      · simp only [k1, if_true, Bool.true_and]
        refine Evl.bind hva ?_
        by_cases k2 : (trimL (l.drop (q + 1))).all textB = true
        · have ho : (fieldsS (L.take i)).length < 4398046511104 := by simp [fieldsS]; omega
          simp only [k2, if_true, Bool.true_and, if_pos ho]
          exact ih
        · have k2' : (trimL (l.drop (q + 1))).all textB = false := by simpa using k2
          simp only [k2', Bool.false_eq_true, if_false, Bool.false_and]
          exact Evl.some _
      · have k1' : tokL (l.take q) = false := by simpa using k1
        simp only [k1', Bool.false_eq_true, if_false, Bool.false_and]
        exact Evl.some _
theorem parse_f (L : List ByteArray) (hs : ∀ s ∈ L, s.size ≤ 4611686018427387904) : Evl (fun k => head_Parse.f k L) (parseS L) := by
  unfold parseS
  by_cases hL : 100 < L.length
  · have h1 : (L.length : Int) > 100 := by omega
    refine Evl.eq (g := fun _ => some ([], 91)) (fun k => by unfold head_Parse.f; rw [if_pos h1]) ?_
    rw [if_pos hL]
    exact Evl.some _
  · have h1 : ¬ (L.length : Int) > 100 := by omega
    rw [if_neg hL]
    refine Evl.eq (g := fun k => head_Parse.l0 k ([] : List S103) L (L.length : Int) 0) (fun k => by unfold head_Parse.f; rw [if_neg h1]) ?_
    exact parse_l0 L (by omega) hs _ 0 rfl (by omega)
end Go.Proofs.YtibgcbngnfaaiaaDoor.H

namespace Go.Proofs.YtibgcbngnfaaiaaDoor.H
open Go.RowKit Go.Proofs.YtibgcbngnfaaiaaDoorW.PrintWords Go.Proofs.YtibgcbngnfaaiaaDoorW.PrintLast Go.Proofs.YtibgcbngnfaaiaaDoorW.PrintMore
set_option linter.unusedVariables false
set_option linter.unusedSimpArgs false

theorem index_nil (sub : List UInt8) (h : sub ≠ []) : Lib.index [] sub = -1 := by
  rw [Lib.index.eq_def]; cases sub with
  | nil => exact (h rfl).elim
  | cons c t => rfl
theorem index_hit (c : UInt8) (s sub : List UInt8) (h : sub.isPrefixOf (c :: s) = true) : Lib.index (c :: s) sub = 0 := by
  rw [Lib.index.eq_def]; simp [h]
theorem index_miss (c : UInt8) (s sub : List UInt8) (h : sub.isPrefixOf (c :: s) = false) : Lib.index (c :: s) sub = if Lib.index s sub = -1 then -1 else Lib.index s sub + 1 := by
  rw [Lib.index.eq_def]; simp [h]
theorem split_miss (s sep : List UInt8) (h : Lib.index s sep = -1) : Lib.split s sep = [s] := by
  unfold Lib.split
  rw [Lib.count_miss h]; rfl
theorem split_hit (s sep : List UInt8) (i : Nat) (hs : sep ≠ []) (h : Lib.index s sep = i) : Lib.split s sep = s.take i :: Lib.split (s.drop (i + sep.length)) sep := by
  unfold Lib.split
  rw [Lib.count_hit hs h, Nat.add_comm 1, Lib.splitK, h, if_neg (by rw [beq_iff_eq]; omega)]
  simp

def splitSp : List UInt8 → List UInt8 → List (List UInt8)
  | cur, [] => [cur]
  | cur, c :: r => if c.toNat = 32 then cur :: splitSp [] r else splitSp (cur ++ [c]) r
def splitCR : List UInt8 → List UInt8 → List (List UInt8)
  | cur, [] => [cur]
  | cur, [c] => [cur ++ [c]]
  | cur, c :: d :: r => if c.toNat = 13 ∧ d.toNat = 10 then cur :: splitCR [] r else splitCR (cur ++ [c]) (d :: r)
theorem splitCR_hit (cur : List UInt8) (c d : UInt8) (r : List UInt8) (h : c.toNat = 13 ∧ d.toNat = 10) : splitCR cur (c :: d :: r) = cur :: splitCR [] r := by rw [splitCR, if_pos h]
theorem splitCR_on (cur : List UInt8) (c : UInt8) (r : List UInt8) (h : ¬ (c.toNat = 13 ∧ ∃ d t, r = d :: t ∧ d.toNat = 10)) : splitCR cur (c :: r) = splitCR (cur ++ [c]) r := by
  cases r with
  | nil => simp [splitCR]
  | cons d t => rw [splitCR, if_neg (fun e => h ⟨e.1, d, t, rfl, e.2⟩)]
theorem prefix_sp (c : UInt8) (r : List UInt8) : ([32] : List UInt8).isPrefixOf (c :: r) = decide (c.toNat = 32) := by
  simp only [List.isPrefixOf, Bool.and_true]
  by_cases h : c.toNat = 32
  · have : c = 32 := UInt8.toNat_inj.mp h
    subst this; rfl
  · rw [decide_eq_false h, beq_eq_false_iff_ne]
    intro e; exact h (by rw [← e]; rfl)
theorem prefix_cr (c : UInt8) (r : List UInt8) : ([13, 10] : List UInt8).isPrefixOf (c :: r) = true ↔ (c.toNat = 13 ∧ ∃ d t, r = d :: t ∧ d.toNat = 10) := by
  have e13 : (13 == c) = decide (c.toNat = 13) := by
    by_cases h : c.toNat = 13
    · have : c = 13 := UInt8.toNat_inj.mp h
      subst this; rfl
    · rw [decide_eq_false h, beq_eq_false_iff_ne]
      intro e; exact h (by rw [← e]; rfl)
  cases r with
  | nil => simp [List.isPrefixOf]
  | cons d t =>
    have e10 : (10 == d) = decide (d.toNat = 10) := by
      by_cases h : d.toNat = 10
      · have : d = 10 := UInt8.toNat_inj.mp h
        subst this; rfl
      · rw [decide_eq_false h, beq_eq_false_iff_ne]
        intro e; exact h (by rw [← e]; rfl)
    simp only [List.isPrefixOf, Bool.and_true, e13, e10]
    simp
theorem splitSp_index : ∀ (s cur : List UInt8), splitSp cur s = if Lib.index s [32] = -1 then [cur ++ s] else (cur ++ s.take (Lib.index s [32]).toNat) :: splitSp [] (s.drop ((Lib.index s [32]).toNat + 1))
  | [], cur => by rw [index_nil _ (by simp)]; simp [splitSp]
  | c :: s, cur => by
    rw [splitSp]
    by_cases h : c.toNat = 32
    · rw [if_pos h, index_hit _ _ _ (by rw [prefix_sp, decide_eq_true h])]
      simp
    · rw [if_neg h, index_miss _ _ _ (by rw [prefix_sp, decide_eq_false h]), splitSp_index s (cur ++ [c])]
      by_cases hi : Lib.index s [32] = -1
      · rw [if_pos hi, if_pos hi, if_pos rfl]; simp
      · have hge := Lib.index_ge s [32]
        rw [if_neg hi, if_neg hi, if_neg (by omega)]
        have e : (Lib.index s [32] + 1).toNat = (Lib.index s [32]).toNat + 1 := by omega
        rw [e, List.take_succ_cons, List.append_assoc, Nat.add_right_comm, List.drop_succ_cons]
        rfl
theorem splitSp_eq : ∀ (n : Nat) (s : List UInt8), s.length = n → Lib.split s [32] = splitSp [] s := by
  intro n
  induction n using Nat.strongRecOn with
  | ind n ih =>
    intro s hn
    rw [splitSp_index]
    by_cases hi : Lib.index s [32] = -1
    · rw [if_pos hi, split_miss _ _ hi]; rfl
    · rw [if_neg hi]
      have hge := Lib.index_ge s [32]
      obtain ⟨i, hi2⟩ := Int.eq_ofNat_of_zero_le (show 0 ≤ Lib.index s [32] by omega)
      have hr := Lib.index_room s [32] (by omega)
      rw [hi2] at hr ⊢
      simp only [List.length_cons, List.length_nil] at hr
      rw [split_hit s [32] i (by simp) hi2, Int.toNat_natCast]
      simp only [List.length_cons, List.length_nil, Nat.zero_add, List.nil_append]
      rw [ih (s.drop (i + 1)).length (by rw [List.length_drop]; omega) _ rfl]
theorem splitCR_index : ∀ (n : Nat) (s cur : List UInt8), s.length = n → splitCR cur s = if Lib.index s [13, 10] = -1 then [cur ++ s] else (cur ++ s.take (Lib.index s [13, 10]).toNat) :: splitCR [] (s.drop ((Lib.index s [13, 10]).toNat + 2)) := by
  intro n
  induction n with
  | zero =>
    intro s cur h
    obtain rfl := List.eq_nil_of_length_eq_zero h
    rw [index_nil _ (by simp)]; simp [splitCR]
  | succ n ih =>
    intro s cur h
    match s, h with
    | c :: s, h =>
      have hs : s.length = n := by simpa using h
      by_cases hp : c.toNat = 13 ∧ ∃ d t, s = d :: t ∧ d.toNat = 10
      · rw [index_hit _ _ _ ((prefix_cr _ _).2 hp)]
        obtain ⟨h1, d, t, rfl, h2⟩ := hp
        rw [splitCR_hit _ _ _ _ ⟨h1, h2⟩]
        simp
      · rw [index_miss _ _ _ (Bool.eq_false_iff.2 fun e => hp ((prefix_cr _ _).1 e)), splitCR_on _ _ _ hp, ih s (cur ++ [c]) hs]
        by_cases hi : Lib.index s [13, 10] = -1
        · rw [if_pos hi, if_pos hi, if_pos rfl]; simp
        · have hge := Lib.index_ge s [13, 10]
          rw [if_neg hi, if_neg hi, if_neg (by omega)]
          have e : (Lib.index s [13, 10] + 1).toNat = (Lib.index s [13, 10]).toNat + 1 := by omega
          rw [e, List.take_succ_cons, List.append_assoc, Nat.add_right_comm, List.drop_succ_cons]
          rfl
theorem splitCR_eq : ∀ (n : Nat) (s : List UInt8), s.length = n → Lib.split s [13, 10] = splitCR [] s := by
  intro n
  induction n using Nat.strongRecOn with
  | ind n ih =>
    intro s hn
    rw [splitCR_index _ s [] rfl]
    by_cases hi : Lib.index s [13, 10] = -1
    · rw [if_pos hi, split_miss _ _ hi]; rfl
    · rw [if_neg hi]
      have hge := Lib.index_ge s [13, 10]
      obtain ⟨i, hi2⟩ := Int.eq_ofNat_of_zero_le (show 0 ≤ Lib.index s [13, 10] by omega)
      have hr := Lib.index_room s [13, 10] (by omega)
      rw [hi2] at hr ⊢
      simp only [List.length_cons, List.length_nil] at hr
      rw [split_hit s [13, 10] i (by simp) hi2, Int.toNat_natCast]
      simp only [List.length_cons, List.length_nil, Nat.zero_add, List.nil_append]
      rw [ih (s.drop (i + (1 + 1))).length (by rw [List.length_drop]; omega) _ rfl]
theorem map_ofL_toL (L : List ByteArray) : (L.map toL).map ofL = L := by
  rw [List.map_map]
  refine (List.map_congr_left fun x _ => ?_).trans (List.map_id _)
  exact ofL_toL x
theorem splitB_eq (s sep : ByteArray) : Lib.splitB sep 0 (Lib.countB s sep) s = (Lib.split (toL s) (toL sep)).map ofL := by
  have h := Lib.splitB_data sep 0 (Lib.countB s sep) s
  rw [← map_ofL_toL (Lib.splitB sep 0 (Lib.countB s sep) s)]
  exact congrArg (List.map ofL) h
theorem splitB_length (s sep : ByteArray) (h : 1 ≤ sep.size) : Lib.countB s sep + 1 = (Lib.splitB sep 0 (Lib.countB s sep) s).length :=
  (Lib.splitB_all sep h 0 _ s rfl).symm

/-- Where a head ends: at its first empty line. -/
def endAt : List UInt8 → Option Nat
  | [] => none
  | c :: r => if ([13, 10, 13, 10] : List UInt8).isPrefixOf (c :: r) = true then some 0 else (endAt r).map (· + 1)
theorem endAt_index : ∀ s : List UInt8, Lib.index s [13, 10, 13, 10] = (match endAt s with | none => -1 | some i => (i : Int))
  | [] => by rw [index_nil _ (by simp)]; rfl
  | c :: s => by
    unfold endAt
    by_cases h : ([13, 10, 13, 10] : List UInt8).isPrefixOf (c :: s) = true
    · rw [index_hit _ _ _ h, if_pos h]; rfl
    · rw [index_miss _ _ _ (Bool.eq_false_iff.2 h), if_neg h, endAt_index s]
      cases endAt s with
      | none => rfl
      | some i =>
        simp only [Option.map_some]
        rw [if_neg (by omega)]
        show (i : Int) + 1 = ((i + 1 : Nat) : Int)
        omega
end Go.Proofs.YtibgcbngnfaaiaaDoor.H
