/- What head's and the reference's printed functions on texts come to, as plain functions on lists of bytes. · What Text, Value and Token come to. · What Token, hex, length come to. · What Parse comes to; bytesOf and Parse as chunk.Open wants them. -/
import Derived.Test.YtibgcbngnfaaiaaDoorPAx5
import Derived.Test.YtibgcbngnfaaiaaDoorPAx10
import Derived.Test.YtibgcbngnfaaiaaDoorHr
import Derived.Test.YtibgcbngnfaaiaaDoorHf
import Derived.Test.YtibgcbngnfaaiaaDoorPAx9
namespace Go.Proofs.YtibgcbngnfaaiaaDoor.H
open Go.RowKit Go.Proofs.YtibgcbngnfaaiaaDoorW.PrintWords Go.Proofs.YtibgcbngnfaaiaaDoorW.PrintLast Go.Proofs.YtibgcbngnfaaiaaDoorW.PrintMore Go.Proofs.YtibgcbngnfaaiaaDoor.PA
set_option linter.unusedVariables false
set_option linter.unusedSimpArgs false

/-- From some fuel on. -/
def Evl {α : Type} (f : Nat → Option α) (v : α) : Prop := ∃ K, ∀ k, K ≤ k → f k = some v
theorem Evl.some {α : Type} (v : α) : Evl (fun _ => Option.some v) v := ⟨0, fun _ _ => rfl⟩
theorem Evl.step {α : Type} {f g : Nat → Option α} {v : α} (h : ∀ k, f (k + 1) = g k) (hg : Evl g v) : Evl f v := by
  obtain ⟨K, hK⟩ := hg
  refine ⟨K + 1, fun k hk => ?_⟩
  obtain ⟨j, rfl⟩ : ∃ j, k = j + 1 := ⟨k - 1, by omega⟩
  rw [h]
  exact hK j (by omega)
theorem Evl.bind {α β : Type} {g : Nat → Option α} {h : Nat → α → Option β} {a : α} {v : β} (hg : Evl g a) (hh : Evl (fun k => h k a) v) : Evl (fun k => (g k).bind (h k)) v := by
  obtain ⟨K1, h1⟩ := hg
  obtain ⟨K2, h2⟩ := hh
  refine ⟨K1 + K2, fun k hk => ?_⟩
  show (g k).bind (h k) = _
  rw [h1 k (by omega)]
  exact h2 k (by omega)
theorem Evl.eq {α : Type} {f g : Nat → Option α} {v : α} (h : ∀ k, f k = g k) (hg : Evl g v) : Evl f v := by
  obtain ⟨K, hK⟩ := hg
  exact ⟨K, fun k hk => (h k).trans (hK k hk)⟩

/-- A text as a list of bytes. -/
def toL (s : ByteArray) : List UInt8 := s.data.toList
def ofL (l : List UInt8) : ByteArray := ⟨l.toArray⟩
theorem toL_ofL (l : List UInt8) : toL (ofL l) = l := by simp [toL, ofL]
theorem ofL_toL (s : ByteArray) : ofL (toL s) = s := by simp [toL, ofL]
theorem ofL_toList (l : List UInt8) : (ofL l).toList = l := by simp [ofL]
theorem ofL_size (l : List UInt8) : (ofL l).size = l.length := by simp [ofL, ByteArray.size]
theorem toL_length (s : ByteArray) : (toL s).length = s.size := data_length s
theorem ofL_extract (l : List UInt8) (a b : Nat) : (ofL l).extract a b = ofL ((l.take b).drop a) := by
  have h : ((ofL l).extract a b).data.toList = (l.take b).drop a := by simp [Lib.extract_data, ofL, List.drop_take]
  rw [← ofL_toL ((ofL l).extract a b)]
  exact congrArg ofL h
theorem bt_ofL (l : List UInt8) (i : Nat) (h : i < l.length) : bt (ofL l) (i : Int) = ((l[i]'h).toNat : Int) := by
  have h2 : (i : Int).toNat < (ofL l).size := by rw [ofL_size]; exact h
  unfold bt
  rw [dif_pos h2]
  rfl
theorem bt_head (c : UInt8) (l : List UInt8) : bt (ofL (c :: l)) 0 = (c.toNat : Int) := bt_ofL (c :: l) 0 (by simp)
theorem bt_last (l : List UInt8) (c : UInt8) : bt (ofL (l ++ [c])) (l.length : Int) = (c.toNat : Int) := by
  rw [bt_ofL (l ++ [c]) l.length (by simp)]; simp

def blankB (c : UInt8) : Bool := c.toNat == 32 || c.toNat == 9
theorem blank_f (c : UInt8) : head_blank.f (c.toNat : Int) = some (blankB c) := by
  unfold head_blank.f blankB
  by_cases h : c.toNat = 32
  · rw [if_pos (by omega)]; simp [h]
  · rw [if_neg (by omega)]
    by_cases h2 : c.toNat = 9
    · simp [h, h2]
    · have h3 : ¬ (c.toNat : Int) = 9 := by omega
      have h4 : ((c.toNat : Int) == 9) = false := beq_eq_false_iff_ne.mpr h3
      simp [h, h2, h4]
theorem rblank_f (c : UInt8) : ambryref10_blank.f (c.toNat : Int) = some (blankB c) := blank_f c

def rtrim (l : List UInt8) : List UInt8 := (l.reverse.dropWhile blankB).reverse
def trimL (l : List UInt8) : List UInt8 := rtrim (l.dropWhile blankB)
theorem rtrim_nil : rtrim [] = [] := rfl
theorem rtrim_snoc (l : List UInt8) (c : UInt8) : rtrim (l ++ [c]) = if blankB c = true then rtrim l else l ++ [c] := by
  unfold rtrim
  rw [List.reverse_append, List.reverse_singleton, List.singleton_append, List.dropWhile_cons]
  split <;> simp
theorem trim_l1 : ∀ (n : Nat) (l : List UInt8), l.length = n → n ≤ 9223372036854775807 → Evl (fun k => head_trim.l1 k (ofL l)) (ofL (rtrim l))
  | 0, l, h, _ => by
    obtain rfl : l = [] := List.eq_nil_of_length_eq_zero h
    refine Evl.step (fun k => by rw [head_trim.l1]) ?_
    simp only [ofL_toList]
    exact Evl.some _
  | n + 1, l, h, hn => by
    obtain ⟨l', c, rfl⟩ : ∃ l' c, l = l' ++ [c] := by
      rcases List.eq_nil_or_concat l with rfl | ⟨l', c, rfl⟩
      · cases h
      · exact ⟨l', c, by simp⟩
    have hl : l'.length = n := by simpa using h
    have hlc : (l' ++ [c]).length = l'.length + 1 := by simp
    have hw : wrap64 (((l' ++ [c]).length : Int) - 1) = (l'.length : Int) := by rw [IntWalk.wrap64_in _ (by omega)]; omega
    refine Evl.step (fun k => by rw [head_trim.l1]) ?_
    simp only [hw, ofL_toList, ofL_size, bt_last, blank_f, Option.bind_some]
    have h1 : ¬ (l' ++ [c]) = [] := by simp
    have h2 : (0 : Int) ≤ (l'.length : Int) := by omega
    have h3 : (l'.length : Int) < ((l' ++ [c]).length : Int) := by omega
    simp only [if_neg h1, if_pos h2, if_pos h3, if_pos (Int.le_of_lt h3)]
    rw [rtrim_snoc]
    by_cases hb : blankB c = true
    · simp only [if_pos hb]
      have h4 : (ofL (l' ++ [c])).extract 0 (l'.length : Int).toNat = ofL l' := by rw [ofL_extract]; simp
      simp only [h4]
      exact trim_l1 n l' hl (by omega)
    · simp only [if_neg hb]
      exact Evl.some _
theorem trim_l0 : ∀ (l : List UInt8), l.length ≤ 9223372036854775807 → Evl (fun k => head_trim.l0 k (ofL l)) (ofL (trimL l))
  | [], _ => by
    refine Evl.step (fun k => by rw [head_trim.l0]) (Evl.eq (g := fun k => head_trim.j1 k (ofL [])) (fun k => by simp only [ofL_toList, if_pos]) ?_)
    refine Evl.step (fun k => by rw [head_trim.j1]) (trim_l1 0 [] rfl (by omega))
  | c :: l, h => by
    have h' : l.length + 1 ≤ 9223372036854775807 := h
    refine Evl.step (fun k => by rw [head_trim.l0]) ?_
    have h1 : ¬ (c :: l) = [] := by simp
    have h2 : (0 : Int) < ((c :: l).length : Int) := by simp
    have h3 : (1 : Int) ≤ ((c :: l).length : Int) := by simp; omega
    simp only [ofL_toList, ofL_size, bt_head, blank_f, Option.bind_some, if_neg h1, if_pos h2, if_pos h3]
    unfold trimL
    rw [List.dropWhile_cons]
    by_cases hb : blankB c = true
    · simp only [if_pos hb]
      have h4 : (ofL (c :: l)).extract 1 (c :: l).length = ofL l := by rw [ofL_extract]; simp
      simp only [h4]
      exact trim_l0 l (by omega)
    · simp only [if_neg hb]
      exact Evl.step (fun k => by rw [head_trim.j1]) (trim_l1 _ (c :: l) rfl h)
theorem trim_f (l : List UInt8) (h : l.length ≤ 9223372036854775807) : Evl (fun k => head_trim.f k (ofL l)) (ofL (trimL l)) := trim_l0 l h

theorem rtrim_l1 : ∀ (n : Nat) (l : List UInt8), l.length = n → n ≤ 9223372036854775807 → Evl (fun k => ambryref10_Trim.l1 k (ofL l)) (ofL (rtrim l))
  | 0, l, h, _ => by
    obtain rfl : l = [] := List.eq_nil_of_length_eq_zero h
    refine Evl.step (fun k => by rw [ambryref10_Trim.l1]) ?_
    have h0 : ¬ (((ofL []).size : Int) > 0) := by rw [ofL_size]; simp
    simp only [if_neg h0]
    exact Evl.some _
  | n + 1, l, h, hn => by
    obtain ⟨l', c, rfl⟩ : ∃ l' c, l = l' ++ [c] := by
      rcases List.eq_nil_or_concat l with rfl | ⟨l', c, rfl⟩
      · cases h
      · exact ⟨l', c, by simp⟩
    have hl : l'.length = n := by simpa using h
    have hlc : (l' ++ [c]).length = l'.length + 1 := by simp
    have hw : wrap64 (((l' ++ [c]).length : Int) - 1) = (l'.length : Int) := by rw [IntWalk.wrap64_in _ (by omega)]; omega
    refine Evl.step (fun k => by rw [ambryref10_Trim.l1]) ?_
    simp only [hw, ofL_size, bt_last, rblank_f, Option.bind_some]
    have h1 : ((l' ++ [c]).length : Int) > 0 := by omega
    have h2 : (0 : Int) ≤ (l'.length : Int) := by omega
    have h3 : (l'.length : Int) < ((l' ++ [c]).length : Int) := by omega
    simp only [if_pos h1, if_pos h2, if_pos h3, if_pos (Int.le_of_lt h3)]
    rw [rtrim_snoc]
    by_cases hb : blankB c = true
    · simp only [if_pos hb]
      have h4 : (ofL (l' ++ [c])).extract 0 (l'.length : Int).toNat = ofL l' := by rw [ofL_extract]; simp
      simp only [h4]
      exact rtrim_l1 n l' hl (by omega)
    · simp only [if_neg hb]
      exact Evl.some _
theorem rtrim_l0 : ∀ (l : List UInt8), l.length ≤ 9223372036854775807 → Evl (fun k => ambryref10_Trim.l0 k (ofL l)) (ofL (trimL l))
  | [], _ => by
    have h0 : ¬ (((ofL []).size : Int) > 0) := by rw [ofL_size]; simp
    refine Evl.step (fun k => by rw [ambryref10_Trim.l0]) (Evl.eq (g := fun k => ambryref10_Trim.j1 k (ofL [])) (fun k => by simp only [if_neg h0]) ?_)
    refine Evl.step (fun k => by rw [ambryref10_Trim.j1]) (rtrim_l1 0 [] rfl (by omega))
  | c :: l, h => by
    have h' : l.length + 1 ≤ 9223372036854775807 := h
    refine Evl.step (fun k => by rw [ambryref10_Trim.l0]) ?_
    have h2 : ((c :: l).length : Int) > 0 := by simp
    have h3 : (1 : Int) ≤ ((c :: l).length : Int) := by simp; omega
    simp only [ofL_size, bt_head, rblank_f, Option.bind_some, if_pos h2, if_pos h3]
    unfold trimL
    rw [List.dropWhile_cons]
    by_cases hb : blankB c = true
    · simp only [if_pos hb]
      have h4 : (ofL (c :: l)).extract 1 (c :: l).length = ofL l := by rw [ofL_extract]; simp
      simp only [h4]
      exact rtrim_l0 l (by omega)
    · simp only [if_neg hb]
      exact Evl.step (fun k => by rw [ambryref10_Trim.j1]) (rtrim_l1 _ (c :: l) rfl h)
theorem rtrim_f (l : List UInt8) (h : l.length ≤ 9223372036854775807) : Evl (fun k => ambryref10_Trim.f k (ofL l)) (ofL (trimL l)) := rtrim_l0 l h
end Go.Proofs.YtibgcbngnfaaiaaDoor.H

namespace Go.Proofs.YtibgcbngnfaaiaaDoor.H
open Go.RowKit Go.Proofs.YtibgcbngnfaaiaaDoorW.PrintWords Go.Proofs.YtibgcbngnfaaiaaDoorW.PrintLast Go.Proofs.YtibgcbngnfaaiaaDoorW.PrintMore Go.Proofs.YtibgcbngnfaaiaaDoor.PA
set_option linter.unusedVariables false
set_option linter.unusedSimpArgs false

def textB (c : UInt8) : Bool := !((decide (c.toNat < 32) && c.toNat != 9) || c.toNat == 127)
theorem textB_ite {α : Type} (c : UInt8) (a b : α) : (if (c.toNat : Int) < 32 then (if (c.toNat : Int) = 9 then (if (c.toNat : Int) = 127 then a else b) else a) else (if (c.toNat : Int) = 127 then a else b)) = if textB c = true then b else a := by
  unfold textB
  by_cases h1 : c.toNat < 32
  · rw [if_pos (by omega)]
    by_cases h2 : c.toNat = 9
    · rw [if_pos (by omega), if_neg (by omega)]; simp [h1, h2]
    · rw [if_neg (by omega)]; simp [h1, h2]
  · rw [if_neg (by omega)]
    by_cases h2 : c.toNat = 127
    · rw [if_pos (by omega)]; simp [h1, h2]
    · rw [if_neg (by omega)]; simp [h1, h2]
theorem rtext_l0 (l : List UInt8) (hl : l.length ≤ 9223372036854775807) : ∀ (n i : Nat), l.length - i = n → i ≤ l.length → Evl (fun k => ambryref10_Text.l0 k (ofL l) (i : Int)) ((l.drop i).all textB)
  | 0, i, hn, hi => by
    refine Evl.step (fun k => by rw [ambryref10_Text.l0]) ?_
    have h0 : ¬ ((i : Int) < (l.length : Int)) := by omega
    simp only [ofL_size, if_neg h0]
    rw [List.drop_eq_nil_of_le (by omega)]
    exact Evl.some _
  | n + 1, i, hn, hi => by
    have h1 : i < l.length := by omega
    have h0 : (i : Int) < (l.length : Int) := by omega
    have h2 : (0 : Int) ≤ (i : Int) := by omega
    have hw : wrap64 ((i : Int) + 1) = ((i + 1 : Nat) : Int) := by rw [IntWalk.wrap64_in _ (by omega)]; omega
    refine Evl.step (fun k => by rw [ambryref10_Text.l0]) ?_
    simp only [ofL_size, if_pos h0, if_pos h2, bt_ofL l i h1, textB_ite, hw]
    rw [List.drop_eq_getElem_cons h1, List.all_cons]
    by_cases hb : textB (l[i]'h1) = true
    · simp only [if_pos hb, hb, Bool.true_and]
      exact rtext_l0 l hl n (i + 1) (by omega) (by omega)
    · have hb' : textB (l[i]'h1) = false := by simpa using hb
      simp only [if_neg hb, hb', Bool.false_and]
      exact Evl.some _
theorem rtext_f (l : List UInt8) (hl : l.length ≤ 9223372036854775807) : Evl (fun k => ambryref10_Text.f k (ofL l)) (l.all textB) := by
  have h := rtext_l0 l hl _ 0 rfl (Nat.zero_le _)
  rw [List.drop_zero] at h
  exact h
theorem value_l0 (l : List UInt8) (hl : l.length ≤ 9223372036854775807) : ∀ (n i : Nat), l.length - i = n → i ≤ l.length → Evl (fun k => head_Value.l0 k (ofL l) (l.length : Int) (i : Int)) ((l.drop i).all textB && (trimL l == l))
  | 0, i, hn, hi => by
    refine Evl.step (fun k => by rw [head_Value.l0]) ?_
    have h0 : ¬ ((i : Int) < (l.length : Int)) := by omega
    simp only [ofL_size, if_neg h0]
    rw [List.drop_eq_nil_of_le (by omega)]
    refine Evl.bind (trim_f l hl) ?_
    simp only [ofL_toList, List.all_nil, Bool.true_and]
    exact Evl.some _
  | n + 1, i, hn, hi => by
    have h1 : i < l.length := by omega
    have h0 : (i : Int) < (l.length : Int) := by omega
    have h2 : (0 : Int) ≤ (i : Int) := by omega
    have hw : wrap64 ((i : Int) + 1) = ((i + 1 : Nat) : Int) := by rw [IntWalk.wrap64_in _ (by omega)]; omega
    refine Evl.step (fun k => by rw [head_Value.l0]) ?_
    simp only [ofL_size, if_pos h0, if_pos h2, bt_ofL l i h1, textB_ite, hw]
    rw [List.drop_eq_getElem_cons h1, List.all_cons]
    by_cases hb : textB (l[i]'h1) = true
    · simp only [if_pos hb, hb, Bool.true_and]
      exact value_l0 l hl n (i + 1) (by omega) (by omega)
    · have hb' : textB (l[i]'h1) = false := by simpa using hb
      simp only [if_neg hb, hb', Bool.false_and]
      exact Evl.some _
theorem value_f (l : List UInt8) (hl : l.length ≤ 9223372036854775807) : Evl (fun k => head_Value.f k (ofL l)) (l.all textB && (trimL l == l)) := by
  have h := value_l0 l hl _ 0 rfl (Nat.zero_le _)
  rw [List.drop_zero] at h
  refine Evl.eq (fun k => ?_) h
  unfold head_Value.f
  rw [ofL_size]
  rfl
/-- A trimmed text is trimmed. -/
theorem dropWhile_id {p : UInt8 → Bool} : ∀ (l : List UInt8), (∀ c, l.head? = some c → p c = false) → l.dropWhile p = l
  | [], _ => rfl
  | c :: l, h => by rw [List.dropWhile_cons, if_neg (by rw [h c rfl]; decide)]
theorem head_dropWhile {p : UInt8 → Bool} : ∀ (l : List UInt8) (c : UInt8), (l.dropWhile p).head? = some c → p c = false
  | [], c, h => by cases h
  | d :: l, c, h => by
    rw [List.dropWhile_cons] at h
    by_cases hd : p d = true
    · rw [if_pos hd] at h; exact head_dropWhile l c h
    · rw [if_neg hd] at h
      simp only [List.head?_cons, Option.some.injEq] at h
      subst h
      simpa using hd
def endsB (l : List UInt8) : Prop := (∀ c, l.head? = some c → blankB c = false) ∧ (∀ c, l.getLast? = some c → blankB c = false)
theorem rtrim_last (l : List UInt8) (c : UInt8) (h : (rtrim l).getLast? = some c) : blankB c = false := by
  unfold rtrim at h
  rw [List.getLast?_reverse] at h
  exact head_dropWhile _ _ h
theorem rtrim_id (l : List UInt8) (h : ∀ c, l.getLast? = some c → blankB c = false) : rtrim l = l := by
  unfold rtrim
  rw [dropWhile_id l.reverse (fun c hc => h c (by rw [List.head?_reverse] at hc; exact hc)), List.reverse_reverse]
theorem rtrim_head (l : List UInt8) (h : ∀ c, l.head? = some c → blankB c = false) (c : UInt8) (hc : (rtrim l).head? = some c) : blankB c = false := by
  unfold rtrim at hc
  rw [List.head?_reverse] at hc
  cases l with
  | nil => cases hc
  | cons d l =>
    have hd := h d rfl
    have h1 : (List.dropWhile blankB (d :: l).reverse).getLast? = some d := by
      rw [List.reverse_cons]
      generalize l.reverse = m
      induction m with
      | nil => rw [List.nil_append, List.dropWhile_cons, if_neg (by rw [hd]; decide)]; rfl
      | cons x m ih =>
        rw [List.cons_append, List.dropWhile_cons]
        split
        · exact ih
        · rw [← List.cons_append, List.getLast?_append]; rfl
    rw [h1] at hc
    simp only [Option.some.injEq] at hc
    subst hc
    exact hd
theorem trimL_ends (l : List UInt8) : endsB (trimL l) := by
  unfold trimL
  exact ⟨fun c hc => rtrim_head _ (fun d hd => head_dropWhile _ _ hd) c hc, fun c hc => rtrim_last _ _ hc⟩
theorem trimL_id (l : List UInt8) (h : endsB l) : trimL l = l := by
  unfold trimL
  rw [dropWhile_id l h.1, rtrim_id l h.2]
theorem trimL_trimL (l : List UInt8) : trimL (trimL l) = trimL l := trimL_id _ (trimL_ends l)
theorem trimL_eq (l : List UInt8) : trimL l = l ↔ endsB l := ⟨fun h => h ▸ trimL_ends l, trimL_id l⟩
theorem rvalue_f (l : List UInt8) (hl : l.length ≤ 9223372036854775807) : Evl (fun k => ambryref10_Value.f k (ofL l)) (l.all textB && (trimL l == l)) := by
  refine Evl.eq (fun k => by unfold ambryref10_Value.f; rfl) ?_
  refine Evl.bind (rtext_f l hl) ?_
  by_cases ht : l.all textB = true
  · simp only [if_pos ht, ht, Bool.true_and, ofL_toList]
    by_cases h0 : l = []
    · subst h0
      simp only [if_pos]
      exact Evl.some _
    · simp only [if_neg h0]
      obtain ⟨c, m, rfl⟩ : ∃ c m, l = c :: m := by
        cases l with
        | nil => exact absurd rfl h0
        | cons c m => exact ⟨c, m, rfl⟩
      obtain ⟨m', d, hd⟩ : ∃ m' d, c :: m = m' ++ [d] := by
        rcases List.eq_nil_or_concat (c :: m) with h | ⟨m', d, h⟩
        · cases h
        · exact ⟨m', d, by simpa using h⟩
      have hlen : (c :: m).length = m'.length + 1 := by rw [hd]; simp
      have h1 : (0 : Int) < (((c :: m).length : Nat) : Int) := by simp
      simp only [ofL_size, if_pos h1, bt_head, rblank_f, Option.bind_some]
      have hw : wrap64 (((c :: m).length : Int) - 1) = (m'.length : Int) := by rw [IntWalk.wrap64_in _ (by omega)]; omega
      have h2 : (0 : Int) ≤ (m'.length : Int) := by omega
      have h3 : (m'.length : Int) < ((c :: m).length : Int) := by omega
      have hbl : bt (ofL (c :: m)) (m'.length : Int) = (d.toNat : Int) := by rw [hd]; exact bt_last m' d
      simp only [hw, if_pos h2, if_pos h3, hbl, rblank_f, Option.bind_some]
      have hiff : (trimL (c :: m) == c :: m) = (!blankB c && !blankB d) := by
        rw [Bool.eq_iff_iff]
        simp only [beq_iff_eq, trimL_eq, Bool.and_eq_true, Bool.not_eq_true', endsB]
        have hlast : (c :: m).getLast? = some d := by rw [hd]; simp
        constructor
        · rintro ⟨ha, hb⟩
          exact ⟨ha c rfl, hb d hlast⟩
        · rintro ⟨ha, hb⟩
          refine ⟨fun x hx => ?_, fun x hx => ?_⟩
          · simp only [List.head?_cons, Option.some.injEq] at hx; subst hx; exact ha
          · rw [hlast] at hx; simp only [Option.some.injEq] at hx; subst hx; exact hb
      rw [hiff]
      by_cases hc : blankB c = true
      · simp only [if_pos hc, hc, Bool.not_true, Bool.false_and]
        exact Evl.some _
      · have hc' : blankB c = false := by simpa using hc
        simp only [if_neg hc, hc', Bool.not_false, Bool.true_and]
        exact Evl.some _
  · have ht' : l.all textB = false := by simpa using ht
    simp only [if_neg ht, ht', Bool.false_and]
    exact Evl.some _

/-! ### Token -/
def signsL : List UInt8 := [33, 35, 36, 37, 38, 39, 42, 43, 45, 46, 94, 95, 96, 124, 126]
def tokB (c : UInt8) : Bool := (decide (97 ≤ c.toNat) && decide (c.toNat ≤ 122)) || (decide (65 ≤ c.toNat) && decide (c.toNat ≤ 90)) || (decide (48 ≤ c.toNat) && decide (c.toNat ≤ 57)) || signsL.contains c
def tokL (l : List UInt8) : Bool := l.all tokB && l != []
theorem index_sign (c : UInt8) : (decide (H.indexByteS (⟨#[33, 35, 36, 37, 38, 39, 42, 43, 45, 46, 94, 95, 96, 124, 126]⟩ : ByteArray) (c.toNat : Int) ≥ 0)) = signsL.contains c := by
  have h : ∀ n : Fin 256, (decide (Lib.indexByte signsL ((n.val : Nat).toUInt8) ≥ 0)) = signsL.contains ((n.val : Nat).toUInt8) := by decide +kernel
  have hc := h ⟨c.toNat, by have := c.toNat_lt; simpa using this⟩
  have e : c.toNat.toUInt8 = c := by simp
  simp only [e] at hc
  unfold H.indexByteS
  simp only [Int.toNat_natCast, e]
  exact hc
theorem tok_ite {α : Type} (c : UInt8) (a b : Option α) :
    (if (c.toNat : Int) ≥ 97 then (if (c.toNat : Int) ≤ 122 then a else (if (c.toNat : Int) ≥ 65 then (if (c.toNat : Int) ≤ 90 then a else (if (c.toNat : Int) ≥ 48 then (if (c.toNat : Int) ≤ 57 then a else ((strings_IndexByte.f (⟨#[33, 35, 36, 37, 38, 39, 42, 43, 45, 46, 94, 95, 96, 124, 126]⟩ : ByteArray) (c.toNat : Int)).bind fun t104 => (if t104 ≥ 0 then a else b))) else ((strings_IndexByte.f (⟨#[33, 35, 36, 37, 38, 39, 42, 43, 45, 46, 94, 95, 96, 124, 126]⟩ : ByteArray) (c.toNat : Int)).bind fun t105 => (if t105 ≥ 0 then a else b)))) else (if (c.toNat : Int) ≥ 48 then (if (c.toNat : Int) ≤ 57 then a else ((strings_IndexByte.f (⟨#[33, 35, 36, 37, 38, 39, 42, 43, 45, 46, 94, 95, 96, 124, 126]⟩ : ByteArray) (c.toNat : Int)).bind fun t106 => (if t106 ≥ 0 then a else b))) else ((strings_IndexByte.f (⟨#[33, 35, 36, 37, 38, 39, 42, 43, 45, 46, 94, 95, 96, 124, 126]⟩ : ByteArray) (c.toNat : Int)).bind fun t107 => (if t107 ≥ 0 then a else b))))) else (if (c.toNat : Int) ≥ 65 then (if (c.toNat : Int) ≤ 90 then a else (if (c.toNat : Int) ≥ 48 then (if (c.toNat : Int) ≤ 57 then a else ((strings_IndexByte.f (⟨#[33, 35, 36, 37, 38, 39, 42, 43, 45, 46, 94, 95, 96, 124, 126]⟩ : ByteArray) (c.toNat : Int)).bind fun t108 => (if t108 ≥ 0 then a else b))) else ((strings_IndexByte.f (⟨#[33, 35, 36, 37, 38, 39, 42, 43, 45, 46, 94, 95, 96, 124, 126]⟩ : ByteArray) (c.toNat : Int)).bind fun t109 => (if t109 ≥ 0 then a else b)))) else (if (c.toNat : Int) ≥ 48 then (if (c.toNat : Int) ≤ 57 then a else ((strings_IndexByte.f (⟨#[33, 35, 36, 37, 38, 39, 42, 43, 45, 46, 94, 95, 96, 124, 126]⟩ : ByteArray) (c.toNat : Int)).bind fun t110 => (if t110 ≥ 0 then a else b))) else ((strings_IndexByte.f (⟨#[33, 35, 36, 37, 38, 39, 42, 43, 45, 46, 94, 95, 96, 124, 126]⟩ : ByteArray) (c.toNat : Int)).bind fun t111 => (if t111 ≥ 0 then a else b)))))
    = if tokB c = true then a else b := by
  have hi := index_sign c
  unfold strings_IndexByte.f
  simp only [Option.bind_some]
  have hif : (if H.indexByteS (⟨#[33, 35, 36, 37, 38, 39, 42, 43, 45, 46, 94, 95, 96, 124, 126]⟩ : ByteArray) (c.toNat : Int) ≥ 0 then a else b) = if signsL.contains c = true then a else b := by
    rw [← hi]; simp only [decide_eq_true_eq]
  simp only [hif]
  unfold tokB
  generalize signsL.contains c = s
  generalize c.toNat = n
  by_cases h1 : 97 ≤ n <;> by_cases h2 : n ≤ 122 <;> by_cases h3 : 65 ≤ n <;> by_cases h4 : n ≤ 90 <;> by_cases h5 : 48 ≤ n <;> by_cases h6 : n ≤ 57 <;>
    first
      | omega
      | (have e1 : ((n : Int) ≥ 97) = (97 ≤ n) := by simp only [ge_iff_le, eq_iff_iff]; omega
         have e2 : ((n : Int) ≤ 122) = (n ≤ 122) := by simp only [eq_iff_iff]; omega
         have e3 : ((n : Int) ≥ 65) = (65 ≤ n) := by simp only [ge_iff_le, eq_iff_iff]; omega
         have e4 : ((n : Int) ≤ 90) = (n ≤ 90) := by simp only [eq_iff_iff]; omega
         have e5 : ((n : Int) ≥ 48) = (48 ≤ n) := by simp only [ge_iff_le, eq_iff_iff]; omega
         have e6 : ((n : Int) ≤ 57) = (n ≤ 57) := by simp only [eq_iff_iff]; omega
         simp only [e1, e2, e3, e4, e5, e6, h1, h2, h3, h4, h5, h6, if_true, if_false, decide_true, decide_false, Bool.and_self, Bool.and_false, Bool.false_and, Bool.true_and, Bool.and_true, Bool.or_self, Bool.or_false, Bool.false_or, Bool.true_or, Bool.or_true])
end Go.Proofs.YtibgcbngnfaaiaaDoor.H

namespace Go.Proofs.YtibgcbngnfaaiaaDoor.H
open Go.RowKit Go.Proofs.YtibgcbngnfaaiaaDoorW.PrintWords Go.Proofs.YtibgcbngnfaaiaaDoorW.PrintLast Go.Proofs.YtibgcbngnfaaiaaDoorW.PrintMore Go.Proofs.YtibgcbngnfaaiaaDoor.PA
set_option linter.unusedVariables false
set_option linter.unusedSimpArgs false

theorem Evl.of_mono {α : Type} {f : Nat → Option α} {v : α} (K : Nat) (hm : ∀ k, LeO (f k) (f (k + 1))) (h : f K = Option.some v) : Evl f v := by
  refine ⟨K, fun k hk => ?_⟩
  induction k with
  | zero =>
    obtain rfl : K = 0 := by omega
    exact h
  | succ k ih =>
    rcases Nat.lt_or_ge k K with h1 | h1
    · obtain rfl : K = k + 1 := by omega
      exact h
    · exact hm k _ (ih h1)
theorem u8_all {p : Int → UInt8 → Prop} (h : ∀ n : Fin 256, p ((n.val : Nat) : Int) ((n.val : Nat).toUInt8)) (c : UInt8) : p (c.toNat : Int) c := by
  have hc := h ⟨c.toNat, by have := c.toNat_lt; simpa using this⟩
  have e : c.toNat.toUInt8 = c := by simp
  simp only [e] at hc
  exact hc
theorem rsign_f (c : UInt8) : Evl (fun k => ambryref10_sign.f k (c.toNat : Int)) (tokB c) :=
  Evl.of_mono 20 (fun k => ambryref10_sign.mono _ k) (u8_all (p := fun n c => ambryref10_sign.f 20 n = some (tokB c)) (by decide +kernel) c)
theorem rhex_f (c : UInt8) : Evl (fun k => ambryref10_hex.f k (c.toNat : Int)) (hexv (c.toNat : Int)) :=
  Evl.of_mono 5 (fun k => ambryref10_hex.mono _ k) (u8_all (p := fun n c => ambryref10_hex.f 5 n = some (hexv n)) (by decide +kernel) c)

theorem token_l0 (l : List UInt8) (hl : l.length ≤ 9223372036854775807) : ∀ (n i : Nat), l.length - i = n → i ≤ l.length → Evl (fun k => head_Token.l0 k (ofL l) (l.length : Int) (i : Int)) ((l.drop i).all tokB && l != [])
  | 0, i, hn, hi => by
    refine Evl.step (fun k => by rw [head_Token.l0]) ?_
    have h0 : ¬ ((i : Int) < (l.length : Int)) := by omega
    simp only [ofL_size, if_neg h0, ofL_toList]
    rw [List.drop_eq_nil_of_le (by omega), List.all_nil, Bool.true_and]
    exact Evl.some _
  | n + 1, i, hn, hi => by
    have h1 : i < l.length := by omega
    have h0 : (i : Int) < (l.length : Int) := by omega
    have h2 : (0 : Int) ≤ (i : Int) := by omega
    have hw : wrap64 ((i : Int) + 1) = ((i + 1 : Nat) : Int) := by rw [IntWalk.wrap64_in _ (by omega)]; omega
    refine Evl.step (fun k => by rw [head_Token.l0]) ?_
    simp only [ofL_size, if_pos h0, if_pos h2, bt_ofL l i h1, tok_ite, hw]
    rw [List.drop_eq_getElem_cons h1, List.all_cons]
    by_cases hb : tokB (l[i]'h1) = true
    · simp only [if_pos hb, hb, Bool.true_and]
      exact token_l0 l hl n (i + 1) (by omega) (by omega)
    · have hb' : tokB (l[i]'h1) = false := by simpa using hb
      simp only [if_neg hb, hb', Bool.false_and]
      exact Evl.some _
theorem token_f (l : List UInt8) (hl : l.length ≤ 9223372036854775807) : Evl (fun k => head_Token.f k (ofL l)) (tokL l) := by
  have h := token_l0 l hl _ 0 rfl (Nat.zero_le _)
  rw [List.drop_zero] at h
  refine Evl.eq (fun k => ?_) h
  unfold head_Token.f
  rw [ofL_size]
  rfl
theorem rtoken_l0 (l : List UInt8) (hl : l.length ≤ 9223372036854775807) : ∀ (n i : Nat), l.length - i = n → i ≤ l.length → Evl (fun k => ambryref10_Token.l0 k (ofL l) (i : Int)) ((l.drop i).all tokB && l != [])
  | 0, i, hn, hi => by
    refine Evl.step (fun k => by rw [ambryref10_Token.l0]) ?_
    have h0 : ¬ ((i : Int) < (l.length : Int)) := by omega
    simp only [ofL_size, if_neg h0, ofL_toList]
    rw [List.drop_eq_nil_of_le (by omega), List.all_nil, Bool.true_and]
    exact Evl.some _
  | n + 1, i, hn, hi => by
    have h1 : i < l.length := by omega
    have h0 : (i : Int) < (l.length : Int) := by omega
    have h2 : (0 : Int) ≤ (i : Int) := by omega
    have hw : wrap64 ((i : Int) + 1) = ((i + 1 : Nat) : Int) := by rw [IntWalk.wrap64_in _ (by omega)]; omega
    refine Evl.step (fun k => by rw [ambryref10_Token.l0]) ?_
    simp only [ofL_size, if_pos h0, if_pos h2, bt_ofL l i h1, hw]
    rw [List.drop_eq_getElem_cons h1, List.all_cons]
    refine Evl.bind (rsign_f (l[i]'h1)) ?_
    by_cases hb : tokB (l[i]'h1) = true
    · simp only [if_pos hb, hb, Bool.true_and]
      exact rtoken_l0 l hl n (i + 1) (by omega) (by omega)
    · have hb' : tokB (l[i]'h1) = false := by simpa using hb
      simp only [if_neg hb, hb', Bool.false_and]
      exact Evl.some _
theorem rtoken_f (l : List UInt8) (hl : l.length ≤ 9223372036854775807) : Evl (fun k => ambryref10_Token.f k (ofL l)) (tokL l) := by
  have h := rtoken_l0 l hl _ 0 rfl (Nat.zero_le _)
  rw [List.drop_zero] at h
  exact h

theorem textB_59 (c : UInt8) (h : c.toNat = 59) : textB c = true := by unfold textB; rw [h]; rfl
/-- What a chunk's line may have behind its ';'. -/
def okbS (s : ByteArray) : Bool := (toL s).all textB
theorem len_err {ok : ByteArray → Bool} {s : ByteArray} : ∀ (d i : Nat) (n x : Int), lenAt ok s d i n = .error x → x = 94
  | 0, i, n, x, h => by
    unfold lenAt at h
    split at h
    · cases h
    · cases h; rfl
  | d + 1, i, n, x, h => by
    unfold lenAt at h
    split at h
    · split at h
      · cases h
      · cases h; rfl
    · split at h
      · cases h; rfl
      · exact len_err d _ _ x h
/-- A length as the reference tells it. -/
def lenR (e : Except Int Int) : Int × Bool := match e with | .ok n => (n, true) | .error _ => (0, false)
theorem rlength_step (l : List UInt8) (hl : l.length ≤ 4611686018427387904) (i : Nat) (m : Int) (hi : i ≤ l.length) (h8 : i ≤ 8) (hm0 : 0 ≤ m) (hm : m < (16 : Int) ^ i)
    (ih : i < l.length → i < 8 → ∀ m' : Int, 0 ≤ m' → m' < (16 : Int) ^ i * 16 → Evl (fun k => ambryref10_length.l0 k (ofL l) m' ((i + 1 : Nat) : Int)) (lenR (lenAt okbS (ofL l) (l.length - (i + 1)) (i + 1) m'))) :
    Evl (fun k => ambryref10_length.l0 k (ofL l) m (i : Int)) (lenR (lenAt okbS (ofL l) (l.length - i) i m)) := by
    have hp := pow16 i h8
    have h2 : (0 : Int) ≤ (i : Int) := by omega
    have hex : ∀ j : Nat, (ofL l).extract j (ofL l).size = ofL (l.drop j) := fun j => by rw [ofL_size, ofL_extract, List.take_of_length_le (Nat.le_refl _)]
    have hrest : ∀ j : Nat, j ≤ l.length → Evl (fun k => ambryref10_Text.f k (ofL (l.drop j))) ((l.drop j).all textB) := fun j hj => rtext_f _ (by rw [List.length_drop]; omega)
    refine Evl.step (fun k => by rw [ambryref10_length.l0]) ?_
    by_cases hlt : i < l.length
    · have h0 : (i : Int) < (l.length : Int) := by omega
      have hle : (i : Int) ≤ (l.length : Int) := by omega
      have hlt2 : i < (ofL l).size := by rw [ofL_size]; exact hlt
      have hb := bt_ofL l i hlt
      have hcons := List.drop_eq_getElem_cons hlt
      have stop : hexv ((l[i]'hlt).toNat : Int) < 0 → Evl (fun k => if (i : Int) = 0 then some ((0 : Int), false) else if ((l[i]'hlt).toNat : Int) = 59 then (if (i : Int) ≤ (l.length : Int) then (ambryref10_Text.f k (ofL (l.drop i))).bind fun t => if t = true then some (m, true) else some (0, false) else none) else some (0, false)) (lenR (lenAt okbS (ofL l) (l.length - i) i m)) := by
        intro hneg
        have hst := lenAt_stop (ok := okbS) (n := m) hlt2 rfl (by rw [hb]; exact hneg)
        rw [hb] at hst
        simp only [ofL_size] at hst
        rw [hst]
        by_cases hi0 : i = 0
        · have : (i : Int) = 0 := by omega
          simp only [if_pos this]
          rw [if_neg (by omega)]
          exact Evl.some _
        · have hi1 : ¬ (i : Int) = 0 := by omega
          simp only [if_neg hi1, if_pos hle]
          by_cases h59 : ((l[i]'hlt).toNat : Int) = 59
          · simp only [if_pos h59]
            refine Evl.bind (hrest i hi) ?_
            have ht : (l.drop i).all textB = okbS ((ofL l).extract (i + 1) l.length) := by
              have hex1 := hex (i + 1)
              rw [ofL_size] at hex1
              rw [hex1, okbS, toL_ofL, hcons, List.all_cons]
              rw [textB_59 (l[i]'hlt) (by omega), Bool.true_and]
            rw [ht]
            by_cases hok : okbS ((ofL l).extract (i + 1) l.length) = true
            · simp only [if_pos hok]
              rw [if_pos ⟨by omega, h59, hok⟩]
              exact Evl.some _
            · simp only [if_neg hok]
              rw [if_neg (fun h => hok h.2.2)]
              exact Evl.some _
          · simp only [if_neg h59]
            rw [if_neg (fun h => h59 h.2.1)]
            exact Evl.some _
      by_cases hi8 : i < 8
      · have hi8' : (i : Int) < 8 := by omega
        simp only [ofL_size, if_pos h0, if_pos hi8', if_pos h2, hb]
        refine Evl.bind (rhex_f (l[i]'hlt)) ?_
        by_cases hneg : hexv ((l[i]'hlt).toNat : Int) ≥ 0
        · simp only [if_pos hneg]
          refine Evl.bind (rhex_f (l[i]'hlt)) ?_
          have hr := hexv_range ((l[i]'hlt).toNat : Int)
          have hw : wrap64 ((i : Int) + 1) = ((i + 1 : Nat) : Int) := by rw [IntWalk.wrap64_in _ (by omega)]; omega
          have hw2 : wrap64 (16 * m) = 16 * m := IntWalk.wrap64_in _ (by omega)
          have hw3 : wrap64 (16 * m + hexv ((l[i]'hlt).toNat : Int)) = 16 * m + hexv ((l[i]'hlt).toNat : Int) := IntWalk.wrap64_in _ (by omega)
          simp only [hw, hw2, hw3]
          have hon := lenAt_on (ok := okbS) (n := m) hlt2 rfl (by rw [hb]; exact hneg) hi8
          rw [hb, ofL_size] at hon
          rw [hon]
          exact ih hlt hi8 _ (by omega) (by omega)
        · have hneg' : hexv ((l[i]'hlt).toNat : Int) < 0 := by omega
          have := stop hneg'
          have e1 : ∀ k : Nat, (ofL l).extract (i : Int).toNat l.length = ofL (l.drop i) := fun k => by rw [Int.toNat_natCast]; have := hex i; rw [ofL_size] at this; exact this
          simp only [if_neg hneg, e1 0]
          exact this
      · have hi8' : ¬ (i : Int) < 8 := by omega
        have e1 : (ofL l).extract (i : Int).toNat l.length = ofL (l.drop i) := by rw [Int.toNat_natCast]; have := hex i; rw [ofL_size] at this; exact this
        simp only [ofL_size, if_pos h0, if_neg hi8', if_pos h2, hb, e1]
        by_cases hneg : hexv ((l[i]'hlt).toNat : Int) < 0
        · exact stop hneg
        · have hi1 : ¬ (i : Int) = 0 := by omega
          have h59 : ¬ ((l[i]'hlt).toNat : Int) = 59 := fun e => hneg (by rw [e]; decide)
          have hlong := lenAt_long (ok := okbS) (n := m) hlt2 rfl (by rw [hb]; omega) (show 8 ≤ i by omega)
          rw [ofL_size] at hlong
          rw [hlong]
          simp only [if_neg hi1, if_neg h59]
          exact Evl.some _
    · have h0 : ¬ (i : Int) < (l.length : Int) := by omega
      have hle : (i : Int) ≤ (l.length : Int) := by omega
      have e1 : (ofL l).extract (i : Int).toNat l.length = ofL (l.drop i) := by rw [Int.toNat_natCast]; have := hex i; rw [ofL_size] at this; exact this
      have hend := lenAt_end (ok := okbS) (s := ofL l) (i := i) (n := m) (by rw [ofL_size]; exact hlt)
      rw [ofL_size] at hend
      simp only [ofL_size, if_neg h0, if_pos h2, if_pos hle, e1]
      rw [hend]
      by_cases hi0 : i = 0
      · have : (i : Int) = 0 := by omega
        simp only [if_pos this]
        rw [if_neg (by omega)]
        exact Evl.some _
      · have hi1 : ¬ (i : Int) = 0 := by omega
        simp only [if_neg hi1]
        refine Evl.bind (hrest i hi) ?_
        rw [List.drop_eq_nil_of_le (by omega), List.all_nil]
        simp only [if_true]
        rw [if_pos (by omega)]
        exact Evl.some _
theorem rlength_l0 (l : List UInt8) (hl : l.length ≤ 4611686018427387904) : ∀ (n i : Nat) (m : Int), l.length - i = n → i ≤ l.length → i ≤ 8 → 0 ≤ m → m < (16 : Int) ^ i →
    Evl (fun k => ambryref10_length.l0 k (ofL l) m (i : Int)) (lenR (lenAt okbS (ofL l) (l.length - i) i m)) := by
  intro n
  induction n with
  | zero => exact fun i m hn hi h8 hm0 hm => rlength_step l hl i m hi h8 hm0 hm (fun hlt => by omega)
  | succ n ih => exact fun i m hn hi h8 hm0 hm => rlength_step l hl i m hi h8 hm0 hm (fun hlt hi8 m' h0 h1 => ih (i + 1) m' (by omega) (by omega) (by omega) h0 (by rw [Int.pow_succ]; exact h1))
theorem rlength_f (l : List UInt8) (hl : l.length ≤ 4611686018427387904) : Evl (fun k => ambryref10_length.f k (ofL l)) (lenR (lenAt okbS (ofL l) (ofL l).size 0 0)) := by
  have h := rlength_l0 l hl _ 0 0 rfl (Nat.zero_le _) (by omega) (by omega) (by decide)
  rw [Nat.sub_zero] at h
  rw [ofL_size]
  exact h
end Go.Proofs.YtibgcbngnfaaiaaDoor.H

namespace Go.Proofs.YtibgcbngnfaaiaaDoor.H
open Go.RowKit Go.Proofs.YtibgcbngnfaaiaaDoorW.PrintWords Go.Proofs.YtibgcbngnfaaiaaDoorW.PrintLast Go.Proofs.YtibgcbngnfaaiaaDoorW.PrintMore Go.Proofs.YtibgcbngnfaaiaaDoor.PA
set_option linter.unusedVariables false
set_option linter.unusedSimpArgs false

/-- The place of the first colon. -/
def colon : List UInt8 → Option Nat
  | [] => none
  | c :: l => if c.toNat = 58 then some 0 else (colon l).map (· + 1)
theorem colon_index (l : List UInt8) : Lib.indexByte l 58 = (match colon l with | none => -1 | some i => (i : Int)) := by
  induction l with
  | nil => rfl
  | cons c l ih =>
    unfold Lib.indexByte colon
    by_cases h : c.toNat = 58
    · have hc : c = 58 := UInt8.toNat_inj.mp h
      rw [if_pos h, if_pos (by rw [hc]; rfl)]
      rfl
    · have hc : ¬ (c == 58) = true := fun e => h (by rw [beq_iff_eq.mp e]; rfl)
      rw [if_neg h, if_neg hc, ih]
      cases colon l with
      | none => rfl
      | some i =>
        simp only [Option.map_some]
        rw [if_neg (by rw [beq_iff_eq]; omega)]
        show (i : Int) + 1 = ((i + 1 : Nat) : Int)
        omega
theorem colon_lt : ∀ (l : List UInt8) (i : Nat), colon l = some i → i < l.length
  | [], i, h => by cases h
  | c :: l, i, h => by
    unfold colon at h
    split at h
    · cases h; simp
    · cases e : colon l with
      | none => rw [e] at h; cases h
      | some j =>
        rw [e] at h
        simp only [Option.map_some, Option.some.injEq] at h
        subst h
        have := colon_lt l j e
        simp; omega
/-- Is a line a field? -/
def fieldL (l : List UInt8) : Bool := match colon l with
  | none => false
  | some i => tokL (l.take i) && (trimL (l.drop (i + 1))).all textB
def okfS (s : ByteArray) : Bool := fieldL (toL s)

theorem dropWhile_le (p : UInt8 → Bool) : ∀ l : List UInt8, (l.dropWhile p).length ≤ l.length
  | [] => Nat.le_refl _
  | c :: l => by
    rw [List.dropWhile_cons]
    split
    · exact Nat.le_succ_of_le (dropWhile_le p l)
    · exact Nat.le_refl _
theorem trimL_le (l : List UInt8) : (trimL l).length ≤ l.length := by
  unfold trimL rtrim
  rw [List.length_reverse]
  refine Nat.le_trans (dropWhile_le _ _) ?_
  rw [List.length_reverse]
  exact dropWhile_le _ _

theorem parse_one (l : List UInt8) (hl : l.length ≤ 4611686018427387904) : ∃ v, Evl (fun k => head_Parse.f k [ofL l]) v ∧ (v.2 == 0) = fieldL l := by
  have hcut : strings_Cut.f (ofL l) (⟨#[58]⟩ : ByteArray) = some (match colon l with | none => (ofL l, ofL [], false) | some i => (ofL (l.take i), ofL (l.drop (i + 1)), true)) := by
    unfold strings_Cut.f cutS
    show (if (ofL l).size ≤ 9223372036854775807 then (if Lib.indexByte (ofL l).data.toList 58 < 0 then some (ofL l, (⟨#[]⟩ : ByteArray), false) else some ((ofL l).extract 0 (Lib.indexByte (ofL l).data.toList 58).toNat, (ofL l).extract ((Lib.indexByte (ofL l).data.toList 58).toNat + 1) (ofL l).size, true)) else none) = _
    rw [if_pos (by rw [ofL_size]; omega), show (ofL l).data.toList = l from toL_ofL l, colon_index l]
    cases h : colon l with
    | none =>
      simp only []
      rw [if_pos (by omega)]
      rfl
    | some i =>
      have hi := colon_lt l i h
      simp only []
      rw [if_neg (by omega), ofL_extract, ofL_extract, ofL_size, Int.toNat_natCast, List.drop_zero, List.take_of_length_le (Nat.le_refl _)]
  have hstep : ∀ v, Evl (fun k => (strings_Cut.f (ofL l) (⟨#[58]⟩ : ByteArray)).bind fun bt113 => ((head_trim.f k bt113.2.1).bind fun t116 => (if bt113.2.2 = true then ((head_Token.f k bt113.1).bind fun t117 => (if t117 = true then ((head_Value.f k t116).bind fun t118 => (if t118 = true then (if ([] : List S103).length < 4398046511104 then (head_Parse.l0 k (([] : List S103) ++ [(⟨bt113.1, t116⟩ : S103)]) [ofL l] 1 1) else (none)) else (some (([] : List (S103)), 90)))) else (some (([] : List (S103)), 90)))) else (some (([] : List (S103)), 90))))) v → Evl (fun k => head_Parse.f k [ofL l]) v := by
    intro v h
    refine Evl.step (g := fun k => _) (fun k => ?_) h
    show head_Parse.l0 (k + 1) [] [ofL l] 1 0 = _
    rw [head_Parse.l0, if_pos (by decide), if_pos (by decide), if_pos (by simp), show wrap64 (0 + 1) = 1 from IntWalk.wrap64_in 1 (by omega)]
    rfl
  rw [hcut] at hstep
  simp only [Option.bind_some] at hstep
  unfold fieldL
  cases h : colon l with
  | none =>
    simp only [h] at hstep
    refine ⟨_, hstep _ (Evl.bind (trim_f [] (by simp)) (v := (([] : List S103), 90)) ?_), rfl⟩
    simp only [Bool.false_eq_true, if_false]
    exact Evl.some _
  | some i =>
    have hi := colon_lt l i h
    simp only [h, if_true] at hstep
    have htk := token_f (l.take i) (by rw [List.length_take]; omega)
    have htr := trim_f (l.drop (i + 1)) (by rw [List.length_drop]; omega)
    have hva := value_f (trimL (l.drop (i + 1))) (by have := trimL_le (l.drop (i + 1)); rw [List.length_drop] at this; omega)
    rw [trimL_trimL, beq_self_eq_true, Bool.and_true] at hva
    simp only []
    by_cases h1 : tokL (l.take i) = true
    · rw [h1, Bool.true_and]
      rw [h1] at htk
      by_cases h2 : (trimL (l.drop (i + 1))).all textB = true
      · rw [h2] at hva ⊢
        refine ⟨_, hstep _ (Evl.bind htr (v := ([(⟨ofL (l.take i), ofL (trimL (l.drop (i + 1)))⟩ : S103)], 0)) (Evl.bind htk ?_)), rfl⟩
        simp only [if_true]
        refine Evl.bind hva ?_
        simp only [if_true]
        refine Evl.step (g := fun k => some ([(⟨ofL (l.take i), ofL (trimL (l.drop (i + 1)))⟩ : S103)], 0)) (fun k => ?_) (Evl.some _)
        rw [head_Parse.l0]
        rfl
      · have h2' : (trimL (l.drop (i + 1))).all textB = false := by simpa using h2
        rw [h2'] at hva ⊢
        refine ⟨_, hstep _ (Evl.bind htr (v := (([] : List S103), 90)) (Evl.bind htk ?_)), rfl⟩
        simp only [if_true]
        refine Evl.bind hva ?_
        simp only [Bool.false_eq_true, if_false]
        exact Evl.some _
    · have h1' : tokL (l.take i) = false := by simpa using h1
      rw [h1'] at htk ⊢
      refine ⟨_, hstep _ (Evl.bind htr (v := (([] : List S103), 90)) (Evl.bind htk ?_)), rfl⟩
      simp only [Bool.false_eq_true, if_false]
      exact Evl.some _
theorem fieldOk_okf : FieldOk okfS := by
  intro s A c W hr hc hs
  obtain ⟨⟨r1, r2⟩, ⟨K, hK⟩, hv⟩ := parse_one (toL s) (by rw [toL_length]; omega)
  rw [ofL_toL] at hK
  have h := head_Parse.calls K A c [s] r1 r2 W (Kd.C_of_reads (h1 := fun _ => rfl) hr) hc (hK K (Nat.le_refl _))
  refine h.mono ?_
  rintro e W' ⟨v, rfl, _, hb⟩
  exact ⟨v, r2, rfl, ⟨hv⟩, hb⟩

/-! ### the reference's Parse -/
theorem colon_split (l : List UInt8) (i : Nat) (hi : i < l.length) (hno : ∀ j, j < i → ∀ h : j < l.length, ¬ (l[j]'h).toNat = 58) : colon l = (colon (l.drop i)).map (· + i) := by
  induction i generalizing l with
  | zero => rw [List.drop_zero]; cases colon l <;> rfl
  | succ i ih =>
    cases l with
    | nil => simp at hi
    | cons c l =>
      have h0 := hno 0 (by omega) (by simp)
      rw [List.getElem_cons_zero] at h0
      rw [colon, if_neg h0, List.drop_succ_cons, ih l (by simpa using hi) (fun j hj h => by
        have := hno (j + 1) (by omega) (by simpa using h)
        rwa [List.getElem_cons_succ] at this)]
      cases colon (l.drop i) with
      | none => rfl
      | some q => simp [Nat.add_assoc]
def rfin (L : List ByteArray) (out : List S103) (x5 : Int) (l : List UInt8) (v : List S103 × Int) : Prop :=
  match colon l with
  | none => v = ([], 90)
  | some i => if (tokL (l.take i) && (trimL (l.drop (i + 1))).all textB) = true then Evl (fun k => ambryref10_Parse.l0 k L (out ++ [(⟨ofL (l.take i), ofL (trimL (l.drop (i + 1)))⟩ : S103)]) (wrap64 (x5 + 1))) v else v = ([], 90)
theorem rparse_j2 (L : List ByteArray) (out : List S103) (x5 : Int) (l : List UInt8) (hl : l.length ≤ 4611686018427387904) (ho : out.length < 4398046511104) (v : List S103 × Int) (hv : rfin L out x5 l v) (q : Nat) (hq : q = (match colon l with | none => l.length | some i => i)) :
    Evl (fun k => ambryref10_Parse.j2 k L out x5 (ofL l) (q : Int)) v := by
  refine Evl.step (fun k => by rw [ambryref10_Parse.j2]) ?_
  unfold rfin at hv
  cases h : colon l with
  | none =>
    rw [h] at hq hv
    simp only [] at hq hv
    subst hq
    subst hv
    simp only [ofL_size, if_true]
    exact Evl.some _
  | some i =>
    rw [h] at hq hv
    simp only [] at hq hv
    subst hq
    have hi := colon_lt l q h
    have h0 : ¬ (q : Int) = (l.length : Int) := by omega
    have h1 : (0 : Int) ≤ (q : Int) := by omega
    have h2 : (q : Int) ≤ (l.length : Int) := by omega
    have hw : wrap64 ((q : Int) + 1) = ((q + 1 : Nat) : Int) := by rw [IntWalk.wrap64_in _ (by omega)]; omega
    have h3 : (0 : Int) ≤ ((q + 1 : Nat) : Int) := by omega
    have h4 : ((q + 1 : Nat) : Int) ≤ (l.length : Int) := by omega
    have e1 : (ofL l).extract 0 (q : Int).toNat = ofL (l.take q) := by rw [ofL_extract, Int.toNat_natCast, List.drop_zero]
    have e2 : (ofL l).extract (((q + 1 : Nat) : Int)).toNat l.length = ofL (l.drop (q + 1)) := by rw [ofL_extract, Int.toNat_natCast, List.take_of_length_le (Nat.le_refl _)]
    simp only [ofL_size, if_neg h0, if_pos h1, if_pos h2, hw, if_pos h3, if_pos h4, e1, e2, if_pos ho]
    have htk := rtoken_f (l.take q) (by rw [List.length_take]; omega)
    have htr := rtrim_f (l.drop (q + 1)) (by rw [List.length_drop]; omega)
    have hva := rvalue_f (trimL (l.drop (q + 1))) (by have := trimL_le (l.drop (q + 1)); rw [List.length_drop] at this; omega)
    rw [trimL_trimL, beq_self_eq_true, Bool.and_true] at hva
    refine Evl.bind htk ?_
    by_cases h5 : tokL (l.take q) = true
    · simp only [h5, Bool.true_and] at hv ⊢
      simp only [if_true]
      refine Evl.bind htr (Evl.bind hva ?_)
      by_cases h6 : (trimL (l.drop (q + 1))).all textB = true
      · rw [if_pos h6] at hv
        simp only [h6, if_true]
        exact Evl.bind htr hv
      · rw [if_neg h6] at hv
        simp only [if_neg h6]
        subst hv
        exact Evl.some _
    · have h5' : tokL (l.take q) = false := by simpa using h5
      simp only [h5', Bool.false_and, Bool.false_eq_true, if_false] at hv ⊢
      subst hv
      exact Evl.some _
theorem rparse_l1 (L : List ByteArray) (out : List S103) (x5 : Int) (l : List UInt8) (hl : l.length ≤ 4611686018427387904) (ho : out.length < 4398046511104) (v : List S103 × Int) (hv : rfin L out x5 l v) :
    ∀ (n i : Nat), l.length - i = n → i ≤ l.length → (∀ j, j < i → ∀ h : j < l.length, ¬ (l[j]'h).toNat = 58) → Evl (fun k => ambryref10_Parse.l1 k L out x5 (ofL l) (i : Int)) v := by
  intro n
  induction n with
  | zero =>
    intro i hn hi hno
    refine Evl.step (fun k => by rw [ambryref10_Parse.l1]) ?_
    have h0 : ¬ ((i : Int) < (l.length : Int)) := by omega
    simp only [ofL_size, if_neg h0]
    refine rparse_j2 L out x5 l hl ho v hv i ?_
    cases h : colon l with
    | none => simp only []; omega
    | some q =>
      exfalso
      have hq := colon_lt l q h
      have hc : ∀ (l : List UInt8) (q : Nat), colon l = some q → ∃ h : q < l.length, (l[q]'h).toNat = 58 := by
        intro l
        induction l with
        | nil => intro q h; cases h
        | cons c l ih =>
          intro q h
          unfold colon at h
          split at h
          · cases h; exact ⟨by simp, by simpa using by assumption⟩
          · cases e : colon l with
            | none => rw [e] at h; cases h
            | some j =>
              rw [e] at h
              simp only [Option.map_some, Option.some.injEq] at h
              subst h
              obtain ⟨h1, h2⟩ := ih j e
              exact ⟨by simpa using h1, by simpa using h2⟩
      obtain ⟨h1, h2⟩ := hc l q h
      exact hno q (by omega) h1 h2
  | succ n ih =>
    intro i hn hi hno
    have h1 : i < l.length := by omega
    have h0 : (i : Int) < (l.length : Int) := by omega
    have h2 : (0 : Int) ≤ (i : Int) := by omega
    have hw : wrap64 ((i : Int) + 1) = ((i + 1 : Nat) : Int) := by rw [IntWalk.wrap64_in _ (by omega)]; omega
    refine Evl.step (fun k => by rw [ambryref10_Parse.l1]) ?_
    simp only [ofL_size, if_pos h0, if_pos h2, bt_ofL l i h1, hw]
    by_cases h58 : (l[i]'h1).toNat = 58
    · have h58' : ((l[i]'h1).toNat : Int) = 58 := by omega
      simp only [if_pos h58']
      refine rparse_j2 L out x5 l hl ho v hv i ?_
      have hs := colon_split l i h1 hno
      rw [List.drop_eq_getElem_cons h1, colon, if_pos h58] at hs
      rw [hs]
      simp
    · have h58' : ¬ ((l[i]'h1).toNat : Int) = 58 := by omega
      simp only [if_neg h58']
      refine ih (i + 1) (by omega) (by omega) (fun j hj h => ?_)
      by_cases hji : j = i
      · subst hji; exact h58
      · exact hno j (by omega) h
theorem rparse_l0 (L : List ByteArray) (hL : L.length ≤ 100) (hs : ∀ s ∈ L, s.size ≤ 4611686018427387904) : ∀ (n i : Nat) (out : List S103), L.length - i = n → i ≤ L.length → out.length ≤ i →
    ∃ v, Evl (fun k => ambryref10_Parse.l0 k L out (i : Int)) v ∧ (v.2 = 0 ↔ (L.drop i).all okfS = true) := by
  intro n
  induction n with
  | zero =>
    intro i out hn hi ho
    have h0 : ¬ ((i : Int) < (L.length : Int)) := by omega
    refine ⟨(out, 0), Evl.step (fun k => by rw [ambryref10_Parse.l0]) ?_, ?_⟩
    · simp only [if_neg h0]
      exact Evl.some _
    · rw [List.drop_eq_nil_of_le (by omega)]; simp
  | succ n ih =>
    intro i out hn hi ho
    have h1 : i < L.length := by omega
    have h0 : (i : Int) < (L.length : Int) := by omega
    have h2 : (0 : Int) ≤ (i : Int) := by omega
    have hw : wrap64 ((i : Int) + 1) = ((i + 1 : Nat) : Int) := by rw [IntWalk.wrap64_in _ (by omega)]; omega
    have hrd : rdOf ByteArray.empty L (i : Int) = L[i]'h1 := by simp [rdOf, List.getD_eq_getElem?_getD, List.getElem?_eq_getElem h1]
    have hsz := hs _ (List.getElem_mem h1)
    obtain ⟨l, hl⟩ : ∃ l, L[i]'h1 = ofL l := ⟨toL (L[i]'h1), (ofL_toL _).symm⟩
    rw [hl, ofL_size] at hsz
    have hgo : ∀ v, rfin L out (i : Int) l v → Evl (fun k => ambryref10_Parse.l0 k L out (i : Int)) v := by
      intro v hv
      refine Evl.step (fun k => by rw [ambryref10_Parse.l0]) ?_
      simp only [if_pos h0, if_pos h2, hrd, hl]
      exact rparse_l1 L out (i : Int) l hsz (by omega) v hv l.length 0 (by omega) (Nat.zero_le _) (fun j hj => by omega)
    rw [List.drop_eq_getElem_cons h1, List.all_cons, hl, show okfS (ofL l) = fieldL l from by unfold okfS; rw [toL_ofL]]
    have hf : fieldL l = (match colon l with | none => false | some i => tokL (l.take i) && (trimL (l.drop (i + 1))).all textB) := rfl
    cases h : colon l with
    | none =>
      rw [h] at hf
      refine ⟨([], 90), hgo _ (by unfold rfin; rw [h]), ?_⟩
      rw [hf]; simp
    | some q =>
      rw [h] at hf
      simp only [] at hf
      by_cases hok : (tokL (l.take q) && (trimL (l.drop (q + 1))).all textB) = true
      · obtain ⟨v, hv, hiff⟩ := ih (i + 1) (out ++ [(⟨ofL (l.take q), ofL (trimL (l.drop (q + 1)))⟩ : S103)]) (by omega) (by omega) (by simp; omega)
        refine ⟨v, hgo v ?_, ?_⟩
        · unfold rfin
          rw [h]
          simp only []
          rw [if_pos hok, hw]
          exact hv
        · rw [hf, hok, Bool.true_and]; exact hiff
      · refine ⟨([], 90), hgo _ ?_, ?_⟩
        · unfold rfin
          rw [h]
          simp only []
          rw [if_neg hok]
          trivial
        · rw [hf]
          have : (tokL (l.take q) && (trimL (l.drop (q + 1))).all textB) = false := by simpa using hok
          rw [this]; simp
theorem rparse_f (L : List ByteArray) (hs : ∀ s ∈ L, s.size ≤ 4611686018427387904) : ∃ v, Evl (fun k => ambryref10_Parse.f k L) v ∧ (v.2 = 0 ↔ L.length ≤ 100 ∧ L.all okfS = true) := by
  by_cases hL : L.length ≤ 100
  · obtain ⟨v, hv, hiff⟩ := rparse_l0 L hL hs _ 0 [] rfl (Nat.zero_le _) (Nat.le_refl _)
    refine ⟨v, Evl.eq (fun k => ?_) hv, ?_⟩
    · unfold ambryref10_Parse.f
      rw [if_neg (by omega)]
      rfl
    · rw [List.drop_zero] at hiff
      exact hiff.trans ⟨fun h => ⟨hL, h⟩, fun h => h.2⟩
  · refine ⟨([], 91), Evl.eq (g := fun _ => some ([], 91)) (fun k => ?_) (Evl.some _), ?_⟩
    · unfold ambryref10_Parse.f
      rw [if_pos (by omega)]
    · simp; omega

/-! ### chunk.bytesOf -/
theorem value_x (l : List UInt8) (hl : l.length ≤ 4611686018427387904) : Evl (fun k => head_Value.f k (ofL (120 :: l ++ [120]))) (l.all textB) := by
  have h := value_f (120 :: l ++ [120]) (by simp; omega)
  have ht : trimL (120 :: l ++ [120]) = 120 :: l ++ [120] := by
    refine trimL_id _ ⟨fun c hc => ?_, fun c hc => ?_⟩
    · simp only [List.cons_append, List.head?_cons, Option.some.injEq] at hc; subst hc; rfl
    · rw [List.getLast?_append] at hc; simp at hc; subst hc; rfl
  rw [ht, beq_self_eq_true, Bool.and_true] at h
  have hx : (120 :: l ++ [120]).all textB = l.all textB := by
    rw [List.all_append, List.all_cons]
    have : textB 120 = true := rfl
    simp [this]
  rw [hx] at h
  exact h
set_option maxHeartbeats 1000000 in
theorem bytesOk_okb : BytesOk okbS := by
  intro t W ht
  obtain ⟨K, hK⟩ := value_x (toL t) (by rw [toL_length]; omega)
  have hk := hK K (Nat.le_refl _)
  have he : ofL (120 :: toL t ++ [120]) = (⟨#[120]⟩ : ByteArray) ++ t ++ (⟨#[120]⟩ : ByteArray) := by
    rw [← ofL_toL ((⟨#[120]⟩ : ByteArray) ++ t ++ (⟨#[120]⟩ : ByteArray))]
    refine congrArg ofL ?_
    simp [toL]
  rw [he] at hk
  have HK := Aside0.mk hk
  have hs1 : ((⟨#[120]⟩ : ByteArray) ++ t).size = 1 + t.size := by rw [ByteArray.size_append]; rfl
  clear hk he hK
  go_enter Tryd.func92, Tryd.ntmps92
  go_wp2_with (go_at_call 104; ((with_reducible refine (head_Value.calls K _ _ _ HK.out).mono ?_); rintro e w1 ⟨rfl, hd⟩))
  go_ret
  exact ⟨rfl, hd⟩
end Go.Proofs.YtibgcbngnfaaiaaDoor.H
