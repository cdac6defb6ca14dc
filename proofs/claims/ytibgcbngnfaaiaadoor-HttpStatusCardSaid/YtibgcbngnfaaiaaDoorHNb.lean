/- What head's and the reference's printed functions on texts come to, as plain functions on lists of bytes. · What Text, Value and Token come to. · What Token, hex, length come to. · What Parse comes to; bytesOf and Parse as chunk.Open wants them. · The reference's Chunks tells what chunk.Open tells. -/
import Derived.Test.YtibgcbngnfaaiaaDoorPAx5
import Derived.Test.YtibgcbngnfaaiaaDoorPAx11
import Derived.Test.YtibgcbngnfaaiaaDoorHNa
import Derived.Test.YtibgcbngnfaaiaaDoorHNh
import Derived.Test.YtibgcbngnfaaiaaDoorPAx10
namespace Go.Proofs.YtibgcbngnfaaiaaDoor.H
open Go.RowKit Go.Proofs.YtibgcbngnfaaiaaDoorW.PrintWords Go.Proofs.YtibgcbngnfaaiaaDoorW.PrintLast Go.Proofs.YtibgcbngnfaaiaaDoorW.PrintMore Go.Proofs.YtibgcbngnfaaiaaDoor.PA
set_option linter.unusedVariables false
set_option linter.unusedSimpArgs false

/-- From some fuel on. -/
def Evl {α : Type} (f : Nat → Option α) (v : α) : Prop := ∃ K, ∀ k, K ≤ k → f k = some v
theorem Evl.some {α : Type} (v : α) : Evl (fun _ => Option.some v) v := ⟨0, fun _ _ => rfl⟩
theorem Evl.step {α : Type} {f g : Nat → Option α} {v : α} (h : ∀ k, f (k + 1) = g k) (hg : Evl g v) : Evl f v := by
  obtain ⟨K, hK⟩ := hg
  refine ⟨K + 1, fun k hk => ?_⟩
  obtain ⟨j, rfl⟩ : ∃ j, k = j + 1 := ⟨k - 1, by omega⟩
  rw [h]
  exact hK j (by omega)
theorem Evl.bind {α β : Type} {g : Nat → Option α} {h : Nat → α → Option β} {a : α} {v : β} (hg : Evl g a) (hh : Evl (fun k => h k a) v) : Evl (fun k => (g k).bind (h k)) v := by
  obtain ⟨K1, h1⟩ := hg
  obtain ⟨K2, h2⟩ := hh
  refine ⟨K1 + K2, fun k hk => ?_⟩
  show (g k).bind (h k) = _
  rw [h1 k (by omega)]
  exact h2 k (by omega)
theorem Evl.eq {α : Type} {f g : Nat → Option α} {v : α} (h : ∀ k, f k = g k) (hg : Evl g v) : Evl f v := by
  obtain ⟨K, hK⟩ := hg
  exact ⟨K, fun k hk => (h k).trans (hK k hk)⟩

/-- A text as a list of bytes. -/
def toL (s : ByteArray) : List UInt8 := s.data.toList
def ofL (l : List UInt8) : ByteArray := ⟨l.toArray⟩
theorem toL_ofL (l : List UInt8) : toL (ofL l) = l := by simp [toL, ofL]
theorem ofL_toL (s : ByteArray) : ofL (toL s) = s := by simp [toL, ofL]
theorem ofL_toList (l : List UInt8) : (ofL l).toList = l := by simp [ofL]
theorem ofL_size (l : List UInt8) : (ofL l).size = l.length := by simp [ofL, ByteArray.size]
theorem toL_length (s : ByteArray) : (toL s).length = s.size := data_length s
theorem ofL_extract (l : List UInt8) (a b : Nat) : (ofL l).extract a b = ofL ((l.take b).drop a) := by
  have h : ((ofL l).extract a b).data.toList = (l.take b).drop a := by simp [Lib.extract_data, ofL, List.drop_take]
  rw [← ofL_toL ((ofL l).extract a b)]
  exact congrArg ofL h
theorem bt_ofL (l : List UInt8) (i : Nat) (h : i < l.length) : bt (ofL l) (i : Int) = ((l[i]'h).toNat : Int) := by
  have h2 : (i : Int).toNat < (ofL l).size := by rw [ofL_size]; exact h
  unfold bt
  rw [dif_pos h2]
  rfl
theorem bt_head (c : UInt8) (l : List UInt8) : bt (ofL (c :: l)) 0 = (c.toNat : Int) := bt_ofL (c :: l) 0 (by simp)
theorem bt_last (l : List UInt8) (c : UInt8) : bt (ofL (l ++ [c])) (l.length : Int) = (c.toNat : Int) := by
  rw [bt_ofL (l ++ [c]) l.length (by simp)]; simp

def blankB (c : UInt8) : Bool := c.toNat == 32 || c.toNat == 9
theorem blank_f (c : UInt8) : head_blank.f (c.toNat : Int) = some (blankB c) := by
  unfold head_blank.f blankB
  by_cases h : c.toNat = 32
  · rw [if_pos (by omega)]; simp [h]
  · rw [if_neg (by omega)]
    by_cases h2 : c.toNat = 9
    · simp [h, h2]
    · have h3 : ¬ (c.toNat : Int) = 9 := by omega
      have h4 : ((c.toNat : Int) == 9) = false := beq_eq_false_iff_ne.mpr h3
      simp [h, h2, h4]
def rtrim (l : List UInt8) : List UInt8 := (l.reverse.dropWhile blankB).reverse
def trimL (l : List UInt8) : List UInt8 := rtrim (l.dropWhile blankB)
theorem rtrim_snoc (l : List UInt8) (c : UInt8) : rtrim (l ++ [c]) = if blankB c = true then rtrim l else l ++ [c] := by
  unfold rtrim
  rw [List.reverse_append, List.reverse_singleton, List.singleton_append, List.dropWhile_cons]
  split <;> simp
theorem trim_l1 : ∀ (n : Nat) (l : List UInt8), l.length = n → n ≤ 9223372036854775807 → Evl (fun k => head_trim.l1 k (ofL l)) (ofL (rtrim l))
  | 0, l, h, _ => by
    obtain rfl : l = [] := List.eq_nil_of_length_eq_zero h
    refine Evl.step (fun k => by rw [head_trim.l1]) ?_
    simp only [ofL_toList]
    exact Evl.some _
  | n + 1, l, h, hn => by
    obtain ⟨l', c, rfl⟩ : ∃ l' c, l = l' ++ [c] := by
      rcases List.eq_nil_or_concat l with rfl | ⟨l', c, rfl⟩
      · cases h
      · exact ⟨l', c, by simp⟩
    have hl : l'.length = n := by simpa using h
    have hlc : (l' ++ [c]).length = l'.length + 1 := by simp
    have hw : wrap64 (((l' ++ [c]).length : Int) - 1) = (l'.length : Int) := by rw [IntWalk.wrap64_in _ (by omega)]; omega
    refine Evl.step (fun k => by rw [head_trim.l1]) ?_
    simp only [hw, ofL_toList, ofL_size, bt_last, blank_f, Option.bind_some]
    have h1 : ¬ (l' ++ [c]) = [] := by simp
    have h2 : (0 : Int) ≤ (l'.length : Int) := by omega
    have h3 : (l'.length : Int) < ((l' ++ [c]).length : Int) := by omega
    simp only [if_neg h1, if_pos h2, if_pos h3, if_pos (Int.le_of_lt h3)]
    rw [rtrim_snoc]
    by_cases hb : blankB c = true
    · simp only [if_pos hb]
      have h4 : (ofL (l' ++ [c])).extract 0 (l'.length : Int).toNat = ofL l' := by rw [ofL_extract]; simp
      simp only [h4]
      exact trim_l1 n l' hl (by omega)
    · simp only [if_neg hb]
      exact Evl.some _
theorem trim_l0 : ∀ (l : List UInt8), l.length ≤ 9223372036854775807 → Evl (fun k => head_trim.l0 k (ofL l)) (ofL (trimL l))
  | [], _ => by
    refine Evl.step (fun k => by rw [head_trim.l0]) (Evl.eq (g := fun k => head_trim.j1 k (ofL [])) (fun k => by simp only [ofL_toList, if_pos]) ?_)
    refine Evl.step (fun k => by rw [head_trim.j1]) (trim_l1 0 [] rfl (by omega))
  | c :: l, h => by
    have h' : l.length + 1 ≤ 9223372036854775807 := h
    refine Evl.step (fun k => by rw [head_trim.l0]) ?_
    have h1 : ¬ (c :: l) = [] := by simp
    have h2 : (0 : Int) < ((c :: l).length : Int) := by simp
    have h3 : (1 : Int) ≤ ((c :: l).length : Int) := by simp; omega
    simp only [ofL_toList, ofL_size, bt_head, blank_f, Option.bind_some, if_neg h1, if_pos h2, if_pos h3]
    unfold trimL
    rw [List.dropWhile_cons]
    by_cases hb : blankB c = true
    · simp only [if_pos hb]
      have h4 : (ofL (c :: l)).extract 1 (c :: l).length = ofL l := by rw [ofL_extract]; simp
      simp only [h4]
      exact trim_l0 l (by omega)
    · simp only [if_neg hb]
      exact Evl.step (fun k => by rw [head_trim.j1]) (trim_l1 _ (c :: l) rfl h)
theorem trim_f (l : List UInt8) (h : l.length ≤ 9223372036854775807) : Evl (fun k => head_trim.f k (ofL l)) (ofL (trimL l)) := trim_l0 l h

end Go.Proofs.YtibgcbngnfaaiaaDoor.H

namespace Go.Proofs.YtibgcbngnfaaiaaDoor.H
open Go.RowKit Go.Proofs.YtibgcbngnfaaiaaDoorW.PrintWords Go.Proofs.YtibgcbngnfaaiaaDoorW.PrintLast Go.Proofs.YtibgcbngnfaaiaaDoorW.PrintMore Go.Proofs.YtibgcbngnfaaiaaDoor.PA
set_option linter.unusedVariables false
set_option linter.unusedSimpArgs false

def textB (c : UInt8) : Bool := !((decide (c.toNat < 32) && c.toNat != 9) || c.toNat == 127)
theorem textB_ite {α : Type} (c : UInt8) (a b : α) : (if (c.toNat : Int) < 32 then (if (c.toNat : Int) = 9 then (if (c.toNat : Int) = 127 then a else b) else a) else (if (c.toNat : Int) = 127 then a else b)) = if textB c = true then b else a := by
  unfold textB
  by_cases h1 : c.toNat < 32
  · rw [if_pos (by omega)]
    by_cases h2 : c.toNat = 9
    · rw [if_pos (by omega), if_neg (by omega)]; simp [h1, h2]
    · rw [if_neg (by omega)]; simp [h1, h2]
  · rw [if_neg (by omega)]
    by_cases h2 : c.toNat = 127
    · rw [if_pos (by omega)]; simp [h1, h2]
    · rw [if_neg (by omega)]; simp [h1, h2]
theorem rtext_l0 (l : List UInt8) (hl : l.length ≤ 9223372036854775807) : ∀ (n i : Nat), l.length - i = n → i ≤ l.length → Evl (fun k => ambryref10_Text.l0 k (ofL l) (i : Int)) ((l.drop i).all textB)
  | 0, i, hn, hi => by
    refine Evl.step (fun k => by rw [ambryref10_Text.l0]) ?_
    have h0 : ¬ ((i : Int) < (l.length : Int)) := by omega
    simp only [ofL_size, if_neg h0]
    rw [List.drop_eq_nil_of_le (by omega)]
    exact Evl.some _
  | n + 1, i, hn, hi => by
    have h1 : i < l.length := by omega
    have h0 : (i : Int) < (l.length : Int) := by omega
    have h2 : (0 : Int) ≤ (i : Int) := by omega
    have hw : wrap64 ((i : Int) + 1) = ((i + 1 : Nat) : Int) := by rw [IntWalk.wrap64_in _ (by omega)]; omega
    refine Evl.step (fun k => by rw [ambryref10_Text.l0]) ?_
    simp only [ofL_size, if_pos h0, if_pos h2, bt_ofL l i h1, textB_ite, hw]
    rw [List.drop_eq_getElem_cons h1, List.all_cons]
    by_cases hb : textB (l[i]'h1) = true
    · simp only [if_pos hb, hb, Bool.true_and]
      exact rtext_l0 l hl n (i + 1) (by omega) (by omega)
    · have hb' : textB (l[i]'h1) = false := by simpa using hb
      simp only [if_neg hb, hb', Bool.false_and]
      exact Evl.some _
theorem rtext_f (l : List UInt8) (hl : l.length ≤ 9223372036854775807) : Evl (fun k => ambryref10_Text.f k (ofL l)) (l.all textB) := by
  have h := rtext_l0 l hl _ 0 rfl (Nat.zero_le _)
  rw [List.drop_zero] at h
  exact h
theorem value_l0 (l : List UInt8) (hl : l.length ≤ 9223372036854775807) : ∀ (n i : Nat), l.length - i = n → i ≤ l.length → Evl (fun k => head_Value.l0 k (ofL l) (l.length : Int) (i : Int)) ((l.drop i).all textB && (trimL l == l))
  | 0, i, hn, hi => by
    refine Evl.step (fun k => by rw [head_Value.l0]) ?_
    have h0 : ¬ ((i : Int) < (l.length : Int)) := by omega
    simp only [ofL_size, if_neg h0]
    rw [List.drop_eq_nil_of_le (by omega)]
    refine Evl.bind (trim_f l hl) ?_
    simp only [ofL_toList, List.all_nil, Bool.true_and]
    exact Evl.some _
  | n + 1, i, hn, hi => by
    have h1 : i < l.length := by omega
    have h0 : (i : Int) < (l.length : Int) := by omega
    have h2 : (0 : Int) ≤ (i : Int) := by omega
    have hw : wrap64 ((i : Int) + 1) = ((i + 1 : Nat) : Int) := by rw [IntWalk.wrap64_in _ (by omega)]; omega
    refine Evl.step (fun k => by rw [head_Value.l0]) ?_
    simp only [ofL_size, if_pos h0, if_pos h2, bt_ofL l i h1, textB_ite, hw]
    rw [List.drop_eq_getElem_cons h1, List.all_cons]
    by_cases hb : textB (l[i]'h1) = true
    · simp only [if_pos hb, hb, Bool.true_and]
      exact value_l0 l hl n (i + 1) (by omega) (by omega)
    · have hb' : textB (l[i]'h1) = false := by simpa using hb
      simp only [if_neg hb, hb', Bool.false_and]
      exact Evl.some _
theorem value_f (l : List UInt8) (hl : l.length ≤ 9223372036854775807) : Evl (fun k => head_Value.f k (ofL l)) (l.all textB && (trimL l == l)) := by
  have h := value_l0 l hl _ 0 rfl (Nat.zero_le _)
  rw [List.drop_zero] at h
  refine Evl.eq (fun k => ?_) h
  unfold head_Value.f
  rw [ofL_size]
  rfl
/-- A trimmed text is trimmed. -/
theorem dropWhile_id {p : UInt8 → Bool} : ∀ (l : List UInt8), (∀ c, l.head? = some c → p c = false) → l.dropWhile p = l
  | [], _ => rfl
  | c :: l, h => by rw [List.dropWhile_cons, if_neg (by rw [h c rfl]; decide)]
theorem head_dropWhile {p : UInt8 → Bool} : ∀ (l : List UInt8) (c : UInt8), (l.dropWhile p).head? = some c → p c = false
  | [], c, h => by cases h
  | d :: l, c, h => by
    rw [List.dropWhile_cons] at h
    by_cases hd : p d = true
    · rw [if_pos hd] at h; exact head_dropWhile l c h
    · rw [if_neg hd] at h
      simp only [List.head?_cons, Option.some.injEq] at h
      subst h
      simpa using hd
def endsB (l : List UInt8) : Prop := (∀ c, l.head? = some c → blankB c = false) ∧ (∀ c, l.getLast? = some c → blankB c = false)
theorem rtrim_last (l : List UInt8) (c : UInt8) (h : (rtrim l).getLast? = some c) : blankB c = false := by
  unfold rtrim at h
  rw [List.getLast?_reverse] at h
  exact head_dropWhile _ _ h
theorem rtrim_id (l : List UInt8) (h : ∀ c, l.getLast? = some c → blankB c = false) : rtrim l = l := by
  unfold rtrim
  rw [dropWhile_id l.reverse (fun c hc => h c (by rw [List.head?_reverse] at hc; exact hc)), List.reverse_reverse]
theorem rtrim_head (l : List UInt8) (h : ∀ c, l.head? = some c → blankB c = false) (c : UInt8) (hc : (rtrim l).head? = some c) : blankB c = false := by
  unfold rtrim at hc
  rw [List.head?_reverse] at hc
  cases l with
  | nil => cases hc
  | cons d l =>
    have hd := h d rfl
    have h1 : (List.dropWhile blankB (d :: l).reverse).getLast? = some d := by
      rw [List.reverse_cons]
      generalize l.reverse = m
      induction m with
      | nil => rw [List.nil_append, List.dropWhile_cons, if_neg (by rw [hd]; decide)]; rfl
      | cons x m ih =>
        rw [List.cons_append, List.dropWhile_cons]
        split
        · exact ih
        · rw [← List.cons_append, List.getLast?_append]; rfl
    rw [h1] at hc
    simp only [Option.some.injEq] at hc
    subst hc
    exact hd
theorem trimL_ends (l : List UInt8) : endsB (trimL l) := by
  unfold trimL
  exact ⟨fun c hc => rtrim_head _ (fun d hd => head_dropWhile _ _ hd) c hc, fun c hc => rtrim_last _ _ hc⟩
theorem trimL_id (l : List UInt8) (h : endsB l) : trimL l = l := by
  unfold trimL
  rw [dropWhile_id l h.1, rtrim_id l h.2]
theorem trimL_trimL (l : List UInt8) : trimL (trimL l) = trimL l := trimL_id _ (trimL_ends l)
/-! ### Token -/
def signsL : List UInt8 := [33, 35, 36, 37, 38, 39, 42, 43, 45, 46, 94, 95, 96, 124, 126]
def tokB (c : UInt8) : Bool := (decide (97 ≤ c.toNat) && decide (c.toNat ≤ 122)) || (decide (65 ≤ c.toNat) && decide (c.toNat ≤ 90)) || (decide (48 ≤ c.toNat) && decide (c.toNat ≤ 57)) || signsL.contains c
def tokL (l : List UInt8) : Bool := l.all tokB && l != []
theorem index_sign (c : UInt8) : (decide (H.indexByteS (⟨#[33, 35, 36, 37, 38, 39, 42, 43, 45, 46, 94, 95, 96, 124, 126]⟩ : ByteArray) (c.toNat : Int) ≥ 0)) = signsL.contains c := by
  have h : ∀ n : Fin 256, (decide (Lib.indexByte signsL ((n.val : Nat).toUInt8) ≥ 0)) = signsL.contains ((n.val : Nat).toUInt8) := by decide +kernel
  have hc := h ⟨c.toNat, by have := c.toNat_lt; simpa using this⟩
  have e : c.toNat.toUInt8 = c := by simp
  simp only [e] at hc
  unfold H.indexByteS
  simp only [Int.toNat_natCast, e]
  exact hc
theorem tok_ite {α : Type} (c : UInt8) (a b : Option α) :
    (if (c.toNat : Int) ≥ 97 then (if (c.toNat : Int) ≤ 122 then a else (if (c.toNat : Int) ≥ 65 then (if (c.toNat : Int) ≤ 90 then a else (if (c.toNat : Int) ≥ 48 then (if (c.toNat : Int) ≤ 57 then a else ((strings_IndexByte.f (⟨#[33, 35, 36, 37, 38, 39, 42, 43, 45, 46, 94, 95, 96, 124, 126]⟩ : ByteArray) (c.toNat : Int)).bind fun t104 => (if t104 ≥ 0 then a else b))) else ((strings_IndexByte.f (⟨#[33, 35, 36, 37, 38, 39, 42, 43, 45, 46, 94, 95, 96, 124, 126]⟩ : ByteArray) (c.toNat : Int)).bind fun t105 => (if t105 ≥ 0 then a else b)))) else (if (c.toNat : Int) ≥ 48 then (if (c.toNat : Int) ≤ 57 then a else ((strings_IndexByte.f (⟨#[33, 35, 36, 37, 38, 39, 42, 43, 45, 46, 94, 95, 96, 124, 126]⟩ : ByteArray) (c.toNat : Int)).bind fun t106 => (if t106 ≥ 0 then a else b))) else ((strings_IndexByte.f (⟨#[33, 35, 36, 37, 38, 39, 42, 43, 45, 46, 94, 95, 96, 124, 126]⟩ : ByteArray) (c.toNat : Int)).bind fun t107 => (if t107 ≥ 0 then a else b))))) else (if (c.toNat : Int) ≥ 65 then (if (c.toNat : Int) ≤ 90 then a else (if (c.toNat : Int) ≥ 48 then (if (c.toNat : Int) ≤ 57 then a else ((strings_IndexByte.f (⟨#[33, 35, 36, 37, 38, 39, 42, 43, 45, 46, 94, 95, 96, 124, 126]⟩ : ByteArray) (c.toNat : Int)).bind fun t108 => (if t108 ≥ 0 then a else b))) else ((strings_IndexByte.f (⟨#[33, 35, 36, 37, 38, 39, 42, 43, 45, 46, 94, 95, 96, 124, 126]⟩ : ByteArray) (c.toNat : Int)).bind fun t109 => (if t109 ≥ 0 then a else b)))) else (if (c.toNat : Int) ≥ 48 then (if (c.toNat : Int) ≤ 57 then a else ((strings_IndexByte.f (⟨#[33, 35, 36, 37, 38, 39, 42, 43, 45, 46, 94, 95, 96, 124, 126]⟩ : ByteArray) (c.toNat : Int)).bind fun t110 => (if t110 ≥ 0 then a else b))) else ((strings_IndexByte.f (⟨#[33, 35, 36, 37, 38, 39, 42, 43, 45, 46, 94, 95, 96, 124, 126]⟩ : ByteArray) (c.toNat : Int)).bind fun t111 => (if t111 ≥ 0 then a else b)))))
    = if tokB c = true then a else b := by
  have hi := index_sign c
  unfold strings_IndexByte.f
  simp only [Option.bind_some]
  have hif : (if H.indexByteS (⟨#[33, 35, 36, 37, 38, 39, 42, 43, 45, 46, 94, 95, 96, 124, 126]⟩ : ByteArray) (c.toNat : Int) ≥ 0 then a else b) = if signsL.contains c = true then a else b := by
    rw [← hi]; simp only [decide_eq_true_eq]
  simp only [hif]
  unfold tokB
  generalize signsL.contains c = s
  generalize c.toNat = n
  by_cases h1 : 97 ≤ n <;> by_cases h2 : n ≤ 122 <;> by_cases h3 : 65 ≤ n <;> by_cases h4 : n ≤ 90 <;> by_cases h5 : 48 ≤ n <;> by_cases h6 : n ≤ 57 <;>
    first
      | omega
      | (have e1 : ((n : Int) ≥ 97) = (97 ≤ n) := by simp only [ge_iff_le, eq_iff_iff]; omega
         have e2 : ((n : Int) ≤ 122) = (n ≤ 122) := by simp only [eq_iff_iff]; omega
         have e3 : ((n : Int) ≥ 65) = (65 ≤ n) := by simp only [ge_iff_le, eq_iff_iff]; omega
         have e4 : ((n : Int) ≤ 90) = (n ≤ 90) := by simp only [eq_iff_iff]; omega
         have e5 : ((n : Int) ≥ 48) = (48 ≤ n) := by simp only [ge_iff_le, eq_iff_iff]; omega
         have e6 : ((n : Int) ≤ 57) = (n ≤ 57) := by simp only [eq_iff_iff]; omega
         simp only [e1, e2, e3, e4, e5, e6, h1, h2, h3, h4, h5, h6, if_true, if_false, decide_true, decide_false, Bool.and_self, Bool.and_false, Bool.false_and, Bool.true_and, Bool.and_true, Bool.or_self, Bool.or_false, Bool.false_or, Bool.true_or, Bool.or_true])
end Go.Proofs.YtibgcbngnfaaiaaDoor.H

namespace Go.Proofs.YtibgcbngnfaaiaaDoor.H
open Go.RowKit Go.Proofs.YtibgcbngnfaaiaaDoorW.PrintWords Go.Proofs.YtibgcbngnfaaiaaDoorW.PrintLast Go.Proofs.YtibgcbngnfaaiaaDoorW.PrintMore Go.Proofs.YtibgcbngnfaaiaaDoor.PA
set_option linter.unusedVariables false
set_option linter.unusedSimpArgs false

theorem u8_all {p : Int → UInt8 → Prop} (h : ∀ n : Fin 256, p ((n.val : Nat) : Int) ((n.val : Nat).toUInt8)) (c : UInt8) : p (c.toNat : Int) c := by
  have hc := h ⟨c.toNat, by have := c.toNat_lt; simpa using this⟩
  have e : c.toNat.toUInt8 = c := by simp
  simp only [e] at hc
  exact hc
theorem token_l0 (l : List UInt8) (hl : l.length ≤ 9223372036854775807) : ∀ (n i : Nat), l.length - i = n → i ≤ l.length → Evl (fun k => head_Token.l0 k (ofL l) (l.length : Int) (i : Int)) ((l.drop i).all tokB && l != [])
  | 0, i, hn, hi => by
    refine Evl.step (fun k => by rw [head_Token.l0]) ?_
    have h0 : ¬ ((i : Int) < (l.length : Int)) := by omega
    simp only [ofL_size, if_neg h0, ofL_toList]
    rw [List.drop_eq_nil_of_le (by omega), List.all_nil, Bool.true_and]
    exact Evl.some _
  | n + 1, i, hn, hi => by
    have h1 : i < l.length := by omega
    have h0 : (i : Int) < (l.length : Int) := by omega
    have h2 : (0 : Int) ≤ (i : Int) := by omega
    have hw : wrap64 ((i : Int) + 1) = ((i + 1 : Nat) : Int) := by rw [IntWalk.wrap64_in _ (by omega)]; omega
    refine Evl.step (fun k => by rw [head_Token.l0]) ?_
    simp only [ofL_size, if_pos h0, if_pos h2, bt_ofL l i h1, tok_ite, hw]
    rw [List.drop_eq_getElem_cons h1, List.all_cons]
    by_cases hb : tokB (l[i]'h1) = true
    · simp only [if_pos hb, hb, Bool.true_and]
      exact token_l0 l hl n (i + 1) (by omega) (by omega)
    · have hb' : tokB (l[i]'h1) = false := by simpa using hb
      simp only [if_neg hb, hb', Bool.false_and]
      exact Evl.some _
theorem token_f (l : List UInt8) (hl : l.length ≤ 9223372036854775807) : Evl (fun k => head_Token.f k (ofL l)) (tokL l) := by
  have h := token_l0 l hl _ 0 rfl (Nat.zero_le _)
  rw [List.drop_zero] at h
  refine Evl.eq (fun k => ?_) h
  unfold head_Token.f
  rw [ofL_size]
  rfl
/-- What a chunk's line may have behind its ';'. -/
def okbS (s : ByteArray) : Bool := (toL s).all textB
end Go.Proofs.YtibgcbngnfaaiaaDoor.H

namespace Go.Proofs.YtibgcbngnfaaiaaDoor.H
open Go.RowKit Go.Proofs.YtibgcbngnfaaiaaDoorW.PrintWords Go.Proofs.YtibgcbngnfaaiaaDoorW.PrintLast Go.Proofs.YtibgcbngnfaaiaaDoorW.PrintMore Go.Proofs.YtibgcbngnfaaiaaDoor.PA
set_option linter.unusedVariables false
set_option linter.unusedSimpArgs false

/-- The place of the first colon. -/
def colon : List UInt8 → Option Nat
  | [] => none
  | c :: l => if c.toNat = 58 then some 0 else (colon l).map (· + 1)
theorem colon_index (l : List UInt8) : Lib.indexByte l 58 = (match colon l with | none => -1 | some i => (i : Int)) := by
  induction l with
  | nil => rfl
  | cons c l ih =>
    unfold Lib.indexByte colon
    by_cases h : c.toNat = 58
    · have hc : c = 58 := UInt8.toNat_inj.mp h
      rw [if_pos h, if_pos (by rw [hc]; rfl)]
      rfl
    · have hc : ¬ (c == 58) = true := fun e => h (by rw [beq_iff_eq.mp e]; rfl)
      rw [if_neg h, if_neg hc, ih]
      cases colon l with
      | none => rfl
      | some i =>
        simp only [Option.map_some]
        rw [if_neg (by rw [beq_iff_eq]; omega)]
        show (i : Int) + 1 = ((i + 1 : Nat) : Int)
        omega
theorem colon_lt : ∀ (l : List UInt8) (i : Nat), colon l = some i → i < l.length
  | [], i, h => by cases h
  | c :: l, i, h => by
    unfold colon at h
    split at h
    · cases h; simp
    · cases e : colon l with
      | none => rw [e] at h; cases h
      | some j =>
        rw [e] at h
        simp only [Option.map_some, Option.some.injEq] at h
        subst h
        have := colon_lt l j e
        simp; omega
/-- Is a line a field? -/
def fieldL (l : List UInt8) : Bool := match colon l with
  | none => false
  | some i => tokL (l.take i) && (trimL (l.drop (i + 1))).all textB
def okfS (s : ByteArray) : Bool := fieldL (toL s)

theorem dropWhile_le (p : UInt8 → Bool) : ∀ l : List UInt8, (l.dropWhile p).length ≤ l.length
  | [] => Nat.le_refl _
  | c :: l => by
    rw [List.dropWhile_cons]
    split
    · exact Nat.le_succ_of_le (dropWhile_le p l)
    · exact Nat.le_refl _
theorem trimL_le (l : List UInt8) : (trimL l).length ≤ l.length := by
  unfold trimL rtrim
  rw [List.length_reverse]
  refine Nat.le_trans (dropWhile_le _ _) ?_
  rw [List.length_reverse]
  exact dropWhile_le _ _

theorem parse_one (l : List UInt8) (hl : l.length ≤ 4611686018427387904) : ∃ v, Evl (fun k => head_Parse.f k [ofL l]) v ∧ (v.2 == 0) = fieldL l := by
  have hcut : strings_Cut.f (ofL l) (⟨#[58]⟩ : ByteArray) = some (match colon l with | none => (ofL l, ofL [], false) | some i => (ofL (l.take i), ofL (l.drop (i + 1)), true)) := by
    unfold strings_Cut.f cutS
    show (if (ofL l).size ≤ 9223372036854775807 then (if Lib.indexByte (ofL l).data.toList 58 < 0 then some (ofL l, (⟨#[]⟩ : ByteArray), false) else some ((ofL l).extract 0 (Lib.indexByte (ofL l).data.toList 58).toNat, (ofL l).extract ((Lib.indexByte (ofL l).data.toList 58).toNat + 1) (ofL l).size, true)) else none) = _
    rw [if_pos (by rw [ofL_size]; omega), show (ofL l).data.toList = l from toL_ofL l, colon_index l]
    cases h : colon l with
    | none =>
      simp only []
      rw [if_pos (by omega)]
      rfl
    | some i =>
      have hi := colon_lt l i h
      simp only []
      rw [if_neg (by omega), ofL_extract, ofL_extract, ofL_size, Int.toNat_natCast, List.drop_zero, List.take_of_length_le (Nat.le_refl _)]
  have hstep : ∀ v, Evl (fun k => (strings_Cut.f (ofL l) (⟨#[58]⟩ : ByteArray)).bind fun bt113 => ((head_trim.f k bt113.2.1).bind fun t116 => (if bt113.2.2 = true then ((head_Token.f k bt113.1).bind fun t117 => (if t117 = true then ((head_Value.f k t116).bind fun t118 => (if t118 = true then (if ([] : List S103).length < 4398046511104 then (head_Parse.l0 k (([] : List S103) ++ [(⟨bt113.1, t116⟩ : S103)]) [ofL l] 1 1) else (none)) else (some (([] : List (S103)), 90)))) else (some (([] : List (S103)), 90)))) else (some (([] : List (S103)), 90))))) v → Evl (fun k => head_Parse.f k [ofL l]) v := by
    intro v h
    refine Evl.step (g := fun k => _) (fun k => ?_) h
    show head_Parse.l0 (k + 1) [] [ofL l] 1 0 = _
    rw [head_Parse.l0, if_pos (by decide), if_pos (by decide), if_pos (by simp), show wrap64 (0 + 1) = 1 from IntWalk.wrap64_in 1 (by omega)]
    rfl
  rw [hcut] at hstep
  simp only [Option.bind_some] at hstep
  unfold fieldL
  cases h : colon l with
  | none =>
    simp only [h] at hstep
    refine ⟨_, hstep _ (Evl.bind (trim_f [] (by simp)) (v := (([] : List S103), 90)) ?_), rfl⟩
    simp only [Bool.false_eq_true, if_false]
    exact Evl.some _
  | some i =>
    have hi := colon_lt l i h
    simp only [h, if_true] at hstep
    have htk := token_f (l.take i) (by rw [List.length_take]; omega)
    have htr := trim_f (l.drop (i + 1)) (by rw [List.length_drop]; omega)
    have hva := value_f (trimL (l.drop (i + 1))) (by have := trimL_le (l.drop (i + 1)); rw [List.length_drop] at this; omega)
    rw [trimL_trimL, beq_self_eq_true, Bool.and_true] at hva
    simp only []
    by_cases h1 : tokL (l.take i) = true
    · rw [h1, Bool.true_and]
      rw [h1] at htk
      by_cases h2 : (trimL (l.drop (i + 1))).all textB = true
      · rw [h2] at hva ⊢
        refine ⟨_, hstep _ (Evl.bind htr (v := ([(⟨ofL (l.take i), ofL (trimL (l.drop (i + 1)))⟩ : S103)], 0)) (Evl.bind htk ?_)), rfl⟩
        simp only [if_true]
        refine Evl.bind hva ?_
        simp only [if_true]
        refine Evl.step (g := fun k => some ([(⟨ofL (l.take i), ofL (trimL (l.drop (i + 1)))⟩ : S103)], 0)) (fun k => ?_) (Evl.some _)
        rw [head_Parse.l0]
        rfl
      · have h2' : (trimL (l.drop (i + 1))).all textB = false := by simpa using h2
        rw [h2'] at hva ⊢
        refine ⟨_, hstep _ (Evl.bind htr (v := (([] : List S103), 90)) (Evl.bind htk ?_)), rfl⟩
        simp only [if_true]
        refine Evl.bind hva ?_
        simp only [Bool.false_eq_true, if_false]
        exact Evl.some _
    · have h1' : tokL (l.take i) = false := by simpa using h1
      rw [h1'] at htk ⊢
      refine ⟨_, hstep _ (Evl.bind htr (v := (([] : List S103), 90)) (Evl.bind htk ?_)), rfl⟩
      simp only [Bool.false_eq_true, if_false]
      exact Evl.some _
theorem fieldOk_okf : FieldOk okfS := by
  intro s A c W hr hc hs
  obtain ⟨⟨r1, r2⟩, ⟨K, hK⟩, hv⟩ := parse_one (toL s) (by rw [toL_length]; omega)
  rw [ofL_toL] at hK
  have h := head_Parse.calls K A c [s] r1 r2 W (Kd.C_of_reads (h1 := fun _ => rfl) hr) hc (hK K (Nat.le_refl _))
  refine h.mono ?_
  rintro e W' ⟨v, rfl, _, hb⟩
  exact ⟨v, r2, rfl, ⟨hv⟩, hb⟩

/-! ### the reference's Parse -/
/-! ### chunk.bytesOf -/
theorem value_x (l : List UInt8) (hl : l.length ≤ 4611686018427387904) : Evl (fun k => head_Value.f k (ofL (120 :: l ++ [120]))) (l.all textB) := by
  have h := value_f (120 :: l ++ [120]) (by simp; omega)
  have ht : trimL (120 :: l ++ [120]) = 120 :: l ++ [120] := by
    refine trimL_id _ ⟨fun c hc => ?_, fun c hc => ?_⟩
    · simp only [List.cons_append, List.head?_cons, Option.some.injEq] at hc; subst hc; rfl
    · rw [List.getLast?_append] at hc; simp at hc; subst hc; rfl
  rw [ht, beq_self_eq_true, Bool.and_true] at h
  have hx : (120 :: l ++ [120]).all textB = l.all textB := by
    rw [List.all_append, List.all_cons]
    have : textB 120 = true := rfl
    simp [this]
  rw [hx] at h
  exact h
set_option maxHeartbeats 1000000 in
theorem bytesOk_okb : BytesOk okbS := by
  intro t W ht
  obtain ⟨K, hK⟩ := value_x (toL t) (by rw [toL_length]; omega)
  have hk := hK K (Nat.le_refl _)
  have he : ofL (120 :: toL t ++ [120]) = (⟨#[120]⟩ : ByteArray) ++ t ++ (⟨#[120]⟩ : ByteArray) := by
    rw [← ofL_toL ((⟨#[120]⟩ : ByteArray) ++ t ++ (⟨#[120]⟩ : ByteArray))]
    refine congrArg ofL ?_
    simp [toL]
  rw [he] at hk
  have HK := Aside0.mk hk
  have hs1 : ((⟨#[120]⟩ : ByteArray) ++ t).size = 1 + t.size := by rw [ByteArray.size_append]; rfl
  clear hk he hK
  go_enter Tryd.func92, Tryd.ntmps92
  go_wp2_with (go_at_call 104; ((with_reducible refine (head_Value.calls K _ _ _ HK.out).mono ?_); rintro e w1 ⟨rfl, hd⟩))
  go_ret
  exact ⟨rfl, hd⟩
end Go.Proofs.YtibgcbngnfaaiaaDoor.H

namespace Go.Proofs.YtibgcbngnfaaiaaDoor.H
open Go.RowKit Go.Proofs.YtibgcbngnfaaiaaDoorW.PrintWords Go.Proofs.YtibgcbngnfaaiaaDoorW.PrintLast Go.Proofs.YtibgcbngnfaaiaaDoorW.PrintMore Go.Proofs.YtibgcbngnfaaiaaDoor.PA
set_option linter.unusedVariables false
set_option linter.unusedSimpArgs false

theorem toList_data (s : ByteArray) : s.toList = toL s := by
  have h := ofL_toList (toL s)
  rwa [ofL_toL] at h
theorem open_calls (A : Option Addr) (c : Nat) (l : List Int) (w : World) (hr : ReadsInt w .u8 A l.length l) (hc : l.length ≤ c) :
    Calls Tryd.prog 15 #[.slice A l.length c] w fun e w' => ∃ v, e = .returned (.tuple #[v, .int .i64 (openF okbS okfS l).2.1, .int .i64 (openF okbS okfS l).2.2]) ∧
      w'.ownsRow w.heap.size 5 1 v (openF okbS okfS l).1.length (nums .u8 (openF okbS okfS l).1) ∧ Below w.heap.size w w' := openF_calls okbS okfS bytesOk_okb fieldOk_okf A c l w hr hc
end Go.Proofs.YtibgcbngnfaaiaaDoor.H
