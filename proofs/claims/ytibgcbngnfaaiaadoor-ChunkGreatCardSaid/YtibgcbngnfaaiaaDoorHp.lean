/- Plain functions: a chunked body read from a list of bytes. No program. -/
import Derived.Test.YtibgcbngnfaaiaaDoorWWords
namespace Go.Proofs.YtibgcbngnfaaiaaDoor.H
open Go.RowKit Go.Proofs.YtibgcbngnfaaiaaDoorW.PrintWords

/-- A line from a list of bytes on: c bytes of it are read already. -/
def lineL : Nat → List Int → Except Int (List Int × List Int)
  | _, [] => .error 92
  | c, x :: r =>
    if x = 13 then
      match r with
      | [] => .error 92
      | y :: r' => if y = 10 then .ok ([], r') else .error 94
    else if x = 10 ∨ 1024 ≤ c then .error 94
    else (lineL (c + 1) r).map fun p => (x :: p.1, p.2)

/-- What a line comes to that was begun. -/
def onto (pre : List Int) (e : Except Int (List Int × List Int)) : Except Int (List Int × List Int) := e.map fun p => (pre ++ p.1, p.2)
theorem onto_nil (e : Except Int (List Int × List Int)) : onto [] e = e := by cases e <;> rfl
theorem onto_error (pre : List Int) (x : Int) : onto pre (.error x) = .error x := rfl
theorem onto_ok (pre : List Int) (s r : List Int) : onto pre (.ok (s, r)) = .ok (pre ++ s, r) := rfl
theorem onto_map (pre : List Int) (x : Int) (e : Except Int (List Int × List Int)) : onto pre (e.map fun p => (x :: p.1, p.2)) = onto (pre ++ [x]) e := by
  cases e <;> simp [onto, Except.map]
theorem line_nil (c : Nat) : lineL c [] = .error 92 := by unfold lineL; rfl
theorem line_cr (c : Nat) : lineL c [13] = .error 92 := by unfold lineL; simp
theorem line_crlf (c : Nat) (r : List Int) : lineL c (13 :: 10 :: r) = .ok ([], r) := by unfold lineL; simp
theorem line_crx (c : Nat) (y : Int) (r : List Int) (h : ¬ y = 10) : lineL c (13 :: y :: r) = .error 94 := by unfold lineL; simp [h]
theorem line_bad (c : Nat) (x : Int) (r : List Int) (h : ¬ x = 13) (k : x = 10 ∨ 1024 ≤ c) : lineL c (x :: r) = .error 94 := by
  unfold lineL; simp [h, k]
theorem line_on (c : Nat) (x : Int) (r : List Int) (h : ¬ x = 13) (k : ¬ (x = 10 ∨ 1024 ≤ c)) : lineL c (x :: r) = (lineL (c + 1) r).map fun p => (x :: p.1, p.2) := by
  rw [lineL.eq_def]; simp only []; rw [if_neg h, if_neg k]
theorem line_len (c : Nat) (l : List Int) (s r : List Int) (h : lineL c l = .ok (s, r)) : l.length = s.length + r.length + 2 := by
  induction l generalizing c s with
  | nil => simp [line_nil] at h
  | cons x l ih =>
    by_cases hx : x = 13
    · subst hx
      match l, h with
      | [], h => simp [line_cr] at h
      | y :: l', h =>
        by_cases hy : y = 10
        · subst hy
          rw [line_crlf] at h
          simp only [Except.ok.injEq, Prod.mk.injEq] at h
          obtain ⟨rfl, rfl⟩ := h
          simp
        · rw [line_crx _ _ _ hy] at h; cases h
    · by_cases hb : x = 10 ∨ 1024 ≤ c
      · rw [line_bad _ _ _ hx hb] at h; cases h
      · rw [line_on _ _ _ hx hb] at h
        cases e : lineL (c + 1) l with
        | error v => rw [e] at h; cases h
        | ok p =>
          obtain ⟨s', r'⟩ := p
          rw [e] at h
          simp only [Except.map, Except.ok.injEq, Prod.mk.injEq] at h
          obtain ⟨rfl, rfl⟩ := h
          have := ih _ _ e
          simp; omega

theorem line_short (c : Nat) (l : List Int) (s r : List Int) (h : lineL c l = .ok (s, r)) : s.length ≤ 1024 := by
  have key : ∀ (l : List Int) (c : Nat) (s r : List Int), lineL c l = .ok (s, r) → s = [] ∨ s.length + c ≤ 1024 := by
    intro l
    induction l with
    | nil => intro c s r h; simp [line_nil] at h
    | cons x l ih =>
      intro c s r h
      by_cases hx : x = 13
      · subst hx
        match l, h with
        | [], h => simp [line_cr] at h
        | y :: l', h =>
          by_cases hy : y = 10
          · subst hy
            rw [line_crlf] at h
            simp only [Except.ok.injEq, Prod.mk.injEq] at h
            exact .inl h.1.symm
          · rw [line_crx _ _ _ hy] at h; cases h
      · by_cases hb : x = 10 ∨ 1024 ≤ c
        · rw [line_bad _ _ _ hx hb] at h; cases h
        · rw [line_on _ _ _ hx hb] at h
          cases e : lineL (c + 1) l with
          | error v => rw [e] at h; cases h
          | ok p =>
            obtain ⟨s', r'⟩ := p
            rw [e] at h
            simp only [Except.map, Except.ok.injEq, Prod.mk.injEq] at h
            obtain ⟨rfl, rfl⟩ := h
            have h3 : c < 1024 := Nat.lt_of_not_le fun hc => hb (.inr hc)
            rcases ih _ _ _ e with rfl | h4
            · refine .inr ?_; simp; omega
            · refine .inr ?_; simp; omega
  rcases key l c s r h with rfl | h
  · simp
  · omega

theorem drop_rd (l : List Int) (k : Nat) (h : k < l.length) : l.drop k = rd l (k : Int) :: l.drop (k + 1) := by
  rw [List.drop_eq_getElem_cons h]
  simp [rd, List.getD_eq_getElem?_getD, List.getElem?_eq_getElem h]
theorem take_rd (l : List Int) (k : Nat) (h : k < l.length) : l.take (k + 1) = l.take k ++ [rd l (k : Int)] := by
  rw [List.take_succ_eq_append_getElem h]
  simp [rd, List.getD_eq_getElem?_getD, List.getElem?_eq_getElem h]
end Go.Proofs.YtibgcbngnfaaiaaDoor.H
