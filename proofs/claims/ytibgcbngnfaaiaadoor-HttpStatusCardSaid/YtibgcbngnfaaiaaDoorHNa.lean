/- chunk.must: two contracts · Plain functions: a chunked body read from a list of bytes. No program. · (*chunk.reader).line walked. · ambryref10.line: a line read from a row of bytes. · A chunk's line: its length, as a plain function; '|' of a shifted number and four bits. No program. · (*chunk.reader).end walked. · chunk.length walked. · chunk.Open's deferred closure, in both modes. -/
import Derived.Test.YtibgcbngnfaaiaaDoorProg
import Derived.Test.YtibgcbngnfaaiaaDoorWWords
import Derived.Test.YtibgcbngnfaaiaaDoorWLast
import Derived.Test.YtibgcbngnfaaiaaDoorWMore
import Derived.WalkKit
import Derived.Deep.LoopGhost
import Derived.Deep.QuietTactic
import Derived.BigQuiet
import Derived.WalkLawsBesides
import Derived.WalkSpells
import Derived.Outline
import Derived.Laws.BitsAllLaws
import Derived.StillTailTactics
import Derived.Lib.SlBytesConst
import Derived.Recover
import Derived.RegionTactic
import Derived.BigRegion
namespace Go.Proofs.YtibgcbngnfaaiaaDoor.H
open Go.RowKit Go.Proofs.YtibgcbngnfaaiaaDoorW.PrintWords Go.Proofs.YtibgcbngnfaaiaaDoorW.PrintLast Go.Proofs.YtibgcbngnfaaiaaDoorW.PrintMore
set_option linter.unusedVariables false
set_option linter.unusedSimpArgs false

theorem must_ok (e : Int) (w : World) :
    Calls Tryd.prog 70 #[.bool true, .int .i64 e] w fun en w' => en = .returned (.tuple #[]) ∧ w = w' := by
  go_enter Tryd.func70, Tryd.ntmps70
  go_wp2
  go_end0
  exact ⟨rfl, rfl⟩

theorem must_no (e : Int) (w : World) :
    Calls Tryd.prog 70 #[.bool false, .int .i64 e] w fun en w' => en = .panicked [{ v := .iface 64 (.agg #[.int .i64 e]), recovered := false }] ∧ w = w' := by
  go_enter Tryd.func70, Tryd.ntmps70
  go_wp2
  exact ⟨rfl, rfl, rfl⟩

end Go.Proofs.YtibgcbngnfaaiaaDoor.H

namespace Go.Proofs.YtibgcbngnfaaiaaDoor.H
open Go.RowKit Go.Proofs.YtibgcbngnfaaiaaDoorW.PrintWords

/-- A line from a list of bytes on: c bytes of it are read already. -/
def lineL : Nat → List Int → Except Int (List Int × List Int)
  | _, [] => .error 92
  | c, x :: r =>
    if x = 13 then
      match r with
      | [] => .error 92
      | y :: r' => if y = 10 then .ok ([], r') else .error 94
    else if x = 10 ∨ 1024 ≤ c then .error 94
    else (lineL (c + 1) r).map fun p => (x :: p.1, p.2)

/-- What a line comes to that was begun. -/
def onto (pre : List Int) (e : Except Int (List Int × List Int)) : Except Int (List Int × List Int) := e.map fun p => (pre ++ p.1, p.2)
theorem onto_nil (e : Except Int (List Int × List Int)) : onto [] e = e := by cases e <;> rfl
theorem onto_ok (pre : List Int) (s r : List Int) : onto pre (.ok (s, r)) = .ok (pre ++ s, r) := rfl
theorem onto_map (pre : List Int) (x : Int) (e : Except Int (List Int × List Int)) : onto pre (e.map fun p => (x :: p.1, p.2)) = onto (pre ++ [x]) e := by
  cases e <;> simp [onto, Except.map]
theorem line_nil (c : Nat) : lineL c [] = .error 92 := by unfold lineL; rfl
theorem line_cr (c : Nat) : lineL c [13] = .error 92 := by unfold lineL; simp
theorem line_crlf (c : Nat) (r : List Int) : lineL c (13 :: 10 :: r) = .ok ([], r) := by unfold lineL; simp
theorem line_crx (c : Nat) (y : Int) (r : List Int) (h : ¬ y = 10) : lineL c (13 :: y :: r) = .error 94 := by unfold lineL; simp [h]
theorem line_bad (c : Nat) (x : Int) (r : List Int) (h : ¬ x = 13) (k : x = 10 ∨ 1024 ≤ c) : lineL c (x :: r) = .error 94 := by
  unfold lineL; simp [h, k]
theorem line_on (c : Nat) (x : Int) (r : List Int) (h : ¬ x = 13) (k : ¬ (x = 10 ∨ 1024 ≤ c)) : lineL c (x :: r) = (lineL (c + 1) r).map fun p => (x :: p.1, p.2) := by
  rw [lineL.eq_def]; simp only []; rw [if_neg h, if_neg k]
theorem line_len (c : Nat) (l : List Int) (s r : List Int) (h : lineL c l = .ok (s, r)) : l.length = s.length + r.length + 2 := by
  induction l generalizing c s with
  | nil => simp [line_nil] at h
  | cons x l ih =>
    by_cases hx : x = 13
    · subst hx
      match l, h with
      | [], h => simp [line_cr] at h
      | y :: l', h =>
        by_cases hy : y = 10
        · subst hy
          rw [line_crlf] at h
          simp only [Except.ok.injEq, Prod.mk.injEq] at h
          obtain ⟨rfl, rfl⟩ := h
          simp
        · rw [line_crx _ _ _ hy] at h; cases h
    · by_cases hb : x = 10 ∨ 1024 ≤ c
      · rw [line_bad _ _ _ hx hb] at h; cases h
      · rw [line_on _ _ _ hx hb] at h
        cases e : lineL (c + 1) l with
        | error v => rw [e] at h; cases h
        | ok p =>
          obtain ⟨s', r'⟩ := p
          rw [e] at h
          simp only [Except.map, Except.ok.injEq, Prod.mk.injEq] at h
          obtain ⟨rfl, rfl⟩ := h
          have := ih _ _ e
          simp; omega

theorem line_short (c : Nat) (l : List Int) (s r : List Int) (h : lineL c l = .ok (s, r)) : s.length ≤ 1024 := by
  have key : ∀ (l : List Int) (c : Nat) (s r : List Int), lineL c l = .ok (s, r) → s = [] ∨ s.length + c ≤ 1024 := by
    intro l
    induction l with
    | nil => intro c s r h; simp [line_nil] at h
    | cons x l ih =>
      intro c s r h
      by_cases hx : x = 13
      · subst hx
        match l, h with
        | [], h => simp [line_cr] at h
        | y :: l', h =>
          by_cases hy : y = 10
          · subst hy
            rw [line_crlf] at h
            simp only [Except.ok.injEq, Prod.mk.injEq] at h
            exact .inl h.1.symm
          · rw [line_crx _ _ _ hy] at h; cases h
      · by_cases hb : x = 10 ∨ 1024 ≤ c
        · rw [line_bad _ _ _ hx hb] at h; cases h
        · rw [line_on _ _ _ hx hb] at h
          cases e : lineL (c + 1) l with
          | error v => rw [e] at h; cases h
          | ok p =>
            obtain ⟨s', r'⟩ := p
            rw [e] at h
            simp only [Except.map, Except.ok.injEq, Prod.mk.injEq] at h
            obtain ⟨rfl, rfl⟩ := h
            have h3 : c < 1024 := Nat.lt_of_not_le fun hc => hb (.inr hc)
            rcases ih _ _ _ e with rfl | h4
            · refine .inr ?_; simp; omega
            · refine .inr ?_; simp; omega
  rcases key l c s r h with rfl | h
  · simp
  · omega

theorem drop_rd (l : List Int) (k : Nat) (h : k < l.length) : l.drop k = rd l (k : Int) :: l.drop (k + 1) := by
  rw [List.drop_eq_getElem_cons h]
  simp [rd, List.getD_eq_getElem?_getD, List.getElem?_eq_getElem h]
theorem take_rd (l : List Int) (k : Nat) (h : k < l.length) : l.take (k + 1) = l.take k ++ [rd l (k : Int)] := by
  rw [List.take_succ_eq_append_getElem h]
  simp [rd, List.getD_eq_getElem?_getD, List.getElem?_eq_getElem h]
end Go.Proofs.YtibgcbngnfaaiaaDoor.H

namespace Go.Proofs.YtibgcbngnfaaiaaDoor.H
open Go.RowKit Go.Proofs.YtibgcbngnfaaiaaDoorW.PrintWords Go.Proofs.YtibgcbngnfaaiaaDoorW.PrintLast Go.Proofs.YtibgcbngnfaaiaaDoorW.PrintMore
set_option linter.unusedVariables false
set_option linter.unusedSimpArgs false

/-- chunk's own panic. -/
def stopC (e : Int) : List PanicEntry := [{ v := .iface 64 (.agg #[.int .i64 e]), recovered := false }]

/-- What a line comes to. -/
def LinePost (l : List Int) (at_ g : Nat) (w : World) (e : Ending) (w' : World) : Prop :=
  match lineL 0 (l.drop at_) with
  | .ok (s, r) => e = .returned (.string (strOfNums s)) ∧ ∃ q, w' = (w.drewN q).setCell ⟨g, 1, none⟩ (.int .i64 (l.length - r.length : Nat))
  | .error x => e = .panicked (stopC x) ∧ w = w'

theorem add_succ (ad : Addr) (k : Nat) : ad.add (k + 1) = ⟨ad.block, ad.off + (k + 1), none⟩ := by unfold Addr.add; simp

/-- xs[a:b] under names of its own. -/
theorem mid_reads {P : Program} {t e : TypeId} {i : TypeInfo} (ht : P.underlying t = some (.slice e)) (hi : P.info? e = some i) (hsz : i.size = 1) {w : World} {A : Option Addr} {l : List Int} {c : Nat}
    (hr : ReadsInt w .u8 A l.length l) (hc : l.length ≤ c) (a b : Nat) (h1 : a ≤ b) (h2 : b ≤ l.length) :
    ∃ A' n' c', (∀ W : World, (Instr.slice t (.slice A l.length c) (some (.int .i64 (a : Int))) (some (.int .i64 (b : Int))) none).run P W = .ok (.slice A' n' c') W) ∧ n' = b - a ∧ n' ≤ c' ∧
      (∀ W : World, ReadsInt W .u8 A l.length l → ReadsInt W .u8 A' n' ((l.take b).drop a)) := by
  obtain ⟨A', h3, h4, h5⟩ := print_mid_of (P := P) (Value.int .u8) 0 t e .i64 .i64 ht hi hsz A c l a b (by omega) (by omega) (by omega) hc
  simp only [Int.toNat_natCast] at h3 h4 h5
  exact ⟨A', _, _, h3, by simp; omega, h5, fun W h => h4 W h⟩

theorem i5 : (Tryd.prog.info? 5).map (fun i => (i.zero, i.size, i.bytes)) = some (some (.int .u8 0), 1, 1) := by kernel_rfl

theorem post_err {l : List Int} {at_ g : Nat} {w : World} {x : Int} (h : lineL 0 (l.drop at_) = .error x) : LinePost l at_ g w (.panicked (stopC x)) w := by
  unfold LinePost; rw [h]; exact ⟨rfl, rfl⟩
theorem post_ok {l : List Int} {at_ g : Nat} {w : World} {s r : List Int} {t : ByteArray} {nx : Int} (h : lineL 0 (l.drop at_) = .ok (s, r)) (ht : t = strOfNums s) (hn : nx = (l.length - r.length : Nat)) (q : Nat) :
    LinePost l at_ g w (.returned (.string t)) ((w.drewN q).setCell ⟨g, 1, none⟩ (.int .i64 nx)) := by
  unfold LinePost; rw [h]; exact ⟨by rw [ht], q, by rw [hn]⟩

set_option maxHeartbeats 4000000 in
set_option maxRecDepth 100000 in
theorem line_calls (g : Nat) (A : Option Addr) (c : Nat) (l : List Int) (at_ : Nat) (w : World) (hg : w.heap[g]? = some (.cells #[.slice A l.length c, .int .i64 at_] 68 (0, 0)))
    (hr : ReadsInt w .u8 A l.length l) (hc : l.length ≤ c) (hat : at_ ≤ l.length) :
    Calls Tryd.prog 68 #[.pointer (some ⟨g, 0, none⟩)] w (LinePost l at_ g w) := by
  have hb0 : w.cell? ⟨g, 0, none⟩ = some (.slice A l.length c) := blk_cell hg 0
  have hb1 : w.cell? ⟨g, 1, none⟩ = some (.int .i64 at_) := blk_cell hg 1
  have hf1 : w.frozen? ⟨g, 1, none⟩ = false := blk_frozen hg 1
  have hn : l.length ≤ 9223372036854775807 := hr.2.1
  have HR := Aside0.mk hr
  have HC := Aside0.mk hc
  clear hr hc hg
  go_enter Tryd.func68, Tryd.ntmps68
  go_wp2
  go_loop [3] (fun i => ∃ k : Nat, at_ ≤ k ∧ k ≤ l.length ∧ i = .int .i64 k ∧ Aside0 (lineL 0 (l.drop at_) = onto ((l.drop at_).take (k - at_)) (lineL (k - at_) (l.drop k)))) (fun i => l.length - (intOf i).toNat)
  case atStart => exact ⟨at_, Nat.le_refl _, hat, rfl, ⟨by simp [onto_nil]⟩⟩
  case round =>
    obtain ⟨k, hk0, hk, rfl, HL⟩ := hrel
    by_cases hlt : k < l.length
    · obtain ⟨ad, hA, hx⟩ := HR.out.at_ (k : Int) (by omega) (by omega)
      subst hA
      rw [Int.toNat_natCast] at hx
      have hC := HC
      have e0 := drop_rd l k hlt
      have hlt' : decide ((k : Int) < (l.length : Int)) = true := by simp; omega
      have p0 : 0 ≤ (k : Int) := by omega
      by_cases h13 : rd l (k : Int) = 13
      · have h13' : (rd l (k : Int) == 13) = true := beq_iff_eq.mpr h13
        have E0 := Aside0.mk e0
        have H13 := Aside0.mk h13
        clear e0 h13
        by_cases hnx : k + 1 < l.length
        · have hnx' : decide ((k : Int) + 1 < (l.length : Int)) = true := by simp; omega
          obtain ⟨ad2, hA2, hx2⟩ := HR.out.at_ ((k : Int) + 1) (by omega) (by omega)
          obtain rfl : ad = ad2 := by injection hA2
          rw [show ((k : Int) + 1).toNat = k + 1 from by omega, add_succ] at hx2
          have e1 := drop_rd l (k + 1) hnx
          have p1 : 0 ≤ (k : Int) + 1 := by omega
          rw [show ((k + 1 : Nat) : Int) = (k : Int) + 1 from by omega] at e1
          have E1 := Aside0.mk e1
          clear e1
          by_cases h10 : rd l ((k : Int) + 1) = 10
          · have h10' : (rd l ((k : Int) + 1) == 10) = true := beq_iff_eq.mpr h10
            have HF : Aside0 (lineL 0 (l.drop at_) = .ok ((l.drop at_).take (k - at_), l.drop (k + 1 + 1))) := ⟨by rw [HL.out, E0.out, H13.out, E1.out, h10, line_crlf, onto_ok]; simp⟩
            clear h10
            obtain ⟨i0, hi0, _, hsz, _⟩ := info_parts i5
            obtain ⟨A14, n14, c14, hcut, hn14, hc14, hrd⟩ := mid_reads (P := Tryd.prog) Tryd.underlying22 hi0 hsz HR.out HC.out at_ k hk0 (by omega)
            have hcv := fun q => string_of_reads (dst := 9) Tryd.underlying22 Tryd.underlying5 Tryd.underlying9 (c := c14) ((hrd w HR.out).below (Drawn0.below ⟨q, rfl⟩))
            clear hn14 hc14 hrd hi0 hsz
            go_wp2_with (go_at_call 70; ((with_reducible refine (must_ok _ _).mono ?_); rintro e w' ⟨rfl, rfl⟩))
            go_quiet (fail)
            go_wp2
            go_ret
            exact post_ok HF.out (by rw [List.drop_take]) (by simp; omega) _
          · have h10' : (rd l ((k : Int) + 1) == 10) = false := beq_eq_false_iff_ne.mpr h10
            have HF : Aside0 (lineL 0 (l.drop at_) = .error 94) := ⟨by rw [HL.out, E0.out, H13.out, E1.out, line_crx _ _ _ h10]; rfl⟩
            clear h10
            go_wp2_with (first | (go_at_call 70; ((with_reducible refine (must_ok _ _).mono ?_); rintro e w' ⟨rfl, rfl⟩)) | (go_at_call 70; ((with_reducible refine (must_no _ _).mono ?_); rintro e w' ⟨rfl, rfl⟩)))
            exact ⟨rfl, post_err HF.out⟩
        · have hnx' : decide ((k : Int) + 1 < (l.length : Int)) = false := by simp; omega
          have HF : Aside0 (lineL 0 (l.drop at_) = .error 92) := ⟨by rw [HL.out, E0.out, H13.out, show l.drop (k + 1) = [] from List.drop_eq_nil_of_le (by omega), line_cr]; rfl⟩
          go_wp2_with (go_at_call 70; ((with_reducible refine (must_no _ _).mono ?_); rintro e w' ⟨rfl, rfl⟩))
          exact ⟨rfl, post_err HF.out⟩
      · have h13' : (rd l (k : Int) == 13) = false := beq_eq_false_iff_ne.mpr h13
        by_cases hbad : rd l (k : Int) = 10 ∨ 1024 ≤ k - at_
        · have HF : Aside0 (lineL 0 (l.drop at_) = .error 94) := ⟨by rw [HL.out, e0, line_bad _ _ _ h13 hbad]; rfl⟩
          clear e0 h13
          have hpost := Aside0.mk (post_err (g := g) (w := w) HF.out)
          clear HF
          by_cases h10 : rd l (k : Int) = 10
          · have h10' : (rd l (k : Int) != 10) = false := bne_eq_false_iff_eq.mpr h10
            clear h10 hbad
            go_wp2_with (go_at_call 70; ((with_reducible refine (must_no _ _).mono ?_); rintro e w' ⟨rfl, rfl⟩))
            exact ⟨rfl, hpost.out⟩
          · have h10' : (rd l (k : Int) != 10) = true := bne_iff_ne.mpr h10
            have hb24 : 1024 ≤ k - at_ := hbad.resolve_left h10
            have h24' : decide ((k : Int) - (at_ : Int) < 1024) = false := by simp; omega
            clear h10 hbad
            go_wp2_with (go_at_call 70; ((with_reducible refine (must_no _ _).mono ?_); rintro e w' ⟨rfl, rfl⟩))
            exact ⟨rfl, hpost.out⟩
        · have HF : Aside0 (lineL 0 (l.drop at_) = onto ((l.drop at_).take (k + 1 - at_)) (lineL (k + 1 - at_) (l.drop (k + 1)))) := ⟨by
            rw [HL.out, e0, line_on _ _ _ h13 hbad, onto_map, show k + 1 - at_ = k - at_ + 1 from by omega, take_rd _ _ (by simp; omega)]
            simp [rd, List.getD_eq_getElem?_getD, show at_ + (k - at_) = k from by omega]⟩
          have hb10 : ¬ rd l (k : Int) = 10 := fun h => hbad (.inl h)
          have hb24 : k - at_ < 1024 := Nat.lt_of_not_le fun h => hbad (.inr h)
          clear e0 h13 hbad
          have h10' : (rd l (k : Int) != 10) = true := bne_iff_ne.mpr hb10
          have h24' : decide ((k : Int) - (at_ : Int) < 1024) = true := by simp; omega
          clear hb10
          go_wp2_with (go_at_call 70; ((with_reducible refine (must_ok _ _).mono ?_); rintro e w' ⟨rfl, rfl⟩))
          go_round
          case rel => exact ⟨k + 1, by omega, by omega, by go_num, HF⟩
          case measure => simp [intOf]; omega
    · have hlt' : decide ((k : Int) < (l.length : Int)) = false := by simp; omega
      have HF : Aside0 (lineL 0 (l.drop at_) = .error 92) := ⟨by rw [HL.out, show l.drop k = [] from List.drop_eq_nil_of_le (by omega), line_nil]; rfl⟩
      go_wp2
      exact ⟨rfl, post_err HF.out⟩
end Go.Proofs.YtibgcbngnfaaiaaDoor.H

namespace Go.Proofs.YtibgcbngnfaaiaaDoor.H
open Go.RowKit Go.Proofs.YtibgcbngnfaaiaaDoorW.PrintWords Go.Proofs.YtibgcbngnfaaiaaDoorW.PrintLast Go.Proofs.YtibgcbngnfaaiaaDoorW.PrintMore
set_option linter.unusedVariables false
set_option linter.unusedSimpArgs false

/-- What the reference's line tells from a place on. -/
def rlineF (l : List Int) (p : Nat) : ByteArray × Int × Int :=
  match lineL 0 (l.drop p) with
  | .ok (s, r) => (strOfNums s, ((l.length - r.length : Nat) : Int), 0)
  | .error x => (⟨#[]⟩, 0, x)
theorem rline_err {l : List Int} {p : Nat} {x : Int} (h : lineL 0 (l.drop p) = .error x) : rlineF l p = (⟨#[]⟩, 0, x) := by unfold rlineF; rw [h]
theorem rline_ok {l : List Int} {p : Nat} {s r : List Int} (h : lineL 0 (l.drop p) = .ok (s, r)) : rlineF l p = (strOfNums s, ((l.length - r.length : Nat) : Int), 0) := by unfold rlineF; rw [h]

set_option maxHeartbeats 4000000 in
set_option maxRecDepth 100000 in
theorem rline_calls (A : Option Addr) (c : Nat) (l : List Int) (at_ : Nat) (w : World)
    (hr : ReadsInt w .u8 A l.length l) (hc : l.length ≤ c) (hat : at_ ≤ l.length) (hl : l.length ≤ 4611686018427387904) :
    Calls Tryd.prog 41 #[.slice A l.length c, .int .i64 at_] w fun e w' => e = .returned (.tuple #[.string (rlineF l at_).1, .int .i64 (rlineF l at_).2.1, .int .i64 (rlineF l at_).2.2]) ∧ Drawn0 w w' := by
  have HR := Aside0.mk hr
  have HC := Aside0.mk hc
  clear hr hc
  go_enter Tryd.func41, Tryd.ntmps41
  go_wp2
  go_loop [7] (fun i => ∃ k : Nat, at_ ≤ k ∧ k ≤ l.length ∧ i = .int .i64 k ∧ Aside0 (lineL 0 (l.drop at_) = onto ((l.drop at_).take (k - at_)) (lineL (k - at_) (l.drop k)))) (fun i => l.length - (intOf i).toNat)
  case atStart => exact ⟨at_, Nat.le_refl _, hat, rfl, ⟨by simp [onto_nil]⟩⟩
  case round =>
    obtain ⟨k, hk0, hk, rfl, HL⟩ := hrel
    by_cases hlt : k < l.length
    · obtain ⟨ad, hA, hx⟩ := HR.out.at_ (k : Int) (by omega) (by omega)
      subst hA
      rw [Int.toNat_natCast] at hx
      have hC := HC
      have e0 := drop_rd l k hlt
      have hlt' : decide ((k : Int) < (l.length : Int)) = true := by simp; omega
      have p0 : 0 ≤ (k : Int) := by omega
      by_cases h13 : rd l (k : Int) = 13
      · have h13' : (rd l (k : Int) == 13) = true := beq_iff_eq.mpr h13
        have E0 := Aside0.mk e0
        have H13 := Aside0.mk h13
        clear e0 h13
        by_cases hnx : k + 1 < l.length
        · have hnx' : decide ((l.length : Int) ≤ (k : Int) + 1) = false := by simp; omega
          obtain ⟨ad2, hA2, hx2⟩ := HR.out.at_ ((k : Int) + 1) (by omega) (by omega)
          obtain rfl : ad = ad2 := by injection hA2
          rw [show ((k : Int) + 1).toNat = k + 1 from by omega, add_succ] at hx2
          have e1 := drop_rd l (k + 1) hnx
          have p1 : 0 ≤ (k : Int) + 1 := by omega
          rw [show ((k + 1 : Nat) : Int) = (k : Int) + 1 from by omega] at e1
          have E1 := Aside0.mk e1
          clear e1
          by_cases h10 : rd l ((k : Int) + 1) = 10
          · have h10' : (rd l ((k : Int) + 1) != 10) = false := bne_eq_false_iff_eq.mpr h10
            have HF : Aside0 (lineL 0 (l.drop at_) = .ok ((l.drop at_).take (k - at_), l.drop (k + 1 + 1))) := ⟨by rw [HL.out, E0.out, H13.out, E1.out, h10, line_crlf, onto_ok]; simp⟩
            clear h10
            obtain ⟨i0, hi0, _, hsz, _⟩ := info_parts i5
            obtain ⟨A14, n14, c14, hcut, hn14, hc14, hrd⟩ := mid_reads (P := Tryd.prog) Tryd.underlying22 hi0 hsz HR.out HC.out at_ k hk0 (by omega)
            have hcv := string_of_reads (dst := 9) Tryd.underlying22 Tryd.underlying5 Tryd.underlying9 (c := c14) (hrd w HR.out)
            clear hn14 hc14 hrd hi0 hsz
            go_wp2
            go_ret3
            refine ⟨?_, Drawn0.refl _⟩
            rw [rline_ok HF.out, List.drop_take]
            have hq : (l.length - (l.drop (k + 1 + 1)).length : Nat) = k + 2 := by simp; omega
            rw [hq]
            rfl
          · have h10' : (rd l ((k : Int) + 1) != 10) = true := bne_iff_ne.mpr h10
            have HF : Aside0 (lineL 0 (l.drop at_) = .error 94) := ⟨by rw [HL.out, E0.out, H13.out, E1.out, line_crx _ _ _ h10]; rfl⟩
            clear h10
            go_wp2
            go_ret3
            exact ⟨by rw [rline_err HF.out]; rfl, Drawn0.refl _⟩
        · have hnx' : decide ((l.length : Int) ≤ (k : Int) + 1) = true := by simp; omega
          have HF : Aside0 (lineL 0 (l.drop at_) = .error 92) := ⟨by rw [HL.out, E0.out, H13.out, show l.drop (k + 1) = [] from List.drop_eq_nil_of_le (by omega), line_cr]; rfl⟩
          go_wp2
          go_ret3
          exact ⟨by rw [rline_err HF.out]; rfl, Drawn0.refl _⟩
      · have h13' : (rd l (k : Int) == 13) = false := beq_eq_false_iff_ne.mpr h13
        by_cases hbad : rd l (k : Int) = 10 ∨ 1024 ≤ k - at_
        · have HF : Aside0 (lineL 0 (l.drop at_) = .error 94) := ⟨by rw [HL.out, e0, line_bad _ _ _ h13 hbad]; rfl⟩
          clear e0 h13
          by_cases hb24 : 1024 ≤ k - at_
          · have h24' : decide ((1024 : Int) ≤ (k : Int) - (at_ : Int)) = true := by simp; omega
            clear hbad
            go_wp2
            go_ret3
            exact ⟨by rw [rline_err HF.out]; rfl, Drawn0.refl _⟩
          · have h10 : rd l (k : Int) = 10 := hbad.resolve_right hb24
            have h10' : (rd l (k : Int) == 10) = true := beq_iff_eq.mpr h10
            have h24' : decide ((1024 : Int) ≤ (k : Int) - (at_ : Int)) = false := by simp; omega
            clear h10 hbad
            go_wp2
            go_ret3
            exact ⟨by rw [rline_err HF.out]; rfl, Drawn0.refl _⟩
        · have HF : Aside0 (lineL 0 (l.drop at_) = onto ((l.drop at_).take (k + 1 - at_)) (lineL (k + 1 - at_) (l.drop (k + 1)))) := ⟨by
            rw [HL.out, e0, line_on _ _ _ h13 hbad, onto_map, show k + 1 - at_ = k - at_ + 1 from by omega, take_rd _ _ (by simp; omega)]
            simp [rd, List.getD_eq_getElem?_getD, show at_ + (k - at_) = k from by omega]⟩
          have hb10 : ¬ rd l (k : Int) = 10 := fun h => hbad (.inl h)
          have hb24 : k - at_ < 1024 := Nat.lt_of_not_le fun h => hbad (.inr h)
          clear e0 h13 hbad
          have h10' : (rd l (k : Int) == 10) = false := beq_eq_false_iff_ne.mpr hb10
          have h24' : decide ((1024 : Int) ≤ (k : Int) - (at_ : Int)) = false := by simp; omega
          clear hb10
          go_wp2
          go_round
          case rel => exact ⟨k + 1, by omega, by omega, by go_num, HF⟩
          case measure => simp [intOf]; omega
    · have hlt' : decide ((k : Int) < (l.length : Int)) = false := by simp; omega
      have HF : Aside0 (lineL 0 (l.drop at_) = .error 92) := ⟨by rw [HL.out, show l.drop k = [] from List.drop_eq_nil_of_le (by omega), line_nil]; rfl⟩
      go_wp2
      go_ret3
      exact ⟨by rw [rline_err HF.out]; rfl, Drawn0.refl _⟩
end Go.Proofs.YtibgcbngnfaaiaaDoor.H

namespace Go.Proofs.YtibgcbngnfaaiaaDoor.H
open Go.RowKit Go.Proofs.YtibgcbngnfaaiaaDoorW.PrintWords

theorem i64_or_nat (a b : Nat) (ha : a < 9223372036854775808) (hb : b < 9223372036854775808) : bits .or .i64 (a : Int) (b : Int) = ((a ||| b : Nat) : Int) := by
  have hx : a ||| b < 2 ^ 63 := Nat.or_lt_two_pow (by omega) (by omega)
  show IntKind.i64.wrap ((BitVec.ofInt 64 (a : Int) ||| BitVec.ofInt 64 (b : Int)).toNat : Int) = _
  rw [BitVec.toNat_or, ofInt_u64 a (by omega), ofInt_u64 b (by omega), IntKind.wrap_i64]
  omega
theorem i64_or4 (m v : Int) (h0 : 0 ≤ m) (h1 : m < 68719476736) (h2 : 0 ≤ v) (h3 : v < 16) : bits .or .i64 (m * 16) v = 16 * m + v := by
  obtain ⟨M, rfl⟩ := Int.eq_ofNat_of_zero_le h0
  obtain ⟨V, rfl⟩ := Int.eq_ofNat_of_zero_le h2
  rw [show (M : Int) * 16 = ((M * 16 : Nat) : Int) from by omega, i64_or_nat _ _ (by omega) (by omega), nat_join 4 (M * 16) V (by omega) (by omega)]
  omega

def hexv (c : Int) : Int := if 48 ≤ c ∧ c ≤ 57 then c - 48 else if 97 ≤ c ∧ c ≤ 102 then c - 97 + 10 else if 65 ≤ c ∧ c ≤ 70 then c - 65 + 10 else -1
/-- From place i of s on, n told so far: the number, or ErrFrame; 'ok': what may stand behind ';'. -/
def lenAt (ok : ByteArray → Bool) (s : ByteArray) : Nat → Nat → Int → Except Int Int
  | 0, i, n => if 0 < i then .ok n else .error 94
  | d + 1, i, n =>
    if hexv (bt s i) < 0 then (if 0 < i ∧ bt s i = 59 ∧ ok (s.extract (i + 1) s.size) = true then .ok n else .error 94)
    else if 8 ≤ i then .error 94
    else lenAt ok s d (i + 1) (16 * n + hexv (bt s i))
/-- One more place. -/
theorem lenAt_on {ok : ByteArray → Bool} {s : ByteArray} {i : Nat} {n b : Int} (h : i < s.size) (hb : b = bt s i) (h0 : 0 ≤ hexv b) (h8 : i < 8) :
    lenAt ok s (s.size - i) i n = lenAt ok s (s.size - (i + 1)) (i + 1) (16 * n + hexv b) := by
  rw [show s.size - i = (s.size - (i + 1)) + 1 from by omega, lenAt, ← hb, if_neg (by omega), if_neg (by omega)]
theorem lenAt_long {ok : ByteArray → Bool} {s : ByteArray} {i : Nat} {n b : Int} (h : i < s.size) (hb : b = bt s i) (h0 : 0 ≤ hexv b) (h8 : 8 ≤ i) : lenAt ok s (s.size - i) i n = .error 94 := by
  rw [show s.size - i = (s.size - (i + 1)) + 1 from by omega, lenAt, ← hb, if_neg (by omega), if_pos h8]
theorem lenAt_stop {ok : ByteArray → Bool} {s : ByteArray} {i : Nat} {n b : Int} (h : i < s.size) (hb : b = bt s i) (h0 : hexv b < 0) :
    lenAt ok s (s.size - i) i n = if 0 < i ∧ b = 59 ∧ ok (s.extract (i + 1) s.size) = true then .ok n else .error 94 := by
  rw [show s.size - i = (s.size - (i + 1)) + 1 from by omega, lenAt, ← hb, if_pos h0]
theorem lenAt_end {ok : ByteArray → Bool} {s : ByteArray} {i : Nat} {n : Int} (h : ¬ i < s.size) : lenAt ok s (s.size - i) i n = if 0 < i then .ok n else .error 94 := by
  rw [show s.size - i = 0 from by omega, lenAt]
theorem pow16 (k : Nat) (h : k ≤ 8) : (16 : Int) ^ k ≤ 4294967296 := by
  have h1 : (16 : Nat) ^ k ≤ 16 ^ 8 := Nat.pow_le_pow_right (by omega) h
  have h2 : ((16 ^ k : Nat) : Int) = (16 : Int) ^ k := by simp
  omega
theorem hexv_digit {b : Int} (h : 48 ≤ b ∧ b ≤ 57) : hexv b = b - 48 := by unfold hexv; rw [if_pos h]
theorem hexv_small {b : Int} (h : 97 ≤ b ∧ b ≤ 102) : hexv b = b - 97 + 10 := by unfold hexv; rw [if_neg (by omega), if_pos h]
theorem hexv_great {b : Int} (h : 65 ≤ b ∧ b ≤ 70) : hexv b = b - 65 + 10 := by unfold hexv; rw [if_neg (by omega), if_neg (by omega), if_pos h]
theorem hexv_none {b : Int} (h : ¬ (48 ≤ b ∧ b ≤ 57)) (h1 : ¬ (97 ≤ b ∧ b ≤ 102)) (h2 : ¬ (65 ≤ b ∧ b ≤ 70)) : hexv b = -1 := by unfold hexv; rw [if_neg h, if_neg h1, if_neg h2]
end Go.Proofs.YtibgcbngnfaaiaaDoor.H

namespace Go.Proofs.YtibgcbngnfaaiaaDoor.H
open Go.RowKit Go.Proofs.YtibgcbngnfaaiaaDoorW.PrintWords Go.Proofs.YtibgcbngnfaaiaaDoorW.PrintLast Go.Proofs.YtibgcbngnfaaiaaDoorW.PrintMore
set_option linter.unusedVariables false
set_option linter.unusedSimpArgs false

/-- A reader's block. -/
def Rdr (w : World) (g : Nat) (A : Option Addr) (c : Nat) (l : List Int) (p : Nat) : Prop := w.heap[g]? = some (.cells #[.slice A l.length c, .int .i64 p] 68 (0, 0))

theorem rdr_lt {w : World} {g : Nat} {A : Option Addr} {c p : Nat} {l : List Int} (h : Rdr w g A c l p) : g < w.heap.size := by
  unfold Rdr at h
  exact blk_lt h
theorem rdr_set {w : World} {g : Nat} {A : Option Addr} {c p q : Nat} {l : List Int} (h : Rdr w g A c l p) : Rdr (w.drew.setCell ⟨g, 1, none⟩ (.int .i64 q)) g A c l q := by
  unfold Rdr at h ⊢
  exact blk_set (blk_drew h) 1 _

/-- The end of a line, d bytes of it still to come. -/
def endF (l : List Int) : Nat → Nat → Except Int Nat
  | 0, p => .ok p
  | d + 1, p => if p < l.length then (if rd l p = (if d = 0 then 10 else 13) then endF l d (p + 1) else .error 94) else .error 92

def EndPost (l : List Int) (A : Option Addr) (c p g : Nat) (w : World) (e : Ending) (w' : World) : Prop :=
  match endF l 2 p with
  | .ok q => e = .returned (.tuple #[]) ∧ w.grownBy w' (some g) ∧ Rdr w' g A c l q
  | .error x => e = .panicked (stopC x) ∧ w.grownBy w' (some g)

theorem gdrew {w w1 : World} {row : Option Nat} (h : w.grownBy w1 row) : w.grownBy w1.drew row := ⟨h.os, h.tape, h.output, h.size, h.block⟩
theorem gset {w w1 : World} {g : Nat} (h : w.grownBy w1 (some g)) (j : Nat) (v : Value) : w.grownBy (w1.setCell ⟨g, j, none⟩ v) (some g) :=
  ⟨h.os, h.tape, h.output, by simp [World.setCell]; exact h.size, fun k hk hne => by
    rw [Below.heap_setCell _ _ _ _ (fun e => hne (by rw [e]))]
    exact h.block k hk hne⟩
theorem epost_err {l : List Int} {A : Option Addr} {c p g : Nat} {w w' : World} {x : Int} (h : endF l 2 p = .error x) (hw : w.grownBy w' (some g)) : EndPost l A c p g w (.panicked (stopC x)) w' := by
  unfold EndPost; rw [h]; exact ⟨rfl, hw⟩
theorem epost_ok {l : List Int} {A : Option Addr} {c p g q : Nat} {w w' : World} (h : endF l 2 p = .ok q) (hw : w.grownBy w' (some g)) (hr : Rdr w' g A c l q) : EndPost l A c p g w (.returned (.tuple #[])) w' := by
  unfold EndPost; rw [h]; exact ⟨rfl, hw, hr⟩

set_option maxHeartbeats 4000000 in
set_option maxRecDepth 100000 in
theorem end_calls (g : Nat) (A : Option Addr) (c : Nat) (l : List Int) (p : Nat) (w : World) (hg : Rdr w g A c l p)
    (hr : ∀ W, w.grownBy W (some g) → ReadsInt W .u8 A l.length l) (hp : p ≤ l.length) :
    Calls Tryd.prog 71 #[.pointer (some ⟨g, 0, none⟩)] w (EndPost l A c p g w) := by
  have HR := Aside0.mk hr
  have HG := Aside0.mk hg
  clear hr hg
  have kc := fun (w : World) (C : Array Value) (n c : Nat) => Lib.run_convert_bytes_const (P := Tryd.prog) w 22 5 C n c Tryd.underlying22 Tryd.underlying5
  go_enter Tryd.func71, Tryd.ntmps71
  go_wp2
  clear kc
  go_loopw [7] (fun i wr => ∃ k q : Nat, k ≤ 2 ∧ i = .int .i64 k ∧ Aside0 (w.grownBy wr (some g)) ∧ Aside0 (wr.heap[w.heap.size]? = some (.cells #[.int .u8 13, .int .u8 10] 5 (2, 3))) ∧ Aside0 (Rdr wr g A c l q) ∧ q ≤ l.length ∧ Aside0 (endF l 2 p = endF l (2 - k) q)) (fun i _ => 2 - (intOf i).toNat)
  case atStart => exact ⟨0, p, by omega, rfl, ⟨World.grownBy_alloc _ _ _⟩, ⟨blk_new _ _⟩, ⟨blk_alloc HG.out _⟩, hp, ⟨rfl⟩⟩
  case round =>
    obtain ⟨k, q, hk, rfl, HW, HLIT, HRD, hq, HE⟩ := hrel
    by_cases hlt : k < 2
    · have hb0 : wr.cell? ⟨g, 0, none⟩ = some (.slice A l.length c) := blk_cell HRD.out 0
      have hb1 : wr.cell? ⟨g, 1, none⟩ = some (.int .i64 q) := blk_cell HRD.out 1
      have hf1 : wr.frozen? ⟨g, 1, none⟩ = false := blk_frozen HRD.out 1
      obtain ⟨v, hv⟩ : ∃ v : Int, v = if k = 0 then 13 else 10 := ⟨_, rfl⟩
      have hlit : wr.cell? ⟨w.heap.size, k, none⟩ = some (.int .u8 v) := by
        rw [World.cell?, HLIT.out, hv]
        rcases (show k = 0 ∨ k = 1 by omega) with rfl | rfl <;> rfl
      have HV := Aside0.mk hv
      clear hv
      have HEk : Aside0 (endF l 2 p = if q < l.length then (if rd l q = v then endF l (2 - (k + 1)) (q + 1) else .error 94) else .error 92) := ⟨by
        rw [HE.out, HV.out]
        rcases (show k = 0 ∨ k = 1 by omega) with rfl | rfl <;> rfl⟩
      have hn := (HR.out w ⟨rfl, rfl, rfl, Nat.le_refl _, fun _ _ _ => rfl⟩).2.1
      by_cases hql : q < l.length
      · have hql' : decide ((q : Int) < (l.length : Int)) = true := by simp; omega
        obtain ⟨ad, hA, hx⟩ := (HR.out wr HW.out).at_ (q : Int) (by omega) (by omega)
        rw [Int.toNat_natCast] at hx
        subst hA
        have hq0 : 0 ≤ (q : Int) := by omega
        by_cases hqv : rd l (q : Int) = v
        · have hqv' : (rd l (q : Int) == v) = true := by simpa using hqv
          have HF : Aside0 (endF l 2 p = endF l (2 - (k + 1)) (q + 1)) := ⟨by rw [HEk.out, if_pos hql, if_pos hqv]⟩
          clear hqv
          go_wp2
          go_still_tail 10, (by kernel_rfl)
          change wpList _ _ _ _ _ wr.drew
          obtain ⟨w2, hw2, HW2, HLIT2, HRD2, hb02, hb12, hf12, hlit2, hx2⟩ : ∃ w2, wr.drew = w2 ∧ Aside0 (w.grownBy w2 (some g)) ∧ Aside0 (w2.heap[w.heap.size]? = some (.cells #[.int .u8 13, .int .u8 10] 5 (2, 3))) ∧ Aside0 (Rdr w2 g (some ad) c l q) ∧
              w2.cell? ⟨g, 0, none⟩ = some (.slice (some ad) l.length c) ∧ w2.cell? ⟨g, 1, none⟩ = some (.int .i64 q) ∧ w2.frozen? ⟨g, 1, none⟩ = false ∧ w2.cell? ⟨w.heap.size, k, none⟩ = some (.int .u8 v) ∧ w2.cell? (ad.add q) = some (.int .u8 (rd l q)) :=
            ⟨_, rfl, ⟨gdrew HW.out⟩, ⟨HLIT.out⟩, ⟨HRD.out⟩, hb0, hb1, hf1, hlit, hx⟩
          rw [hw2]
          clear hw2 hb0 hb1 hf1 hlit hx
          go_wp2_with (go_at_call 70; ((with_reducible refine (must_ok _ _).mono ?_); rintro e w' ⟨rfl, rfl⟩))
          go_still_tail 12, (by kernel_rfl)
          change wpList _ _ _ _ _ w2.drew
          go_wp2_with (go_at_call 70; ((with_reducible refine (must_ok _ _).mono ?_); rintro e w' ⟨rfl, rfl⟩))
          go_roundw
          case rel => exact ⟨k + 1, q + 1, by omega, by go_num, ⟨gset (gdrew HW2.out) _ _⟩, ⟨(Below.heap_setCell _ _ _ _ (Nat.ne_of_gt (rdr_lt HG.out))).trans (blk_drew HLIT2.out)⟩, ⟨rdr_set HRD2.out⟩, by omega, HF⟩
          case measure => simp [intOf]; omega
        · have hqv' : (rd l (q : Int) == v) = false := by simpa using hqv
          have HF : Aside0 (endF l 2 p = .error 94) := ⟨by rw [HEk.out, if_pos hql, if_neg hqv]⟩
          clear hqv
          go_wp2
          go_still_tail 10, (by kernel_rfl)
          change wpList _ _ _ _ _ wr.drew
          obtain ⟨w2, hw2, HW2, HLIT2, HRD2, hb02, hb12, hf12, hlit2, hx2⟩ : ∃ w2, wr.drew = w2 ∧ Aside0 (w.grownBy w2 (some g)) ∧ Aside0 (w2.heap[w.heap.size]? = some (.cells #[.int .u8 13, .int .u8 10] 5 (2, 3))) ∧ Aside0 (Rdr w2 g (some ad) c l q) ∧
              w2.cell? ⟨g, 0, none⟩ = some (.slice (some ad) l.length c) ∧ w2.cell? ⟨g, 1, none⟩ = some (.int .i64 q) ∧ w2.frozen? ⟨g, 1, none⟩ = false ∧ w2.cell? ⟨w.heap.size, k, none⟩ = some (.int .u8 v) ∧ w2.cell? (ad.add q) = some (.int .u8 (rd l q)) :=
            ⟨_, rfl, ⟨gdrew HW.out⟩, ⟨HLIT.out⟩, ⟨HRD.out⟩, hb0, hb1, hf1, hlit, hx⟩
          rw [hw2]
          clear hw2 hb0 hb1 hf1 hlit hx
          go_wp2_with (go_at_call 70; ((with_reducible refine (must_ok _ _).mono ?_); rintro e w' ⟨rfl, rfl⟩))
          go_still_tail 12, (by kernel_rfl)
          change wpList _ _ _ _ _ w2.drew
          go_wp2_with (go_at_call 70; ((with_reducible refine (must_no _ _).mono ?_); rintro e w' ⟨rfl, rfl⟩))
          exact ⟨rfl, epost_err HF.out (gdrew HW2.out)⟩
      · have hql' : decide ((q : Int) < (l.length : Int)) = false := by simp; omega
        have HF : Aside0 (endF l 2 p = .error 92) := ⟨by rw [HEk.out, if_neg hql]⟩
        go_wp2
        go_still_tail 10, (by kernel_rfl)
        change wpList _ _ _ _ _ wr.drew
        go_wp2_with (go_at_call 70; ((with_reducible refine (must_no _ _).mono ?_); rintro e w' ⟨rfl, rfl⟩))
        exact ⟨rfl, epost_err HF.out (gdrew HW.out)⟩
    · obtain rfl : k = 2 := by omega
      go_wp2
      go_end0
      exact epost_ok HE.out HW.out HRD.out
end Go.Proofs.YtibgcbngnfaaiaaDoor.H

namespace Go.Proofs.YtibgcbngnfaaiaaDoor.H
open Go.RowKit Go.Proofs.YtibgcbngnfaaiaaDoorW.PrintWords Go.Proofs.YtibgcbngnfaaiaaDoorW.PrintLast Go.Proofs.YtibgcbngnfaaiaaDoorW.PrintMore
set_option linter.unusedVariables false
set_option linter.unusedSimpArgs false

def LenPost (ok : ByteArray → Bool) (s : ByteArray) (w : World) (e : Ending) (w' : World) : Prop :=
  match lenAt ok s s.size 0 0 with
  | .ok n => e = .returned (.int .i64 n) ∧ Drawn0 w w'
  | .error x => e = .panicked (stopC x) ∧ Drawn0 w w'
theorem lpost_err {ok : ByteArray → Bool} {s : ByteArray} {w w' : World} {x : Int} (h : lenAt ok s s.size 0 0 = .error x) (hd : Drawn0 w w') : LenPost ok s w (.panicked (stopC x)) w' := by
  unfold LenPost; rw [h]; exact ⟨rfl, hd⟩
theorem lpost_ok {ok : ByteArray → Bool} {s : ByteArray} {w w' : World} {n : Int} (h : lenAt ok s s.size 0 0 = .ok n) (hd : Drawn0 w w') : LenPost ok s w (.returned (.int .i64 n)) w' := by
  unfold LenPost; rw [h]; exact ⟨rfl, hd⟩

set_option maxHeartbeats 4000000 in
set_option maxRecDepth 100000 in
theorem length_calls (ok : ByteArray → Bool) (s : ByteArray) (w : World) (hs : s.size ≤ 4611686018427387904)
    (hok : ∀ (t : ByteArray) (W : World), t.size ≤ s.size → Calls Tryd.prog 92 #[.string t] W fun e W' => e = .returned (.bool (ok t)) ∧ Drawn0 W W') :
    Calls Tryd.prog 67 #[.string s] w (LenPost ok s w) := by
  have HOK := Aside0.mk hok
  clear hok
  go_enter Tryd.func67, Tryd.ntmps67
  go_wp2
  go_loop [3, 4] (fun n i => ∃ (k : Nat) (m : Int), k ≤ s.size ∧ k ≤ 8 ∧ 0 ≤ m ∧ m < 16 ^ k ∧ i = .int .i64 k ∧ n = .int .i64 m ∧ Aside0 (lenAt ok s s.size 0 0 = lenAt ok s (s.size - k) k m)) (fun _ i => s.size - (intOf i).toNat)
  case atStart => exact ⟨0, 0, by omega, by omega, by omega, by omega, rfl, rfl, ⟨rfl⟩⟩
  case round =>
    obtain ⟨k, m, hk, hk8, hm0, hm1, rfl, rfl, HL⟩ := hrel
    have HM1 := Aside0.mk hm1
    have hm2 : m < 68719476736 := by
      have := pow16 k hk8
      omega
    clear hm1
    by_cases hlt : k < s.size
    · obtain ⟨b, hb⟩ : ∃ b, b = bt s (k : Int) := ⟨_, rfl⟩
      have hbr := bt_range s (k : Int)
      rw [← hb] at hbr
      obtain ⟨hb0, hb1⟩ := hbr
      have hbt : ∀ h : k < s.size, ((s[k]'h).toNat : Int) = b := fun h => by rw [hb, bt]; simp [hlt]
      have HB := Aside0.mk hb
      clear hb
      by_cases hd : 48 ≤ b ∧ b ≤ 57
      · have hv := hexv_digit hd
        obtain ⟨hd1, hd2⟩ := hd
        by_cases h8 : k < 8
        · have h8' : decide ((k : Int) < 8) = true := by simp; omega
          have HF : Aside0 (lenAt ok s s.size 0 0 = lenAt ok s (s.size - (k + 1)) (k + 1) (16 * m + (b - 48))) := ⟨by rw [HL.out, lenAt_on hlt HB.out (by omega) h8, hv]⟩
          have HV := Aside0.mk (i64_or4 m (b - 48) hm0 hm2 (by omega) (by omega))
          have HP : Aside0 (16 * m + (b - 48) < 16 ^ (k + 1)) := ⟨by have := HM1.out; rw [Int.pow_succ]; omega⟩
          clear hv
          go_wp2_with (go_at_call 70; ((with_reducible refine (must_ok _ _).mono ?_); rintro e w' ⟨rfl, rfl⟩))
          go_round
          case rel => exact ⟨k + 1, 16 * m + (b - 48), by omega, by omega, by omega, HP.out, by go_num, by rw [← HV.out], HF⟩
          case measure => simp [intOf]; omega
        · have h8' : decide ((k : Int) < 8) = false := by simp; omega
          have HF : Aside0 (lenAt ok s s.size 0 0 = .error 94) := ⟨by rw [HL.out, lenAt_long hlt HB.out (by omega) (by omega)]⟩
          clear hv
          go_wp2_with (go_at_call 70; ((with_reducible refine (must_no _ _).mono ?_); rintro e w' ⟨rfl, rfl⟩))
          exact ⟨rfl, lpost_err HF.out (Drawn0.refl _)⟩
      skip
      by_cases he : 97 ≤ b ∧ b ≤ 102
      · have hv := hexv_small he
        obtain ⟨hd1, hd2⟩ := he
        by_cases h8 : k < 8
        · have h8' : decide ((k : Int) < 8) = true := by simp; omega
          have HF : Aside0 (lenAt ok s s.size 0 0 = lenAt ok s (s.size - (k + 1)) (k + 1) (16 * m + (b - 97 + 10))) := ⟨by rw [HL.out, lenAt_on hlt HB.out (by omega) h8, hv]⟩
          have HV := Aside0.mk (i64_or4 m (b - 97 + 10) hm0 hm2 (by omega) (by omega))
          have HP : Aside0 (16 * m + (b - 97 + 10) < 16 ^ (k + 1)) := ⟨by have := HM1.out; rw [Int.pow_succ]; omega⟩
          clear hv
          go_wp2_with (go_at_call 70; ((with_reducible refine (must_ok _ _).mono ?_); rintro e w' ⟨rfl, rfl⟩))
          go_round
          case rel => exact ⟨k + 1, 16 * m + (b - 97 + 10), by omega, by omega, by omega, HP.out, by go_num, by rw [← HV.out], HF⟩
          case measure => simp [intOf]; omega
        · have h8' : decide ((k : Int) < 8) = false := by simp; omega
          have HF : Aside0 (lenAt ok s s.size 0 0 = .error 94) := ⟨by rw [HL.out, lenAt_long hlt HB.out (by omega) (by omega)]⟩
          clear hv
          go_wp2_with (go_at_call 70; ((with_reducible refine (must_no _ _).mono ?_); rintro e w' ⟨rfl, rfl⟩))
          exact ⟨rfl, lpost_err HF.out (Drawn0.refl _)⟩
      skip
      by_cases hg : 65 ≤ b ∧ b ≤ 70
      · have hv := hexv_great hg
        obtain ⟨hd1, hd2⟩ := hg
        by_cases h8 : k < 8
        · have h8' : decide ((k : Int) < 8) = true := by simp; omega
          have HF : Aside0 (lenAt ok s s.size 0 0 = lenAt ok s (s.size - (k + 1)) (k + 1) (16 * m + (b - 65 + 10))) := ⟨by rw [HL.out, lenAt_on hlt HB.out (by omega) h8, hv]⟩
          have HV := Aside0.mk (i64_or4 m (b - 65 + 10) hm0 hm2 (by omega) (by omega))
          have HP : Aside0 (16 * m + (b - 65 + 10) < 16 ^ (k + 1)) := ⟨by have := HM1.out; rw [Int.pow_succ]; omega⟩
          clear hv
          go_wp2_with (go_at_call 70; ((with_reducible refine (must_ok _ _).mono ?_); rintro e w' ⟨rfl, rfl⟩))
          go_round
          case rel => exact ⟨k + 1, 16 * m + (b - 65 + 10), by omega, by omega, by omega, HP.out, by go_num, by rw [← HV.out], HF⟩
          case measure => simp [intOf]; omega
        · have h8' : decide ((k : Int) < 8) = false := by simp; omega
          have HF : Aside0 (lenAt ok s s.size 0 0 = .error 94) := ⟨by rw [HL.out, lenAt_long hlt HB.out (by omega) (by omega)]⟩
          clear hv
          go_wp2_with (go_at_call 70; ((with_reducible refine (must_no _ _).mono ?_); rintro e w' ⟨rfl, rfl⟩))
          exact ⟨rfl, lpost_err HF.out (Drawn0.refl _)⟩
      skip
      have hvn := hexv_none hd he hg
      have HN : Aside0 (lenAt ok s s.size 0 0 = if 0 < k ∧ b = 59 ∧ ok (s.extract (k + 1) s.size) = true then .ok m else .error 94) := ⟨by rw [HL.out, lenAt_stop hlt HB.out (by omega)]⟩
      clear hvn
      by_cases iA : b < 48
      · clear hd he hg
        by_cases hk0 : 0 < k
        · have hk0' : decide (0 < (k : Int)) = true := by simp; omega
          have hne : ((k : Int) == (s.size : Int)) = false := by simp; omega
          have hne2 : (k == s.size) = false := by simp; omega
          have h59 : (b == 59) = false := by simp; omega
          have HF : Aside0 (lenAt ok s s.size 0 0 = .error 94) := ⟨by rw [HN.out, if_neg (fun h => by omega)]⟩
          go_wp2_with (go_at_call 70; ((with_reducible refine (must_no _ _).mono ?_); rintro e w' ⟨rfl, rfl⟩))
          exact ⟨rfl, lpost_err HF.out (Drawn0.refl _)⟩
        · have hk0' : decide (0 < (k : Int)) = false := by simp; omega
          have HF : Aside0 (lenAt ok s s.size 0 0 = .error 94) := ⟨by rw [HN.out, if_neg (fun h => by omega)]⟩
          go_wp2_with (go_at_call 70; ((with_reducible refine (must_no _ _).mono ?_); rintro e w' ⟨rfl, rfl⟩))
          exact ⟨rfl, lpost_err HF.out (Drawn0.refl _)⟩
      by_cases iD : 102 < b
      · clear hd he hg iA
        by_cases hk0 : 0 < k
        · have hk0' : decide (0 < (k : Int)) = true := by simp; omega
          have hne : ((k : Int) == (s.size : Int)) = false := by simp; omega
          have hne2 : (k == s.size) = false := by simp; omega
          have h59 : (b == 59) = false := by simp; omega
          have HF : Aside0 (lenAt ok s s.size 0 0 = .error 94) := ⟨by rw [HN.out, if_neg (fun h => by omega)]⟩
          go_wp2_with (go_at_call 70; ((with_reducible refine (must_no _ _).mono ?_); rintro e w' ⟨rfl, rfl⟩))
          exact ⟨rfl, lpost_err HF.out (Drawn0.refl _)⟩
        · have hk0' : decide (0 < (k : Int)) = false := by simp; omega
          have HF : Aside0 (lenAt ok s s.size 0 0 = .error 94) := ⟨by rw [HN.out, if_neg (fun h => by omega)]⟩
          go_wp2_with (go_at_call 70; ((with_reducible refine (must_no _ _).mono ?_); rintro e w' ⟨rfl, rfl⟩))
          exact ⟨rfl, lpost_err HF.out (Drawn0.refl _)⟩
      by_cases iC : 70 < b
      · have iC2 : b < 97 := by omega
        clear hd he hg iA iD
        by_cases hk0 : 0 < k
        · have hk0' : decide (0 < (k : Int)) = true := by simp; omega
          have hne : ((k : Int) == (s.size : Int)) = false := by simp; omega
          have hne2 : (k == s.size) = false := by simp; omega
          have h59 : (b == 59) = false := by simp; omega
          have HF : Aside0 (lenAt ok s s.size 0 0 = .error 94) := ⟨by rw [HN.out, if_neg (fun h => by omega)]⟩
          go_wp2_with (go_at_call 70; ((with_reducible refine (must_no _ _).mono ?_); rintro e w' ⟨rfl, rfl⟩))
          exact ⟨rfl, lpost_err HF.out (Drawn0.refl _)⟩
        · have hk0' : decide (0 < (k : Int)) = false := by simp; omega
          have HF : Aside0 (lenAt ok s s.size 0 0 = .error 94) := ⟨by rw [HN.out, if_neg (fun h => by omega)]⟩
          go_wp2_with (go_at_call 70; ((with_reducible refine (must_no _ _).mono ?_); rintro e w' ⟨rfl, rfl⟩))
          exact ⟨rfl, lpost_err HF.out (Drawn0.refl _)⟩
      have iB1 : 57 < b := by omega
      have iB2 : b < 65 := by omega
      clear hd he hg iA iC iD
      by_cases i59 : b = 59
      · by_cases hk0 : 0 < k
        · have hk0' : decide (0 < (k : Int)) = true := by simp; omega
          have hne : ((k : Int) == (s.size : Int)) = false := by simp; omega
          have hne2 : (k == s.size) = false := by simp; omega
          have h59 : (b == 59) = true := by simp; omega
          have hk1 : k + 1 ≤ s.size := hlt
          cases hq : ok (s.extract (k + 1) s.size) with
          | true =>
            have HF : Aside0 (lenAt ok s s.size 0 0 = .ok m) := ⟨by rw [HN.out, if_pos ⟨hk0, i59, hq⟩]⟩
            have HQ := Aside0.mk hq
            clear hq i59
            go_wp2_with (first | (go_at_call 92; ((with_reducible refine (HOK.out (s.extract (k + 1) s.size) _ (by simp)).mono ?_); rintro e w' ⟨rfl, ⟨nd, rfl⟩⟩; rw [HQ.out])) | (go_at_call 70; ((with_reducible refine (must_ok _ _).mono ?_); rintro e w' ⟨rfl, rfl⟩)))
            go_ret
            exact lpost_ok HF.out ⟨nd, rfl⟩
          | false =>
            have HF : Aside0 (lenAt ok s s.size 0 0 = .error 94) := ⟨by rw [HN.out, if_neg (fun h => by rw [hq] at h; exact absurd h.2.2 (by simp))]⟩
            have HQ := Aside0.mk hq
            clear hq i59
            go_wp2_with (first | (go_at_call 92; ((with_reducible refine (HOK.out (s.extract (k + 1) s.size) _ (by simp)).mono ?_); rintro e w' ⟨rfl, ⟨nd, rfl⟩⟩; rw [HQ.out])) | (go_at_call 70; ((with_reducible refine (must_no _ _).mono ?_); rintro e w' ⟨rfl, rfl⟩)))
            exact ⟨rfl, lpost_err HF.out ⟨nd, rfl⟩⟩
        · have hk0' : decide (0 < (k : Int)) = false := by simp; omega
          have HF : Aside0 (lenAt ok s s.size 0 0 = .error 94) := ⟨by rw [HN.out, if_neg (fun h => by omega)]⟩
          clear i59
          go_wp2_with (go_at_call 70; ((with_reducible refine (must_no _ _).mono ?_); rintro e w' ⟨rfl, rfl⟩))
          exact ⟨rfl, lpost_err HF.out (Drawn0.refl _)⟩
      by_cases hk0 : 0 < k
      · have hk0' : decide (0 < (k : Int)) = true := by simp; omega
        have hne : ((k : Int) == (s.size : Int)) = false := by simp; omega
        have hne2 : (k == s.size) = false := by simp; omega
        have h59 : (b == 59) = false := by simp; omega
        have HF : Aside0 (lenAt ok s s.size 0 0 = .error 94) := ⟨by rw [HN.out, if_neg (fun h => by omega)]⟩
        go_wp2_with (go_at_call 70; ((with_reducible refine (must_no _ _).mono ?_); rintro e w' ⟨rfl, rfl⟩))
        exact ⟨rfl, lpost_err HF.out (Drawn0.refl _)⟩
      · have hk0' : decide (0 < (k : Int)) = false := by simp; omega
        have HF : Aside0 (lenAt ok s s.size 0 0 = .error 94) := ⟨by rw [HN.out, if_neg (fun h => by omega)]⟩
        go_wp2_with (go_at_call 70; ((with_reducible refine (must_no _ _).mono ?_); rintro e w' ⟨rfl, rfl⟩))
        exact ⟨rfl, lpost_err HF.out (Drawn0.refl _)⟩
    · have HN : Aside0 (lenAt ok s s.size 0 0 = if 0 < k then .ok m else .error 94) := ⟨by rw [HL.out, lenAt_end hlt]⟩
      by_cases hk0 : 0 < k
      · have hk0' : decide (0 < (k : Int)) = true := by simp; omega
        have hne : ((k : Int) == (s.size : Int)) = true := by simp; omega
        have hne2 : (k == s.size) = true := by simp; omega
        have HF : Aside0 (lenAt ok s s.size 0 0 = .ok m) := ⟨by rw [HN.out, if_pos hk0]⟩
        go_wp2_with (go_at_call 70; ((with_reducible refine (must_ok _ _).mono ?_); rintro e w' ⟨rfl, rfl⟩))
        go_ret
        exact lpost_ok HF.out (Drawn0.refl _)
      · have hk0' : decide (0 < (k : Int)) = false := by simp; omega
        have HF : Aside0 (lenAt ok s s.size 0 0 = .error 94) := ⟨by rw [HN.out, if_neg hk0]⟩
        go_wp2_with (go_at_call 70; ((with_reducible refine (must_no _ _).mono ?_); rintro e w' ⟨rfl, rfl⟩))
        exact ⟨rfl, lpost_err HF.out (Drawn0.refl _)⟩
end Go.Proofs.YtibgcbngnfaaiaaDoor.H

namespace Go.Proofs.YtibgcbngnfaaiaaDoor.H
open Go.RowKit Go.Proofs.YtibgcbngnfaaiaaDoorW.PrintWords Go.Proofs.YtibgcbngnfaaiaaDoorW.PrintLast Go.Proofs.YtibgcbngnfaaiaaDoorW.PrintMore
set_option linter.unusedVariables false
set_option linter.unusedSimpArgs false

theorem open1_idle (p q r : Addr) (w : World) :
    CallsD Tryd.prog 36 #[.pointer (some p), .pointer (some q), .pointer (some r)] .returning w fun e u' w' => e = .returned (.tuple #[]) ∧ u' = .returning ∧ w' = w := by
  refine callsD_of_wpS Tryd.func36 rfl fun c₀ cs hu => ?_
  apply wpS_seq
  apply wpS_region
  simp [wpOpsS, go_sem, recoverD, hu, Tryd.ntmps36, Exit.thenS]
  apply wpS_seq
  apply wpS_region
  simp [wpOpsS, go_sem, Exit.thenS, Array.replicate]
  refine wpS_cond (t := false) (by simp [Act.eval, Array.replicate]) ?_
  simp only [Bool.false_eq_true, if_false]
  refine wpS_of_wp (wp_skip ?_)
  cases c₀
  simp_all [bodyPostS, results, Tryd.results36]

theorem assert_stopped (x : Int) (W : World) : (Instr.typeAssert (.iface 64 (.agg #[.int .i64 x])) 20 64 true).run Tryd.prog W = .ok (.tuple #[.agg #[.int .i64 x], .bool true]) W := by
  simp [Instr.typeAssert, run_underlying Tryd.underlying64, go_sem]

set_option maxRecDepth 10000 in
set_option maxHeartbeats 1000000 in
theorem open1_catch (b0 b1 b2 : Nat) (x : Int) (u0 u1 u2 : Value) (t0 t1 t2 : TypeId) (w : World) (h0 : w.heap[b0]? = some (.cells #[u0] t0 (0, 0))) (h1 : w.heap[b1]? = some (.cells #[u1] t1 (0, 0))) (h2 : w.heap[b2]? = some (.cells #[u2] t2 (0, 0)))
    (n01 : b0 ≠ b1) (n02 : b0 ≠ b2) (n12 : b1 ≠ b2) :
    CallsD Tryd.prog 36 #[.pointer (some ⟨b0, 0, none⟩), .pointer (some ⟨b1, 0, none⟩), .pointer (some ⟨b2, 0, none⟩)] (.panicking (stopC x)) w fun e u' w' =>
      e = .returned (.tuple #[]) ∧ u' = .panicking [{ v := .iface 64 (.agg #[.int .i64 x]), recovered := true }] ∧
      ∃ n, w' = ((((w.drewN n).setCell ⟨b0, 0, none⟩ (.slice none 0 0)).setCell ⟨b1, 0, none⟩ (.int .i64 0)).setCell ⟨b2, 0, none⟩ (.int .i64 x)).alloc (.cells #[.int .i64 x] 64) := by
  have c0 : w.cell? ⟨b0, 0, none⟩ = some u0 := blk_cell h0 0
  have c1 : w.cell? ⟨b1, 0, none⟩ = some u1 := blk_cell h1 0
  have c2 : w.cell? ⟨b2, 0, none⟩ = some u2 := blk_cell h2 0
  have f0 : w.frozen? ⟨b0, 0, none⟩ = false := blk_frozen h0 0
  have f1 : w.frozen? ⟨b1, 0, none⟩ = false := blk_frozen h1 0
  have f2 : w.frozen? ⟨b2, 0, none⟩ = false := blk_frozen h2 0
  have l0 := blk_lt h0
  have l1 := blk_lt h1
  have l2 := blk_lt h2
  have hta := assert_stopped x
  unfold stopC
  refine callsD_of_wpS Tryd.func36 rfl fun c₀ cs hu => ?_
  apply wpS_seq
  apply wpS_region
  simp [wpOpsS, go_sem, recoverD, hu, Tryd.ntmps36, Exit.thenS]
  apply wpS_seq
  apply wpS_region
  simp [wpOpsS, go_sem, Exit.thenS, Array.replicate]
  refine wpS_cond (t := true) (by simp [Act.eval, Array.replicate]) ?_
  simp only [if_true]
  refine wpS_of_wp ?_
  go_wp2
  go_region
  go_wp2
  refine ⟨rfl, _, rfl, _, results_none rfl _ _ _, rfl, rfl, ?_⟩
  exact ⟨1, rfl⟩
end Go.Proofs.YtibgcbngnfaaiaaDoor.H
