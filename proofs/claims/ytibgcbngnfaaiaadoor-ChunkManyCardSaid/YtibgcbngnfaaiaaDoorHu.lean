/- ambryref10.line: a line read from a row of bytes. -/
import Derived.Test.YtibgcbngnfaaiaaDoorHb
import Derived.Outline
namespace Go.Proofs.YtibgcbngnfaaiaaDoor.H
open Go.RowKit Go.Proofs.YtibgcbngnfaaiaaDoorW.PrintWords Go.Proofs.YtibgcbngnfaaiaaDoorW.PrintLast Go.Proofs.YtibgcbngnfaaiaaDoorW.PrintMore
set_option linter.unusedVariables false
set_option linter.unusedSimpArgs false

/-- What the reference's line tells from a place on. -/
def rlineF (l : List Int) (p : Nat) : ByteArray × Int × Int :=
  match lineL 0 (l.drop p) with
  | .ok (s, r) => (strOfNums s, ((l.length - r.length : Nat) : Int), 0)
  | .error x => (⟨#[]⟩, 0, x)
theorem rline_err {l : List Int} {p : Nat} {x : Int} (h : lineL 0 (l.drop p) = .error x) : rlineF l p = (⟨#[]⟩, 0, x) := by unfold rlineF; rw [h]
theorem rline_ok {l : List Int} {p : Nat} {s r : List Int} (h : lineL 0 (l.drop p) = .ok (s, r)) : rlineF l p = (strOfNums s, ((l.length - r.length : Nat) : Int), 0) := by unfold rlineF; rw [h]

set_option maxHeartbeats 4000000 in
set_option maxRecDepth 100000 in
theorem rline_calls (A : Option Addr) (c : Nat) (l : List Int) (at_ : Nat) (w : World)
    (hr : ReadsInt w .u8 A l.length l) (hc : l.length ≤ c) (hat : at_ ≤ l.length) (hl : l.length ≤ 4611686018427387904) :
    Calls Tryd.prog 41 #[.slice A l.length c, .int .i64 at_] w fun e w' => e = .returned (.tuple #[.string (rlineF l at_).1, .int .i64 (rlineF l at_).2.1, .int .i64 (rlineF l at_).2.2]) ∧ Drawn0 w w' := by
  have HR := Aside0.mk hr
  have HC := Aside0.mk hc
  clear hr hc
  go_enter Tryd.func41, Tryd.ntmps41
  go_wp2
  go_loop [7] (fun i => ∃ k : Nat, at_ ≤ k ∧ k ≤ l.length ∧ i = .int .i64 k ∧ Aside0 (lineL 0 (l.drop at_) = onto ((l.drop at_).take (k - at_)) (lineL (k - at_) (l.drop k)))) (fun i => l.length - (intOf i).toNat)
  case atStart => exact ⟨at_, Nat.le_refl _, hat, rfl, ⟨by simp [onto_nil]⟩⟩
  case round =>
    obtain ⟨k, hk0, hk, rfl, HL⟩ := hrel
    by_cases hlt : k < l.length
    · obtain ⟨ad, hA, hx⟩ := HR.out.at_ (k : Int) (by omega) (by omega)
      subst hA
      rw [Int.toNat_natCast] at hx
      have hC := HC
      have e0 := drop_rd l k hlt
      have hlt' : decide ((k : Int) < (l.length : Int)) = true := by simp; omega
      have p0 : 0 ≤ (k : Int) := by omega
      by_cases h13 : rd l (k : Int) = 13
      · have h13' : (rd l (k : Int) == 13) = true := beq_iff_eq.mpr h13
        have E0 := Aside0.mk e0
        have H13 := Aside0.mk h13
        clear e0 h13
        by_cases hnx : k + 1 < l.length
        · have hnx' : decide ((l.length : Int) ≤ (k : Int) + 1) = false := by simp; omega
          obtain ⟨ad2, hA2, hx2⟩ := HR.out.at_ ((k : Int) + 1) (by omega) (by omega)
          obtain rfl : ad = ad2 := by injection hA2
          rw [show ((k : Int) + 1).toNat = k + 1 from by omega, add_succ] at hx2
          have e1 := drop_rd l (k + 1) hnx
          have p1 : 0 ≤ (k : Int) + 1 := by omega
          rw [show ((k + 1 : Nat) : Int) = (k : Int) + 1 from by omega] at e1
          have E1 := Aside0.mk e1
          clear e1
          by_cases h10 : rd l ((k : Int) + 1) = 10
          · have h10' : (rd l ((k : Int) + 1) != 10) = false := bne_eq_false_iff_eq.mpr h10
            have HF : Aside0 (lineL 0 (l.drop at_) = .ok ((l.drop at_).take (k - at_), l.drop (k + 1 + 1))) := ⟨by rw [HL.out, E0.out, H13.out, E1.out, h10, line_crlf, onto_ok]; simp⟩
            clear h10
            obtain ⟨i0, hi0, _, hsz, _⟩ := info_parts i5
            obtain ⟨A14, n14, c14, hcut, hn14, hc14, hrd⟩ := mid_reads (P := Tryd.prog) Tryd.underlying22 hi0 hsz HR.out HC.out at_ k hk0 (by omega)
            have hcv := string_of_reads (dst := 9) Tryd.underlying22 Tryd.underlying5 Tryd.underlying9 (c := c14) (hrd w HR.out)
            clear hn14 hc14 hrd hi0 hsz
            go_wp2
            go_ret3
            refine ⟨?_, Drawn0.refl _⟩
            rw [rline_ok HF.out, List.drop_take]
            have hq : (l.length - (l.drop (k + 1 + 1)).length : Nat) = k + 2 := by simp; omega
            rw [hq]
            rfl
          · have h10' : (rd l ((k : Int) + 1) != 10) = true := bne_iff_ne.mpr h10
            have HF : Aside0 (lineL 0 (l.drop at_) = .error 94) := ⟨by rw [HL.out, E0.out, H13.out, E1.out, line_crx _ _ _ h10]; rfl⟩
            clear h10
            go_wp2
            go_ret3
            exact ⟨by rw [rline_err HF.out]; rfl, Drawn0.refl _⟩
        · have hnx' : decide ((l.length : Int) ≤ (k : Int) + 1) = true := by simp; omega
          have HF : Aside0 (lineL 0 (l.drop at_) = .error 92) := ⟨by rw [HL.out, E0.out, H13.out, show l.drop (k + 1) = [] from List.drop_eq_nil_of_le (by omega), line_cr]; rfl⟩
          go_wp2
          go_ret3
          exact ⟨by rw [rline_err HF.out]; rfl, Drawn0.refl _⟩
      · have h13' : (rd l (k : Int) == 13) = false := beq_eq_false_iff_ne.mpr h13
        by_cases hbad : rd l (k : Int) = 10 ∨ 1024 ≤ k - at_
        · have HF : Aside0 (lineL 0 (l.drop at_) = .error 94) := ⟨by rw [HL.out, e0, line_bad _ _ _ h13 hbad]; rfl⟩
          clear e0 h13
          by_cases hb24 : 1024 ≤ k - at_
          · have h24' : decide ((1024 : Int) ≤ (k : Int) - (at_ : Int)) = true := by simp; omega
            clear hbad
            go_wp2
            go_ret3
            exact ⟨by rw [rline_err HF.out]; rfl, Drawn0.refl _⟩
          · have h10 : rd l (k : Int) = 10 := hbad.resolve_right hb24
            have h10' : (rd l (k : Int) == 10) = true := beq_iff_eq.mpr h10
            have h24' : decide ((1024 : Int) ≤ (k : Int) - (at_ : Int)) = false := by simp; omega
            clear h10 hbad
            go_wp2
            go_ret3
            exact ⟨by rw [rline_err HF.out]; rfl, Drawn0.refl _⟩
        · have HF : Aside0 (lineL 0 (l.drop at_) = onto ((l.drop at_).take (k + 1 - at_)) (lineL (k + 1 - at_) (l.drop (k + 1)))) := ⟨by
            rw [HL.out, e0, line_on _ _ _ h13 hbad, onto_map, show k + 1 - at_ = k - at_ + 1 from by omega, take_rd _ _ (by simp; omega)]
            simp [rd, List.getD_eq_getElem?_getD, show at_ + (k - at_) = k from by omega]⟩
          have hb10 : ¬ rd l (k : Int) = 10 := fun h => hbad (.inl h)
          have hb24 : k - at_ < 1024 := Nat.lt_of_not_le fun h => hbad (.inr h)
          clear e0 h13 hbad
          have h10' : (rd l (k : Int) == 10) = false := beq_eq_false_iff_ne.mpr hb10
          have h24' : decide ((1024 : Int) ≤ (k : Int) - (at_ : Int)) = false := by simp; omega
          clear hb10
          go_wp2
          go_round
          case rel => exact ⟨k + 1, by omega, by omega, by go_num, HF⟩
          case measure => simp [intOf]; omega
    · have hlt' : decide ((k : Int) < (l.length : Int)) = false := by simp; omega
      have HF : Aside0 (lineL 0 (l.drop at_) = .error 92) := ⟨by rw [HL.out, show l.drop k = [] from List.drop_eq_nil_of_le (by omega), line_nil]; rfl⟩
      go_wp2
      go_ret3
      exact ⟨by rw [rline_err HF.out]; rfl, Drawn0.refl _⟩
end Go.Proofs.YtibgcbngnfaaiaaDoor.H
