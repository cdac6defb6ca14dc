/- (*chunk.reader).body walked: the loop. -/
import Derived.Test.YtibgcbngnfaaiaaDoorHf
import Derived.StillTailTactics
import Derived.IntWalk
import Derived.Outline
namespace Go.Proofs.YtibgcbngnfaaiaaDoor.H
open Go.RowKit Go.Proofs.YtibgcbngnfaaiaaDoorW.PrintWords Go.Proofs.YtibgcbngnfaaiaaDoorW.PrintLast Go.Proofs.YtibgcbngnfaaiaaDoorW.PrintMore
set_option linter.unusedVariables false
set_option linter.unusedSimpArgs false

theorem rdr_c0 {w : World} {g : Nat} {A : Option Addr} {c p : Nat} {l : List Int} (h : Rdr w g A c l p) : w.cell? ⟨g, 0, none⟩ = some (.slice A l.length c) := by unfold Rdr at h; exact blk_cell h 0
theorem rdr_c1 {w : World} {g : Nat} {A : Option Addr} {c p : Nat} {l : List Int} (h : Rdr w g A c l p) : w.cell? ⟨g, 1, none⟩ = some (.int .i64 p) := by unfold Rdr at h; exact blk_cell h 1
theorem rdr_f1 {w : World} {g : Nat} {A : Option Addr} {c p : Nat} {l : List Int} (h : Rdr w g A c l p) : w.frozen? ⟨g, 1, none⟩ = false := by unfold Rdr at h; exact blk_frozen h 1
theorem rdr_setz {w : World} {g : Nat} {A : Option Addr} {c p q : Nat} {l : List Int} {z : Int} (h : Rdr w g A c l p) (hz : z = (q : Int)) : Rdr (w.setCell ⟨g, 1, none⟩ (.int .i64 z)) g A c l q := by
  subst hz; exact rdr_set0 h
theorem rdrQ {w1 w2 : World} {g : Nat} {A : Option Addr} {c q1 : Nat} {l r : List Int} (hq : q1 = l.length - r.length) (h : Rdr w1 g A c l (l.length - r.length)) (hd : Drawn0 w1 w2) : Rdr w2 g A c l q1 := by
  rw [hq]; exact rdr_below h hd.below
theorem readsQ {w wr w1 w2 : World} {g : Nat} {A : Option Addr} {l : List Int} (hr : ∀ W, w.grownBy W (some g) → ReadsInt W .u8 A l.length l) (hW : w.grownBy wr (some g)) (h1 : wr.grownBy w1 (some g)) (hd : Drawn0 w1 w2) :
    ∀ W, w2.grownBy W (some g) → ReadsInt W .u8 A l.length l := fun W h => hr W (gtrans (gbelow (gtrans hW h1) hd.below) h)

set_option maxHeartbeats 8000000 in
set_option maxRecDepth 100000 in
theorem body_calls (okb okf : ByteArray → Bool) (hkb : BytesOk okb) (hkf : FieldOk okf) (g : Nat) (A : Option Addr) (c : Nat) (l : List Int) (p : Nat) (w : World) (hg : Rdr w g A c l p)
    (hr : ∀ W, w.grownBy W (some g) → ReadsInt W .u8 A l.length l) (hc : l.length ≤ c) (hp : p ≤ l.length) :
    Calls Tryd.prog 37 #[.pointer (some ⟨g, 0, none⟩)] w (BodyPost okb okf l A c p g w) := by
  have HR := Aside0.mk hr
  have HG := Aside0.mk hg
  have HC := Aside0.mk hc
  have HKB := Aside0.mk hkb
  have HKF := Aside0.mk hkf
  have hgw := rdr_lt hg
  have hn := (hr w (grefl _ _)).2.1
  clear hr hg hc hkb hkf
  go_enter Tryd.func37, Tryd.ntmps37
  go_wp2
  go_loopg [3] (l.length + 1) (fun d v3 wr => ∃ (out : List Int) (q : Nat) (Av : Option Addr) (cv : Nat), v3 = .slice Av out.length cv ∧ out.length ≤ 65536 ∧ Aside0 (wr.ownsRow w.heap.size 5 1 (.slice Av out.length cv) out.length (nums .u8 out)) ∧
    Aside0 (w.grownBy wr (some g)) ∧ Aside0 (Rdr wr g A c l q) ∧ q ≤ l.length ∧ Aside0 (l.length < d + q) ∧ Aside0 (bodyF okb okf l (l.length + 1) p [] = bodyF okb okf l d q out))
  case atStart => exact ⟨[], p, none, 0, rfl, by simp, ⟨own_nil _ _ _ _⟩, ⟨grefl _ _⟩, HG, hp, ⟨by omega⟩, ⟨rfl⟩⟩
  case round =>
    obtain ⟨out, q, Av, cv, rfl, ho, HO, HW, HRD, hq, HD, HE⟩ := hrel
    obtain ⟨d, rfl⟩ : ∃ d', gk = d' + 1 := ⟨gk - 1, by have := HD.out; omega⟩
    cases hl : lineL 0 (l.drop q) with
    | error x =>
      have HL := Aside0.mk hl
      have HF : Aside0 (bodyF okb okf l (l.length + 1) p [] = .error x) := ⟨by rw [HE.out, bodyF, hl]⟩
      clear hl
      go_wp2_with (go_at_call 68; ((with_reducible refine (line_err HL.out HRD.out (HR.out _ HW.out) HC.out hq).mono ?_); rintro e w' ⟨rfl, rfl⟩))
      exact ⟨rfl, bpost_err HF.out HW.out⟩
    | ok sr =>
      obtain ⟨s, r⟩ := sr
      have HL := Aside0.mk hl
      have hll := line_len _ _ _ _ hl
      rw [List.length_drop] at hll
      have HSZ : Aside0 ((strOfNums s).size ≤ 4294967296) := ⟨by rw [strOfNums_size]; have := line_short _ _ _ _ hl; omega⟩
      obtain ⟨q1, hq1⟩ : ∃ q1, q1 = l.length - r.length := ⟨_, rfl⟩
      have hq2 : q + 2 ≤ q1 := by omega
      have hq3 : q1 ≤ l.length := by omega
      have HQ1 := Aside0.mk hq1
      clear hl hll hq1
      cases hln : lenAt okb (strOfNums s) (strOfNums s).size 0 0 with
      | error x =>
        have HLN := Aside0.mk hln
        have HF : Aside0 (bodyF okb okf l (l.length + 1) p [] = .error x) := ⟨by rw [HE.out, bodyF, HL.out]; simp only []; rw [hln]⟩
        clear hln
        go_wp2_with (first | (go_at_call 68; ((with_reducible refine (line_ok HL.out HRD.out (HR.out _ HW.out) HC.out hq).mono ?_); rintro e w1 ⟨rfl, hw1, hr1⟩; replace hw1 := Aside0.mk hw1; replace hr1 := Aside0.mk hr1)) | (go_at_call 67; ((with_reducible refine (length_err HKB.out HLN.out HSZ.out).mono ?_); rintro e w2 ⟨rfl, hw2⟩; replace hw2 := Aside0.mk hw2)))
        exact ⟨rfl, bpost_err HF.out (gbelow (gtrans HW.out hw1.out) hw2.out.below)⟩
      | ok n =>
        have HLN := Aside0.mk hln
        have h0n := lenAt_range _ _ _ _ _ _ (Int.le_refl 0) hln
        obtain ⟨N, rfl⟩ := Int.eq_ofNat_of_zero_le h0n
        have HN : Aside0 (bodyF okb okf l (l.length + 1) p [] = if (N : Int) = 0 then (match trailF okf l (l.length + 1) 0 q1 with | .error x => .error x | .ok q => .ok (out, q))
          else if ¬ (N : Int) ≤ 65536 - (out.length : Int) then .error 93 else if ¬ (N : Int) ≤ (l.length : Int) - (q1 : Int) then .error 92
          else match endF l 2 (q1 + N) with | .error x => .error x | .ok q => bodyF okb okf l d q (out ++ (l.take (q1 + N)).drop q1)) := ⟨by rw [HE.out, bodyF, HL.out]; simp only []; rw [hln]; simp only [← HQ1.out, Int.toNat_natCast]; rfl⟩
        clear hln h0n
        by_cases hN0 : (N : Int) = 0
        · have hN0' : ((N : Int) == 0) = true := by simpa using hN0
          cases ht : trailF okf l (l.length + 1) 0 q1 with
          | error x =>
            have HT := Aside0.mk ht
            have HF : Aside0 (bodyF okb okf l (l.length + 1) p [] = .error x) := ⟨by rw [HN.out, if_pos hN0, ht]⟩
            clear ht hN0
            go_wp2_with (first | (go_at_call 68; ((with_reducible refine (line_ok HL.out HRD.out (HR.out _ HW.out) HC.out hq).mono ?_); rintro e w1 ⟨rfl, hw1, hr1⟩; replace hw1 := Aside0.mk hw1; replace hr1 := Aside0.mk hr1)) | (go_at_call 67; ((with_reducible refine (length_ok HKB.out HLN.out HSZ.out).mono ?_); rintro e w2 ⟨rfl, hw2⟩; replace hw2 := Aside0.mk hw2)) | (go_at_call 69; ((with_reducible refine (trailers_err HKF.out HT.out (rdrQ HQ1.out hr1.out hw2.out) (readsQ HR.out HW.out hw1.out hw2.out) HC.out hq3).mono ?_); rintro e w3 ⟨rfl, hw3⟩; replace hw3 := Aside0.mk hw3)))
            exact ⟨rfl, bpost_err HF.out (gtrans (gbelow (gtrans HW.out hw1.out) hw2.out.below) hw3.out)⟩
          | ok q2 =>
            have HT := Aside0.mk ht
            have HF : Aside0 (bodyF okb okf l (l.length + 1) p [] = .ok (out, q2)) := ⟨by rw [HN.out, if_pos hN0, ht]⟩
            clear ht hN0
            go_wp2_with (first | (go_at_call 68; ((with_reducible refine (line_ok HL.out HRD.out (HR.out _ HW.out) HC.out hq).mono ?_); rintro e w1 ⟨rfl, hw1, hr1⟩; replace hw1 := Aside0.mk hw1; replace hr1 := Aside0.mk hr1)) | (go_at_call 67; ((with_reducible refine (length_ok HKB.out HLN.out HSZ.out).mono ?_); rintro e w2 ⟨rfl, hw2⟩; replace hw2 := Aside0.mk hw2)) | (go_at_call 69; ((with_reducible refine (trailers_ok HKF.out HT.out (rdrQ HQ1.out hr1.out hw2.out) (readsQ HR.out HW.out hw1.out hw2.out) HC.out hq3).mono ?_); rintro e w3 ⟨rfl, hw3, hr3⟩; replace hw3 := Aside0.mk hw3; replace hr3 := Aside0.mk hr3)))
            go_ret
            exact bpost_ok HF.out (own_but (pw_own_below (own_but HO.out hgw hw1.out) hw2.out.below) hgw hw3.out) (gtrans (gbelow (gtrans HW.out hw1.out) hw2.out.below) hw3.out) hr3.out
        · have hN0' : ((N : Int) == 0) = false := by simpa using hN0
          by_cases hlong : (N : Int) ≤ 65536 - (out.length : Int)
          · have hlong' : decide ((N : Int) ≤ 65536 - (out.length : Int)) = true := by simpa using hlong
            by_cases hshort : (N : Int) ≤ (l.length : Int) - (q1 : Int)
            · have hshort' : decide ((N : Int) ≤ (l.length : Int) - (q1 : Int)) = true := by simpa using hshort
              have HN2 : Aside0 (bodyF okb okf l (l.length + 1) p [] = match endF l 2 (q1 + N) with | .error x => .error x | .ok q => bodyF okb okf l d q (out ++ (l.take (q1 + N)).drop q1)) := ⟨by rw [HN.out, if_neg hN0, if_neg (by omega), if_neg (by omega)]⟩
              have hNb : N ≤ 65536 := by omega
              have hqN : q1 + N ≤ l.length := by omega
              have HLE := Aside0.mk hqN
              have hob : out.length + N ≤ 65536 := by omega
              clear hN0 hlong hshort
              go_wp2_with (first | (go_at_call 68; ((with_reducible refine (line_ok HL.out HRD.out (HR.out _ HW.out) HC.out hq).mono ?_); rintro e w1 ⟨rfl, hw1, hr1⟩; replace hw1 := Aside0.mk hw1; replace hr1 := Aside0.mk hr1)) | (go_at_call 67; ((with_reducible refine (length_ok HKB.out HLN.out HSZ.out).mono ?_); rintro e w2 ⟨rfl, hw2⟩; replace hw2 := Aside0.mk hw2)) | (go_at_call 70; ((with_reducible refine (must_ok _ _).mono ?_); rintro e w' ⟨rfl, rfl⟩)))
              have HW2 : Aside0 (w.grownBy w2 (some g)) := ⟨gbelow (gtrans HW.out hw1.out) hw2.out.below⟩
              have HRD2 : Aside0 (Rdr w2 g A c l q1) := ⟨rdrQ HQ1.out hr1.out hw2.out⟩
              have HO2 : Aside0 (w2.ownsRow w.heap.size 5 1 (.slice Av out.length cv) out.length (nums .u8 out)) := ⟨pw_own_below (own_but HO.out hgw hw1.out) hw2.out.below⟩
              have hc0 := rdr_c0 HRD2.out
              have hc1 := rdr_c1 HRD2.out
              have hw9 : IntKind.i64.wrap ((l.length : Int) - (q1 : Int)) = (l.length : Int) - (q1 : Int) := IntWalk.i64_in _ (by omega)
              go_still_tail 12, (by kernel_rfl)
              change wpList _ _ _ _ _ w2.drew
              obtain ⟨w3, hw3, HW3, HRD3, HO3, hc03, hc13⟩ : ∃ w3, w2.drew = w3 ∧ Aside0 (w.grownBy w3 (some g)) ∧ Aside0 (Rdr w3 g A c l q1) ∧ Aside0 (w3.ownsRow w.heap.size 5 1 (.slice Av out.length cv) out.length (nums .u8 out)) ∧
                  w3.cell? ⟨g, 0, none⟩ = some (.slice A l.length c) ∧ w3.cell? ⟨g, 1, none⟩ = some (.int .i64 q1) :=
                ⟨_, rfl, ⟨gdrew HW2.out⟩, ⟨HRD2.out⟩, ⟨HO2.out⟩, hc0, hc1⟩
              rw [hw3]
              clear hw3 hc0 hc1 hw9
              obtain ⟨i0, hi0, _, hsz, _⟩ := info_parts i5
              obtain ⟨A14, n14, c14, hcut, hn14, hc14, hrd⟩ := mid_reads (P := Tryd.prog) Tryd.underlying22 hi0 hsz (HR.out w3 HW3.out) HC.out q1 (q1 + N) (by omega) hqN
              rw [show ((q1 + N : Nat) : Int) = (q1 : Int) + (N : Int) from by omega] at hcut
              have HRDS := Aside0.mk hrd
              have hn15 : n14 ≤ 65536 := by omega
              clear hc14 hrd hi0 hsz hn14
              go_wp2_with (go_at_call 70; ((with_reducible refine (must_ok _ _).mono ?_); rintro e w' ⟨rfl, rfl⟩))
              have hw9 : IntKind.i64.wrap ((q1 : Int) + (N : Int)) = (q1 : Int) + (N : Int) := IntWalk.i64_in _ (by omega)
              go_still_tail 16, (by kernel_rfl)
              change wpList _ _ _ _ _ w3.drew
              obtain ⟨w4, hw4, HW4, HRD4, HO4, HB4, hc04, hc14⟩ : ∃ w4, w3.drew = w4 ∧ Aside0 (w.grownBy w4 (some g)) ∧ Aside0 (Rdr w4 g A c l q1) ∧ Aside0 (w4.ownsRow w.heap.size 5 1 (.slice Av out.length cv) out.length (nums .u8 out)) ∧
                  Aside0 (w.heap.size ≤ w4.heap.size) ∧ w4.cell? ⟨g, 0, none⟩ = some (.slice A l.length c) ∧ w4.cell? ⟨g, 1, none⟩ = some (.int .i64 q1) :=
                ⟨_, rfl, ⟨gdrew HW3.out⟩, ⟨HRD3.out⟩, ⟨HO3.out⟩, ⟨HW3.out.size⟩, hc03, hc13⟩
              rw [hw4]
              clear hw4 hc03 hc13 hw9
              have hrd := HRDS.out
              cases hen : endF l 2 (q1 + N) with
              | error x =>
                have HEN := Aside0.mk hen
                have HF : Aside0 (bodyF okb okf l (l.length + 1) p [] = .error x) := ⟨by rw [HN2.out, hen]⟩
                clear hen
                go_wp2_with (first | (at_builtin; refine print_append_row (w0 := w4) w.heap.size rfl (.tmp 32) (.tmp 47) 22 5 .u8 1 rfl Tryd.underlying22 i5 (by decide) (.slice Av out.length cv) out ((l.take (q1 + N)).drop q1) A14 n14 c14 rfl rfl HO4.out (hrd w4 (HR.out w4 HW4.out)) (Below.refl _ _) HB4.out (by omega) ?_; intro v5 w5 hown5 hbel5 hgr5 hat5; clear hat5; have HO5 := Aside0.mk hown5; have HW5 := Aside0.mk (grownBy_below HW4.out hbel5); have HRD5 := Aside0.mk (rdr_belowB HRD4.out hgw hbel5); clear hown5 hbel5 hgr5; have hc0 := rdr_c0 HRD5.out; have hc1 := rdr_c1 HRD5.out; have hf1 := rdr_f1 HRD5.out) | (go_at_call 71; ((with_reducible refine (end_err HEN.out (rdr_setz HRD5.out (Int.natCast_add q1 N).symm) (fun W h => HR.out W (gtrans (gset HW5.out 1 _) h)) HLE.out).mono ?_); rintro e w6 ⟨rfl, hw6⟩; replace hw6 := Aside0.mk hw6)))
                exact ⟨rfl, bpost_err HF.out (gtrans (gset HW5.out 1 _) hw6.out)⟩
              | ok q2 =>
                have HEN := Aside0.mk hen
                have HF : Aside0 (bodyF okb okf l (l.length + 1) p [] = bodyF okb okf l d q2 (out ++ (l.take (q1 + N)).drop q1)) := ⟨by rw [HN2.out, hen]⟩
                have HQ2 := Aside0.mk (end_le hen)
                clear hen
                go_wp2_with (first | (at_builtin; refine print_append_row (w0 := w4) w.heap.size rfl (.tmp 32) (.tmp 47) 22 5 .u8 1 rfl Tryd.underlying22 i5 (by decide) (.slice Av out.length cv) out ((l.take (q1 + N)).drop q1) A14 n14 c14 rfl rfl HO4.out (hrd w4 (HR.out w4 HW4.out)) (Below.refl _ _) HB4.out (by omega) ?_; intro v5 w5 hown5 hbel5 hgr5 hat5; clear hat5; have HO5 := Aside0.mk hown5; have HW5 := Aside0.mk (grownBy_below HW4.out hbel5); have HRD5 := Aside0.mk (rdr_belowB HRD4.out hgw hbel5); clear hown5 hbel5 hgr5; have hc0 := rdr_c0 HRD5.out; have hc1 := rdr_c1 HRD5.out; have hf1 := rdr_f1 HRD5.out) | (go_at_call 71; ((with_reducible refine (end_ok HEN.out (rdr_setz HRD5.out (Int.natCast_add q1 N).symm) (fun W h => HR.out W (gtrans (gset HW5.out 1 _) h)) HLE.out).mono ?_); rintro e w6 ⟨rfl, hw6, hr6⟩; replace hw6 := Aside0.mk hw6; replace hr6 := Aside0.mk hr6)))
                obtain ⟨A5, c5, rfl⟩ := own_slice HO5.out
                go_roundg d
                case measure => omega
                case rel => exact ⟨out ++ (l.take (q1 + N)).drop q1, q2, A5, c5, by rfl, by simp; omega, ⟨own_but HO5.out hgw (gtrans (gset (grefl _ _) 1 _) hw6.out)⟩, ⟨gtrans (gset HW5.out 1 _) hw6.out⟩, hr6, by have := HQ2.out; omega, ⟨by have := HD.out; have := HQ2.out; omega⟩, HF⟩
            · have hshort' : decide ((N : Int) ≤ (l.length : Int) - (q1 : Int)) = false := by simpa using hshort
              have HF : Aside0 (bodyF okb okf l (l.length + 1) p [] = .error 92) := ⟨by rw [HN.out, if_neg hN0, if_neg (by omega), if_pos hshort]⟩
              clear hN0 hlong hshort
              go_wp2_with (first | (go_at_call 68; ((with_reducible refine (line_ok HL.out HRD.out (HR.out _ HW.out) HC.out hq).mono ?_); rintro e w1 ⟨rfl, hw1, hr1⟩; replace hw1 := Aside0.mk hw1; replace hr1 := Aside0.mk hr1)) | (go_at_call 67; ((with_reducible refine (length_ok HKB.out HLN.out HSZ.out).mono ?_); rintro e w2 ⟨rfl, hw2⟩; replace hw2 := Aside0.mk hw2)) | (go_at_call 70; ((with_reducible refine (must_ok _ _).mono ?_); rintro e w' ⟨rfl, rfl⟩)))
              have HW2 : Aside0 (w.grownBy w2 (some g)) := ⟨gbelow (gtrans HW.out hw1.out) hw2.out.below⟩
              have HRD2 : Aside0 (Rdr w2 g A c l q1) := ⟨rdrQ HQ1.out hr1.out hw2.out⟩
              have HO2 : Aside0 (w2.ownsRow w.heap.size 5 1 (.slice Av out.length cv) out.length (nums .u8 out)) := ⟨pw_own_below (own_but HO.out hgw hw1.out) hw2.out.below⟩
              have hc0 := rdr_c0 HRD2.out
              have hc1 := rdr_c1 HRD2.out
              have hw9 : IntKind.i64.wrap ((l.length : Int) - (q1 : Int)) = (l.length : Int) - (q1 : Int) := IntWalk.i64_in _ (by omega)
              go_still_tail 12, (by kernel_rfl)
              change wpList _ _ _ _ _ w2.drew
              go_wp2_with (go_at_call 70; ((with_reducible refine (must_no _ _).mono ?_); rintro e w' ⟨rfl, rfl⟩))
              exact ⟨rfl, bpost_err HF.out (gdrew HW2.out)⟩
          · have hlong' : decide ((N : Int) ≤ 65536 - (out.length : Int)) = false := by simpa using hlong
            have HF : Aside0 (bodyF okb okf l (l.length + 1) p [] = .error 93) := ⟨by rw [HN.out, if_neg hN0, if_pos hlong]⟩
            clear hN0 hlong
            go_wp2_with (first | (go_at_call 68; ((with_reducible refine (line_ok HL.out HRD.out (HR.out _ HW.out) HC.out hq).mono ?_); rintro e w1 ⟨rfl, hw1, hr1⟩; replace hw1 := Aside0.mk hw1; replace hr1 := Aside0.mk hr1)) | (go_at_call 67; ((with_reducible refine (length_ok HKB.out HLN.out HSZ.out).mono ?_); rintro e w2 ⟨rfl, hw2⟩; replace hw2 := Aside0.mk hw2)) | (go_at_call 70; ((with_reducible refine (must_no _ _).mono ?_); rintro e w' ⟨rfl, rfl⟩)))
            exact ⟨rfl, bpost_err HF.out (gbelow (gtrans HW.out hw1.out) hw2.out.below)⟩
end Go.Proofs.YtibgcbngnfaaiaaDoor.H
