/- chunk.length walked. -/
import Derived.Test.YtibgcbngnfaaiaaDoorHb
import Derived.Test.YtibgcbngnfaaiaaDoorHr
import Derived.Outline
namespace Go.Proofs.YtibgcbngnfaaiaaDoor.H
open Go.RowKit Go.Proofs.YtibgcbngnfaaiaaDoorW.PrintWords Go.Proofs.YtibgcbngnfaaiaaDoorW.PrintLast Go.Proofs.YtibgcbngnfaaiaaDoorW.PrintMore
set_option linter.unusedVariables false
set_option linter.unusedSimpArgs false

def LenPost (ok : ByteArray → Bool) (s : ByteArray) (w : World) (e : Ending) (w' : World) : Prop :=
  match lenAt ok s s.size 0 0 with
  | .ok n => e = .returned (.int .i64 n) ∧ Drawn0 w w'
  | .error x => e = .panicked (stopC x) ∧ Drawn0 w w'
theorem lpost_err {ok : ByteArray → Bool} {s : ByteArray} {w w' : World} {x : Int} (h : lenAt ok s s.size 0 0 = .error x) (hd : Drawn0 w w') : LenPost ok s w (.panicked (stopC x)) w' := by
  unfold LenPost; rw [h]; exact ⟨rfl, hd⟩
theorem lpost_ok {ok : ByteArray → Bool} {s : ByteArray} {w w' : World} {n : Int} (h : lenAt ok s s.size 0 0 = .ok n) (hd : Drawn0 w w') : LenPost ok s w (.returned (.int .i64 n)) w' := by
  unfold LenPost; rw [h]; exact ⟨rfl, hd⟩

set_option maxHeartbeats 4000000 in
set_option maxRecDepth 100000 in
theorem length_calls (ok : ByteArray → Bool) (s : ByteArray) (w : World) (hs : s.size ≤ 4611686018427387904)
    (hok : ∀ (t : ByteArray) (W : World), t.size ≤ s.size → Calls Tryd.prog 92 #[.string t] W fun e W' => e = .returned (.bool (ok t)) ∧ Drawn0 W W') :
    Calls Tryd.prog 67 #[.string s] w (LenPost ok s w) := by
  have HOK := Aside0.mk hok
  clear hok
  go_enter Tryd.func67, Tryd.ntmps67
  go_wp2
  go_loop [3, 4] (fun n i => ∃ (k : Nat) (m : Int), k ≤ s.size ∧ k ≤ 8 ∧ 0 ≤ m ∧ m < 16 ^ k ∧ i = .int .i64 k ∧ n = .int .i64 m ∧ Aside0 (lenAt ok s s.size 0 0 = lenAt ok s (s.size - k) k m)) (fun _ i => s.size - (intOf i).toNat)
  case atStart => exact ⟨0, 0, by omega, by omega, by omega, by omega, rfl, rfl, ⟨rfl⟩⟩
  case round =>
    obtain ⟨k, m, hk, hk8, hm0, hm1, rfl, rfl, HL⟩ := hrel
    have HM1 := Aside0.mk hm1
    have hm2 : m < 68719476736 := by
      have := pow16 k hk8
      omega
    clear hm1
    by_cases hlt : k < s.size
    · obtain ⟨b, hb⟩ : ∃ b, b = bt s (k : Int) := ⟨_, rfl⟩
      have hbr := bt_range s (k : Int)
      rw [← hb] at hbr
      obtain ⟨hb0, hb1⟩ := hbr
      have hbt : ∀ h : k < s.size, ((s[k]'h).toNat : Int) = b := fun h => by rw [hb, bt]; simp [hlt]
      have HB := Aside0.mk hb
      clear hb
      by_cases hd : 48 ≤ b ∧ b ≤ 57
      · have hv := hexv_digit hd
        obtain ⟨hd1, hd2⟩ := hd
        by_cases h8 : k < 8
        · have h8' : decide ((k : Int) < 8) = true := by simp; omega
          have HF : Aside0 (lenAt ok s s.size 0 0 = lenAt ok s (s.size - (k + 1)) (k + 1) (16 * m + (b - 48))) := ⟨by rw [HL.out, lenAt_on hlt HB.out (by omega) h8, hv]⟩
          have HV := Aside0.mk (i64_or4 m (b - 48) hm0 hm2 (by omega) (by omega))
          have HP : Aside0 (16 * m + (b - 48) < 16 ^ (k + 1)) := ⟨by have := HM1.out; rw [Int.pow_succ]; omega⟩
          clear hv
          go_wp2_with (go_at_call 70; ((with_reducible refine (must_ok _ _).mono ?_); rintro e w' ⟨rfl, rfl⟩))
          go_round
          case rel => exact ⟨k + 1, 16 * m + (b - 48), by omega, by omega, by omega, HP.out, by go_num, by rw [← HV.out], HF⟩
          case measure => simp [intOf]; omega
        · have h8' : decide ((k : Int) < 8) = false := by simp; omega
          have HF : Aside0 (lenAt ok s s.size 0 0 = .error 94) := ⟨by rw [HL.out, lenAt_long hlt HB.out (by omega) (by omega)]⟩
          clear hv
          go_wp2_with (go_at_call 70; ((with_reducible refine (must_no _ _).mono ?_); rintro e w' ⟨rfl, rfl⟩))
          exact ⟨rfl, lpost_err HF.out (Drawn0.refl _)⟩
      skip
      by_cases he : 97 ≤ b ∧ b ≤ 102
      · have hv := hexv_small he
        obtain ⟨hd1, hd2⟩ := he
        by_cases h8 : k < 8
        · have h8' : decide ((k : Int) < 8) = true := by simp; omega
          have HF : Aside0 (lenAt ok s s.size 0 0 = lenAt ok s (s.size - (k + 1)) (k + 1) (16 * m + (b - 97 + 10))) := ⟨by rw [HL.out, lenAt_on hlt HB.out (by omega) h8, hv]⟩
          have HV := Aside0.mk (i64_or4 m (b - 97 + 10) hm0 hm2 (by omega) (by omega))
          have HP : Aside0 (16 * m + (b - 97 + 10) < 16 ^ (k + 1)) := ⟨by have := HM1.out; rw [Int.pow_succ]; omega⟩
          clear hv
          go_wp2_with (go_at_call 70; ((with_reducible refine (must_ok _ _).mono ?_); rintro e w' ⟨rfl, rfl⟩))
          go_round
          case rel => exact ⟨k + 1, 16 * m + (b - 97 + 10), by omega, by omega, by omega, HP.out, by go_num, by rw [← HV.out], HF⟩
          case measure => simp [intOf]; omega
        · have h8' : decide ((k : Int) < 8) = false := by simp; omega
          have HF : Aside0 (lenAt ok s s.size 0 0 = .error 94) := ⟨by rw [HL.out, lenAt_long hlt HB.out (by omega) (by omega)]⟩
          clear hv
          go_wp2_with (go_at_call 70; ((with_reducible refine (must_no _ _).mono ?_); rintro e w' ⟨rfl, rfl⟩))
          exact ⟨rfl, lpost_err HF.out (Drawn0.refl _)⟩
      skip
      by_cases hg : 65 ≤ b ∧ b ≤ 70
      · have hv := hexv_great hg
        obtain ⟨hd1, hd2⟩ := hg
        by_cases h8 : k < 8
        · have h8' : decide ((k : Int) < 8) = true := by simp; omega
          have HF : Aside0 (lenAt ok s s.size 0 0 = lenAt ok s (s.size - (k + 1)) (k + 1) (16 * m + (b - 65 + 10))) := ⟨by rw [HL.out, lenAt_on hlt HB.out (by omega) h8, hv]⟩
          have HV := Aside0.mk (i64_or4 m (b - 65 + 10) hm0 hm2 (by omega) (by omega))
          have HP : Aside0 (16 * m + (b - 65 + 10) < 16 ^ (k + 1)) := ⟨by have := HM1.out; rw [Int.pow_succ]; omega⟩
          clear hv
          go_wp2_with (go_at_call 70; ((with_reducible refine (must_ok _ _).mono ?_); rintro e w' ⟨rfl, rfl⟩))
          go_round
          case rel => exact ⟨k + 1, 16 * m + (b - 65 + 10), by omega, by omega, by omega, HP.out, by go_num, by rw [← HV.out], HF⟩
          case measure => simp [intOf]; omega
        · have h8' : decide ((k : Int) < 8) = false := by simp; omega
          have HF : Aside0 (lenAt ok s s.size 0 0 = .error 94) := ⟨by rw [HL.out, lenAt_long hlt HB.out (by omega) (by omega)]⟩
          clear hv
          go_wp2_with (go_at_call 70; ((with_reducible refine (must_no _ _).mono ?_); rintro e w' ⟨rfl, rfl⟩))
          exact ⟨rfl, lpost_err HF.out (Drawn0.refl _)⟩
      skip
      have hvn := hexv_none hd he hg
      have HN : Aside0 (lenAt ok s s.size 0 0 = if 0 < k ∧ b = 59 ∧ ok (s.extract (k + 1) s.size) = true then .ok m else .error 94) := ⟨by rw [HL.out, lenAt_stop hlt HB.out (by omega)]⟩
      clear hvn
      by_cases iA : b < 48
      · clear hd he hg
        by_cases hk0 : 0 < k
        · have hk0' : decide (0 < (k : Int)) = true := by simp; omega
          have hne : ((k : Int) == (s.size : Int)) = false := by simp; omega
          have hne2 : (k == s.size) = false := by simp; omega
          have h59 : (b == 59) = false := by simp; omega
          have HF : Aside0 (lenAt ok s s.size 0 0 = .error 94) := ⟨by rw [HN.out, if_neg (fun h => by omega)]⟩
          go_wp2_with (go_at_call 70; ((with_reducible refine (must_no _ _).mono ?_); rintro e w' ⟨rfl, rfl⟩))
          exact ⟨rfl, lpost_err HF.out (Drawn0.refl _)⟩
        · have hk0' : decide (0 < (k : Int)) = false := by simp; omega
          have HF : Aside0 (lenAt ok s s.size 0 0 = .error 94) := ⟨by rw [HN.out, if_neg (fun h => by omega)]⟩
          go_wp2_with (go_at_call 70; ((with_reducible refine (must_no _ _).mono ?_); rintro e w' ⟨rfl, rfl⟩))
          exact ⟨rfl, lpost_err HF.out (Drawn0.refl _)⟩
      by_cases iD : 102 < b
      · clear hd he hg iA
        by_cases hk0 : 0 < k
        · have hk0' : decide (0 < (k : Int)) = true := by simp; omega
          have hne : ((k : Int) == (s.size : Int)) = false := by simp; omega
          have hne2 : (k == s.size) = false := by simp; omega
          have h59 : (b == 59) = false := by simp; omega
          have HF : Aside0 (lenAt ok s s.size 0 0 = .error 94) := ⟨by rw [HN.out, if_neg (fun h => by omega)]⟩
          go_wp2_with (go_at_call 70; ((with_reducible refine (must_no _ _).mono ?_); rintro e w' ⟨rfl, rfl⟩))
          exact ⟨rfl, lpost_err HF.out (Drawn0.refl _)⟩
        · have hk0' : decide (0 < (k : Int)) = false := by simp; omega
          have HF : Aside0 (lenAt ok s s.size 0 0 = .error 94) := ⟨by rw [HN.out, if_neg (fun h => by omega)]⟩
          go_wp2_with (go_at_call 70; ((with_reducible refine (must_no _ _).mono ?_); rintro e w' ⟨rfl, rfl⟩))
          exact ⟨rfl, lpost_err HF.out (Drawn0.refl _)⟩
      by_cases iC : 70 < b
      · have iC2 : b < 97 := by omega
        clear hd he hg iA iD
        by_cases hk0 : 0 < k
        · have hk0' : decide (0 < (k : Int)) = true := by simp; omega
          have hne : ((k : Int) == (s.size : Int)) = false := by simp; omega
          have hne2 : (k == s.size) = false := by simp; omega
          have h59 : (b == 59) = false := by simp; omega
          have HF : Aside0 (lenAt ok s s.size 0 0 = .error 94) := ⟨by rw [HN.out, if_neg (fun h => by omega)]⟩
          go_wp2_with (go_at_call 70; ((with_reducible refine (must_no _ _).mono ?_); rintro e w' ⟨rfl, rfl⟩))
          exact ⟨rfl, lpost_err HF.out (Drawn0.refl _)⟩
        · have hk0' : decide (0 < (k : Int)) = false := by simp; omega
          have HF : Aside0 (lenAt ok s s.size 0 0 = .error 94) := ⟨by rw [HN.out, if_neg (fun h => by omega)]⟩
          go_wp2_with (go_at_call 70; ((with_reducible refine (must_no _ _).mono ?_); rintro e w' ⟨rfl, rfl⟩))
          exact ⟨rfl, lpost_err HF.out (Drawn0.refl _)⟩
      have iB1 : 57 < b := by omega
      have iB2 : b < 65 := by omega
      clear hd he hg iA iC iD
      by_cases i59 : b = 59
      · by_cases hk0 : 0 < k
        · have hk0' : decide (0 < (k : Int)) = true := by simp; omega
          have hne : ((k : Int) == (s.size : Int)) = false := by simp; omega
          have hne2 : (k == s.size) = false := by simp; omega
          have h59 : (b == 59) = true := by simp; omega
          have hk1 : k + 1 ≤ s.size := hlt
          cases hq : ok (s.extract (k + 1) s.size) with
          | true =>
            have HF : Aside0 (lenAt ok s s.size 0 0 = .ok m) := ⟨by rw [HN.out, if_pos ⟨hk0, i59, hq⟩]⟩
            have HQ := Aside0.mk hq
            clear hq i59
            go_wp2_with (first | (go_at_call 92; ((with_reducible refine (HOK.out (s.extract (k + 1) s.size) _ (by simp)).mono ?_); rintro e w' ⟨rfl, ⟨nd, rfl⟩⟩; rw [HQ.out])) | (go_at_call 70; ((with_reducible refine (must_ok _ _).mono ?_); rintro e w' ⟨rfl, rfl⟩)))
            go_ret
            exact lpost_ok HF.out ⟨nd, rfl⟩
          | false =>
            have HF : Aside0 (lenAt ok s s.size 0 0 = .error 94) := ⟨by rw [HN.out, if_neg (fun h => by rw [hq] at h; exact absurd h.2.2 (by simp))]⟩
            have HQ := Aside0.mk hq
            clear hq i59
            go_wp2_with (first | (go_at_call 92; ((with_reducible refine (HOK.out (s.extract (k + 1) s.size) _ (by simp)).mono ?_); rintro e w' ⟨rfl, ⟨nd, rfl⟩⟩; rw [HQ.out])) | (go_at_call 70; ((with_reducible refine (must_no _ _).mono ?_); rintro e w' ⟨rfl, rfl⟩)))
            exact ⟨rfl, lpost_err HF.out ⟨nd, rfl⟩⟩
        · have hk0' : decide (0 < (k : Int)) = false := by simp; omega
          have HF : Aside0 (lenAt ok s s.size 0 0 = .error 94) := ⟨by rw [HN.out, if_neg (fun h => by omega)]⟩
          clear i59
          go_wp2_with (go_at_call 70; ((with_reducible refine (must_no _ _).mono ?_); rintro e w' ⟨rfl, rfl⟩))
          exact ⟨rfl, lpost_err HF.out (Drawn0.refl _)⟩
      by_cases hk0 : 0 < k
      · have hk0' : decide (0 < (k : Int)) = true := by simp; omega
        have hne : ((k : Int) == (s.size : Int)) = false := by simp; omega
        have hne2 : (k == s.size) = false := by simp; omega
        have h59 : (b == 59) = false := by simp; omega
        have HF : Aside0 (lenAt ok s s.size 0 0 = .error 94) := ⟨by rw [HN.out, if_neg (fun h => by omega)]⟩
        go_wp2_with (go_at_call 70; ((with_reducible refine (must_no _ _).mono ?_); rintro e w' ⟨rfl, rfl⟩))
        exact ⟨rfl, lpost_err HF.out (Drawn0.refl _)⟩
      · have hk0' : decide (0 < (k : Int)) = false := by simp; omega
        have HF : Aside0 (lenAt ok s s.size 0 0 = .error 94) := ⟨by rw [HN.out, if_neg (fun h => by omega)]⟩
        go_wp2_with (go_at_call 70; ((with_reducible refine (must_no _ _).mono ?_); rintro e w' ⟨rfl, rfl⟩))
        exact ⟨rfl, lpost_err HF.out (Drawn0.refl _)⟩
    · have HN : Aside0 (lenAt ok s s.size 0 0 = if 0 < k then .ok m else .error 94) := ⟨by rw [HL.out, lenAt_end hlt]⟩
      by_cases hk0 : 0 < k
      · have hk0' : decide (0 < (k : Int)) = true := by simp; omega
        have hne : ((k : Int) == (s.size : Int)) = true := by simp; omega
        have hne2 : (k == s.size) = true := by simp; omega
        have HF : Aside0 (lenAt ok s s.size 0 0 = .ok m) := ⟨by rw [HN.out, if_pos hk0]⟩
        go_wp2_with (go_at_call 70; ((with_reducible refine (must_ok _ _).mono ?_); rintro e w' ⟨rfl, rfl⟩))
        go_ret
        exact lpost_ok HF.out (Drawn0.refl _)
      · have hk0' : decide (0 < (k : Int)) = false := by simp; omega
        have HF : Aside0 (lenAt ok s s.size 0 0 = .error 94) := ⟨by rw [HN.out, if_neg hk0]⟩
        go_wp2_with (go_at_call 70; ((with_reducible refine (must_no _ _).mono ?_); rintro e w' ⟨rfl, rfl⟩))
        exact ⟨rfl, lpost_err HF.out (Drawn0.refl _)⟩
end Go.Proofs.YtibgcbngnfaaiaaDoor.H
