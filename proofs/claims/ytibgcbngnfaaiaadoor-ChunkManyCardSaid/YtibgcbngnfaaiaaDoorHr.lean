/- A chunk's line: its length, as a plain function; '|' of a shifted number and four bits. No program. -/
import Derived.Test.YtibgcbngnfaaiaaDoorWWords
import Derived.Laws.BitsAllLaws
namespace Go.Proofs.YtibgcbngnfaaiaaDoor.H
open Go.RowKit Go.Proofs.YtibgcbngnfaaiaaDoorW.PrintWords

theorem i64_or_nat (a b : Nat) (ha : a < 9223372036854775808) (hb : b < 9223372036854775808) : bits .or .i64 (a : Int) (b : Int) = ((a ||| b : Nat) : Int) := by
  have hx : a ||| b < 2 ^ 63 := Nat.or_lt_two_pow (by omega) (by omega)
  show IntKind.i64.wrap ((BitVec.ofInt 64 (a : Int) ||| BitVec.ofInt 64 (b : Int)).toNat : Int) = _
  rw [BitVec.toNat_or, ofInt_u64 a (by omega), ofInt_u64 b (by omega), IntKind.wrap_i64]
  omega
theorem i64_or4 (m v : Int) (h0 : 0 ≤ m) (h1 : m < 68719476736) (h2 : 0 ≤ v) (h3 : v < 16) : bits .or .i64 (m * 16) v = 16 * m + v := by
  obtain ⟨M, rfl⟩ := Int.eq_ofNat_of_zero_le h0
  obtain ⟨V, rfl⟩ := Int.eq_ofNat_of_zero_le h2
  rw [show (M : Int) * 16 = ((M * 16 : Nat) : Int) from by omega, i64_or_nat _ _ (by omega) (by omega), nat_join 4 (M * 16) V (by omega) (by omega)]
  omega

def hexv (c : Int) : Int := if 48 ≤ c ∧ c ≤ 57 then c - 48 else if 97 ≤ c ∧ c ≤ 102 then c - 97 + 10 else if 65 ≤ c ∧ c ≤ 70 then c - 65 + 10 else -1
theorem hexv_range (c : Int) : -1 ≤ hexv c ∧ hexv c ≤ 15 := by unfold hexv; split <;> (try split) <;> (try split) <;> omega

/-- From place i of s on, n told so far: the number, or ErrFrame; 'ok': what may stand behind ';'. -/
def lenAt (ok : ByteArray → Bool) (s : ByteArray) : Nat → Nat → Int → Except Int Int
  | 0, i, n => if 0 < i then .ok n else .error 94
  | d + 1, i, n =>
    if hexv (bt s i) < 0 then (if 0 < i ∧ bt s i = 59 ∧ ok (s.extract (i + 1) s.size) = true then .ok n else .error 94)
    else if 8 ≤ i then .error 94
    else lenAt ok s d (i + 1) (16 * n + hexv (bt s i))
/-- One more place. -/
theorem lenAt_on {ok : ByteArray → Bool} {s : ByteArray} {i : Nat} {n b : Int} (h : i < s.size) (hb : b = bt s i) (h0 : 0 ≤ hexv b) (h8 : i < 8) :
    lenAt ok s (s.size - i) i n = lenAt ok s (s.size - (i + 1)) (i + 1) (16 * n + hexv b) := by
  rw [show s.size - i = (s.size - (i + 1)) + 1 from by omega, lenAt, ← hb, if_neg (by omega), if_neg (by omega)]
theorem lenAt_long {ok : ByteArray → Bool} {s : ByteArray} {i : Nat} {n b : Int} (h : i < s.size) (hb : b = bt s i) (h0 : 0 ≤ hexv b) (h8 : 8 ≤ i) : lenAt ok s (s.size - i) i n = .error 94 := by
  rw [show s.size - i = (s.size - (i + 1)) + 1 from by omega, lenAt, ← hb, if_neg (by omega), if_pos h8]
theorem lenAt_stop {ok : ByteArray → Bool} {s : ByteArray} {i : Nat} {n b : Int} (h : i < s.size) (hb : b = bt s i) (h0 : hexv b < 0) :
    lenAt ok s (s.size - i) i n = if 0 < i ∧ b = 59 ∧ ok (s.extract (i + 1) s.size) = true then .ok n else .error 94 := by
  rw [show s.size - i = (s.size - (i + 1)) + 1 from by omega, lenAt, ← hb, if_pos h0]
theorem lenAt_end {ok : ByteArray → Bool} {s : ByteArray} {i : Nat} {n : Int} (h : ¬ i < s.size) : lenAt ok s (s.size - i) i n = if 0 < i then .ok n else .error 94 := by
  rw [show s.size - i = 0 from by omega, lenAt]
theorem pow16 (k : Nat) (h : k ≤ 8) : (16 : Int) ^ k ≤ 4294967296 := by
  have h1 : (16 : Nat) ^ k ≤ 16 ^ 8 := Nat.pow_le_pow_right (by omega) h
  have h2 : ((16 ^ k : Nat) : Int) = (16 : Int) ^ k := by simp
  omega
theorem hexv_digit {b : Int} (h : 48 ≤ b ∧ b ≤ 57) : hexv b = b - 48 := by unfold hexv; rw [if_pos h]
theorem hexv_small {b : Int} (h : 97 ≤ b ∧ b ≤ 102) : hexv b = b - 97 + 10 := by unfold hexv; rw [if_neg (by omega), if_pos h]
theorem hexv_great {b : Int} (h : 65 ≤ b ∧ b ≤ 70) : hexv b = b - 65 + 10 := by unfold hexv; rw [if_neg (by omega), if_neg (by omega), if_pos h]
theorem hexv_none {b : Int} (h : ¬ (48 ≤ b ∧ b ≤ 57)) (h1 : ¬ (97 ≤ b ∧ b ≤ 102)) (h2 : ¬ (65 ≤ b ∧ b ≤ 70)) : hexv b = -1 := by unfold hexv; rw [if_neg h, if_neg h1, if_neg h2]
end Go.Proofs.YtibgcbngnfaaiaaDoor.H
