/- strings.IndexByte and strings.Cut at one byte, as the walks want them. -/
import Derived.Test.YtibgcbngnfaaiaaDoorShelf
import Derived.Test.YtibgcbngnfaaiaaDoorWWords
import Derived.Test.YtibgcbngnfaaiaaDoorWMore
import Derived.WalkKit
import Derived.WalkSpells
namespace Go.Proofs.YtibgcbngnfaaiaaDoor.H
open Go.RowKit Go.Proofs.YtibgcbngnfaaiaaDoorW.PrintWords Go.Proofs.YtibgcbngnfaaiaaDoorW.PrintLast Go.Proofs.YtibgcbngnfaaiaaDoorW.PrintMore
set_option linter.unusedVariables false
set_option linter.unusedSimpArgs false

def indexByteS (s : ByteArray) (c : Int) : Int := Lib.indexByte s.data.toList c.toNat.toUInt8
theorem indexByte_calls (s : ByteArray) (c : Int) (w : World) :
    Calls Tryd.prog 76 #[.string s, .int .u8 c] w fun e w' => e = .returned (.int .i64 (indexByteS s c)) ∧ Drawn0 w w' :=
  (Tryd.strings_IndexByte s c w).mono fun e w' ⟨h, k⟩ => ⟨h, k ▸ Drawn0.refl _⟩

/-- What strings.Cut tells at one byte: the text as it lies before and behind its first place. -/
def cutS (s sep : ByteArray) : Option (ByteArray × ByteArray × Bool) :=
  match sep.data.toList with
  | [c] => if s.size ≤ 9223372036854775807 then
      (if Lib.indexByte s.data.toList c < 0 then some (s, ⟨#[]⟩, false) else some (s.extract 0 (Lib.indexByte s.data.toList c).toNat, s.extract ((Lib.indexByte s.data.toList c).toNat + 1) s.size, true))
    else none
  | _ => none

theorem indexByte_lt (s : ByteArray) (c : UInt8) : Lib.indexByte s.data.toList c < s.size := by
  rcases Int.lt_or_le (Lib.indexByte s.data.toList c) 0 with h | h
  · omega
  · obtain ⟨o, ho⟩ := Int.eq_ofNat_of_zero_le h
    have h2 := (Lib.indexByte_some ho).1
    have h3 := (List.getElem?_eq_some_iff.1 h2).1
    rw [Array.length_toList] at h3
    rw [ho]
    exact Int.ofNat_lt.mpr h3

theorem cut_one (s : ByteArray) (c : UInt8) (w : World) (i : Int) (hi : Lib.indexByte s.data.toList c = i) (hs : i < s.size) (hz : s.size ≤ 9223372036854775807) :
    Calls Tryd.prog 102 #[.string s, .string ⟨#[c]⟩] w fun e w' => (e = .returned (.tuple #[.string (if i < 0 then s else s.extract 0 i.toNat), .string (if i < 0 then ⟨#[]⟩ else s.extract (i.toNat + 1) s.size), .bool (decide (¬ i < 0))])) ∧ Drawn0 w w' := by
  have HI := Aside0.mk hi
  clear hi
  by_cases h0 : i < 0
  · have h0' : decide (0 ≤ i) = false := by simp; omega
    go_enter Tryd.func102, Tryd.ntmps102
    go_wp2_with (first
      | (go_at_call 119; ((with_reducible refine (Tryd.stringslite_Index_one _ _ _).mono ?_); rintro e w' ⟨rfl, rfl⟩; rw [HI.out]))
      | go_in)
    go_ret3
    go_wp2
    go_ret3
    exact ⟨by simp [h0], Drawn0.refl _⟩
  · obtain ⟨j, rfl⟩ := Int.eq_ofNat_of_zero_le (show 0 ≤ i by omega)
    have hj : j < s.size := by omega
    have hj2 : j + 1 ≤ s.size := by omega
    clear h0
    go_enter Tryd.func102, Tryd.ntmps102
    go_wp2_with (first
      | (go_at_call 119; ((with_reducible refine (Tryd.stringslite_Index_one _ _ _).mono ?_); rintro e w' ⟨rfl, rfl⟩; rw [HI.out]))
      | go_in)
    go_quiet (fail)
    go_wp2
    go_ret3
    go_wp2
    go_ret3
    exact ⟨by simp, (Drawn0.refl _).step _⟩

theorem cut_calls (s sep r1 r2 : ByteArray) (r3 : Bool) (w : World) (h : cutS s sep = some (r1, r2, r3)) :
    Calls Tryd.prog 102 #[.string s, .string sep] w fun e w' => e = .returned (.tuple #[.string r1, .string r2, .bool r3]) ∧ Drawn0 w w' := by
  unfold cutS at h
  split at h
  · rename_i c hc
    obtain rfl : sep = ⟨#[c]⟩ := by
      obtain ⟨⟨l⟩⟩ := sep
      simp only [List.toList_toArray] at hc
      rw [hc]
    split at h
    · rename_i hz
      refine (cut_one s c w _ rfl (indexByte_lt s c) hz).mono ?_
      rintro e w' ⟨rfl, hd⟩
      split at h
      · rename_i h0
        simp only [Option.some.injEq, Prod.mk.injEq] at h
        obtain ⟨rfl, rfl, rfl⟩ := h
        exact ⟨by simp [h0], hd⟩
      · rename_i h0
        simp only [Option.some.injEq, Prod.mk.injEq] at h
        obtain ⟨rfl, rfl, rfl⟩ := h
        exact ⟨by simp [h0], hd⟩
    · cases h
  · cases h

end Go.Proofs.YtibgcbngnfaaiaaDoor.H
