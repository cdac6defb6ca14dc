/- http's small functions: must, stop, number, reason; slices.Clone of bytes. · slices.Clone of bytes; http's lines of a head. · http's lines of a head. · head's contracts in plain words; http's fields, reason. · http.framed. · http.status. · http.try: what a closure ends with. · http.Request's closure. -/
import Derived.Test.YtibgcbngnfaaiaaDoorHNd
import Derived.Test.YtibgcbngnfaaiaaDoorHNa
import Derived.Test.YtibgcbngnfaaiaaDoorHNb
import Derived.Outline
import Derived.Test.YtibgcbngnfaaiaaDoorHNc
import Derived.Lib.SlBytesConst
import Derived.WalkSpells
import Derived.Laws.OwnMore
import Derived.Test.YtibgcbngnfaaiaaDoorPAx3
import Derived.Test.YtibgcbngnfaaiaaDoorPAx6
import Derived.Test.YtibgcbngnfaaiaaDoorHNh
import Derived.Recover
import Derived.Defers
import Derived.RegionTactic
import Derived.BigRegion
import Derived.Deep.RegionHeld3
namespace Go.Proofs.YtibgcbngnfaaiaaDoor.H
open Go.RowKit Go.Proofs.YtibgcbngnfaaiaaDoorW.PrintWords Go.Proofs.YtibgcbngnfaaiaaDoorW.PrintLast Go.Proofs.YtibgcbngnfaaiaaDoorW.PrintMore Go.Proofs.YtibgcbngnfaaiaaDoor.PA
set_option linter.unusedVariables false
set_option linter.unusedSimpArgs false

/-- http's own panic. -/
def stopH (e : Int) : List PanicEntry := [{ v := .iface 105 (.agg #[.int .i64 e]), recovered := false }]
theorem hmust_ok (e : Int) (w : World) :
    Calls Tryd.prog 48 #[.bool true, .int .i64 e] w fun en w' => en = .returned (.tuple #[]) ∧ w = w' := by
  go_enter Tryd.func48, Tryd.ntmps48
  go_wp2
  go_end0
  exact ⟨rfl, rfl⟩
theorem hmust_no (e : Int) (w : World) :
    Calls Tryd.prog 48 #[.bool false, .int .i64 e] w fun en w' => en = .panicked (stopH e) ∧ w = w' := by
  unfold stopH
  go_enter Tryd.func48, Tryd.ntmps48
  go_wp2
  exact ⟨rfl, rfl, rfl⟩
theorem stop_ok (w : World) : Calls Tryd.prog 79 #[.int .i64 0] w fun en w' => en = .returned (.tuple #[]) ∧ w = w' := by
  go_enter Tryd.func79, Tryd.ntmps79
  go_wp2_with (go_at_call 48; ((with_reducible refine (hmust_ok _ _).mono ?_); rintro e w' ⟨rfl, rfl⟩))
  go_end0
  exact ⟨rfl, rfl⟩
theorem stop_no (e : Int) (he : e ≠ 0) (w : World) : Calls Tryd.prog 79 #[.int .i64 e] w fun en w' => en = .panicked (stopH e) ∧ w = w' := by
  have he' : (e == 0) = false := beq_eq_false_iff_ne.2 he
  clear he
  go_enter Tryd.func79, Tryd.ntmps79
  go_wp2_with (go_at_call 48; ((with_reducible refine (hmust_no _ _).mono ?_); rintro e w' ⟨rfl, rfl⟩))
  exact ⟨rfl, rfl, rfl⟩

/-- A length's digits. -/
def numL : List UInt8 → Int → Except Int Int
  | [], n => .ok n
  | c :: r, n => if 48 ≤ c.toNat ∧ c.toNat ≤ 57 then numL r (10 * n + ((c.toNat : Int) - 48)) else .error 94
def numF (s : ByteArray) : Except Int Int := if s.size = 0 ∨ 18 < s.size then .error 94 else numL (toL s) 0
def NumPost (s : ByteArray) (w : World) (e : Ending) (w' : World) : Prop :=
  match numF s with
  | .ok n => e = .returned (.int .i64 n) ∧ w = w'
  | .error x => e = .panicked (stopH x) ∧ w = w'
theorem npost_err {s : ByteArray} {w w' : World} {x : Int} (h : numF s = .error x) (hw : w = w') : NumPost s w (.panicked (stopH x)) w' := by unfold NumPost; rw [h]; exact ⟨rfl, hw⟩
theorem npost_ok {s : ByteArray} {w w' : World} {n : Int} (h : numF s = .ok n) (hw : w = w') : NumPost s w (.returned (.int .i64 n)) w' := by unfold NumPost; rw [h]; exact ⟨rfl, hw⟩
theorem toL_drop_cons (s : ByteArray) (k : Nat) (h : k < s.size) : (toL s).drop k = s[k] :: (toL s).drop (k + 1) := by
  rw [List.drop_eq_getElem_cons (by rw [toL_length]; exact h)]
  rfl
theorem pow10 (k : Nat) (h : k ≤ 18) : (10 : Int) ^ k ≤ 1000000000000000000 := by
  have h1 : (10 : Nat) ^ k ≤ 10 ^ 18 := Nat.pow_le_pow_right (by omega) h
  have h2 : ((10 ^ k : Nat) : Int) = (10 : Int) ^ k := by simp
  omega
set_option maxHeartbeats 4000000 in
set_option maxRecDepth 100000 in
theorem number_calls (s : ByteArray) (w : World) (hs : s.size ≤ 4611686018427387904) : Calls Tryd.prog 82 #[.string s] w (NumPost s w) := by
  by_cases h0 : s.size = 0
  · have hE : numF s = .error 94 := by unfold numF; rw [if_pos (.inl h0)]
    have HE := Aside0.mk hE
    have e1 : s.toList = [] := by rw [toList_data]; exact List.eq_nil_of_length_eq_zero (by rw [toL_length]; exact h0)
    have e2 : s.toList.isEmpty = true := by rw [e1]; rfl
    clear hE h0
    go_enter Tryd.func82, Tryd.ntmps82
    go_wp2_with (go_at_call 48; ((with_reducible refine (hmust_no _ _).mono ?_); rintro e w' ⟨rfl, rfl⟩))
    exact ⟨rfl, npost_err HE.out rfl⟩
  · have e1 : s.toList.isEmpty = false := by
      rw [toList_data, List.isEmpty_eq_false_iff]
      intro e; apply h0; rw [← toL_length, e]; rfl
    by_cases h1 : 18 < s.size
    · have hE : numF s = .error 94 := by unfold numF; rw [if_pos (.inr h1)]
      have HE := Aside0.mk hE
      have h1' : decide ((s.size : Int) ≤ 18) = false := decide_eq_false (by omega)
      clear hE h0
      go_enter Tryd.func82, Tryd.ntmps82
      go_wp2_with (go_at_call 48; ((with_reducible refine (hmust_no _ _).mono ?_); rintro e w' ⟨rfl, rfl⟩))
      exact ⟨rfl, npost_err HE.out rfl⟩
    · have hE : numF s = numL (toL s) 0 := by unfold numF; rw [if_neg (by omega)]
      have HE := Aside0.mk hE
      have h1' : decide ((s.size : Int) ≤ 18) = true := decide_eq_true (by omega)
      have h18 : s.size ≤ 18 := by omega
      clear hE h0 h1
      go_enter Tryd.func82, Tryd.ntmps82
      go_wp2_with (go_at_call 48; ((with_reducible refine (hmust_ok _ _).mono ?_); rintro e w' ⟨rfl, rfl⟩))
      go_loop [3, 15] (fun v3 v15 => ∃ (k : Nat) (m : Int), k ≤ s.size ∧ 0 ≤ m ∧ Aside0 (m < 10 ^ k) ∧ v15 = .int .i64 k ∧ v3 = .int .i64 m ∧ Aside0 (numF s = numL ((toL s).drop k) m)) (fun _ v15 => s.size - (intOf v15).toNat)
      case atStart => exact ⟨0, 0, by omega, by omega, ⟨by omega⟩, rfl, rfl, ⟨HE.out⟩⟩
      case round =>
        obtain ⟨k, m, hk, hm0, HM1, rfl, rfl, HL⟩ := hrel
        have hm2 : m < 1000000000000000000 := by
          have := pow10 k (by omega)
          have := HM1.out
          omega
        by_cases hlt : k < s.size
        · have hlt' : decide ((k : Int) < (s.size : Int)) = true := decide_eq_true (by omega)
          have hd := toL_drop_cons s k hlt
          have hm3 : m < 100000000000000000 := by
            have h2 : (10 : Nat) ^ k ≤ 10 ^ 17 := Nat.pow_le_pow_right (by omega) (by omega)
            have h3 : ((10 ^ k : Nat) : Int) = (10 : Int) ^ k := by simp
            have := HM1.out
            omega
          obtain ⟨b, hb⟩ : ∃ b : Nat, s[k].toNat = b := ⟨_, rfl⟩
          have hbr : b < 256 := by rw [← hb]; exact s[k].toNat_lt
          have hbt : ∀ h : k < s.size, ((s[k]'h).toNat : Int) = (b : Int) := fun h => by rw [← hb]
          have HN : Aside0 (numL ((toL s).drop k) m = if 48 ≤ b ∧ b ≤ 57 then numL ((toL s).drop (k + 1)) (10 * m + ((b : Int) - 48)) else .error 94) := ⟨by rw [hd, numL, hb]⟩
          clear hd hb
          by_cases hg : 48 ≤ b ∧ b ≤ 57
          · have HF : Aside0 (numF s = numL ((toL s).drop (k + 1)) (10 * m + ((b : Int) - 48))) := ⟨by rw [HL.out, HN.out, if_pos hg]⟩
            obtain ⟨hd1, hd2⟩ := hg
            have hx1 : decide ((48 : Int) ≤ (b : Int)) = true := decide_eq_true (by omega)
            have hx2 : decide ((b : Int) ≤ 57) = true := decide_eq_true (by omega)
            have HP : Aside0 (10 * m + ((b : Int) - 48) < 10 ^ (k + 1)) := ⟨by have := HM1.out; rw [Int.pow_succ]; omega⟩
            go_wp2_with (go_at_call 48; ((with_reducible refine (hmust_ok _ _).mono ?_); rintro e w' ⟨rfl, rfl⟩))
            go_round
            case rel => exact ⟨k + 1, 10 * m + ((b : Int) - 48), by omega, by omega, HP, by go_num, by go_num, HF⟩
            case measure => simp [intOf]; omega
          · have HF : Aside0 (numF s = .error 94) := ⟨by rw [HL.out, HN.out, if_neg hg]⟩
            by_cases hd1 : 48 ≤ b
            · have hx1 : decide ((48 : Int) ≤ (b : Int)) = true := decide_eq_true (by omega)
              have hx2 : decide ((b : Int) ≤ 57) = false := decide_eq_false (by omega)
              clear hg
              go_wp2_with (go_at_call 48; ((with_reducible refine (hmust_no _ _).mono ?_); rintro e w' ⟨rfl, rfl⟩))
              exact ⟨rfl, npost_err HF.out rfl⟩
            · have hx1 : decide ((48 : Int) ≤ (b : Int)) = false := decide_eq_false (by omega)
              clear hg
              go_wp2_with (go_at_call 48; ((with_reducible refine (hmust_no _ _).mono ?_); rintro e w' ⟨rfl, rfl⟩))
              exact ⟨rfl, npost_err HF.out rfl⟩
        · have hlt' : decide ((k : Int) < (s.size : Int)) = false := decide_eq_false (by omega)
          have HF : Aside0 (numF s = .ok m) := ⟨by rw [HL.out, List.drop_of_length_le (by rw [toL_length]; omega)]; rfl⟩
          go_wp2
          go_ret
          exact npost_ok HF.out rfl
end Go.Proofs.YtibgcbngnfaaiaaDoor.H

namespace Go.Proofs.YtibgcbngnfaaiaaDoor.H
open Go.RowKit Go.Proofs.YtibgcbngnfaaiaaDoorW.PrintWords Go.Proofs.YtibgcbngnfaaiaaDoorW.PrintLast Go.Proofs.YtibgcbngnfaaiaaDoorW.PrintMore Go.Proofs.YtibgcbngnfaaiaaDoor.PA
attribute [local go_sem] max2_int min2_int
set_option linter.unusedVariables false
set_option linter.unusedSimpArgs false

theorem hj5 : (Tryd.prog.info? 5).map (fun i => (i.zero, i.size, i.bytes)) = some (some (.int .u8 0), 1, 1) := by kernel_rfl
theorem bt' {w a b : World} (h : Below w.heap.size w a) (k : Below a.heap.size a b) : Below w.heap.size w b := h.trans (k.mono h.size)
theorem own_row3 {w : World} {base : Nat} {v : Value} {xs : List Int} (ho : w.ownsRow base 5 1 v xs.length (nums .u8 xs)) : ∃ A1 c1, v = .slice A1 xs.length c1 ∧ xs.length ≤ c1 ∧ ReadsInt w .u8 A1 xs.length xs := by
  obtain ⟨A1, c1, rfl, h1, h2⟩ := Kd.R_reads (Kd.R_of_own (enc := Value.int .u8) (h1 := fun _ => rfl) (ok := fun _ => True) ho (fun _ _ => trivial))
  exact ⟨A1, c1, rfl, h1, Kd.reads_of_C h2⟩
/-- A row of bytes of one's own, as a slice. -/
def OwnB (w : World) (base : Nat) (A : Option Addr) (c : Nat) (b : List Int) : Prop := w.ownsRow base 5 1 (.slice A b.length c) b.length (nums .u8 b)
theorem OwnB.reads {w : World} {base c : Nat} {A : Option Addr} {b : List Int} (h : OwnB w base A c b) : b.length ≤ c ∧ ReadsInt w .u8 A b.length b := by
  obtain ⟨A1, c1, he, h1, h2⟩ := own_row3 h
  injection he with e1 e2 e3
  subst e1; subst e3
  exact ⟨h1, h2⟩
theorem OwnB.lower {w : World} {base base' c : Nat} {A : Option Addr} {b : List Int} (h : OwnB w base A c b) (hb : base' ≤ base) : OwnB w base' A c b := by
  refine ⟨h.1, ?_⟩
  rcases h.2 with h1 | ⟨g, cap, cur, h1, h2, h3⟩
  · exact .inl h1
  · exact .inr ⟨g, cap, cur, h1, Nat.le_trans hb h2, h3⟩
theorem OwnB.below {w w1 : World} {base c : Nat} {A : Option Addr} {b : List Int} (h : OwnB w base A c b) (hb : Below w.heap.size w w1) : OwnB w1 base A c b := pw_own_below h hb
theorem OwnB.set {w : World} {base c : Nat} {A : Option Addr} {b : List Int} (h : OwnB w base A c b) {p : Addr} (hp : p.block < base) (v : Value) : OwnB (w.setCell p v) base A c b := ownsRow_setCell_below h hp v
theorem ownB_of {w : World} {base : Nat} {v : Value} {b : List Int} (h : w.ownsRow base 5 1 v b.length (nums .u8 b)) : ∃ A c, v = .slice A b.length c ∧ OwnB w base A c b := by
  obtain ⟨A1, c1, rfl, h1, h2⟩ := own_row3 h
  exact ⟨A1, c1, rfl, h⟩
set_option maxHeartbeats 1000000 in
set_option maxRecDepth 100000 in
theorem clone_calls (A : Option Addr) (c : Nat) (l : List Int) (w : World) (hr : ReadsInt w .u8 A l.length l) (hc : l.length ≤ c) (hl : l.length ≤ 1000000000) :
    Calls Tryd.prog 60 #[.slice A l.length c] w fun e w' => ∃ A1 c1, e = .returned (.slice A1 l.length c1) ∧ OwnB w' w.heap.size A1 c1 l ∧ Below w.heap.size w w' := by
  have HR := Aside0.mk hr
  cases A with
  | none =>
    have h0 : l = [] := by
      rcases Nat.eq_zero_or_pos l.length with h0 | h0
      · exact List.eq_nil_of_length_eq_zero h0
      · obtain ⟨_, h, _⟩ := hr.2.2 h0; cases h
    subst h0
    clear hr
    have heq := fun (w : World) => Lib.run_eql_slice_nil (P := Tryd.prog) w 22 5 none 0 c 0 0 Tryd.underlying22
    go_enter Tryd.func60, Tryd.ntmps60
    go_wp2
    go_ret
    exact ⟨none, 0, rfl, World.ownsRow_nil _ _ _ _, Below.refl _ _⟩
  | some ad =>
    clear hr
    have heq := fun (w : World) => Lib.run_eql_slice_nil (P := Tryd.prog) w 22 5 (some ad) l.length c 0 0 Tryd.underlying22
    have c1 : Aside0 ((w.alloc (.cells #[] 5)).ownsRow w.heap.size 5 1 (.slice (some ⟨w.heap.size, 0, none⟩) 0 0) ([] : List Int).length (nums .u8 [])) := ⟨by have h := World.ownsRow_lit (base := w.heap.size) (e := 5) (size := 1) w #[] 0 (Nat.le_refl _) (by simp [maxLen]) (by simp); simpa [nums] using h⟩
    have c2 := Aside0.mk (HR.out.below (below_alloc (Below.refl _ _) (.cells #[] 5)))
    have c3 : Aside0 (Below w.heap.size w (w.alloc (.cells #[] 5))) := ⟨below_alloc (Below.refl _ _) _⟩
    have c4 : Aside0 (w.heap.size ≤ (w.alloc (.cells #[] 5)).heap.size) := ⟨by simp⟩
    have c5 : Aside0 ((([] : List Int).length + l.length) * 1 ≤ 140737488355328) := ⟨by simp only [List.length_nil]; omega⟩
    go_enter Tryd.func60, Tryd.ntmps60
    go_wp2_with (at_builtin; refine print_append_row (w0 := w) w.heap.size rfl (.tmp 5) (.tmp 6) 22 5 .u8 1 rfl Tryd.underlying22 hj5 (by decide) (.slice (some ⟨w.heap.size, 0, none⟩) 0 0) [] l (some ad) l.length c rfl rfl c1.out c2.out c3.out c4.out c5.out ?_; intro v1 w1 ho1 hb1 hg1 hat1; clear hg1 hat1; rw [List.nil_append] at ho1; obtain ⟨A1, cc1, rfl, hc1⟩ := ownB_of ho1; replace hc1 := Aside0.mk hc1; replace hb1 := Aside0.mk hb1; clear ho1)
    go_ret
    exact ⟨A1, cc1, rfl, hc1.out, hb1.out⟩
end Go.Proofs.YtibgcbngnfaaiaaDoor.H

namespace Go.Proofs.YtibgcbngnfaaiaaDoor.H
open Go.RowKit Go.Proofs.YtibgcbngnfaaiaaDoorW.PrintWords Go.Proofs.YtibgcbngnfaaiaaDoorW.PrintLast Go.Proofs.YtibgcbngnfaaiaaDoorW.PrintMore Go.Proofs.YtibgcbngnfaaiaaDoor.PA
attribute [local go_sem] max2_int min2_int
set_option linter.unusedVariables false
set_option linter.unusedSimpArgs false

def iL (l : List UInt8) : List Int := l.map fun c => (c.toNat : Int)
theorem iL_length (l : List UInt8) : (iL l).length = l.length := by simp [iL]
theorem iL_take (l : List UInt8) (n : Nat) : (iL l).take n = iL (l.take n) := by simp [iL, List.map_take]
theorem iL_drop (l : List UInt8) (n : Nat) : (iL l).drop n = iL (l.drop n) := by simp [iL, List.map_drop]
theorem iL_range (l : List UInt8) : ∀ x ∈ iL l, 0 ≤ x ∧ x < 256 := by
  intro x hx
  unfold iL at hx
  rw [List.mem_map] at hx
  obtain ⟨c, _, rfl⟩ := hx
  have := c.toNat_lt; omega
theorem libBytes_iL (l : List UInt8) : Lib.bytesOf (iL l) = l := by
  unfold Lib.bytesOf iL
  rw [List.map_map]
  refine (List.map_congr_left fun x _ => ?_).trans (List.map_id _)
  simp
theorem strOf_iL (l : List UInt8) : strOfNums (iL l) = ofL l := by
  have h : (strOfNums (iL l)).data.toList = (ofL l).data.toList := by
    rw [strOfNums_data]
    unfold iL ofL
    rw [List.map_map, List.toList_toArray]
    refine (List.map_congr_left fun x _ => ?_).trans (List.map_id _)
    simp
  exact ByteArray.ext (Array.toList_inj.1 h)
theorem bytesOf_iL (s : ByteArray) : bytesOf s = iL (toL s) := rfl
/-- internal/bytealg.MaxLen holds a number. -/
def Mz (w : World) : Prop := ∃ m : Int, w.cell? ⟨0, 0, none⟩ = some (.int .i64 m)
theorem mz_below {w w1 : World} (h : Mz w) (hb : Below w.heap.size w w1) : Mz w1 := by
  obtain ⟨m, h⟩ := h
  exact ⟨m, pw_cell_below hb h⟩
theorem bindex_calls (A1 A2 : Option Addr) (c1 c2 : Nat) (l sep : List UInt8) (w : World) (h1 : ReadsInt w .u8 A1 l.length (iL l)) (h2 : ReadsInt w .u8 A2 sep.length (iL sep)) (hc : l.length ≤ c1) (hl : l.length < 4294967281) (hs : 2 ≤ sep.length) (hs2 : sep.length ≤ 1000) (hm : Mz w) :
    Calls Tryd.prog 75 #[.slice A1 l.length c1, .slice A2 sep.length c2] w fun e w' => e = .returned (.int .i64 (Lib.index l sep)) ∧ Drawn0 w w' := by
  by_cases h : l.length < sep.length
  · have hi : Lib.index l sep = -1 := by
      rcases Lib.index_spec l sep with ⟨h3, _⟩ | ⟨i, h3, h4, h5, _⟩
      · exact h3
      · have := Lib.occAt_room h5
        rcases this with h6 | h6
        · omega
        · subst h6; simp at hs
    rw [hi]
    refine (Tryd.bytes_Index_longer A1 A2 l.length c1 sep.length c2 w hs h (by omega)).mono ?_
    rintro e w' ⟨rfl, rfl⟩
    exact ⟨rfl, Drawn0.refl _⟩
  · obtain ⟨a1, rfl, k1⟩ := h1.2.2 (by omega)
    obtain ⟨a2, rfl, k2⟩ := h2.2.2 (by omega)
    obtain ⟨m, hm⟩ := hm
    refine (Tryd.bytes_Index_at a1 a2 l.length c1 sep.length c2 (iL l) (iL sep) m w (iL_length l) (iL_length sep) (iL_range l) (iL_range sep) k1 k2 hc hl (by omega) hm).mono ?_
    rintro e w' ⟨rfl, q, rfl⟩
    rw [libBytes_iL, libBytes_iL]
    exact ⟨rfl, ⟨⟨q, rfl⟩⟩⟩
/-- strings.Split, sep not empty: pieces in a new row. -/
theorem split_calls (s sep : ByteArray) (w : World) (hs : s.size < 4294967281) (h1 : 1 ≤ sep.size) (hm : Mz w) (L : List ByteArray) (hL : (Lib.split (toL s) (toL sep)).map ofL = L) :
    Calls Tryd.prog 47 #[.string s, .string sep] w fun e w' => ∃ A c, e = .returned (.slice A L.length c) ∧ L.length ≤ c ∧ Kd.C Kd.string w' A L.length L ∧ (∀ ad, A = some ad → w.heap.size ≤ ad.block) ∧ Below w.heap.size w w' := by
  obtain ⟨m, hm⟩ := hm
  refine (Any.strings_Split { Tryd.laysM146 with } Tryd.laysM146.i9 s sep m w hs hm h1).mono ?_
  rintro e w' ⟨rfl, rfl⟩
  have e : Lib.countB s sep + 1 = L.length := by rw [splitB_length s sep h1, splitB_eq, hL]
  have hcl : L.length ≤ 4294967283 := by
    have h1 := Lib.count_le (toL s) (toL sep)
    have h2 : Lib.countB s sep = Lib.count (toL s) (toL sep) := rfl
    rw [toL_length] at h1
    omega
  rw [e, splitB_eq, hL]
  refine ⟨_, _, rfl, Nat.le_refl _, ?_, fun ad h => by cases h; exact Nat.le_refl _, below_alloc (Below.refl _ _) _⟩
  refine Kd.C_of_reads (enc := Value.string) (d := ByteArray.empty) (h1 := fun _ => rfl) ⟨rfl, by omega, fun h => ⟨_, rfl, fun j hj => ?_⟩⟩
  rw [add_plain, World.cell?_alloc_new]
  simp [List.getD_eq_getElem?_getD, List.getElem?_eq_getElem hj]
/-- Neither CR nor LF. -/
def noCR (l : List UInt8) : Bool := l.all fun c => c.toNat != 13 && c.toNat != 10
/-- A head's lines, and how long it is. -/
def headS (l : List UInt8) : Except Int (List (List UInt8) × Nat) :=
  match endAt (l.take 8192) with
  | none => if l.length < 8192 then .error 92 else .error 93
  | some i => if (splitCR [] (l.take i)).all noCR = true then .ok (splitCR [] (l.take i), i + 4) else .error 90
theorem indexByte_neg (l : List UInt8) (c : UInt8) : (Lib.indexByte l c < 0) ↔ ∀ x ∈ l, x ≠ c := by
  induction l with
  | nil => simp [Lib.indexByte]
  | cons x l ih =>
    unfold Lib.indexByte
    by_cases h : (x == c) = true
    · rw [if_pos h]
      have hx := beq_iff_eq.1 h
      simp [hx]
    · rw [if_neg h]
      have hx : x ≠ c := fun e => h (beq_iff_eq.2 e)
      by_cases h2 : (Lib.indexByte l c == -1) = true
      · rw [if_pos h2]
        have : Lib.indexByte l c < 0 := by rw [beq_iff_eq.1 h2]; decide
        simp only [List.mem_cons, forall_eq_or_imp]
        exact ⟨fun _ => ⟨hx, ih.1 this⟩, fun _ => by decide⟩
      · rw [if_neg h2]
        have hge := Lib.indexByte_ge l c
        have hne : Lib.indexByte l c ≠ -1 := fun e => h2 (beq_iff_eq.2 e)
        constructor
        · intro h3; omega
        · intro h3; have := ih.2 (fun y hy => h3 y (by simp [hy])); omega
theorem noCR_iff (l : List UInt8) : noCR l = true ↔ indexByteS (ofL l) 13 < 0 ∧ indexByteS (ofL l) 10 < 0 := by
  have e : ∀ c : Int, indexByteS (ofL l) c = Lib.indexByte l c.toNat.toUInt8 := fun c => by unfold indexByteS; rw [show (ofL l).data.toList = l from toL_ofL l]
  rw [e, e, indexByte_neg, indexByte_neg]
  unfold noCR
  rw [List.all_eq_true]
  constructor
  · intro h
    refine ⟨fun x hx e => ?_, fun x hx e => ?_⟩
    · have := h x hx; subst e; revert this; decide
    · have := h x hx; subst e; revert this; decide
  · rintro ⟨h1, h2⟩ x hx
    simp only [Bool.and_eq_true, bne_iff_ne]
    refine ⟨fun e => h1 x hx (UInt8.toNat_inj.mp ?_), fun e => h2 x hx (UInt8.toNat_inj.mp ?_)⟩
    · rw [e]; rfl
    · rw [e]; rfl
def LinesPost (A : Option Addr) (l : List UInt8) (w : World) (e : Ending) (w' : World) : Prop :=
  match headS l with
  | .ok (L, at_) => ∃ A1 c1 A2 c2, e = .returned (.tuple #[.slice A1 L.length c1, .slice A2 (l.drop at_).length c2]) ∧ (L.length ≤ c1 ∧ ∀ ad, A1 = some ad → w.heap.size ≤ ad.block) ∧ Kd.C Kd.string w' A1 L.length (L.map ofL) ∧ (l.drop at_).length ≤ c2 ∧ (∀ W, ReadsInt W .u8 A l.length (iL l) → ReadsInt W .u8 A2 (l.drop at_).length (iL (l.drop at_))) ∧ Below w.heap.size w w'
  | .error x => e = .panicked (stopH x) ∧ Below w.heap.size w w'
theorem lines_err {A : Option Addr} {l : List UInt8} {w w' : World} {x : Int} (h : headS l = .error x) (hb : Below w.heap.size w w') : LinesPost A l w (.panicked (stopH x)) w' := by unfold LinesPost; rw [h]; exact ⟨rfl, hb⟩
theorem lines_ok {l : List UInt8} {w w' : World} {L : List (List UInt8)} {at_ : Nat} {A A1 A2 : Option Addr} {c1 c2 n1 n2 : Nat} (h : headS l = .ok (L, at_)) (hn1 : n1 = L.length) (hn2 : n2 = (l.drop at_).length) (h1 : L.length ≤ c1 ∧ ∀ ad, A1 = some ad → w.heap.size ≤ ad.block) (h2 : Kd.C Kd.string w' A1 L.length (L.map ofL)) (h3 : (l.drop at_).length ≤ c2) (h4 : ∀ W, ReadsInt W .u8 A l.length (iL l) → ReadsInt W .u8 A2 (l.drop at_).length (iL (l.drop at_))) (hb : Below w.heap.size w w') :
    LinesPost A l w (.returned (.tuple #[.slice A1 n1 c1, .slice A2 n2 c2])) w' := by unfold LinesPost; rw [h]; subst hn1; subst hn2; exact ⟨A1, c1, A2, c2, rfl, h1, h2, h3, h4, hb⟩
theorem cutT (A : Option Addr) (c : Nat) (l : List UInt8) (hc : l.length ≤ c) (z : Int) (n : Nat) (hz : z = (n : Int)) (hn : n ≤ l.length) (tk : List UInt8) (ht : l.take n = tk) :
    (∀ W : World, (Instr.slice 22 (.slice A l.length c) none (some (.int .i64 z)) none).run Tryd.prog W = .ok (.slice A tk.length c) W) ∧ tk.length ≤ c ∧ ∀ W, ReadsInt W .u8 A l.length (iL l) → ReadsInt W .u8 A tk.length (iL tk) := by
  subst hz; subst ht
  obtain ⟨i0, hi0, _, hsz, _⟩ := info_parts hj5
  obtain ⟨h1, h2, h3⟩ := print_take_int (P := Tryd.prog) (k := .u8) 22 5 Tryd.underlying22 hi0 hsz A c (iL l) (n : Int) (by omega) (by rw [iL_length]; omega) (by rw [iL_length]; exact hc)
  simp only [Int.toNat_natCast, iL_take, iL_length] at h1 h2 h3
  exact ⟨h1, h3, h2⟩
theorem cutD (A : Option Addr) (c : Nat) (l : List UInt8) (hc : l.length ≤ c) (z : Int) (n : Nat) (hz : z = (n : Int)) (hn : n ≤ l.length) (dr : List UInt8) (hd : l.drop n = dr) :
    ∃ A2 c2, (∀ W : World, (Instr.slice 22 (.slice A l.length c) (some (.int .i64 z)) none none).run Tryd.prog W = .ok (.slice A2 dr.length c2) W) ∧ dr.length ≤ c2 ∧ ∀ W, ReadsInt W .u8 A l.length (iL l) → ReadsInt W .u8 A2 dr.length (iL dr) := by
  subst hz; subst hd
  obtain ⟨i0, hi0, _, hsz, _⟩ := info_parts hj5
  obtain ⟨A2, h1, h2, h3⟩ := print_drop_of (P := Tryd.prog) (Value.int .u8) 0 22 5 .i64 Tryd.underlying22 hi0 hsz A c (iL l) (n : Int) (by omega) (by rw [iL_length]; omega) (by rw [iL_length]; exact hc)
  simp only [Int.toNat_natCast, iL_drop, iL_length] at h1 h2 h3
  exact ⟨A2, _, h1, h3, h2⟩
theorem endAt_le : ∀ (l : List UInt8) (i : Nat), endAt l = some i → i + 4 ≤ l.length
  | [], i, h => by cases h
  | c :: l, i, h => by
    unfold endAt at h
    split at h
    · rename_i hp
      cases h
      have := (List.isPrefixOf_iff_prefix.1 hp).length_le
      simp at this ⊢; omega
    · cases e : endAt l with
      | none => rw [e] at h; cases h
      | some j =>
        rw [e] at h
        simp only [Option.map_some, Option.some.injEq] at h
        subst h
        have := endAt_le l j e
        simp; omega
theorem crlf4 (w : World) (e : TypeId) (fr : Nat × Nat) : ReadsInt (w.alloc (.cells #[.int .u8 13, .int .u8 10, .int .u8 13, .int .u8 10] e fr)) .u8 (some ⟨w.heap.size, 0, none⟩) 4 (iL [13, 10, 13, 10]) := by
  refine ⟨rfl, by omega, fun _ => ⟨_, rfl, fun j hj => ?_⟩⟩
  rw [add_plain, World.cell?_alloc_mark]
  rcases j with _ | _ | _ | _ | j
  · rfl
  · rfl
  · rfl
  · rfl
  · omega
theorem below_of_drawn {w w1 : World} (h : Below w.heap.size w w1) (n : Nat) : Below w.heap.size w (w1.drewN n) := pw_below_drewN h n
theorem splitCR_len : ∀ (n : Nat) (cur l : List UInt8), l.length = n → (splitCR cur l).length ≤ n + 1 := by
  intro n
  induction n using Nat.strongRecOn with
  | ind n ih =>
    intro cur l h
    match l, h with
    | [], h => simp [splitCR]
    | [c], h => simp [splitCR]
    | c :: d :: r, h =>
      simp only [List.length_cons] at h
      rw [splitCR]
      split
      · have := ih r.length (by omega) [] r rfl
        simp only [List.length_cons]; omega
      · have := ih (d :: r).length (by simp; omega) (cur ++ [c]) (d :: r) rfl
        simp only [List.length_cons] at this ⊢; omega
theorem bindex4 (A : Option Addr) (c : Nat) (l : List UInt8) (w : World) (fr : Nat × Nat) (h1 : ReadsInt w .u8 A l.length (iL l)) (hc : l.length ≤ c) (hl : l.length < 4294967281) (hm : Mz w) (ix : Int) (hi : Lib.index l [13, 10, 13, 10] = ix) :
    Calls Tryd.prog 75 #[.slice A l.length c, .slice (some ⟨w.heap.size, 0, none⟩) 4 4] (w.alloc (.cells #[.int .u8 13, .int .u8 10, .int .u8 13, .int .u8 10] 5 fr)) fun e w' => e = .returned (.int .i64 ix) ∧ Below w.heap.size w w' := by
  subst hi
  have hb := below_alloc (Below.refl w.heap.size w) (.cells #[.int .u8 13, .int .u8 10, .int .u8 13, .int .u8 10] 5 fr)
  refine (bindex_calls A _ c 4 l [13, 10, 13, 10] _ (h1.below hb) (crlf4 w 5 fr) hc hl (by decide) (by decide) (mz_below hm hb)).mono ?_
  rintro e w' ⟨rfl, hd⟩
  exact ⟨rfl, bt' hb hd.below⟩
set_option maxHeartbeats 4000000 in
set_option maxRecDepth 100000 in
theorem lines_calls (A : Option Addr) (c : Nat) (l : List UInt8) (w : World) (hr : ReadsInt w .u8 A l.length (iL l)) (hc : l.length ≤ c) (hl : l.length ≤ 1000000000) (hm : Mz w) :
    Calls Tryd.prog 46 #[.slice A l.length c] w (LinesPost A l w) := by
  have HR := Aside0.mk hr
  have HM := Aside0.mk hm
  obtain ⟨tk, htk⟩ : ∃ tk, l.take 8192 = tk := ⟨_, rfl⟩
  have htk' : l.take (min l.length 8192) = tk := by
    rw [← htk]; rcases Nat.le_total l.length 8192 with h | h
    · rw [Nat.min_eq_left h, List.take_of_length_le (Nat.le_refl _), List.take_of_length_le h]
    · rw [Nat.min_eq_right h]
  obtain ⟨hrun, hct, hrt⟩ := cutT A c l hc (min (l.length : Int) 8192) (min l.length 8192) (by omega) (by omega) tk htk'
  have HCT := Aside0.mk hct
  have HRT := Aside0.mk hrt
  have hix := endAt_index tk
  have htl : tk.length ≤ l.length := by rw [← htk, List.length_take]; omega
  have HTL : Aside0 (tk.length < 4294967281) := ⟨by omega⟩
  have kc := fun (w : World) (C : Array Value) (n c : Nat) => Lib.run_convert_bytes_const (P := Tryd.prog) w 22 5 C n c Tryd.underlying22 Tryd.underlying5
  cases he : endAt tk with
  | none =>
    rw [he] at hix
    have HIX : Aside0 (Lib.index tk [13, 10, 13, 10] = -1) := ⟨hix⟩
    by_cases hlt : l.length < 8192
    · have HF : Aside0 (headS l = .error 92) := ⟨by unfold headS; rw [htk, he]; simp only []; rw [if_pos hlt]⟩
      have h1 : decide ((l.length : Int) < 8192) = true := decide_eq_true (by omega)
      clear hr hm htk htk' hct hrt hix he
      go_enter Tryd.func46, Tryd.ntmps46
      go_wp2_with (first
        | (go_at_call 75; ((with_reducible refine (bindex4 A c tk _ _ (HRT.out _ HR.out) HCT.out HTL.out HM.out _ HIX.out).mono ?_); rintro e w1 ⟨rfl, hd1⟩; replace hd1 := Aside0.mk hd1))
        | (go_at_call 48; ((with_reducible refine (hmust_ok _ _).mono ?_); rintro e w' ⟨rfl, rfl⟩))
        | (go_at_call 48; ((with_reducible refine (hmust_no _ _).mono ?_); rintro e w' ⟨rfl, rfl⟩)))
      exact ⟨rfl, lines_err HF.out hd1.out⟩
    · have HF : Aside0 (headS l = .error 93) := ⟨by unfold headS; rw [htk, he]; simp only []; rw [if_neg hlt]⟩
      have h1 : decide ((l.length : Int) < 8192) = false := decide_eq_false (by omega)
      clear hr hm htk htk' hct hrt hix he
      go_enter Tryd.func46, Tryd.ntmps46
      go_wp2_with (first
        | (go_at_call 75; ((with_reducible refine (bindex4 A c tk _ _ (HRT.out _ HR.out) HCT.out HTL.out HM.out _ HIX.out).mono ?_); rintro e w1 ⟨rfl, hd1⟩; replace hd1 := Aside0.mk hd1))
        | (go_at_call 48; ((with_reducible refine (hmust_ok _ _).mono ?_); rintro e w' ⟨rfl, rfl⟩))
        | (go_at_call 48; ((with_reducible refine (hmust_no _ _).mono ?_); rintro e w' ⟨rfl, rfl⟩)))
      exact ⟨rfl, lines_err HF.out hd1.out⟩
  | some i =>
    rw [he] at hix
    have HIX : Aside0 (Lib.index tk [13, 10, 13, 10] = (i : Int)) := ⟨hix⟩
    have hil := endAt_le tk i he
    have hil2 : i + 4 ≤ l.length := by omega
    obtain ⟨hd, hhd⟩ : ∃ hd, l.take i = hd := ⟨_, rfl⟩
    obtain ⟨hrunh, hch, hrh⟩ := cutT A c l hc (i : Int) i rfl (by omega) hd hhd
    obtain ⟨dr, hdr⟩ : ∃ dr, l.drop (i + 4) = dr := ⟨_, rfl⟩
    obtain ⟨A2, c2, hrund, hcd, hrd⟩ := cutD A c l hc ((i : Int) + 4) (i + 4) (by omega) hil2 dr hdr
    obtain ⟨P, hP⟩ : ∃ P, splitCR [] hd = P := ⟨_, rfl⟩
    have HF : Aside0 (headS l = if P.all noCR = true then .ok (P, i + 4) else .error 90) := ⟨by unfold headS; rw [htk, he]; simp only []; rw [hhd, hP]⟩
    have HL : Aside0 ((Lib.split (toL (ofL hd)) (toL (⟨#[13, 10]⟩ : ByteArray))).map ofL = P.map ofL) := ⟨by
      rw [toL_ofL, show toL (⟨#[13, 10]⟩ : ByteArray) = [13, 10] from rfl, splitCR_eq _ _ rfl, hP]⟩
    have HSZ : Aside0 ((ofL hd).size < 4294967281) := ⟨by rw [ofL_size, ← hhd, List.length_take]; omega⟩
    have hi0 : (0 : Int) ≤ (i : Int) := by omega
    have hi4 : (i : Int) + 4 ≤ (l.length : Int) := by omega
    have hpl : P.length ≤ 1000000001 := by
      have := splitCR_len hd.length [] hd rfl
      rw [hP] at this
      rw [← hhd, List.length_take] at this; omega
    have HDR := Aside0.mk hdr
    have HCH := Aside0.mk hch
    have HRH := Aside0.mk hrh
    have HCD := Aside0.mk hcd
    have HRD := Aside0.mk hrd
    have hcv : ∀ W, ReadsInt W .u8 A l.length (iL l) → (convert 22 9 (.slice A hd.length c)).run Tryd.prog W = .ok (.string (ofL hd)) W := fun W h => by
      have := string_of_reads (P := Tryd.prog) (src := 22) (dst := 9) Tryd.underlying22 Tryd.underlying5 Tryd.underlying9 (c := c) (hrh W h)
      rw [strOf_iL] at this; exact this
    have HCV := Aside0.mk hcv
    clear hr hm htk htk' hct hrt hix he hdr hhd hch hrh hcd hrd hcv hP hil
    go_enter Tryd.func46, Tryd.ntmps46
    go_wp2_with (first
      | (go_at_call 75; ((with_reducible refine (bindex4 A c tk _ _ (HRT.out _ HR.out) HCT.out HTL.out HM.out _ HIX.out).mono ?_); rintro e w1 ⟨rfl, hd1⟩; have hcv1 := HCV.out w1 (HR.out.below hd1); replace hd1 := Aside0.mk hd1))
      | (go_at_call 48; ((with_reducible refine (hmust_ok _ _).mono ?_); rintro e w' ⟨rfl, rfl⟩))
      | (go_at_call 47; ((with_reducible refine (split_calls (ofL hd) _ _ HSZ.out (by decide) (mz_below HM.out hd1.out) _ HL.out).mono ?_); rintro e w2 ⟨A3, c3, rfl, hc3, hr3, hg3, hb3⟩; replace hg3 := Aside0.mk (fun ad h => Nat.le_trans hd1.out.size (hg3 ad h)); replace hb3 := Aside0.mk (bt' hd1.out hb3); replace hc3 := Aside0.mk hc3; replace hr3 := Aside0.mk hr3)))
    go_loopw [34] (fun v34 wr => ∃ j : Nat, j ≤ P.length ∧ v34 = .int .i64 j ∧ Aside0 (Below w2.heap.size w2 wr) ∧ Aside0 ((P.take j).all noCR = true)) (fun v34 _ => P.length - (intOf v34).toNat)
    case atStart => exact ⟨0, Nat.zero_le _, rfl, ⟨Below.refl _ _⟩, ⟨by simp⟩⟩
    case round =>
      obtain ⟨j, hj, rfl, hbr, hall⟩ := hrel
      by_cases hlt : j < P.length
      · have hlt' : decide ((j : Int) < (P.length : Int)) = true := decide_eq_true (by omega)
        obtain ⟨ad, hA, hcell⟩ := (Kd.reads_of_C (enc := Value.string) (d := ByteArray.empty) (h1 := fun _ => rfl) (Kd.C_below hr3.out hbr.out)).2.2 (by rw [List.length_map]; omega)
        have hck := hcell j (by rw [List.length_map]; exact hlt)
        rw [show (P.map ofL).getD j ByteArray.empty = ofL (P.getD j []) from by simp [List.getD_eq_getElem?_getD, List.getElem?_eq_getElem hlt]] at hck
        clear hcell
        subst hA
        obtain ⟨p, hp⟩ : ∃ p, P.getD j [] = p := ⟨_, rfl⟩
        rw [hp] at hck
        have htk : P.take (j + 1) = P.take j ++ [p] := by
          rw [List.take_succ_eq_append_getElem hlt, ← hp, List.getD_eq_getElem?_getD, List.getElem?_eq_getElem hlt]; rfl
        have hpm : p ∈ P := by
          rw [← hp, List.getD_eq_getElem?_getD, List.getElem?_eq_getElem hlt]; exact List.getElem_mem hlt
        have hno := noCR_iff p
        obtain ⟨x, hx⟩ : ∃ x, indexByteS (ofL p) 13 = x := ⟨_, rfl⟩
        obtain ⟨y, hy⟩ : ∃ y, indexByteS (ofL p) 10 = y := ⟨_, rfl⟩
        rw [hx, hy] at hno
        have HX := Aside0.mk hx
        have HY := Aside0.mk hy
        have HTK := Aside0.mk htk
        have HBAD : Aside0 (¬ noCR p = true → headS l = .error 90) := ⟨fun h => by
          rw [HF.out, if_neg]
          intro e; exact h (List.all_eq_true.1 e p hpm)⟩
        have HNO := Aside0.mk hno
        clear hx hy hp htk hpm hno
        by_cases hx0 : x < 0
        · have hx1 : decide (x < 0) = true := decide_eq_true hx0
          by_cases hy0 : y < 0
          · have hy1 : decide (y < 0) = true := decide_eq_true hy0
            go_wp2_with (first
              | (go_at_call 76; ((with_reducible refine (indexByte_calls _ 13 _).mono ?_); rintro e w4 ⟨rfl, hd4⟩; rw [HX.out]; replace hd4 := Aside0.mk hd4.below))
              | (go_at_call 76; ((with_reducible refine (indexByte_calls _ 10 _).mono ?_); rintro e w5 ⟨rfl, hd5⟩; rw [HY.out]; replace hd5 := Aside0.mk hd5.below))
              | (go_at_call 48; ((with_reducible refine (hmust_ok _ _).mono ?_); rintro e w' ⟨rfl, rfl⟩)))
            go_roundw
            case rel => exact ⟨j + 1, by omega, by go_num, ⟨bt' (bt' hbr.out hd4.out) hd5.out⟩, ⟨by rw [HTK.out, List.all_append, hall.out]; simp [HNO.out.2 ⟨hx0, hy0⟩]⟩⟩
            case measure => simp [intOf]; omega
          · have hy1 : decide (y < 0) = false := decide_eq_false hy0
            go_wp2_with (first
              | (go_at_call 76; ((with_reducible refine (indexByte_calls _ 13 _).mono ?_); rintro e w4 ⟨rfl, hd4⟩; rw [HX.out]; replace hd4 := Aside0.mk hd4.below))
              | (go_at_call 76; ((with_reducible refine (indexByte_calls _ 10 _).mono ?_); rintro e w5 ⟨rfl, hd5⟩; rw [HY.out]; replace hd5 := Aside0.mk hd5.below))
              | (go_at_call 48; ((with_reducible refine (hmust_no _ _).mono ?_); rintro e w' ⟨rfl, rfl⟩)))
            exact ⟨rfl, lines_err (HBAD.out fun e => by have := (HNO.out.1 e).2; omega) (bt' hb3.out (bt' (bt' hbr.out hd4.out) hd5.out))⟩
        · have hx1 : decide (x < 0) = false := decide_eq_false hx0
          go_wp2_with (first
            | (go_at_call 76; ((with_reducible refine (indexByte_calls _ 13 _).mono ?_); rintro e w4 ⟨rfl, hd4⟩; rw [HX.out]; replace hd4 := Aside0.mk hd4.below))
            | (go_at_call 48; ((with_reducible refine (hmust_no _ _).mono ?_); rintro e w' ⟨rfl, rfl⟩)))
          exact ⟨rfl, lines_err (HBAD.out fun e => by have := (HNO.out.1 e).1; omega) (bt' hb3.out (bt' hbr.out hd4.out))⟩
      · have hlt' : decide ((j : Int) < (P.length : Int)) = false := decide_eq_false (by omega)
        have HOK : Aside0 (headS l = .ok (P, i + 4)) := ⟨by rw [HF.out, if_pos]; have := hall.out; rw [List.take_of_length_le (by omega)] at this; exact this⟩
        have hw : IntKind.i64.wrap ((i : Int) + 4) = (i : Int) + 4 := IntWalk.i64_in _ (by omega)
        have hi40 : (0 : Int) ≤ (i : Int) + 4 := by omega
        go_wp2
        go_quiet (fail)
        go_wp2
        go_ret2
        have hB := bt' hb3.out hbr.out
        have hD := (below_of_drawn (bt' hb3.out hbr.out) nq)
        refine lines_ok HOK.out rfl (by rw [HDR.out]) ⟨by have := hc3.out; rw [List.length_map] at this; exact this, hg3.out⟩ ?_ (by rw [HDR.out]; exact HCD.out) ?_ hD
        · have h := Kd.C_drewN (Kd.C_below hr3.out hbr.out) nq
          rw [List.length_map] at h
          exact h
        · rw [HDR.out]
          exact HRD.out
end Go.Proofs.YtibgcbngnfaaiaaDoor.H

namespace Go.Proofs.YtibgcbngnfaaiaaDoor.H
open Go.RowKit Go.Proofs.YtibgcbngnfaaiaaDoorW.PrintWords Go.Proofs.YtibgcbngnfaaiaaDoorW.PrintLast Go.Proofs.YtibgcbngnfaaiaaDoorW.PrintMore Go.Proofs.YtibgcbngnfaaiaaDoor.PA
set_option linter.unusedVariables false
set_option linter.unusedSimpArgs false

/-- Fields that are read. -/
def RdF (w : World) (A : Option Addr) (l : List S103) : Prop := Kd.C k103 w A l.length l
def RdS (w : World) (A : Option Addr) (l : List ByteArray) : Prop := Kd.C Kd.string w A l.length l
theorem RdF.below {w w1 : World} {A : Option Addr} {l : List S103} (h : RdF w A l) (hb : Below w.heap.size w w1) : RdF w1 A l := Kd.C_below h hb
theorem RdS.below {w w1 : World} {A : Option Addr} {l : List ByteArray} (h : RdS w A l) (hb : Below w.heap.size w w1) : RdS w1 A l := Kd.C_below h hb
theorem hsame_calls (a b : ByteArray) (w : World) (hs : a.size ≤ 4294967296) : Calls Tryd.prog 80 #[.string a, .string b] w fun e w' => e = .returned (.bool (sameS a b)) ∧ Drawn0 w w' := by
  obtain ⟨K, hK⟩ := same_f a b (by omega)
  exact head_Same.calls K a b _ w (hK K (Nat.le_refl _))
theorem htarget_calls (s : ByteArray) (w : World) (hs : s.size ≤ 4294967296) : Calls Tryd.prog 50 #[.string s] w fun e w' => e = .returned (.bool (targetL (toL s))) ∧ Drawn0 w w' := by
  obtain ⟨K, hK⟩ := target_f (toL s) (by rw [toL_length]; omega)
  have h := hK K (Nat.le_refl _)
  rw [ofL_toL] at h
  exact http_target.calls K s _ w h
theorem htoken_calls (s : ByteArray) (w : World) (hs : s.size ≤ 4294967296) : Calls Tryd.prog 49 #[.string s] w fun e w' => e = .returned (.bool (tokL (toL s))) ∧ Drawn0 w w' := by
  obtain ⟨K, hK⟩ := token_f (toL s) (by rw [toL_length]; omega)
  have h := hK K (Nat.le_refl _)
  rw [ofL_toL] at h
  exact head_Token.calls K s _ w h
theorem hall_calls (A : Option Addr) (c : Nat) (l : List S103) (name : ByteArray) (w : World) (hr : RdF w A l) (hc : l.length ≤ c) (hl : l.length ≤ 1000) (hs : ∀ f ∈ l, f.f0.size ≤ 100000000 ∧ f.f1.size ≤ 100000000) :
    Calls Tryd.prog 52 #[.slice A l.length c, .string name] w fun e w' => ∃ A1 c1, e = .returned (.slice A1 (allS l name).length c1) ∧ (allS l name).length ≤ c1 ∧ RdS w' A1 (allS l name) ∧ Below w.heap.size w w' := by
  obtain ⟨K, hK⟩ := all_f l name (by omega) (fun f hf => by have := (hs f hf).1; omega)
  refine (head_All.calls K A c l name _ w hr hc (hK K (Nat.le_refl _))).mono ?_
  rintro e w' ⟨v, rfl, hR, hb⟩
  obtain ⟨A1, c1, rfl, h1, h2⟩ := Kd.R_reads hR
  exact ⟨A1, c1, rfl, h1, h2, hb⟩
theorem hlist_calls (A : Option Addr) (c : Nat) (l : List S103) (name : ByteArray) (w : World) (hr : RdF w A l) (hc : l.length ≤ c) (hl : l.length ≤ 1000) (hs : ∀ f ∈ l, f.f0.size ≤ 100000000 ∧ f.f1.size ≤ 100000000) :
    Calls Tryd.prog 81 #[.slice A l.length c, .string name] w fun e w' => ∃ A1 c1, e = .returned (.slice A1 (listS l name).length c1) ∧ (listS l name).length ≤ c1 ∧ RdS w' A1 (listS l name) ∧ Below w.heap.size w w' := by
  obtain ⟨K, hK⟩ := list_f l name hl hs
  refine (head_List.calls K A c l name _ w hr hc (hK K (Nat.le_refl _))).mono ?_
  rintro e w' ⟨v, rfl, hR, hb⟩
  obtain ⟨A1, c1, rfl, h1, h2⟩ := Kd.R_reads hR
  exact ⟨A1, c1, rfl, h1, h2, hb⟩
theorem hparse_calls (A : Option Addr) (c : Nat) (L : List ByteArray) (w : World) (hr : RdS w A L) (hc : L.length ≤ c) (hs : ∀ s ∈ L, s.size ≤ 4611686018427387904) (fs : List S103) (x : Int) (h : parseS L = (fs, x)) :
    Calls Tryd.prog 78 #[.slice A L.length c] w fun e w' => ∃ A1 c1, e = .returned (.tuple #[.slice A1 fs.length c1, .int .i64 x]) ∧ fs.length ≤ c1 ∧ RdF w' A1 fs ∧ Below w.heap.size w w' := by
  obtain ⟨K, hK⟩ := parse_f L hs
  rw [h] at hK
  refine (head_Parse.calls K A c L fs x w hr hc (hK K (Nat.le_refl _))).mono ?_
  rintro e w' ⟨v, rfl, hR, hb⟩
  obtain ⟨A1, c1, rfl, h1, h2⟩ := Kd.R_reads hR
  exact ⟨A1, c1, rfl, h1, h2, hb⟩
/-- Fields in rows of one's own. -/
def OwnF (w : World) (base : Nat) (A : Option Addr) (c : Nat) (fs : List S103) : Prop := Kd.R k103 103 w base (fun k => base ≤ k) (.slice A fs.length c) fs
theorem OwnF.reads {w : World} {base c : Nat} {A : Option Addr} {fs : List S103} (h : OwnF w base A c fs) : fs.length ≤ c ∧ RdF w A fs := ⟨(Kd.R_reads' h).2.1, (Kd.R_reads' h).2.2⟩
theorem OwnF.below {w w1 : World} {base c : Nat} {A : Option Addr} {fs : List S103} (h : OwnF w base A c fs) (hb : Below w.heap.size w w1) : OwnF w1 base A c fs :=
  Kd.R_mono (Kd.R_step (Kd.R_bound h) (fun k ho _ => hb.block k ho.2.2.1)) (fun k h => h.1)
theorem OwnF.set {w : World} {base c : Nat} {A : Option Addr} {fs : List S103} (h : OwnF w base A c fs) {p : Addr} (hp : p.block < base) (v : Value) : OwnF (w.setCell p v) base A c fs :=
  Kd.R_far h (fun k hk => by omega) v
theorem fields_okR (A : Option Addr) (c : Nat) (L : List ByteArray) (w : World) (hr : RdS w A L) (hc : L.length ≤ c) (hs : ∀ s ∈ L, s.size ≤ 4611686018427387904) (fs : List S103) (h : parseS L = (fs, 0)) :
    Calls Tryd.prog 51 #[.slice A L.length c] w fun e w' => ∃ A1 c1, e = .returned (.slice A1 fs.length c1) ∧ OwnF w' w.heap.size A1 c1 fs ∧ Below w.heap.size w w' := by
  have HR := Aside0.mk hr
  have HP : Aside0 (Calls Tryd.prog 78 #[.slice A L.length c] w fun e w' => ∃ A1 c1, e = .returned (.tuple #[.slice A1 fs.length c1, .int .i64 0]) ∧ OwnF w' w.heap.size A1 c1 fs ∧ Below w.heap.size w w') := ⟨by
    obtain ⟨K, hK⟩ := parse_f L hs
    rw [h] at hK
    refine (head_Parse.calls K A c L fs 0 w hr hc (hK K (Nat.le_refl _))).mono ?_
    rintro e w' ⟨v, rfl, hR, hb⟩
    obtain ⟨A1, c1, rfl, h1, h2⟩ := Kd.R_reads hR
    exact ⟨A1, c1, rfl, Kd.R_mono (Kd.R_bound hR) (fun k h => h.2.1), hb⟩⟩
  clear hr hs h
  go_enter Tryd.func51, Tryd.ntmps51
  go_wp2_with (first
    | (go_at_call 78; ((with_reducible refine HP.out.mono ?_); rintro e w1 ⟨A1, c1, rfl, hr1, hb1⟩; replace hr1 := Aside0.mk hr1; replace hb1 := Aside0.mk hb1))
    | (go_at_call 79; ((with_reducible refine (stop_ok _).mono ?_); rintro e w' ⟨rfl, rfl⟩)))
  go_ret
  exact ⟨A1, c1, rfl, hr1.out, hb1.out⟩
theorem fields_no (A : Option Addr) (c : Nat) (L : List ByteArray) (w : World) (hr : RdS w A L) (hc : L.length ≤ c) (hs : ∀ s ∈ L, s.size ≤ 4611686018427387904) (fs : List S103) (x : Int) (hx : x ≠ 0) (h : parseS L = (fs, x)) :
    Calls Tryd.prog 51 #[.slice A L.length c] w fun e w' => e = .panicked (stopH x) ∧ Below w.heap.size w w' := by
  have HR := Aside0.mk hr
  have HS := Aside0.mk hs
  have HP := Aside0.mk h
  have HX := Aside0.mk hx
  clear hr hs h hx
  go_enter Tryd.func51, Tryd.ntmps51
  go_wp2_with (first
    | (go_at_call 78; ((with_reducible refine (hparse_calls A c L _ HR.out hc HS.out fs x HP.out).mono ?_); rintro e w1 ⟨A1, c1, rfl, hc1, hr1, hb1⟩; replace hc1 := Aside0.mk hc1; replace hr1 := Aside0.mk hr1; replace hb1 := Aside0.mk hb1))
    | (go_at_call 79; ((with_reducible refine (stop_no x HX.out _).mono ?_); rintro e w' ⟨rfl, rfl⟩)))
  exact ⟨rfl, rfl, hb1.out⟩
set_option maxHeartbeats 1000000 in
theorem reason_calls (s : ByteArray) (w : World) (hs : s.size ≤ 4294967296) : Calls Tryd.prog 86 #[.string s] w fun e w' => e = .returned (.bool ((toL s).all textB)) ∧ Drawn0 w w' := by
  obtain ⟨K, hK⟩ := value_x (toL s) (by rw [toL_length]; omega)
  have hk := hK K (Nat.le_refl _)
  have he : ofL (120 :: toL s ++ [120]) = (⟨#[120]⟩ : ByteArray) ++ s ++ (⟨#[120]⟩ : ByteArray) := by
    rw [← ofL_toL ((⟨#[120]⟩ : ByteArray) ++ s ++ (⟨#[120]⟩ : ByteArray))]
    refine congrArg ofL ?_
    simp [toL]
  rw [he] at hk
  have HK := Aside0.mk hk
  have hs1 : ((⟨#[120]⟩ : ByteArray) ++ s).size = 1 + s.size := by rw [ByteArray.size_append]; rfl
  clear hk he hK
  go_enter Tryd.func86, Tryd.ntmps86
  go_wp2_with (go_at_call 104; ((with_reducible refine (head_Value.calls K _ _ _ HK.out).mono ?_); rintro e w1 ⟨rfl, hd⟩))
  go_ret
  exact ⟨rfl, hd⟩
theorem bodiless_calls (n : Int) (m : ByteArray) (w : World) : Calls Tryd.prog 31 #[.int .i64 n, .string m] w fun e w' => e = .returned (.bool (toL m == [72, 69, 65, 68] || n == 204 || n == 304 || decide (n < 200))) ∧ Drawn0 w w' := by
  refine http_Bodiless.calls n m _ w ?_
  unfold http_Bodiless.f
  rw [toList_data]
  by_cases h1 : toL m = [72, 69, 65, 68]
  · rw [if_pos h1]; simp [h1]
  · rw [if_neg h1]
    by_cases h2 : n = 204
    · rw [if_pos h2]; simp [h2]
    · rw [if_neg h2]
      by_cases h3 : n = 304
      · rw [if_pos h3]; simp [h3]
      · rw [if_neg h3]; simp [h1, h2, h3]
end Go.Proofs.YtibgcbngnfaaiaaDoor.H

namespace Go.Proofs.YtibgcbngnfaaiaaDoor.H
open Go.RowKit Go.Proofs.YtibgcbngnfaaiaaDoorW.PrintWords Go.Proofs.YtibgcbngnfaaiaaDoorW.PrintLast Go.Proofs.YtibgcbngnfaaiaaDoorW.PrintMore Go.Proofs.YtibgcbngnfaaiaaDoor.PA
set_option linter.unusedVariables false
set_option linter.unusedSimpArgs false

abbrev teN : ByteArray := ⟨#[84, 114, 97, 110, 115, 102, 101, 114, 45, 69, 110, 99, 111, 100, 105, 110, 103]⟩
abbrev clN : ByteArray := ⟨#[67, 111, 110, 116, 101, 110, 116, 45, 76, 101, 110, 103, 116, 104]⟩
abbrev chN : ByteArray := ⟨#[99, 104, 117, 110, 107, 101, 100]⟩
/-- A body of so many bytes. -/
def plainB (n : Int) (rest : List UInt8) (told : Bool) : Except Int (List Int × Int × Bool) :=
  if 65536 < n then .error 93 else if (rest.length : Int) < n then .error 92 else .ok ((iL rest).take n.toNat, n, told)
/-- The length that parts tell. -/
def toldS : List ByteArray → Except Int Int
  | [] => .ok 0
  | t :: r => if r.all (fun s => toL s == toL t) = true then numF t else .error 94
def openU (rest : List UInt8) : Except Int (List Int × Int) := match openF okbS okfS (iL rest) with | (b, n, e) => if e = 0 then .ok (b, n) else .error e
/-- A body, by its fields' values. -/
def framedT (te cl told : List ByteArray) (rest : List UInt8) : Except Int (List Int × Int × Bool) :=
  match te with
  | [] => (match toldS told with | .error x => .error x | .ok n => plainB n rest (!cl.isEmpty))
  | [t] => if (sameS t chN && cl.isEmpty) = true then (match openU rest with | .error x => .error x | .ok (b, n) => .ok (b, n, true)) else .error 94
  | _ => .error 94
def framedS (fs : List S103) (rest : List UInt8) : Except Int (List Int × Int × Bool) := framedT (allS fs teN) (allS fs clN) (listS fs clN) rest
def FramedPost (fs : List S103) (rest : List UInt8) (w : World) (e : Ending) (w' : World) : Prop :=
  match framedS fs rest with
  | .ok (b, n, told) => ∃ A1 c1, e = .returned (.tuple #[.slice A1 b.length c1, .int .i64 n, .bool told]) ∧ OwnB w' w.heap.size A1 c1 b ∧ Below w.heap.size w w'
  | .error x => e = .panicked (stopH x) ∧ Below w.heap.size w w'
theorem framed_err {fs : List S103} {rest : List UInt8} {w w' : World} {x : Int} (h : framedS fs rest = .error x) (hb : Below w.heap.size w w') : FramedPost fs rest w (.panicked (stopH x)) w' := by unfold FramedPost; rw [h]; exact ⟨rfl, hb⟩
theorem framed_ok {fs : List S103} {rest : List UInt8} {b : List Int} {n : Int} {told : Bool} {w w' : World} {A1 : Option Addr} {c1 m : Nat} (h : framedS fs rest = .ok (b, n, told)) (hm : m = b.length) (h2 : OwnB w' w.heap.size A1 c1 b) (hb : Below w.heap.size w w') :
    FramedPost fs rest w (.returned (.tuple #[.slice A1 m c1, .int .i64 n, .bool told])) w' := by unfold FramedPost; rw [h]; subst hm; exact ⟨A1, c1, rfl, h2, hb⟩
theorem hall_calls' (A : Option Addr) (c : Nat) (l : List S103) (name : ByteArray) (w : World) (hr : RdF w A l) (hc : l.length ≤ c) (hs : l.length ≤ 1000 ∧ ∀ f ∈ l, f.f0.size ≤ 100000000 ∧ f.f1.size ≤ 100000000) (r : List ByteArray) (h : allS l name = r) :
    Calls Tryd.prog 52 #[.slice A l.length c, .string name] w fun e w' => ∃ A1 c1, e = .returned (.slice A1 r.length c1) ∧ r.length ≤ c1 ∧ RdS w' A1 r ∧ Below w.heap.size w w' := by
  subst h; exact hall_calls A c l name w hr hc hs.1 hs.2
theorem hlist_calls' (A : Option Addr) (c : Nat) (l : List S103) (name : ByteArray) (w : World) (hr : RdF w A l) (hc : l.length ≤ c) (hs : l.length ≤ 1000 ∧ ∀ f ∈ l, f.f0.size ≤ 100000000 ∧ f.f1.size ≤ 100000000) (r : List ByteArray) (h : listS l name = r) :
    Calls Tryd.prog 81 #[.slice A l.length c, .string name] w fun e w' => ∃ A1 c1, e = .returned (.slice A1 r.length c1) ∧ r.length ≤ c1 ∧ RdS w' A1 r ∧ Below w.heap.size w w' := by
  subst h; exact hlist_calls A c l name w hr hc hs.1 hs.2
theorem rds_cell {w : World} {A : Option Addr} {l : List ByteArray} (h : RdS w A l) (j : Nat) (hj : j < l.length) : ∃ ad, A = some ad ∧ w.cell? (ad.add j) = some (.string (l.getD j ByteArray.empty)) := by
  obtain ⟨ad, hA, hc⟩ := (Kd.reads_of_C (enc := Value.string) (d := ByteArray.empty) (h1 := fun _ => rfl) h).2.2 (by omega)
  exact ⟨ad, hA, hc j hj⟩
theorem allS_size {l : List S103} {name v : ByteArray} (hs : ∀ f ∈ l, f.f0.size ≤ 100000000 ∧ f.f1.size ≤ 100000000) (h : v ∈ allS l name) : v.size ≤ 100000000 := by
  unfold allS at h
  rw [List.mem_map] at h
  obtain ⟨f, hf, rfl⟩ := h
  exact (hs f (List.mem_filter.1 hf).1).2
theorem listS_size {l : List S103} {name p : ByteArray} (hs : ∀ f ∈ l, f.f0.size ≤ 100000000 ∧ f.f1.size ≤ 100000000) (h : p ∈ listS l name) : p.size ≤ 100000000 := by
  unfold listS at h
  rw [List.mem_flatten] at h
  obtain ⟨ps, h1, h2⟩ := h
  rw [List.mem_map] at h1
  obtain ⟨v, hv, rfl⟩ := h1
  rw [List.mem_map] at h2
  obtain ⟨q, hq, rfl⟩ := h2
  unfold partsS at hq
  have h3 := (List.mem_filter.1 hq).1
  rw [List.mem_map] at h3
  obtain ⟨r, hr, rfl⟩ := h3
  have h4 := cutG_pieces _ false [] (toL v) rfl r hr
  have h5 := allS_size hs hv
  have h6 := trimL_le r
  rw [ofL_size]
  rw [toL_length] at h4
  simp only [List.length_nil] at h4
  omega
theorem openH_calls (A : Option Addr) (c : Nat) (l : List UInt8) (w : World) (hr : ReadsInt w .u8 A l.length (iL l)) (hc : l.length ≤ c) (b : List Int) (n f : Int) (h : openF okbS okfS (iL l) = (b, n, f)) :
    Calls Tryd.prog 15 #[.slice A l.length c] w fun e w' => ∃ A1 c1, e = .returned (.tuple #[.slice A1 b.length c1, .int .i64 n, .int .i64 f]) ∧ OwnB w' w.heap.size A1 c1 b ∧ Below w.heap.size w w' := by
  have h0 := open_calls A c (iL l) w (by rw [iL_length]; exact hr) (by rw [iL_length]; exact hc)
  rw [iL_length] at h0
  refine h0.mono ?_
  rw [h]
  rintro e w' ⟨v, rfl, ho, hb⟩
  obtain ⟨A1, c1, rfl, h1⟩ := ownB_of ho
  exact ⟨A1, c1, rfl, h1, hb⟩
theorem numL_nonneg : ∀ (l : List UInt8) (m n : Int), numL l m = .ok n → 0 ≤ m → 0 ≤ n
  | [], m, n, h, h0 => by rw [numL] at h; cases h; exact h0
  | c :: r, m, n, h, h0 => by
    rw [numL] at h
    split at h
    · exact numL_nonneg r _ n h (by omega)
    · cases h
theorem numF_nonneg (s : ByteArray) (n : Int) (h : numF s = .ok n) : 0 ≤ n := by
  unfold numF at h
  split at h
  · cases h
  · exact numL_nonneg _ 0 n h (by omega)
theorem number_ok (s : ByteArray) (w : World) (hs : s.size ≤ 100000000) (n : Int) (h : numF s = .ok n) : Calls Tryd.prog 82 #[.string s] w fun e w' => e = .returned (.int .i64 n) ∧ w = w' := by
  refine (number_calls s w (by omega)).mono fun e w' hq => ?_
  unfold NumPost at hq; rw [h] at hq; exact hq
theorem number_no (s : ByteArray) (w : World) (hs : s.size ≤ 100000000) (x : Int) (h : numF s = .error x) : Calls Tryd.prog 82 #[.string s] w fun e w' => e = .panicked (stopH x) ∧ w = w' := by
  refine (number_calls s w (by omega)).mono fun e w' hq => ?_
  unfold NumPost at hq; rw [h] at hq; exact hq
theorem cloneH_calls (A : Option Addr) (c : Nat) (l : List UInt8) (w : World) (hr : ReadsInt w .u8 A l.length (iL l)) (hc : l.length ≤ c) (hl : l.length ≤ 1000000000) :
    Calls Tryd.prog 60 #[.slice A l.length c] w fun e w' => ∃ A1 c1, e = .returned (.slice A1 l.length c1) ∧ OwnB w' w.heap.size A1 c1 (iL l) ∧ Below w.heap.size w w' := by
  have h := clone_calls A c (iL l) w (by rw [iL_length]; exact hr) (by rw [iL_length]; exact hc) (by rw [iL_length]; exact hl)
  rw [iL_length] at h
  exact h
set_option maxHeartbeats 4000000 in
set_option maxRecDepth 100000 in
theorem framed_calls (A : Option Addr) (c : Nat) (fs : List S103) (A2 : Option Addr) (c2 : Nat) (rest : List UInt8) (w : World) (hr : RdF w A fs) (hc : fs.length ≤ c) (hr2 : ReadsInt w .u8 A2 rest.length (iL rest)) (hc2 : rest.length ≤ c2) (hl : rest.length ≤ 1000000000)
    (hs : fs.length ≤ 1000 ∧ ∀ f ∈ fs, f.f0.size ≤ 100000000 ∧ f.f1.size ≤ 100000000) :
    Calls Tryd.prog 53 #[.slice A fs.length c, .slice A2 rest.length c2] w (FramedPost fs rest w) := by
  have HR := Aside0.mk hr
  have HC := Aside0.mk hc
  have HR2 := Aside0.mk hr2
  have HC2 := Aside0.mk hc2
  have HS := Aside0.mk hs
  obtain ⟨te, hte⟩ : ∃ te, allS fs teN = te := ⟨_, rfl⟩
  obtain ⟨cl, hcl⟩ : ∃ cl, allS fs clN = cl := ⟨_, rfl⟩
  obtain ⟨told, htold⟩ : ∃ told, listS fs clN = told := ⟨_, rfl⟩
  have HF : Aside0 (framedS fs rest = framedT te cl told rest) := ⟨by unfold framedS; rw [hte, hcl, htold]⟩
  have htes : ∀ v ∈ te, v.size ≤ 100000000 := fun v hv => allS_size hs.2 (by rw [hte]; exact hv)
  have htel : te.length ≤ 1000 := by rw [← hte]; exact Nat.le_trans (allS_le fs teN) hs.1
  have hcll : cl.length ≤ 1000 := by rw [← hcl]; exact Nat.le_trans (allS_le fs clN) hs.1
  have HTE := Aside0.mk hte
  have HCL := Aside0.mk hcl
  have HTES := Aside0.mk htes
  have HTOLD := Aside0.mk htold
  have HTDS : Aside0 (∀ v ∈ told, v.size ≤ 100000000) := ⟨fun v hv => listS_size hs.2 (by rw [htold]; exact hv)⟩
  clear hr hc hr2 hc2 hs hte hcl htes htold
  by_cases h0 : 0 < te.length
  · have h0' : decide ((0 : Int) < (te.length : Int)) = true := decide_eq_true (by omega)
    have h0n : decide (0 < te.length) = true := decide_eq_true h0
    by_cases h1 : te.length = 1
    · have h1' : ((te.length : Int) == 1) = true := beq_iff_eq.2 (by omega)
      obtain ⟨t, ht⟩ := List.length_eq_one_iff.1 h1
      have HT0 : Aside0 (∀ (W : World) (A : Option Addr), RdS W A te → ∃ ad, A = some ad ∧ W.cell? ad = some (.string t)) := ⟨fun W A h => by
        obtain ⟨ad, h1, h2⟩ := rds_cell h 0 (by omega)
        rw [ht] at h2
        rw [show ad.add 0 = ad from by unfold Addr.add; simp] at h2
        exact ⟨ad, h1, h2⟩⟩
      have HTS : Aside0 (t.size ≤ 4294967296) := ⟨by have := HTES.out t (by rw [ht]; simp); omega⟩
      have HF2 : Aside0 (framedS fs rest = if (sameS t chN && cl.isEmpty) = true then (match openU rest with | .error x => .error x | .ok (b, n) => .ok (b, n, true)) else .error 94) := ⟨by rw [HF.out, ht]; rfl⟩
      clear ht h1 HF
      cases hsm : sameS t chN with
      | false =>
        have HSM := Aside0.mk hsm
        have HF3 : Aside0 (framedS fs rest = .error 94) := ⟨by rw [HF2.out, hsm]; rfl⟩
        clear hsm
        go_enter Tryd.func53, Tryd.ntmps53
        go_wp2_with (first
          | (go_at_call 52; ((with_reducible refine (hall_calls' A c fs teN _ HR.out HC.out HS.out te HTE.out).mono ?_); rintro e w1 ⟨A1, c1, rfl, hc1, hr1, hb1⟩; replace hc1 := Aside0.mk hc1; replace hr1 := Aside0.mk hr1; replace hb1 := Aside0.mk hb1))
          | (go_at_call 52; ((with_reducible refine (hall_calls' A c fs clN _ (HR.out.below hb1.out) HC.out HS.out cl HCL.out).mono ?_); rintro e w2 ⟨A3, c3, rfl, hc3, hr3, hb3⟩; obtain ⟨ad1, rfl, hcell1⟩ := HT0.out _ _ (RdS.below hr1.out hb3); replace hb3 := Aside0.mk (bt' hb1.out hb3)))
          | (go_at_call 80; ((with_reducible refine (hsame_calls t chN _ HTS.out).mono ?_); rintro e w4 ⟨rfl, hd4⟩; rw [HSM.out]; replace hd4 := Aside0.mk (bt' hb3.out hd4.below)))
          | (go_at_call 48; ((with_reducible refine (hmust_no _ _).mono ?_); rintro e w' ⟨rfl, rfl⟩)))
        exact ⟨rfl, framed_err HF3.out hd4.out⟩
      | true =>
        have HSM := Aside0.mk hsm
        by_cases hce : cl.length = 0
        · obtain rfl := List.eq_nil_of_length_eq_zero hce
          have hce' : ((([] : List ByteArray).length : Int) == 0) = true := rfl
          have HF3 : Aside0 (framedS fs rest = match openU rest with | .error x => .error x | .ok (b, n) => .ok (b, n, true)) := ⟨by rw [HF2.out, hsm]; rfl⟩
          obtain ⟨b, n, x, hop⟩ : ∃ b n x, openF okbS okfS (iL rest) = (b, n, x) := ⟨_, _, _, rfl⟩
          have hou : openU rest = if x = 0 then .ok (b, n) else .error x := by unfold openU; rw [hop]
          rw [hou] at HF3
          have HOP := Aside0.mk hop
          clear hsm hou hop
          by_cases hx : x = 0
          · subst hx
            have HF4 : Aside0 (framedS fs rest = .ok (b, n, true)) := ⟨by rw [HF3.out]; rfl⟩
            go_enter Tryd.func53, Tryd.ntmps53
            go_wp2_with (first
              | (go_at_call 52; ((with_reducible refine (hall_calls' A c fs teN _ HR.out HC.out HS.out te HTE.out).mono ?_); rintro e w1 ⟨A1, c1, rfl, hc1, hr1, hb1⟩; replace hc1 := Aside0.mk hc1; replace hr1 := Aside0.mk hr1; replace hb1 := Aside0.mk hb1))
              | (go_at_call 52; ((with_reducible refine (hall_calls' A c fs clN _ (HR.out.below hb1.out) HC.out HS.out [] HCL.out).mono ?_); rintro e w2 ⟨A3, c3, rfl, hc3, hr3, hb3⟩; obtain ⟨ad1, rfl, hcell1⟩ := HT0.out _ _ (RdS.below hr1.out hb3); replace hb3 := Aside0.mk (bt' hb1.out hb3)))
              | (go_at_call 80; ((with_reducible refine (hsame_calls t chN _ HTS.out).mono ?_); rintro e w4 ⟨rfl, hd4⟩; rw [HSM.out]; replace hd4 := Aside0.mk (bt' hb3.out hd4.below)))
              | (go_at_call 48; ((with_reducible refine (hmust_ok _ _).mono ?_); rintro e w' ⟨rfl, rfl⟩))
              | (go_at_call 15; ((with_reducible refine (openH_calls A2 c2 rest _ (HR2.out.below hd4.out) HC2.out b n _ HOP.out).mono ?_); rintro e w5 ⟨A5, c5, rfl, ho5, hb5⟩; replace ho5 := Aside0.mk (ho5.lower hd4.out.size); replace hb5 := Aside0.mk (bt' hd4.out hb5)))
              | (go_at_call 79; ((with_reducible refine (stop_ok _).mono ?_); rintro e w' ⟨rfl, rfl⟩)))
            go_ret3
            exact framed_ok HF4.out rfl ho5.out hb5.out
          · have HF4 : Aside0 (framedS fs rest = .error x) := ⟨by rw [HF3.out, if_neg hx]⟩
            have HX := Aside0.mk hx
            clear hx
            go_enter Tryd.func53, Tryd.ntmps53
            go_wp2_with (first
              | (go_at_call 52; ((with_reducible refine (hall_calls' A c fs teN _ HR.out HC.out HS.out te HTE.out).mono ?_); rintro e w1 ⟨A1, c1, rfl, hc1, hr1, hb1⟩; replace hc1 := Aside0.mk hc1; replace hr1 := Aside0.mk hr1; replace hb1 := Aside0.mk hb1))
              | (go_at_call 52; ((with_reducible refine (hall_calls' A c fs clN _ (HR.out.below hb1.out) HC.out HS.out [] HCL.out).mono ?_); rintro e w2 ⟨A3, c3, rfl, hc3, hr3, hb3⟩; obtain ⟨ad1, rfl, hcell1⟩ := HT0.out _ _ (RdS.below hr1.out hb3); replace hb3 := Aside0.mk (bt' hb1.out hb3)))
              | (go_at_call 80; ((with_reducible refine (hsame_calls t chN _ HTS.out).mono ?_); rintro e w4 ⟨rfl, hd4⟩; rw [HSM.out]; replace hd4 := Aside0.mk (bt' hb3.out hd4.below)))
              | (go_at_call 48; ((with_reducible refine (hmust_ok _ _).mono ?_); rintro e w' ⟨rfl, rfl⟩))
              | (go_at_call 15; ((with_reducible refine (openH_calls A2 c2 rest _ (HR2.out.below hd4.out) HC2.out b n _ HOP.out).mono ?_); rintro e w5 ⟨A5, c5, rfl, ho5, hb5⟩; replace ho5 := Aside0.mk (ho5.lower hd4.out.size); replace hb5 := Aside0.mk (bt' hd4.out hb5)))
              | (go_at_call 79; ((with_reducible refine (stop_no x HX.out _).mono ?_); rintro e w' ⟨rfl, rfl⟩)))
            exact ⟨rfl, framed_err HF4.out hb5.out⟩
        · have hce' : ((cl.length : Int) == 0) = false := beq_eq_false_iff_ne.2 (by omega)
          have HF3 : Aside0 (framedS fs rest = .error 94) := ⟨by
            rw [HF2.out, if_neg]
            rw [Bool.and_eq_true, List.isEmpty_iff]
            intro e; exact hce (by rw [e.2]; rfl)⟩
          clear hsm hce
          go_enter Tryd.func53, Tryd.ntmps53
          go_wp2_with (first
            | (go_at_call 52; ((with_reducible refine (hall_calls' A c fs teN _ HR.out HC.out HS.out te HTE.out).mono ?_); rintro e w1 ⟨A1, c1, rfl, hc1, hr1, hb1⟩; replace hc1 := Aside0.mk hc1; replace hr1 := Aside0.mk hr1; replace hb1 := Aside0.mk hb1))
            | (go_at_call 52; ((with_reducible refine (hall_calls' A c fs clN _ (HR.out.below hb1.out) HC.out HS.out cl HCL.out).mono ?_); rintro e w2 ⟨A3, c3, rfl, hc3, hr3, hb3⟩; obtain ⟨ad1, rfl, hcell1⟩ := HT0.out _ _ (RdS.below hr1.out hb3); replace hb3 := Aside0.mk (bt' hb1.out hb3)))
            | (go_at_call 80; ((with_reducible refine (hsame_calls t chN _ HTS.out).mono ?_); rintro e w4 ⟨rfl, hd4⟩; rw [HSM.out]; replace hd4 := Aside0.mk (bt' hb3.out hd4.below)))
            | (go_at_call 48; ((with_reducible refine (hmust_no _ _).mono ?_); rintro e w' ⟨rfl, rfl⟩)))
          exact ⟨rfl, framed_err HF3.out hd4.out⟩
    · have h1' : ((te.length : Int) == 1) = false := beq_eq_false_iff_ne.2 (by omega)
      have HF3 : Aside0 (framedS fs rest = .error 94) := ⟨by
        rw [HF.out]
        match te, h0, h1 with
        | [], h0, _ => simp at h0
        | [_], _, h1 => exact (h1 rfl).elim
        | _ :: _ :: _, _, _ => rfl⟩
      clear h1 h0
      go_enter Tryd.func53, Tryd.ntmps53
      go_wp2_with (first
        | (go_at_call 52; ((with_reducible refine (hall_calls' A c fs teN _ HR.out HC.out HS.out te HTE.out).mono ?_); rintro e w1 ⟨A1, c1, rfl, hc1, hr1, hb1⟩; replace hc1 := Aside0.mk hc1; replace hr1 := Aside0.mk hr1; replace hb1 := Aside0.mk hb1))
        | (go_at_call 52; ((with_reducible refine (hall_calls' A c fs clN _ (HR.out.below hb1.out) HC.out HS.out cl HCL.out).mono ?_); rintro e w2 ⟨A3, c3, rfl, hc3, hr3, hb3⟩; replace hb3 := Aside0.mk (bt' hb1.out hb3)))
        | (go_at_call 48; ((with_reducible refine (hmust_no _ _).mono ?_); rintro e w' ⟨rfl, rfl⟩)))
      exact ⟨rfl, framed_err HF3.out hb3.out⟩
  · have hz : te.length = 0 := by omega
    obtain rfl := List.eq_nil_of_length_eq_zero hz
    clear hz h0
    have HF2 : Aside0 (framedS fs rest = match toldS told with | .error x => .error x | .ok n => plainB n rest (!cl.isEmpty)) := ⟨by rw [HF.out]; rfl⟩
    clear HF
    obtain ⟨tb, htb⟩ : ∃ tb, (!cl.isEmpty) = tb := ⟨_, rfl⟩
    rw [htb] at HF2
    have hq2 : decide (0 < cl.length) = tb := by rw [← htb]; cases cl <;> simp
    have hq1 : decide ((0 : Int) < (cl.length : Int)) = tb := by rw [← htb]; cases cl <;> simp
    clear htb
    by_cases ht0 : told.length = 0
    · obtain rfl := List.eq_nil_of_length_eq_zero ht0
      obtain ⟨tk, htk⟩ : ∃ tk, rest.take 0 = tk := ⟨_, rfl⟩
      obtain ⟨hrun, hct, hrt⟩ := cutT A2 c2 rest HC2.out 0 0 rfl (by omega) tk htk
      have HTK := Aside0.mk (And.intro hct hrt)
      have HTKL : Aside0 (tk.length ≤ 1000000000) := ⟨by rw [← htk, List.length_take]; omega⟩
      have HF3 : Aside0 (framedS fs rest = .ok (iL tk, 0, tb)) := ⟨by
        rw [HF2.out]
        show plainB 0 rest tb = _
        unfold plainB
        rw [if_neg (by omega), if_neg (by omega), ← htk, ← iL_take]; rfl⟩
      have hle : decide ((0 : Int) ≤ (rest.length : Int)) = true := decide_eq_true (by omega)
      clear ht0 hct hrt htk
      go_enter Tryd.func53, Tryd.ntmps53
      go_wp2_with (first
        | (go_at_call 52; ((with_reducible refine (hall_calls' A c fs teN _ HR.out HC.out HS.out _ HTE.out).mono ?_); rintro e w1 ⟨A1, c1, rfl, hc1, hr1, hb1⟩; replace hc1 := Aside0.mk hc1; replace hr1 := Aside0.mk hr1; replace hb1 := Aside0.mk hb1))
        | (go_at_call 52; ((with_reducible refine (hall_calls' A c fs clN _ (HR.out.below hb1.out) HC.out HS.out cl HCL.out).mono ?_); rintro e w2 ⟨A3, c3, rfl, hc3, hr3, hb3⟩; replace hb3 := Aside0.mk (bt' hb1.out hb3); replace hr3 := Aside0.mk hr3; replace hc3 := Aside0.mk hc3))
        | (go_at_call 81; ((with_reducible refine (hlist_calls' A c fs clN _ (HR.out.below hb3.out) HC.out HS.out _ HTOLD.out).mono ?_); rintro e w4 ⟨A4, c4, rfl, hc4, hr4, hb4⟩; replace hb4 := Aside0.mk (bt' hb3.out hb4); replace hr4 := Aside0.mk hr4; replace hc4 := Aside0.mk hc4))
        | (go_at_call 48; ((with_reducible refine (hmust_ok _ _).mono ?_); rintro e w' ⟨rfl, rfl⟩))
        | (go_at_call 60; ((with_reducible refine (cloneH_calls A2 c2 tk _ (HTK.out.2 _ (HR2.out.below hb4.out)) HTK.out.1 HTKL.out).mono ?_); rintro e w5 ⟨A5, c5, rfl, ho5, hb5⟩; replace ho5 := Aside0.mk (ho5.lower hb4.out.size); replace hb5 := Aside0.mk (bt' hb4.out hb5))))
      go_ret3
      exact framed_ok HF3.out (by rw [iL_length]) ho5.out hb5.out
    · obtain ⟨t0, r0, rfl⟩ : ∃ t0 r0, told = t0 :: r0 := by
        cases told with
        | nil => exact (ht0 rfl).elim
        | cons t0 r0 => exact ⟨t0, r0, rfl⟩
      obtain ⟨td, htd⟩ : ∃ td, t0 :: r0 = td := ⟨_, rfl⟩
      have HTS2 : Aside0 (toldS td = if r0.all (fun s => toL s == toL t0) = true then numF t0 else .error 94) := ⟨by rw [← htd]; rfl⟩
      have HTD := Aside0.mk htd
      have htdl : td.length ≤ 1000000000000 := by
        rw [htd] at HTOLD
        have h1 := HTOLD.out
        have h2 := partsV_le (allS fs clN) 100000000 (fun v hv => allS_size HS.out.2 hv)
        have h3 : partsV (allS fs clN) = listS fs clN := rfl
        rw [h3, h1] at h2
        have h4 := allS_le fs clN
        have h5 := HS.out.1
        have h6 : (allS fs clN).length * (100000000 + 1) ≤ 1000 * (100000000 + 1) := Nat.mul_le_mul_right _ (by omega)
        omega
      have htd0 : 0 < td.length := by rw [← htd]; exact Nat.succ_pos _
      have htd1 : decide ((0 : Int) < (td.length : Int)) = true := decide_eq_true (by omega)
      have htd2 : decide (0 < td.length) = true := decide_eq_true htd0
      have HT0S : Aside0 (t0.size ≤ 100000000) := ⟨HTDS.out t0 (by simp)⟩
      rw [htd] at HF2 HTOLD
      clear ht0 htd HTDS
      go_enter Tryd.func53, Tryd.ntmps53
      go_wp2_with (first
        | (go_at_call 52; ((with_reducible refine (hall_calls' A c fs teN _ HR.out HC.out HS.out _ HTE.out).mono ?_); rintro e w1 ⟨A1, c1, rfl, hc1, hr1, hb1⟩; replace hc1 := Aside0.mk hc1; replace hr1 := Aside0.mk hr1; replace hb1 := Aside0.mk hb1))
        | (go_at_call 52; ((with_reducible refine (hall_calls' A c fs clN _ (HR.out.below hb1.out) HC.out HS.out cl HCL.out).mono ?_); rintro e w2 ⟨A3, c3, rfl, hc3, hr3, hb3⟩; replace hb3 := Aside0.mk (bt' hb1.out hb3); replace hr3 := Aside0.mk hr3; replace hc3 := Aside0.mk hc3))
        | (go_at_call 81; ((with_reducible refine (hlist_calls' A c fs clN _ (HR.out.below hb3.out) HC.out HS.out _ HTOLD.out).mono ?_); rintro e w4 ⟨A4, c4, rfl, hc4, hr4, hb4⟩; replace hb4 := Aside0.mk (bt' hb3.out hb4); replace hr4 := Aside0.mk hr4; replace hc4 := Aside0.mk hc4)))
      obtain ⟨ad, rfl, hcell0⟩ : ∃ ad, A4 = some ad ∧ w4.cell? ad = some (.string t0) := by
        obtain ⟨ad, h1, h2⟩ := rds_cell hr4.out 0 htd0
        rw [show ad.add 0 = ad from by unfold Addr.add; simp, ← HTD.out] at h2
        exact ⟨ad, h1, h2⟩
      go_loop [55] (fun v55 => ∃ j : Nat, j ≤ td.length ∧ v55 = .int .i64 j ∧ Aside0 (∀ i, i < j → td.getD i ByteArray.empty = t0)) (fun v55 => td.length - (intOf v55).toNat)
      case atStart => exact ⟨0, Nat.zero_le _, rfl, ⟨fun i hi => by omega⟩⟩
      case round =>
        obtain ⟨j, hj, rfl, hall⟩ := hrel
        by_cases hlt : j < td.length
        · have hlt' : decide ((j : Int) < (td.length : Int)) = true := decide_eq_true (by omega)
          obtain ⟨ad', hA', hcellj⟩ := rds_cell hr4.out j hlt
          injection hA' with hA'
          subst hA'
          by_cases heq : td.getD j ByteArray.empty = t0
          · rw [heq] at hcellj
            have HEQ := Aside0.mk heq
            clear heq
            go_wp2_with (first
              | (go_at_call 48; ((with_reducible refine (hmust_ok _ _).mono ?_); rintro e w' ⟨rfl, rfl⟩)))
            go_round
            case rel => exact ⟨j + 1, by omega, by go_num, ⟨fun i hi => by rcases Nat.lt_succ_iff_lt_or_eq.1 hi with h | h; exact hall.out i h; rw [h]; exact HEQ.out⟩⟩
            case measure => simp [intOf]; omega
          · obtain ⟨s, hs⟩ : ∃ s, td.getD j ByteArray.empty = s := ⟨_, rfl⟩
            have HBAD : Aside0 (framedS fs rest = .error 94) := ⟨by
              rw [HF2.out, HTS2.out, if_neg]
              intro h
              have h1 : ∀ x ∈ td, x = t0 := by
                rw [← HTD.out]
                intro x hx
                rcases List.mem_cons.1 hx with h2 | h2
                · exact h2
                · rw [← ofL_toL x, ← ofL_toL t0, beq_iff_eq.1 (List.all_eq_true.1 h x h2)]
              apply heq
              rw [List.getD_eq_getElem?_getD, List.getElem?_eq_getElem hlt]
              exact h1 _ (List.getElem_mem hlt)⟩
            rw [hs] at hcellj heq
            have e2 : decide (s = t0) = false := decide_eq_false heq
            have e3 : (s.toList == t0.toList) = false := beq_eq_false_iff_ne.2 (by
              rw [toList_data, toList_data]
              intro h; apply heq; rw [← ofL_toL s, ← ofL_toL t0, h])
            clear hs
            go_wp2_with (first
              | (go_at_call 48; ((with_reducible refine (hmust_no _ _).mono ?_); rintro e w' ⟨rfl, rfl⟩)))
            exact ⟨rfl, framed_err HBAD.out hb4.out⟩
        · have hlt' : decide ((j : Int) < (td.length : Int)) = false := decide_eq_false (by omega)
          have HT2 : Aside0 (framedS fs rest = match numF t0 with | .error x => .error x | .ok n => plainB n rest tb) := ⟨by
            rw [HF2.out, HTS2.out, if_pos]
            rw [List.all_eq_true]
            intro x hx
            obtain ⟨k, hk, hkx⟩ := List.getElem_of_mem hx
            have h1 := hall.out (k + 1) (by rw [← HTD.out, List.length_cons] at hlt; omega)
            rw [← HTD.out, List.getD_eq_getElem?_getD, List.getElem?_cons_succ, List.getElem?_eq_getElem hk] at h1
            rw [beq_iff_eq, ← hkx]
            exact congrArg toL h1⟩
          cases hnum : numF t0 with
          | error x =>
            have HNUM := Aside0.mk hnum
            have HF3 : Aside0 (framedS fs rest = .error x) := ⟨by rw [HT2.out, hnum]⟩
            clear hnum
            go_wp2_with (first
              | (go_at_call 82; ((with_reducible refine (number_no t0 _ HT0S.out x HNUM.out).mono ?_); rintro e w' ⟨rfl, rfl⟩)))
            exact ⟨rfl, framed_err HF3.out hb4.out⟩
          | ok n =>
            have HNUM := Aside0.mk hnum
            have hn0 := numF_nonneg t0 n hnum
            have HF3 : Aside0 (framedS fs rest = plainB n rest tb) := ⟨by rw [HT2.out, hnum]⟩
            clear hnum
            by_cases hgr : 65536 < n
            · have hgr' : decide (n ≤ 65536) = false := decide_eq_false (by omega)
              have HF4 : Aside0 (framedS fs rest = .error 93) := ⟨by rw [HF3.out]; unfold plainB; rw [if_pos hgr]⟩
              go_wp2_with (first
                | (go_at_call 82; ((with_reducible refine (number_ok t0 _ HT0S.out _ HNUM.out).mono ?_); rintro e w' ⟨rfl, rfl⟩))
                | (go_at_call 48; ((with_reducible refine (hmust_no _ _).mono ?_); rintro e w' ⟨rfl, rfl⟩)))
              exact ⟨rfl, framed_err HF4.out hb4.out⟩
            · have hgr' : decide (n ≤ 65536) = true := decide_eq_true (by omega)
              by_cases hsh : (rest.length : Int) < n
              · have hsh' : decide (n ≤ (rest.length : Int)) = false := decide_eq_false (by omega)
                have HF4 : Aside0 (framedS fs rest = .error 92) := ⟨by rw [HF3.out]; unfold plainB; rw [if_neg hgr, if_pos hsh]⟩
                go_wp2_with (first
                  | (go_at_call 82; ((with_reducible refine (number_ok t0 _ HT0S.out _ HNUM.out).mono ?_); rintro e w' ⟨rfl, rfl⟩))
                  | (go_at_call 48; ((with_reducible refine (hmust_ok _ _).mono ?_); rintro e w' ⟨rfl, rfl⟩))
                  | (go_at_call 48; ((with_reducible refine (hmust_no _ _).mono ?_); rintro e w' ⟨rfl, rfl⟩)))
                exact ⟨rfl, framed_err HF4.out hb4.out⟩
              · have hsh' : decide (n ≤ (rest.length : Int)) = true := decide_eq_true (by omega)
                obtain ⟨m, rfl⟩ := Int.eq_ofNat_of_zero_le hn0
                obtain ⟨tk, htk⟩ : ∃ tk, rest.take m = tk := ⟨_, rfl⟩
                obtain ⟨hrun, hct, hrt⟩ := cutT A2 c2 rest HC2.out (m : Int) m rfl (by omega) tk htk
                have HTK := Aside0.mk (And.intro hct hrt)
                have HTKL : Aside0 (tk.length ≤ 1000000000) := ⟨by rw [← htk, List.length_take]; omega⟩
                have HF4 : Aside0 (framedS fs rest = .ok (iL tk, (m : Int), tb)) := ⟨by
                  rw [HF3.out]; unfold plainB; rw [if_neg hgr, if_neg hsh, Int.toNat_natCast, iL_take, htk]⟩
                clear hct hrt htk
                go_wp2_with (first
                  | (go_at_call 82; ((with_reducible refine (number_ok t0 _ HT0S.out _ HNUM.out).mono ?_); rintro e w' ⟨rfl, rfl⟩))
                  | (go_at_call 48; ((with_reducible refine (hmust_ok _ _).mono ?_); rintro e w' ⟨rfl, rfl⟩))
                  | (go_at_call 60; ((with_reducible refine (cloneH_calls A2 c2 tk _ (HTK.out.2 _ (HR2.out.below hb4.out)) HTK.out.1 HTKL.out).mono ?_); rintro e w5 ⟨A5, c5, rfl, ho5, hb5⟩; replace ho5 := Aside0.mk (ho5.lower hb4.out.size); replace hb5 := Aside0.mk (bt' hb4.out hb5))))
                go_ret3
                exact framed_ok HF4.out (by rw [iL_length]) ho5.out hb5.out
end Go.Proofs.YtibgcbngnfaaiaaDoor.H

namespace Go.Proofs.YtibgcbngnfaaiaaDoor.H
open Go.RowKit Go.Proofs.YtibgcbngnfaaiaaDoorW.PrintWords Go.Proofs.YtibgcbngnfaaiaaDoorW.PrintLast Go.Proofs.YtibgcbngnfaaiaaDoorW.PrintMore Go.Proofs.YtibgcbngnfaaiaaDoor.PA
set_option linter.unusedVariables false
set_option linter.unusedSimpArgs false

def verL : List UInt8 := [72, 84, 84, 80, 47, 49, 46, 49, 32]
def tailS (n : Int) : List UInt8 → Except Int (Int × List UInt8)
  | [] => .ok (n, [])
  | c :: r => if (c.toNat == 32 && r.all textB) = true then .ok (n, r) else .error 95
/-- A response's first line. -/
def statusS (l : List UInt8) : Except Int (Int × List UInt8) :=
  if (verL.isPrefixOf l && decide (12 ≤ l.length)) = true then
    (match numL ((l.drop 9).take 3) 0 with
    | .error _ => .error 95
    | .ok n => if 200 ≤ n ∧ n ≤ 599 then tailS n (l.drop 12) else .error 95)
  else .error 95
def StatusPost (l : List UInt8) (w : World) (e : Ending) (w' : World) : Prop :=
  match statusS l with
  | .ok (n, r) => e = .returned (.tuple #[.int .i64 n, .string (ofL r)]) ∧ Drawn0 w w'
  | .error x => e = .panicked (stopH x) ∧ Drawn0 w w'
theorem status_err {l : List UInt8} {w w' : World} {x : Int} (h : statusS l = .error x) (hd : Drawn0 w w') : StatusPost l w (.panicked (stopH x)) w' := by unfold StatusPost; rw [h]; exact ⟨rfl, hd⟩
theorem status_ok {l r : List UInt8} {n : Int} {w w' : World} {s : ByteArray} (h : statusS l = .ok (n, r)) (hs : s = ofL r) (hd : Drawn0 w w') : StatusPost l w (.returned (.tuple #[.int .i64 n, .string s])) w' := by unfold StatusPost; rw [h, hs]; exact ⟨rfl, hd⟩
theorem cutver_calls (l : List UInt8) (w : World) (b : Bool) (h : verL.isPrefixOf l = b) :
    Calls Tryd.prog 85 #[.string (ofL l), .string ⟨#[72, 84, 84, 80, 47, 49, 46, 49, 32]⟩] w fun e w' => e = .returned (.tuple #[.string (ofL (if b then l.drop 9 else l)), .bool b]) ∧ w = w' := by
  refine (Tryd.strings_CutPrefix (ofL l) _ w).mono ?_
  rintro e w' ⟨rfl, rfl⟩
  rw [show (ofL l).data.toList = l from toL_ofL l, show (⟨#[72, 84, 84, 80, 47, 49, 46, 49, 32]⟩ : ByteArray).data.toList = verL from rfl]
  unfold Lib.trimPrefix Lib.hasPrefix
  rw [h]
  cases b
  · exact ⟨rfl, rfl⟩
  · exact ⟨rfl, rfl⟩
theorem ofL_byte (l : List UInt8) (k : Nat) (h : k < l.length) : ∀ h' : k < (ofL l).size, (((ofL l)[k]'h').toNat : Int) = ((l[k]'h).toNat : Int) := fun h' => rfl
set_option maxHeartbeats 4000000 in
set_option maxRecDepth 100000 in
theorem hstatus_calls (l : List UInt8) (w : World) (hl : l.length ≤ 1000000000) : Calls Tryd.prog 59 #[.string (ofL l)] w (StatusPost l w) := by
  cases hp : verL.isPrefixOf l with
  | false =>
    have HP := Aside0.mk hp
    have HF : Aside0 (statusS l = .error 95) := ⟨by unfold statusS; rw [hp]; rfl⟩
    clear hp
    go_enter Tryd.func59, Tryd.ntmps59
    go_wp2_with (first
      | (go_at_call 85; ((with_reducible refine (cutver_calls l _ false HP.out).mono ?_); rintro e w' ⟨rfl, rfl⟩))
      | (go_at_call 48; ((with_reducible refine (hmust_no _ _).mono ?_); rintro e w' ⟨rfl, rfl⟩)))
    exact ⟨rfl, status_err HF.out (Drawn0.refl _)⟩
  | true =>
    have HP := Aside0.mk hp
    obtain ⟨R, hR⟩ : ∃ R, l.drop 9 = R := ⟨_, rfl⟩
    have hRl : R.length = l.length - 9 := by rw [← hR, List.length_drop]
    have h9 : 9 ≤ l.length := (List.isPrefixOf_iff_prefix.1 hp).length_le
    have HR := Aside0.mk hR
    have hsz : (ofL R).size = R.length := ofL_size R
    by_cases h3 : R.length < 3
    · have HF : Aside0 (statusS l = .error 95) := ⟨by unfold statusS; rw [if_neg]; rw [Bool.and_eq_true, decide_eq_true_eq]; omega⟩
      have h3' : decide ((3 : Int) ≤ (R.length : Int)) = false := decide_eq_false (by omega)
      clear hp hR hRl
      go_enter Tryd.func59, Tryd.ntmps59
      go_wp2_with (first
        | (go_at_call 85; ((with_reducible refine (cutver_calls l _ true HP.out).mono ?_); rintro e w' ⟨rfl, rfl⟩; rw [if_pos rfl, HR.out]))
        | (go_at_call 48; ((with_reducible refine (hmust_no _ _).mono ?_); rintro e w' ⟨rfl, rfl⟩)))
      exact ⟨rfl, status_err HF.out (Drawn0.refl _)⟩
    · have h3' : decide ((3 : Int) ≤ (R.length : Int)) = true := decide_eq_true (by omega)
      have h3n : 3 ≤ R.length := by omega
      have h12 : l.drop 12 = R.drop 3 := by rw [← hR, List.drop_drop]
      have HF : Aside0 (statusS l = match numL (R.take 3) 0 with | .error _ => .error 95 | .ok n => if 200 ≤ n ∧ n ≤ 599 then tailS n (R.drop 3) else .error 95) := ⟨by
        unfold statusS; rw [if_pos, hR, h12]; rw [Bool.and_eq_true, decide_eq_true_eq]; exact ⟨hp, by omega⟩⟩
      have hR9 : R.length ≤ 1000000000 := by omega
      clear hp hR hRl h3 h12 h9
      go_enter Tryd.func59, Tryd.ntmps59
      go_wp2_with (first
        | (go_at_call 85; ((with_reducible refine (cutver_calls l _ true HP.out).mono ?_); rintro e w' ⟨rfl, rfl⟩; rw [if_pos rfl, HR.out]))
        | (go_at_call 48; ((with_reducible refine (hmust_ok _ _).mono ?_); rintro e w' ⟨rfl, rfl⟩)))
      go_loop [6, 20] (fun v6 v20 => ∃ (k : Nat) (m : Int), k ≤ 3 ∧ 0 ≤ m ∧ m < 10 ^ k ∧ v20 = .int .i64 k ∧ v6 = .int .i64 m ∧ Aside0 (numL (R.take 3) 0 = numL ((R.take 3).drop k) m)) (fun _ v20 => 3 - (intOf v20).toNat)
      case atStart => exact ⟨0, 0, by omega, by omega, by omega, rfl, rfl, ⟨rfl⟩⟩
      case round =>
        obtain ⟨k, m, hk, hm0, hm1, rfl, rfl, HL⟩ := hrel
        have hm2 : m < 1000 := by
          have h2 : (10 : Nat) ^ k ≤ 10 ^ 3 := Nat.pow_le_pow_right (by omega) hk
          have h3 : ((10 ^ k : Nat) : Int) = (10 : Int) ^ k := by simp
          omega
        have HM1 := Aside0.mk hm1
        clear hm1
        by_cases hlt : k < 3
        · have hlt' : decide ((k : Int) < 3) = true := decide_eq_true (by omega)
          have hkR : k < R.length := by omega
          have hd : (R.take 3).drop k = R[k] :: (R.take 3).drop (k + 1) := by
            rw [List.drop_eq_getElem_cons (by rw [List.length_take]; omega), List.getElem_take]
          obtain ⟨b, hb⟩ : ∃ b : Nat, R[k].toNat = b := ⟨_, rfl⟩
          have hbr : b < 256 := by rw [← hb]; exact R[k].toNat_lt
          have hbt : ∀ h : k < (ofL R).size, (((ofL R)[k]'h).toNat : Int) = (b : Int) := fun h => by rw [ofL_byte R k hkR h, hb]
          have HN : Aside0 (numL ((R.take 3).drop k) m = if 48 ≤ b ∧ b ≤ 57 then numL ((R.take 3).drop (k + 1)) (10 * m + ((b : Int) - 48)) else .error 94) := ⟨by rw [hd, numL, hb]⟩
          have hks : (k : Int) < ((ofL R).size : Int) := by omega
          have hksn : k < (ofL R).size := by omega
          clear hd hb
          by_cases hg : 48 ≤ b ∧ b ≤ 57
          · have HF2 : Aside0 (numL (R.take 3) 0 = numL ((R.take 3).drop (k + 1)) (10 * m + ((b : Int) - 48))) := ⟨by rw [HL.out, HN.out, if_pos hg]⟩
            obtain ⟨hd1, hd2⟩ := hg
            have hx1 : decide ((48 : Int) ≤ (b : Int)) = true := decide_eq_true (by omega)
            have hx2 : decide ((b : Int) ≤ 57) = true := decide_eq_true (by omega)
            have HP2 : Aside0 (10 * m + ((b : Int) - 48) < 10 ^ (k + 1)) := ⟨by have := HM1.out; rw [Int.pow_succ]; omega⟩
            go_wp2_with (first
              | (go_at_call 48; ((with_reducible refine (hmust_ok _ _).mono ?_); rintro e w' ⟨rfl, rfl⟩)))
            go_round
            case rel => exact ⟨k + 1, 10 * m + ((b : Int) - 48), by omega, by omega, HP2.out, by go_num, by go_num, HF2⟩
            case measure => simp [intOf]; omega
          · have HF2 : Aside0 (statusS l = .error 95) := ⟨by rw [HF.out, HL.out, HN.out, if_neg hg]⟩
            by_cases hd1 : 48 ≤ b
            · have hx1 : decide ((48 : Int) ≤ (b : Int)) = true := decide_eq_true (by omega)
              have hx2 : decide ((b : Int) ≤ 57) = false := decide_eq_false (by omega)
              clear hg
              go_wp2_with (first
                | (go_at_call 48; ((with_reducible refine (hmust_no _ _).mono ?_); rintro e w' ⟨rfl, rfl⟩)))
              exact ⟨rfl, status_err HF2.out (Drawn0.refl _)⟩
            · have hx1 : decide ((48 : Int) ≤ (b : Int)) = false := decide_eq_false (by omega)
              clear hg
              go_wp2_with (first
                | (go_at_call 48; ((with_reducible refine (hmust_no _ _).mono ?_); rintro e w' ⟨rfl, rfl⟩)))
              exact ⟨rfl, status_err HF2.out (Drawn0.refl _)⟩
        · have hlt' : decide ((k : Int) < 3) = false := decide_eq_false (by omega)
          have HF2 : Aside0 (statusS l = if 200 ≤ m ∧ m ≤ 599 then tailS m (R.drop 3) else .error 95) := ⟨by
            rw [HF.out, HL.out, List.drop_of_length_le (by rw [List.length_take]; omega)]; rfl⟩
          by_cases hg : 200 ≤ m ∧ m ≤ 599
          · have HF3 : Aside0 (statusS l = tailS m (R.drop 3)) := ⟨by rw [HF2.out, if_pos hg]⟩
            obtain ⟨hg1, hg2⟩ := hg
            have hx1 : decide ((200 : Int) ≤ m) = true := decide_eq_true (by omega)
            have hx2 : decide (m ≤ 599) = true := decide_eq_true (by omega)
            have hex : (ofL R).extract 3 (ofL R).size = ofL (R.drop 3) := by rw [ofL_extract, ofL_size, List.take_of_length_le (Nat.le_refl _)]
            rw [hsz] at hex
            have hTl : (R.drop 3).length = R.length - 3 := by rw [List.length_drop]
            obtain ⟨T, hT⟩ : ∃ T, R.drop 3 = T := ⟨_, rfl⟩
            rw [hT] at hex HF3 hTl
            clear hT
            cases T with
            | nil =>
              have HF4 : Aside0 (statusS l = .ok (m, [])) := ⟨HF3.out⟩
              have hem2 : (ofL []).toList = [] := ofL_toList []
              have hem : (ofL []).toList.isEmpty = true := by rw [hem2]; rfl
              clear hTl
              go_wp2_with (first
                | (go_at_call 48; ((with_reducible refine (hmust_ok _ _).mono ?_); rintro e w' ⟨rfl, rfl⟩)))
              go_ret2
              exact status_ok HF4.out rfl (Drawn0.refl _)
            | cons c r =>
              have hem2 : (ofL (c :: r)).toList = c :: r := ofL_toList (c :: r)
              have hem : (ofL (c :: r)).toList.isEmpty = false := by rw [hem2]; rfl
              have hsz2 : (ofL (c :: r)).size = r.length + 1 := ofL_size _
              have hex1 : (ofL (c :: r)).extract 1 (ofL (c :: r)).size = ofL r := by rw [ofL_extract, ofL_size, List.take_of_length_le (Nat.le_refl _)]; rfl
              rw [hsz2] at hex1
              have HRS : Aside0 ((ofL r).size ≤ 4294967296) := ⟨by rw [ofL_size]; simp only [List.length_cons] at hTl; omega⟩
              have hrl : r.length ≤ 1000000000 := by simp only [List.length_cons] at hTl; omega
              obtain ⟨S, hS⟩ : ∃ S, ofL (c :: r) = S := ⟨_, rfl⟩
              obtain ⟨b, hb⟩ : ∃ b : Nat, c.toNat = b := ⟨_, rfl⟩
              have hbr : b < 256 := by rw [← hb]; exact c.toNat_lt
              have hbt : ∀ h : 0 < S.size, ((S[0]'h).toNat : Int) = (b : Int) := by
                rw [← hS, ← hb]; intro h; rfl
              rw [hS] at hex hem hsz2 hex1
              have HF4 : Aside0 (statusS l = if (b == 32 && r.all textB) = true then .ok (m, r) else .error 95) := ⟨by rw [HF3.out, tailS, hb]⟩
              have hs0 : (0 : Int) < (S.size : Int) := by omega
              have hs0n : 0 < S.size := by omega
              have hs1 : (1 : Int) ≤ (S.size : Int) := by omega
              clear hem2 hS hb hTl
              by_cases h32 : b = 32
              · have h32' : ((b : Int) == 32) = true := beq_iff_eq.2 (by omega)
                cases htx : r.all textB with
                | true =>
                  have HRB : Aside0 ((toL (ofL r)).all textB = true) := ⟨by rw [toL_ofL]; exact htx⟩
                  have HF5 : Aside0 (statusS l = .ok (m, r)) := ⟨by rw [HF4.out, htx, h32]; rfl⟩
                  clear htx h32
                  go_wp2_with (first
                    | (go_at_call 48; ((with_reducible refine (hmust_ok _ _).mono ?_); rintro e w' ⟨rfl, rfl⟩))
                    | (go_at_call 86; ((with_reducible refine (reason_calls (ofL r) _ HRS.out).mono ?_); rintro e w2 ⟨rfl, hd2⟩; rw [HRB.out]; replace hd2 := Aside0.mk hd2)))
                  go_quiet (fail)
                  go_wp2
                  go_ret2
                  exact status_ok HF5.out rfl (hd2.out.step _)
                | false =>
                  have HRB : Aside0 ((toL (ofL r)).all textB = false) := ⟨by rw [toL_ofL]; exact htx⟩
                  have HF5 : Aside0 (statusS l = .error 95) := ⟨by rw [HF4.out, htx, Bool.and_false]; rfl⟩
                  clear htx h32
                  go_wp2_with (first
                    | (go_at_call 48; ((with_reducible refine (hmust_ok _ _).mono ?_); rintro e w' ⟨rfl, rfl⟩))
                    | (go_at_call 86; ((with_reducible refine (reason_calls (ofL r) _ HRS.out).mono ?_); rintro e w2 ⟨rfl, hd2⟩; rw [HRB.out]; replace hd2 := Aside0.mk hd2))
                    | (go_at_call 48; ((with_reducible refine (hmust_no _ _).mono ?_); rintro e w' ⟨rfl, rfl⟩)))
                  exact ⟨rfl, status_err HF5.out hd2.out⟩
              · have h32' : ((b : Int) == 32) = false := beq_eq_false_iff_ne.2 (by omega)
                have HF5 : Aside0 (statusS l = .error 95) := ⟨by rw [HF4.out, beq_eq_false_iff_ne.2 h32]; rfl⟩
                clear h32
                go_wp2_with (first
                  | (go_at_call 48; ((with_reducible refine (hmust_ok _ _).mono ?_); rintro e w' ⟨rfl, rfl⟩))
                  | (go_at_call 48; ((with_reducible refine (hmust_no _ _).mono ?_); rintro e w' ⟨rfl, rfl⟩)))
                exact ⟨rfl, status_err HF5.out (Drawn0.refl _)⟩
          · have HF3 : Aside0 (statusS l = .error 95) := ⟨by rw [HF2.out, if_neg hg]⟩
            by_cases hd1 : 200 ≤ m
            · have hx1 : decide ((200 : Int) ≤ m) = true := decide_eq_true (by omega)
              have hx2 : decide (m ≤ 599) = false := decide_eq_false (by omega)
              clear hg
              go_wp2_with (first
                | (go_at_call 48; ((with_reducible refine (hmust_no _ _).mono ?_); rintro e w' ⟨rfl, rfl⟩)))
              exact ⟨rfl, status_err HF3.out (Drawn0.refl _)⟩
            · have hx1 : decide ((200 : Int) ≤ m) = false := decide_eq_false (by omega)
              clear hg
              go_wp2_with (first
                | (go_at_call 48; ((with_reducible refine (hmust_no _ _).mono ?_); rintro e w' ⟨rfl, rfl⟩)))
              exact ⟨rfl, status_err HF3.out (Drawn0.refl _)⟩
end Go.Proofs.YtibgcbngnfaaiaaDoor.H

namespace Go.Proofs.YtibgcbngnfaaiaaDoor.H
open Go.RowKit Go.Proofs.YtibgcbngnfaaiaaDoorW.PrintWords Go.Proofs.YtibgcbngnfaaiaaDoorW.PrintLast Go.Proofs.YtibgcbngnfaaiaaDoorW.PrintMore Go.Proofs.YtibgcbngnfaaiaaDoor.PA
set_option linter.unusedVariables false
set_option linter.unusedSimpArgs false

theorem try1_idle (p : Addr) (w : World) :
    CallsD Tryd.prog 74 #[.pointer (some p)] .returning w fun e u' w' => e = .returned (.tuple #[]) ∧ u' = .returning ∧ w' = w := by
  refine callsD_of_wpS Tryd.func74 rfl fun c₀ cs hu => ?_
  apply wpS_seq
  apply wpS_region
  simp [wpOpsS, go_sem, recoverD, hu, Tryd.ntmps74, Exit.thenS]
  apply wpS_seq
  apply wpS_region
  simp [wpOpsS, go_sem, Exit.thenS, Array.replicate]
  refine wpS_cond (t := false) (by simp [Act.eval, Array.replicate]) ?_
  simp only [Bool.false_eq_true, if_false]
  refine wpS_of_wp (wp_skip ?_)
  cases c₀
  simp_all [bodyPostS, results, Tryd.results74]
theorem assert_stopH (x : Int) (W : World) : (Instr.typeAssert (.iface 105 (.agg #[.int .i64 x])) 20 105 true).run Tryd.prog W = .ok (.tuple #[.agg #[.int .i64 x], .bool true]) W := by
  simp [Instr.typeAssert, run_underlying Tryd.underlying105, go_sem]
set_option maxRecDepth 10000 in
set_option maxHeartbeats 1000000 in
theorem try1_catch (b0 : Nat) (x : Int) (u0 : Value) (t0 : TypeId) (w : World) (h0 : w.heap[b0]? = some (.cells #[u0] t0 (0, 0))) :
    CallsD Tryd.prog 74 #[.pointer (some ⟨b0, 0, none⟩)] (.panicking (stopH x)) w fun e u' w' =>
      e = .returned (.tuple #[]) ∧ u' = .panicking [{ v := .iface 105 (.agg #[.int .i64 x]), recovered := true }] ∧
      w' = (w.setCell ⟨b0, 0, none⟩ (.int .i64 x)).alloc (.cells #[.int .i64 x] 105) := by
  have c0 : w.cell? ⟨b0, 0, none⟩ = some u0 := blk_cell h0 0
  have f0 : w.frozen? ⟨b0, 0, none⟩ = false := blk_frozen h0 0
  have l0 := blk_lt h0
  have hta := assert_stopH x
  unfold stopH
  refine callsD_of_wpS Tryd.func74 rfl fun c₀ cs hu => ?_
  apply wpS_seq
  apply wpS_region
  simp [wpOpsS, go_sem, recoverD, hu, Tryd.ntmps74, Exit.thenS]
  apply wpS_seq
  apply wpS_region
  simp [wpOpsS, go_sem, Exit.thenS, Array.replicate]
  refine wpS_cond (t := true) (by simp [Act.eval, Array.replicate]) ?_
  simp only [if_true]
  refine wpS_of_wp ?_
  go_wp2
  exact ⟨rfl, _, rfl, _, results_none rfl _ _ _, rfl, rfl, rfl⟩
set_option maxRecDepth 100000 in
set_option maxHeartbeats 4000000 in
theorem try_ok (K : FuncId) (caps : Array Value) (hcf : ∀ W : World, (callFunc K caps).run Tryd.prog W = .ok (.enter K caps) W) (w : World) (R : World → Prop) (h : Calls Tryd.prog K caps (w.alloc (.cells #[.int .i64 0] 25)) fun e w' => e = .returned (.tuple #[]) ∧ R w') (hk : ∀ w', R w' → w'.heap[w.heap.size]? = some (.cells #[.int .i64 0] 25 (0, 0))) :
    Calls Tryd.prog 44 #[.func (.func K) #[] caps] w fun e w' => e = .returned (.int .i64 0) ∧ ∃ w1, R w1 ∧ w' = w1.setCell ⟨w.heap.size, 0, none⟩ (.int .i64 0) := by
  have hmf : ∀ (fn : Fn) (first cap : Array Value) (w : World), (Instr.makeFunc fn first cap).run Tryd.prog w = .ok (.func fn first cap) w := fun _ _ _ _ => rfl
  have HC := Aside0.mk h
  have HK := Aside0.mk hk
  clear h hk
  go_enter_defers Tryd.func44, Tryd.ntmps44
  go_wp2_with fail
  refine HC.out.mono ?_
  rintro e w1 ⟨rfl, hR⟩
  have k0 := HK.out w1 hR
  have c0 : w1.cell? ⟨w.heap.size, 0, none⟩ = some (.int .i64 0) := blk_cell k0 0
  have f0 : w1.frozen? ⟨w.heap.size, 0, none⟩ = false := blk_frozen k0 0
  have K0 := Aside0.mk k0
  have HR := Aside0.mk hR
  clear k0 hR
  go_wp2
  have q0 : (w1.setCell ⟨w.heap.size, 0, none⟩ (.int .i64 0)).cell? ⟨w.heap.size, 0, none⟩ = some (.int .i64 0) := blk_cell (blk_set K0.out 0 (.int .i64 0)) 0
  refine leaves_cons (f := 74) (args := #[.pointer (some ⟨w.heap.size, 0, none⟩)]) (by simp) (by simp [go_sem]) ?_
  refine (try1_idle _ _).mono ?_
  rintro e u' w3 ⟨rfl, rfl, rfl⟩
  refine ⟨.int .i64 0, ?_, rfl, w1, HR.out, rfl⟩
  simp [results, Tryd.results44, go_sem, q0]
set_option maxRecDepth 100000 in
set_option maxHeartbeats 4000000 in
theorem try_no (K : FuncId) (caps : Array Value) (hcf : ∀ W : World, (callFunc K caps).run Tryd.prog W = .ok (.enter K caps) W) (x : Int) (w : World) (R : World → Prop) (h : Calls Tryd.prog K caps (w.alloc (.cells #[.int .i64 0] 25)) fun e w' => e = .panicked (stopH x) ∧ R w') (hk : ∀ w', R w' → w'.heap[w.heap.size]? = some (.cells #[.int .i64 0] 25 (0, 0))) :
    Calls Tryd.prog 44 #[.func (.func K) #[] caps] w fun e w' => e = .returned (.int .i64 x) ∧ ∃ w1, R w1 ∧ w' = (w1.setCell ⟨w.heap.size, 0, none⟩ (.int .i64 x)).alloc (.cells #[.int .i64 x] 105) := by
  have hmf : ∀ (fn : Fn) (first cap : Array Value) (w : World), (Instr.makeFunc fn first cap).run Tryd.prog w = .ok (.func fn first cap) w := fun _ _ _ _ => rfl
  have HC := Aside0.mk h
  have HK := Aside0.mk hk
  clear h hk
  go_enter_defers Tryd.func44, Tryd.ntmps44
  go_wp2_with fail
  refine HC.out.mono ?_
  rintro e w1 ⟨rfl, hR⟩
  have k0 := HK.out w1 hR
  have q0 : ((w1.setCell ⟨w.heap.size, 0, none⟩ (.int .i64 x)).alloc (.cells #[.int .i64 x] 105)).cell? ⟨w.heap.size, 0, none⟩ = some (.int .i64 x) := blk_cell (blk_alloc (blk_set k0 0 (.int .i64 x)) _) 0
  refine leaves_cons (f := 74) (args := #[.pointer (some ⟨w.heap.size, 0, none⟩)]) (by simp) (by simp [go_sem]) ?_
  refine (try1_catch _ x _ _ w1 k0).mono ?_
  rintro e u' w2 ⟨rfl, rfl, rfl⟩
  refine ⟨.int .i64 x, ?_, rfl, w1, hR, rfl⟩
  simp [results, Tryd.results44, go_sem, q0]
end Go.Proofs.YtibgcbngnfaaiaaDoor.H

namespace Go.Proofs.YtibgcbngnfaaiaaDoor.H
open Go.RowKit Go.Proofs.YtibgcbngnfaaiaaDoorW.PrintWords Go.Proofs.YtibgcbngnfaaiaaDoorW.PrintLast Go.Proofs.YtibgcbngnfaaiaaDoorW.PrintMore Go.Proofs.YtibgcbngnfaaiaaDoor.PA
set_option linter.unusedVariables false
set_option linter.unusedSimpArgs false

/-- What was there stays, but for two blocks. -/
structure Grw2 (a b : Nat) (w w' : World) : Prop where
  os : w'.os = w.os
  tape : w'.tape = w.tape
  output : w'.output = w.output
  size : w.heap.size ≤ w'.heap.size
  block : ∀ k, k < w.heap.size → k ≠ a → k ≠ b → w'.heap[k]? = w.heap[k]?
theorem Grw2.refl (a b : Nat) (w : World) : Grw2 a b w w := ⟨rfl, rfl, rfl, Nat.le_refl _, fun _ _ _ _ => rfl⟩
theorem Grw2.of_below {a b : Nat} {w w' : World} (h : Below w.heap.size w w') : Grw2 a b w w' := ⟨h.os, h.tape, h.output, h.size, fun k hk _ _ => h.block k hk⟩
theorem Grw2.trans {a b : Nat} {w w1 w2 : World} (h : Grw2 a b w w1) (k : Grw2 a b w1 w2) : Grw2 a b w w2 :=
  ⟨k.os.trans h.os, k.tape.trans h.tape, k.output.trans h.output, Nat.le_trans h.size k.size, fun i hi ha hb => (k.block i (Nat.lt_of_lt_of_le hi h.size) ha hb).trans (h.block i hi ha hb)⟩
theorem Grw2.setA {a b : Nat} {w w1 : World} (h : Grw2 a b w w1) (j : Nat) (v : Value) : Grw2 a b w (w1.setCell ⟨a, j, none⟩ v) :=
  h.trans ⟨rfl, rfl, rfl, by simp, fun k hk ha _ => Below.heap_setCell _ _ _ k ha⟩
theorem Grw2.setB {a b : Nat} {w w1 : World} (h : Grw2 a b w w1) (j : Nat) (v : Value) : Grw2 a b w (w1.setCell ⟨b, j, none⟩ v) :=
  h.trans ⟨rfl, rfl, rfl, by simp, fun k hk _ hb => Below.heap_setCell _ _ _ k hb⟩
theorem Grw2.below {a b B : Nat} {w0 w w' : World} (h0 : Below B w0 w) (h : Grw2 a b w w') (ha : B ≤ a) (hb : B ≤ b) (hB : B ≤ w.heap.size) : Below B w0 w' :=
  ⟨h.os.trans h0.os, h.tape.trans h0.tape, h.output.trans h0.output, Nat.le_trans h0.size h.size, fun k hk => (h.block k (by omega) (by omega) (by omega)).trans (h0.block k hk)⟩

abbrev hostN : ByteArray := ⟨#[72, 111, 115, 116]⟩
/-- What stands behind a request's first line. -/
def restS (m t : List UInt8) (L : List (List UInt8)) (rest : List UInt8) (at_ : Nat) : Except Int (List UInt8 × List UInt8 × List S103 × List Int × Int) :=
  match parseS (L.map ofL) with
  | (fs, x) => if x = 0 then (if (allS fs hostN).length = 1 then (match framedS fs rest with | .error x => .error x | .ok (b, n, _) => .ok (m, t, fs, b, (at_ : Int) + n)) else .error 90) else .error x
def lineT (P : List (List UInt8)) : Option (List UInt8 × List UInt8) :=
  match P with
  | [m, t, v] => if (tokL m && (targetL t && (v == [72, 84, 84, 80, 47, 49, 46, 49]))) = true then some (m, t) else none
  | _ => none
def lineS (f : List UInt8) : Option (List UInt8 × List UInt8) := lineT (splitSp [] f)
def behindS (o : Option (List UInt8 × List UInt8)) (L : List (List UInt8)) (rest : List UInt8) (at_ : Nat) : Except Int (List UInt8 × List UInt8 × List S103 × List Int × Int) :=
  match o with | none => .error 95 | some (m, t) => restS m t L rest at_
/-- A request, read. -/
def reqS (l : List UInt8) : Except Int (List UInt8 × List UInt8 × List S103 × List Int × Int) :=
  match headS l with
  | .error x => .error x
  | .ok (L, at_) => behindS (lineS (L.headD [])) L.tail (l.drop at_) at_
def Req1Ok (Br Bn : Nat) (m t : List UInt8) (fs : List S103) (b : List Int) (n : Int) (w w' : World) : Prop :=
  ∃ A1 c1 A2 c2, w'.heap[Br]? = some (.cells #[.string (ofL m), .string (ofL t), .slice A1 fs.length c1, .slice A2 b.length c2] 41 (0, 0)) ∧ w'.heap[Bn]? = some (.cells #[.int .i64 n] 3 (0, 0)) ∧ OwnF w' w.heap.size A1 c1 fs ∧ OwnB w' w.heap.size A2 c2 b ∧ Grw2 Br Bn w w'
def Req1Post (l : List UInt8) (Br Bn : Nat) (w : World) (e : Ending) (w' : World) : Prop :=
  match reqS l with
  | .ok (m, t, fs, b, n) => e = .returned (.tuple #[]) ∧ Req1Ok Br Bn m t fs b n w w'
  | .error x => e = .panicked (stopH x) ∧ Grw2 Br Bn w w'
theorem req1_err {l : List UInt8} {Br Bn : Nat} {w w' : World} {x : Int} (h : reqS l = .error x) (hb : Grw2 Br Bn w w') : Req1Post l Br Bn w (.panicked (stopH x)) w' := by unfold Req1Post; rw [h]; exact ⟨rfl, hb⟩
theorem lines_okC (A : Option Addr) (c : Nat) (l : List UInt8) (w : World) (hr : ReadsInt w .u8 A l.length (iL l)) (hc : l.length ≤ c) (hl : l.length ≤ 1000000000) (hm : Mz w) (L : List (List UInt8)) (at_ : Nat) (h : headS l = .ok (L, at_)) (rest : List UInt8) (hrest : l.drop at_ = rest) :
    Calls Tryd.prog 46 #[.slice A l.length c] w fun e w' => ∃ A1 c1 A2 c2, e = .returned (.tuple #[.slice A1 L.length c1, .slice A2 rest.length c2]) ∧ L.length ≤ c1 ∧ RdS w' A1 (L.map ofL) ∧ rest.length ≤ c2 ∧ (∀ W, ReadsInt W .u8 A l.length (iL l) → ReadsInt W .u8 A2 rest.length (iL rest)) ∧ Below w.heap.size w w' := by
  subst hrest
  refine (lines_calls A c l w hr hc hl hm).mono fun e w' hq => ?_
  unfold LinesPost at hq; rw [h] at hq
  obtain ⟨A1, c1, A2, c2, h1, h2, h3, h4⟩ := hq
  exact ⟨A1, c1, A2, c2, h1, h2.1, by unfold RdS; rw [List.length_map]; exact h3, h4⟩
theorem lines_okC2 (A : Option Addr) (c : Nat) (l : List UInt8) (w : World) (hr : ReadsInt w .u8 A l.length (iL l)) (hc : l.length ≤ c) (hl : l.length ≤ 1000000000) (hm : Mz w) (L : List (List UInt8)) (at_ : Nat) (h : headS l = .ok (L, at_)) (rest : List UInt8) (hrest : l.drop at_ = rest) :
    Calls Tryd.prog 46 #[.slice A l.length c] w fun e w' => ∃ A1 c1 A2 c2, e = .returned (.tuple #[.slice A1 L.length c1, .slice A2 rest.length c2]) ∧ (L.length ≤ c1 ∧ ∀ ad, A1 = some ad → w.heap.size ≤ ad.block) ∧ RdS w' A1 (L.map ofL) ∧ rest.length ≤ c2 ∧ (∀ W, ReadsInt W .u8 A l.length (iL l) → ReadsInt W .u8 A2 rest.length (iL rest)) ∧ Below w.heap.size w w' := by
  subst hrest
  refine (lines_calls A c l w hr hc hl hm).mono fun e w' hq => ?_
  unfold LinesPost at hq; rw [h] at hq
  obtain ⟨A1, c1, A2, c2, h1, h2, h3, h4⟩ := hq
  exact ⟨A1, c1, A2, c2, h1, h2, by unfold RdS; rw [List.length_map]; exact h3, h4⟩
/-- A row of strings is there behind a store elsewhere. -/
theorem RdS.far {w : World} {ad : Addr} {L : List ByteArray} (h : RdS w (some ad) L) {p : Addr} (hp : p.block ≠ ad.block) (v : Value) : RdS (w.setCell p v) (some ad) L := by
  have h1 := Kd.reads_of_C (enc := Value.string) (d := ByteArray.empty) (h1 := fun _ => rfl) h
  refine Kd.C_of_reads (enc := Value.string) (d := ByteArray.empty) (h1 := fun _ => rfl) ⟨h1.1, h1.2.1, fun hn => ?_⟩
  obtain ⟨a, ha, hc⟩ := h1.2.2 hn
  refine ⟨a, ha, fun j hj => ?_⟩
  injection ha with ha
  subst ha
  rw [World.cell?_setCell_far _ _ _ _ (by rw [show (ad.add j).block = ad.block from by unfold Addr.add; split <;> rfl]; exact hp)]
  exact hc j hj
theorem lines_noC (A : Option Addr) (c : Nat) (l : List UInt8) (w : World) (hr : ReadsInt w .u8 A l.length (iL l)) (hc : l.length ≤ c) (hl : l.length ≤ 1000000000) (hm : Mz w) (x : Int) (h : headS l = .error x) :
    Calls Tryd.prog 46 #[.slice A l.length c] w fun e w' => e = .panicked (stopH x) ∧ Below w.heap.size w w' := by
  refine (lines_calls A c l w hr hc hl hm).mono fun e w' hq => ?_
  unfold LinesPost at hq; rw [h] at hq
  exact hq
theorem framed_okC (A : Option Addr) (c : Nat) (fs : List S103) (A2 : Option Addr) (c2 : Nat) (rest : List UInt8) (w : World) (hr : RdF w A fs) (hc : fs.length ≤ c) (hr2 : ReadsInt w .u8 A2 rest.length (iL rest)) (hc2 : rest.length ≤ c2) (hl : rest.length ≤ 1000000000)
    (hs : fs.length ≤ 1000 ∧ ∀ f ∈ fs, f.f0.size ≤ 100000000 ∧ f.f1.size ≤ 100000000) (b : List Int) (n : Int) (told : Bool) (h : framedS fs rest = .ok (b, n, told)) :
    Calls Tryd.prog 53 #[.slice A fs.length c, .slice A2 rest.length c2] w fun e w' => ∃ A1 c1, e = .returned (.tuple #[.slice A1 b.length c1, .int .i64 n, .bool told]) ∧ OwnB w' w.heap.size A1 c1 b ∧ Below w.heap.size w w' := by
  refine (framed_calls A c fs A2 c2 rest w hr hc hr2 hc2 hl hs).mono fun e w' hq => ?_
  unfold FramedPost at hq; rw [h] at hq
  exact hq
theorem framed_noC (A : Option Addr) (c : Nat) (fs : List S103) (A2 : Option Addr) (c2 : Nat) (rest : List UInt8) (w : World) (hr : RdF w A fs) (hc : fs.length ≤ c) (hr2 : ReadsInt w .u8 A2 rest.length (iL rest)) (hc2 : rest.length ≤ c2) (hl : rest.length ≤ 1000000000)
    (hs : fs.length ≤ 1000 ∧ ∀ f ∈ fs, f.f0.size ≤ 100000000 ∧ f.f1.size ≤ 100000000) (x : Int) (h : framedS fs rest = .error x) :
    Calls Tryd.prog 53 #[.slice A fs.length c, .slice A2 rest.length c2] w fun e w' => e = .panicked (stopH x) ∧ Below w.heap.size w w' := by
  refine (framed_calls A c fs A2 c2 rest w hr hc hr2 hc2 hl hs).mono fun e w' hq => ?_
  unfold FramedPost at hq; rw [h] at hq
  exact hq
/-- strings.Split in a fresh row. -/
theorem split_calls2 (s : ByteArray) (w : World) (hs : s.size < 4294967281) (hm : Mz w) (L : List (List UInt8)) (hL : splitSp [] (toL s) = L) :
    Calls Tryd.prog 47 #[.string s, .string ⟨#[32]⟩] w fun e w' => ∃ g c, e = .returned (.slice (some ⟨g, 0, none⟩) L.length c) ∧ w.heap.size ≤ g ∧ RdS w' (some ⟨g, 0, none⟩) (L.map ofL) ∧ Below w.heap.size w w' := by
  have h1 : 1 ≤ (⟨#[32]⟩ : ByteArray).size := by decide
  have hL2 : (Lib.split (toL s) (toL (⟨#[32]⟩ : ByteArray))).map ofL = L.map ofL := by
    rw [show toL (⟨#[32]⟩ : ByteArray) = [32] from rfl, splitSp_eq _ _ rfl, hL]
  obtain ⟨m, hm⟩ := hm
  refine (Any.strings_Split { Tryd.laysM146 with } Tryd.laysM146.i9 s _ m w hs hm h1).mono ?_
  rintro e w' ⟨rfl, rfl⟩
  have e : Lib.countB s ⟨#[32]⟩ + 1 = L.length := by rw [splitB_length s _ h1, splitB_eq, hL2, List.length_map]
  have hcl : L.length ≤ 4294967283 := by
    have h1 := Lib.count_le (toL s) (toL (⟨#[32]⟩ : ByteArray))
    have h2 : Lib.countB s ⟨#[32]⟩ = Lib.count (toL s) (toL (⟨#[32]⟩ : ByteArray)) := rfl
    rw [toL_length] at h1
    omega
  rw [e, splitB_eq, hL2]
  refine ⟨_, _, rfl, Nat.le_refl _, ?_, below_alloc (Below.refl _ _) _⟩
  unfold RdS
  refine Kd.C_of_reads (enc := Value.string) (d := ByteArray.empty) (h1 := fun _ => rfl) ⟨rfl, by rw [List.length_map]; omega, fun h => ⟨_, rfl, fun j hj => ?_⟩⟩
  rw [add_plain, World.cell?_alloc_new]
  simp [List.getD_eq_getElem?_getD, List.getElem?_eq_getElem (show j < L.length by rw [List.length_map] at hj; exact hj)]
end Go.Proofs.YtibgcbngnfaaiaaDoor.H
