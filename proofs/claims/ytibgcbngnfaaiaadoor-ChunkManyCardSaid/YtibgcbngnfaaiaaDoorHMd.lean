/- Plain laws of a body in chunks: what one's own chunks are read as, and what is cut off. · What chunk.Bytes writes is read back; one byte too many is not; what is cut off isn't all there. · ambryref10.hexText tells a number's hexadecimal digits. · ambryref10.ChunkBytes tells what chunk.Bytes tells. · ambrylaw11.ChunkBack is true, whatever it is given. · ambrylaw11.ChunkGreat is true, whatever it is given. · A body in chunks whose last length bears an extension, with a trailer behind it: all read. · ambrylaw11.ChunkCuts is true, whatever it is given. · ambrylaw11.ChunkCuts, the long way. · ambrylaw11.ChunkMany is true, whatever it is given. -/
import Derived.Test.YtibgcbngnfaaiaaDoorHMc
import Derived.Test.YtibgcbngnfaaiaaDoorHMb
import Derived.Outline
import Derived.Deep.RegionLaw
import Derived.Test.YtibgcbngnfaaiaaDoorPAx5
import Derived.Test.YtibgcbngnfaaiaaDoorPAx7
import Derived.Test.YtibgcbngnfaaiaaDoorPAx8
import Derived.Laws.OwnMore
import Derived.OpenShut
namespace Go.Proofs.YtibgcbngnfaaiaaDoor.H
open Go.RowKit Go.Proofs.YtibgcbngnfaaiaaDoorW.PrintWords
set_option linter.unusedVariables false
set_option linter.unusedSimpArgs false

/-- Neither CR nor LF. -/
def plainL (s : List Int) : Prop := ∀ x ∈ s, x ≠ 13 ∧ x ≠ 10
theorem line_app : ∀ (s : List Int) (c : Nat) (r : List Int), plainL s → c + s.length ≤ 1024 → lineL c (s ++ 13 :: 10 :: r) = .ok (s, r)
  | [], c, r, _, _ => line_crlf c r
  | x :: s, c, r, h, hc => by
    have hx := h x (by simp)
    have hc' : c + 1 + s.length ≤ 1024 := by simp at hc; omega
    rw [List.cons_append, line_on _ _ _ hx.1 (by intro e; rcases e with e | e; exact hx.2 e; omega), line_app s (c + 1) r (fun y hy => h y (by simp [hy])) hc']
    rfl
theorem bt_str (ds : List Int) (i : Nat) (h : i < ds.length) (hr : ∀ x ∈ ds, 0 ≤ x ∧ x < 256) : bt (strOfNums ds) (i : Int) = ds[i] := by
  have hs : (i : Int).toNat < (strOfNums ds).size := by rw [strOfNums_size]; exact h
  unfold bt
  rw [dif_pos hs]
  have e : (strOfNums ds)[(i : Int).toNat]'hs = UInt8.ofNat (ds[i]).toNat := by
    show ((strOfNums ds).data[i]'_) = _
    simp [strOfNums]
  rw [e]
  have := hr ds[i] (List.getElem_mem h)
  simp only [UInt8.toNat_ofNat']
  omega
def foldH (n : Int) (ds : List Int) : Int := ds.foldl (fun n d => 16 * n + hexv d) n
theorem len_digits (ok : ByteArray → Bool) (ds : List Int) (hr : ∀ x ∈ ds, 0 ≤ hexv x) (h8 : ds.length ≤ 8) (h0 : 0 < ds.length) : ∀ (d i : Nat) (n : Int), ds.length - i = d → i ≤ ds.length → lenAt ok (strOfNums ds) d i n = .ok (foldH n (ds.drop i))
  | 0, i, n, hd, hi => by
    have e : i = ds.length := by omega
    subst e
    rw [lenAt, if_pos h0, List.drop_length]; rfl
  | d + 1, i, n, hd, hi => by
    have hlt : i < ds.length := by omega
    have hz : (strOfNums ds).size = ds.length := strOfNums_size ds
    have hrr : ∀ x ∈ ds, 0 ≤ x ∧ x < 256 := fun x hx => by
      have := hr x hx
      unfold hexv at this
      split at this
      · omega
      · split at this
        · omega
        · split at this <;> omega
    have hb := bt_str ds i hlt hrr
    have h1 := lenAt_on (ok := ok) (s := strOfNums ds) (i := i) (n := n) (b := ds[i]) (by rw [hz]; exact hlt) hb.symm (hr _ (List.getElem_mem hlt)) (by omega)
    rw [hz, hd, show ds.length - (i + 1) = d from by omega] at h1
    rw [h1, len_digits ok ds hr h8 h0 d (i + 1) _ (by omega) (by omega), List.drop_eq_getElem_cons hlt]
    rfl
theorem hexv_hexD (d : Nat) (h : d < 16) : hexv (hexD d) = d ∧ hexD d ≠ 13 ∧ hexD d ≠ 10 := by
  unfold hexD
  split
  · rw [hexv_digit (by omega)]; omega
  · rw [hexv_small (by omega)]; omega
theorem hexL_len : ∀ (k u m : Nat), u < 16 ^ m → 1 ≤ m → (hexL k u).length ≤ m
  | 0, _, _, _, _ => Nat.zero_le _
  | k + 1, u, m, h, h1 => by
    by_cases hu : u < 16
    · rw [hexL_small k u hu]; simpa using h1
    · obtain ⟨m, rfl⟩ : ∃ m', m = m' + 1 := ⟨m - 1, by omega⟩
      rw [hexL_great k u hu, List.length_append]
      have hm : 1 ≤ m := by
        rcases Nat.eq_zero_or_pos m with e | e
        · subst e; simp at h; omega
        · exact e
      have := hexL_len k (u / 16) m (by rw [Nat.div_lt_iff_lt_mul (by omega)]; rw [Nat.pow_succ] at h; exact h) hm
      simp; omega
theorem hexL_pos (k u : Nat) : 0 < (hexL (k + 1) u).length := by
  by_cases hu : u < 16
  · rw [hexL_small k u hu]; simp
  · rw [hexL_great k u hu]; simp
theorem hexL_fold : ∀ (k u : Nat), u < 16 ^ k → 1 ≤ k → foldH 0 (hexL k u) = u ∧ (∀ x ∈ hexL k u, 0 ≤ hexv x ∧ x ≠ 13 ∧ x ≠ 10)
  | 0, _, _, h1 => by omega
  | k + 1, u, h, _ => by
    by_cases hu : u < 16
    · rw [hexL_small k u hu]
      have := hexv_hexD u hu
      refine ⟨by simp [foldH, this.1], fun x hx => ?_⟩
      rw [List.mem_singleton] at hx
      subst hx
      exact ⟨by omega, this.2⟩
    · rw [hexL_great k u hu]
      have hk : 1 ≤ k := by
        rcases Nat.eq_zero_or_pos k with e | e
        · subst e; simp at h; omega
        · exact e
      obtain ⟨i1, i2⟩ := hexL_fold k (u / 16) (by rw [Nat.div_lt_iff_lt_mul (by omega)]; rw [Nat.pow_succ] at h; exact h) hk
      have := hexv_hexD (u % 16) (by omega)
      refine ⟨?_, fun x hx => ?_⟩
      · unfold foldH at i1 ⊢
        rw [List.foldl_append, i1]
        simp only [List.foldl_cons, List.foldl_nil, this.1]
        omega
      · rw [List.mem_append, List.mem_singleton] at hx
        rcases hx with hx | hx
        · exact i2 x hx
        · subst hx; exact ⟨by omega, this.2⟩
/-- The length that a chunk's line tells. -/
theorem len_hex (ok : ByteArray → Bool) (u : Nat) (h : u < 4294967296) : lenAt ok (strOfNums (hexL 17 u)) (strOfNums (hexL 17 u)).size 0 0 = .ok (u : Int) ∧ plainL (hexL 17 u) ∧ (hexL 17 u).length ≤ 8 := by
  obtain ⟨h1, h2⟩ := hexL_fold 17 u (by omega) (by omega)
  have h3 := hexL_len 17 u 8 (by omega) (by omega)
  refine ⟨?_, fun x hx => (h2 x hx).2, h3⟩
  rw [strOfNums_size, len_digits ok (hexL 17 u) (fun x hx => (h2 x hx).1) h3 (hexL_pos 16 u) _ 0 0 (by omega) (by omega), List.drop_zero, h1]
theorem rd_drop (l : List Int) (p : Nat) (x : Int) (r : List Int) (h : l.drop p = x :: r) : p < l.length ∧ rd l (p : Int) = x ∧ l.drop (p + 1) = r := by
  have hp : p < l.length := by
    rcases Nat.lt_or_ge p l.length with h1 | h1
    · exact h1
    · rw [List.drop_eq_nil_of_le h1] at h; cases h
  rw [drop_rd l p hp] at h
  injection h with h1 h2
  exact ⟨hp, h1, h2⟩
theorem end_app (l : List Int) (p : Nat) (r : List Int) (h : l.drop p = 13 :: 10 :: r) : endF l 2 p = .ok (p + 2) := by
  obtain ⟨h1, h2, h3⟩ := rd_drop l p _ _ h
  obtain ⟨h4, h5, h6⟩ := rd_drop l (p + 1) _ _ h3
  simp only [endF, Nat.one_ne_zero, if_false, if_true, if_pos h1, if_pos h4, h2, h5]
theorem drop_app (l : List Int) (p : Nat) (a b : List Int) (h : l.drop p = a ++ b) : l.drop (p + a.length) = b ∧ p + a.length + b.length = max l.length p ∧ (l.take (p + a.length)).drop p = a := by
  refine ⟨by rw [← List.drop_drop, h, List.drop_left], ?_, ?_⟩
  · have := congrArg List.length h
    simp at this; omega
  · rw [List.drop_take, h]; simp
/-- One chunk more. -/
theorem body_chunk (okb okf : ByteArray → Bool) (l : List Int) (d p : Nat) (out b r : List Int) (h : l.drop p = chunkE b ++ r) (hp : p ≤ l.length) (h0 : 0 < b.length) (hb : b.length + out.length ≤ 65536) :
    bodyF okb okf l (d + 1) p out = bodyF okb okf l d (p + (chunkE b).length) (out ++ b) := by
  obtain ⟨k1, k2, k3⟩ := len_hex okb b.length (by omega)
  have e1 : chunkE b ++ r = hexL 17 b.length ++ 13 :: 10 :: (b ++ (13 :: 10 :: r)) := by simp [chunkE]
  have hl := drop_app l p _ _ h
  have hq : p + (hexL 17 b.length).length + 2 + (b ++ 13 :: 10 :: r).length = l.length := by
    have := hl.2.1
    have e := congrArg List.length e1
    simp only [List.length_append, List.length_cons] at e this ⊢
    omega
  have hl1 : l.drop (p + (hexL 17 b.length).length + 2) = b ++ (13 :: 10 :: r) := by
    rw [e1] at h
    rw [Nat.add_assoc, ← List.drop_drop, h, ← List.drop_drop, List.drop_left]
    rfl
  have hl2 := drop_app l _ _ _ hl1
  have hx : l.length - (b ++ 13 :: 10 :: r).length = p + (hexL 17 b.length).length + 2 := by omega
  rw [bodyF, h, e1, line_app _ 0 _ k2 (by omega)]
  simp only [k1, hx]
  rw [if_neg (by omega), if_neg (by omega), if_neg (by simp only [List.length_append, List.length_cons] at hq ⊢; omega)]
  simp only [Int.toNat_natCast]
  rw [end_app l _ r hl2.1]
  simp only []
  rw [hl2.2.2]
  congr 1
  simp only [chunkE, List.length_append, List.length_cons, List.length_nil]
  omega
/-- One too many. -/
theorem body_long (okb okf : ByteArray → Bool) (l : List Int) (d p : Nat) (out b r : List Int) (h : l.drop p = chunkE b ++ r) (h0 : 0 < b.length) (h1 : b.length < 4294967296) (hb : 65536 < b.length + out.length) :
    bodyF okb okf l (d + 1) p out = .error 93 := by
  obtain ⟨k1, k2, k3⟩ := len_hex okb b.length h1
  have e1 : chunkE b ++ r = hexL 17 b.length ++ 13 :: 10 :: (b ++ (13 :: 10 :: r)) := by simp [chunkE]
  rw [bodyF, h, e1, line_app _ 0 _ k2 (by omega)]
  simp only [k1]
  rw [if_neg (by omega), if_pos (by omega)]
/-- The last. -/
theorem body_last (okb okf : ByteArray → Bool) (l : List Int) (d p : Nat) (out z r : List Int) (hz : plainL z) (hz2 : z.length ≤ 1000) (hlen : lenAt okb (strOfNums z) (strOfNums z).size 0 0 = .ok 0) (h : l.drop p = z ++ 13 :: 10 :: 13 :: 10 :: r) (hp : p ≤ l.length) :
    bodyF okb okf l (d + 1) p out = .ok (out, p + z.length + 4) := by
  have hl := drop_app l p _ _ h
  have hq : p + z.length + 4 + r.length = l.length := by
    have := hl.2.1
    simp only [List.length_append, List.length_cons] at this ⊢
    omega
  have hx : l.length - (13 :: 10 :: r).length = p + z.length + 2 := by simp only [List.length_cons]; omega
  have hd : l.drop (p + z.length + 2) = 13 :: 10 :: r := by
    rw [← List.drop_drop, hl.1]; rfl
  rw [bodyF, h, line_app _ 0 _ hz (by omega)]
  simp only [hlen, hx, if_true]
  rw [trail_ok (by rw [hd]; exact line_crlf 0 r), if_pos rfl]
  simp only []
  have : l.length - r.length = p + z.length + 4 := by omega
  rw [this]
theorem zeros_len (okb : ByteArray → Bool) (n : Nat) (h0 : 0 < n) (h8 : n ≤ 8) : lenAt okb (strOfNums (List.replicate n 48)) (strOfNums (List.replicate n 48)).size 0 0 = .ok 0 ∧ plainL (List.replicate n 48) := by
  have hv : hexv 48 = 0 := by decide
  have hf : ∀ n : Nat, foldH 0 (List.replicate n 48) = 0 := by
    intro n
    induction n with
    | zero => rfl
    | succ n ih => rw [List.replicate_succ]; unfold foldH at ih ⊢; rw [List.foldl_cons, hv]; exact ih
  have hm : ∀ x ∈ List.replicate n (48 : Int), x = 48 := fun x hx => List.eq_of_mem_replicate hx
  refine ⟨?_, fun x hx => by rw [hm x hx]; omega⟩
  rw [strOfNums_size, len_digits okb _ (fun x hx => by rw [hm x hx, hv]; omega) (by simpa using h8) (by simpa using h0) _ 0 0 (by omega) (by omega), List.drop_zero, hf]
/-- A list of chunks. -/
def chunksOf (bs : List (List Int)) : List Int := (bs.map chunkE).flatten
theorem body_chunks (okb okf : ByteArray → Bool) (l : List Int) : ∀ (bs : List (List Int)) (d p : Nat) (out r : List Int), (∀ b ∈ bs, 0 < b.length) → l.drop p = chunksOf bs ++ r → p ≤ l.length → out.length + bs.flatten.length ≤ 65536 →
    bodyF okb okf l (d + bs.length) p out = bodyF okb okf l d (p + (chunksOf bs).length) (out ++ bs.flatten)
  | [], d, p, out, r, _, _, _, _ => by simp [chunksOf]
  | b :: bs, d, p, out, r, h0, h, hp, hb => by
    have e : chunksOf (b :: bs) ++ r = chunkE b ++ (chunksOf bs ++ r) := by simp [chunksOf]
    rw [e] at h
    have hl := drop_app l p _ _ h
    have hb' : out.length + (b.length + bs.flatten.length) ≤ 65536 := by simpa using hb
    rw [List.length_cons, ← Nat.add_assoc, body_chunk okb okf l _ p out b _ h hp (h0 b (by simp)) (by omega), body_chunks okb okf l bs d _ (out ++ b) r (fun x hx => h0 x (by simp [hx])) hl.1 (by omega) (by simp only [List.length_append]; omega)]
    simp [chunksOf, Nat.add_assoc]
/-- Fuel says nothing. -/
theorem body_fuel (okb okf : ByteArray → Bool) (l : List Int) : ∀ (d p : Nat) (out : List Int) (v : Except Int (List Int × Nat)), bodyF okb okf l d p out = v → (∀ h : v = .error 0, False) → ∀ e, d ≤ e → bodyF okb okf l e p out = v
  | 0, p, out, v, h, hv, e, _ => by
    rw [bodyF] at h
    exact (hv h.symm).elim
  | d + 1, p, out, v, h, hv, e, he => by
    obtain ⟨e, rfl⟩ : ∃ e', e = e' + 1 := ⟨e - 1, by omega⟩
    rw [bodyF] at h ⊢
    cases h1 : lineL 0 (l.drop p) with
    | error x => rw [h1] at h; exact h
    | ok sr =>
      obtain ⟨s, r⟩ := sr
      rw [h1] at h
      simp only [] at h ⊢
      cases h2 : lenAt okb (strOfNums s) (strOfNums s).size 0 0 with
      | error x => rw [h2] at h; exact h
      | ok n =>
        rw [h2] at h
        simp only [] at h ⊢
        by_cases c1 : n = 0
        · rw [if_pos c1] at h ⊢; exact h
        · rw [if_neg c1] at h ⊢
          by_cases c2 : ¬ n ≤ 65536 - (out.length : Int)
          · rw [if_pos c2] at h ⊢; exact h
          · rw [if_neg c2] at h ⊢
            by_cases c3 : ¬ n ≤ (l.length : Int) - ((l.length - r.length : Nat) : Int)
            · rw [if_pos c3] at h ⊢; exact h
            · rw [if_neg c3] at h ⊢
              cases h4 : endF l 2 (l.length - r.length + n.toNat) with
              | error x => rw [h4] at h; exact h
              | ok q =>
                rw [h4] at h
                simp only [] at h ⊢
                exact body_fuel okb okf l d _ _ v h hv e (by omega)
theorem chunksOf_len : ∀ bs : List (List Int), bs.length ≤ (chunksOf bs).length
  | [] => Nat.le_refl _
  | b :: bs => by
    have := chunksOf_len bs
    simp only [chunksOf, List.map_cons, List.flatten_cons, List.length_append, List.length_cons] at this ⊢
    have : 1 ≤ (chunkE b).length := by simp only [chunkE, List.length_append, List.length_cons]; omega
    omega
/-- Chunks, a line that tells 0, an empty line: the body. -/
theorem open_chunks (okb okf : ByteArray → Bool) (bs : List (List Int)) (z r : List Int) (h0 : ∀ b ∈ bs, 0 < b.length) (hb : bs.flatten.length ≤ 65536) (hz : plainL z) (hz2 : z.length ≤ 1000) (hlen : lenAt okb (strOfNums z) (strOfNums z).size 0 0 = .ok 0) :
    openF okb okf (chunksOf bs ++ (z ++ 13 :: 10 :: 13 :: 10 :: r)) = (bs.flatten, (((chunksOf bs).length + z.length + 4 : Nat) : Int), 0) := by
  have h1 := body_chunks okb okf (chunksOf bs ++ (z ++ 13 :: 10 :: 13 :: 10 :: r)) bs 1 0 [] (z ++ 13 :: 10 :: 13 :: 10 :: r) h0 (by simp) (by omega) (by simpa using hb)
  have h2 := body_last okb okf (chunksOf bs ++ (z ++ 13 :: 10 :: 13 :: 10 :: r)) 0 (0 + (chunksOf bs).length) ([] ++ bs.flatten) z r hz hz2 hlen (by rw [Nat.zero_add, List.drop_left]) (by simp)
  rw [h2] at h1
  have h3 := body_fuel okb okf _ _ _ _ _ h1 (fun h => by cases h) ((chunksOf bs ++ (z ++ 13 :: 10 :: 13 :: 10 :: r)).length + 1) (by
    have := chunksOf_len bs
    simp only [List.length_append, List.length_cons]; omega)
  unfold openF
  rw [h3]
  simp
/-- Too long by the last of them. -/
theorem open_long (okb okf : ByteArray → Bool) (bs : List (List Int)) (b r : List Int) (h0 : ∀ b ∈ bs, 0 < b.length) (hb0 : 0 < b.length) (hb1 : b.length < 4294967296) (hb : bs.flatten.length ≤ 65536) (hb2 : 65536 < bs.flatten.length + b.length) :
    openF okb okf (chunksOf bs ++ (chunkE b ++ r)) = ([], 0, 93) := by
  have h1 := body_chunks okb okf (chunksOf bs ++ (chunkE b ++ r)) bs 1 0 [] (chunkE b ++ r) h0 (by simp) (by omega) (by simpa using hb)
  have h2 := body_long okb okf (chunksOf bs ++ (chunkE b ++ r)) 0 (0 + (chunksOf bs).length) ([] ++ bs.flatten) b r (by rw [Nat.zero_add, List.drop_left]) hb0 hb1 (by simp only [List.nil_append]; omega)
  rw [h2] at h1
  have h3 := body_fuel okb okf _ _ _ _ _ h1 (fun h => by cases h) ((chunksOf bs ++ (chunkE b ++ r)).length + 1) (by
    have := chunksOf_len bs
    simp only [List.length_append]; omega)
  unfold openF
  rw [h3]
end Go.Proofs.YtibgcbngnfaaiaaDoor.H

namespace Go.Proofs.YtibgcbngnfaaiaaDoor.H
open Go.RowKit Go.Proofs.YtibgcbngnfaaiaaDoorW.PrintWords
set_option linter.unusedVariables false
set_option linter.unusedSimpArgs false

/-- A body's parts, so many bytes each. -/
def partsOf (l : List Int) (sz : Nat) (m : Nat) : List (List Int) := (List.range m).map fun k => (l.drop (k * sz)).take sz
theorem partsOf_succ (l : List Int) (sz m : Nat) : partsOf l sz (m + 1) = partsOf l sz m ++ [(l.drop (m * sz)).take sz] := by
  unfold partsOf; rw [List.range_succ, List.map_append]; rfl
theorem partsOf_flat (l : List Int) (sz : Nat) : ∀ m, (partsOf l sz m).flatten = l.take (m * sz)
  | 0 => by simp [partsOf]
  | m + 1 => by
    rw [partsOf_succ, List.flatten_append, partsOf_flat l sz m, Nat.add_mul, Nat.one_mul, List.take_add]
    simp
theorem partsOf_pos (l : List Int) (sz m : Nat) (hz : 1 ≤ sz) (h : ∀ k, k < m → k * sz < l.length) : ∀ b ∈ partsOf l sz m, 0 < b.length := by
  intro b hb
  unfold partsOf at hb
  rw [List.mem_map] at hb
  obtain ⟨k, hk, rfl⟩ := hb
  have := h k (List.mem_range.1 hk)
  simp only [List.length_take, List.length_drop]
  omega
theorem ceil_pos (n sz k : Nat) (hz : 1 ≤ sz) (h : k < (n + sz - 1) / sz) : k * sz < n := by
  have h1 : (k + 1) * sz ≤ n + sz - 1 := by
    have := Nat.le_div_iff_mul_le (k := sz) (x := k + 1) (y := n + sz - 1) (by omega)
    exact this.1 (by omega)
  rw [Nat.add_mul] at h1
  omega
theorem ceil_all (n sz : Nat) (hz : 1 ≤ sz) : n ≤ (n + sz - 1) / sz * sz := by
  have h1 := Nat.div_add_mod (n + sz - 1) sz
  have h2 := Nat.mod_lt (n + sz - 1) (show sz > 0 by omega)
  rw [Nat.mul_comm] at h1
  omega
theorem partsOf_split (l : List Int) (sz m k : Nat) (h : k < m) : ∃ r, partsOf l sz m = partsOf l sz k ++ (l.drop (k * sz)).take sz :: r := by
  refine ⟨(List.range (m - k - 1)).map fun j => (l.drop ((k + 1 + j) * sz)).take sz, ?_⟩
  have e : m = k + (1 + (m - k - 1)) := by omega
  unfold partsOf
  conv => lhs; rw [e, List.range_add, List.map_append, List.map_map, Nat.add_comm 1, List.range_succ_eq_map]
  simp only [List.map_cons, List.map_map, Function.comp_def, Nat.add_zero, Nat.succ_eq_add_one]
  congr 2
  refine List.map_congr_left fun j _ => ?_
  rw [show k + (j + 1) = k + 1 + j from by omega]
theorem chunksOf_app (a b : List (List Int)) : chunksOf (a ++ b) = chunksOf a ++ chunksOf b := by simp [chunksOf]
theorem bytesF_parts (l : List Int) (size : Int) : bytesF l size = chunksOf (partsOf l (max size 1).toNat ((l.length + (max size 1).toNat - 1) / (max size 1).toNat)) ++ [48, 13, 10, 13, 10] := by
  unfold bytesF chunksOf partsOf
  rw [List.map_map]; rfl
theorem z1 (okb : ByteArray → Bool) : lenAt okb (strOfNums [48]) (strOfNums [48]).size 0 0 = .ok 0 ∧ plainL [48] := zeros_len okb 1 (by omega) (by omega)
/-- Written, and read back, whatever stands behind. -/
theorem open_bytes (okb okf : ByteArray → Bool) (l : List Int) (size : Int) (r : List Int) (hl : l.length ≤ 65536) : openF okb okf (bytesF l size ++ r) = (l, ((bytesF l size).length : Int), 0) := by
  obtain ⟨sz, hsz, h1⟩ : ∃ sz, (max size 1).toNat = sz ∧ 1 ≤ sz := ⟨_, rfl, by omega⟩
  rw [bytesF_parts, hsz]
  have hf : (partsOf l sz ((l.length + sz - 1) / sz)).flatten = l := by
    rw [partsOf_flat]; exact List.take_of_length_le (ceil_all _ _ h1)
  have h := open_chunks okb okf (partsOf l sz ((l.length + sz - 1) / sz)) [48] r (partsOf_pos l sz _ h1 fun k hk => ceil_pos _ _ _ h1 hk) (by rw [hf]; exact hl) (z1 okb).2 (by simp) (z1 okb).1
  rw [hf] at h
  rw [List.append_assoc]
  simp only [List.cons_append, List.nil_append] at h ⊢
  rw [h]
  simp only [List.length_append, List.length_cons, List.length_nil]
theorem open_bytes_long (okb okf : ByteArray → Bool) (l : List Int) (size : Int) (hl : 65536 < l.length) (hl2 : l.length < 4294967296) : openF okb okf (bytesF l size) = ([], 0, 93) := by
  obtain ⟨sz, hsz, h1⟩ : ∃ sz, (max size 1).toNat = sz ∧ 1 ≤ sz := ⟨_, rfl, by omega⟩
  rw [bytesF_parts, hsz]
  have hk1 : 65536 / sz * sz ≤ 65536 := Nat.div_mul_le_self _ _
  have hk2 : 65536 < (65536 / sz + 1) * sz := by
    have h1 := Nat.div_add_mod 65536 sz
    have h2 := Nat.mod_lt 65536 (show sz > 0 by omega)
    rw [Nat.mul_comm] at h1
    rw [Nat.add_mul, Nat.one_mul]
    omega
  have hm : 65536 / sz < (l.length + sz - 1) / sz := by
    have h3 := ceil_all l.length sz h1
    rcases Nat.lt_or_ge (65536 / sz) ((l.length + sz - 1) / sz) with h | h
    · exact h
    · have := Nat.mul_le_mul_right sz h
      omega
  obtain ⟨r, hr⟩ := partsOf_split l sz _ _ hm
  rw [hr, chunksOf_app, List.append_assoc]
  have e : chunksOf ((l.drop (65536 / sz * sz)).take sz :: r) ++ [48, 13, 10, 13, 10] = chunkE ((l.drop (65536 / sz * sz)).take sz) ++ (chunksOf r ++ [48, 13, 10, 13, 10]) := by simp [chunksOf]
  rw [e]
  have hpl : ((l.drop (65536 / sz * sz)).take sz).length = min sz (l.length - 65536 / sz * sz) := by simp
  refine open_long okb okf _ _ _ (partsOf_pos l sz _ h1 fun k hk => ceil_pos _ _ _ h1 (by omega)) (by rw [hpl]; omega) (by rw [hpl]; omega) ?_ ?_
  · rw [partsOf_flat, List.length_take]; omega
  · rw [partsOf_flat, List.length_take, hpl]
    rw [Nat.add_mul, Nat.one_mul] at hk2
    omega
/-- A line that is cut off. -/
theorem line_cut : ∀ (l : List Int) (c : Nat) (s r : List Int) (k : Nat), lineL c l = .ok (s, r) → k < s.length + 2 → lineL c (l.take k) = .error 92
  | [], c, s, r, k, h, _ => by rw [line_nil] at h; cases h
  | x :: l, c, s, r, 0, h, hk => by rw [List.take_zero]; exact line_nil c
  | x :: l, c, s, r, k + 1, h, hk => by
    rw [List.take_succ_cons]
    by_cases hx : x = 13
    · subst hx
      match l, h with
      | [], h => rw [line_cr] at h; cases h
      | y :: l', h =>
        by_cases hy : y = 10
        · subst hy
          rw [line_crlf] at h
          simp only [Except.ok.injEq, Prod.mk.injEq] at h
          obtain ⟨rfl, rfl⟩ := h
          have : k = 0 := by simp at hk; omega
          subst this
          rw [List.take_zero]; exact line_cr c
        · rw [line_crx _ _ _ hy] at h; cases h
    · by_cases hb : x = 10 ∨ 1024 ≤ c
      · rw [line_bad _ _ _ hx hb] at h; cases h
      · rw [line_on _ _ _ hx hb] at h ⊢
        cases e : lineL (c + 1) l with
        | error v => rw [e] at h; cases h
        | ok p =>
          obtain ⟨s', r'⟩ := p
          rw [e] at h
          simp only [Except.map, Except.ok.injEq, Prod.mk.injEq] at h
          obtain ⟨rfl, rfl⟩ := h
          rw [line_cut l (c + 1) s' r' k e (by simp at hk; omega)]
          rfl
theorem line_more : ∀ (l : List Int) (c : Nat) (s r : List Int) (k : Nat), lineL c l = .ok (s, r) → s.length + 2 ≤ k → lineL c (l.take k) = .ok (s, r.take (k - (s.length + 2)))
  | [], c, s, r, k, h, _ => by rw [line_nil] at h; cases h
  | x :: l, c, s, r, 0, h, hk => by omega
  | x :: l, c, s, r, k + 1, h, hk => by
    rw [List.take_succ_cons]
    by_cases hx : x = 13
    · subst hx
      match l, h with
      | [], h => rw [line_cr] at h; cases h
      | y :: l', h =>
        by_cases hy : y = 10
        · subst hy
          rw [line_crlf] at h
          simp only [Except.ok.injEq, Prod.mk.injEq] at h
          obtain ⟨rfl, rfl⟩ := h
          obtain ⟨k, rfl⟩ : ∃ k', k = k' + 1 := ⟨k - 1, by simp at hk; omega⟩
          rw [List.take_succ_cons, line_crlf]
          simp
        · rw [line_crx _ _ _ hy] at h; cases h
    · by_cases hb : x = 10 ∨ 1024 ≤ c
      · rw [line_bad _ _ _ hx hb] at h; cases h
      · rw [line_on _ _ _ hx hb] at h ⊢
        cases e : lineL (c + 1) l with
        | error v => rw [e] at h; cases h
        | ok p =>
          obtain ⟨s', r'⟩ := p
          rw [e] at h
          simp only [Except.map, Except.ok.injEq, Prod.mk.injEq] at h
          obtain ⟨rfl, rfl⟩ := h
          rw [line_more l (c + 1) s' r' k e (by simp at hk; omega)]
          simp only [Except.map, List.length_cons]
          rw [show k + 1 - (s'.length + 1 + 2) = k - (s'.length + 2) from by omega]
theorem take_drop_len (l : List Int) (p k : Nat) (s r : List Int) (hk : k ≤ l.length) (hp : p ≤ k) (h : lineL 0 (l.drop p) = .ok (s, r)) (h2 : s.length + 2 ≤ k - p) :
    lineL 0 ((l.take k).drop p) = .ok (s, r.take (k - p - (s.length + 2))) ∧ (l.take k).length - (r.take (k - p - (s.length + 2))).length = l.length - r.length ∧ l.length - r.length = p + s.length + 2 := by
  have h3 := line_len _ _ _ _ h
  rw [List.length_drop] at h3
  refine ⟨by rw [List.drop_take]; exact line_more _ _ _ _ _ h h2, ?_, by omega⟩
  rw [List.length_take, List.length_take]; omega
theorem trail_cut (ok : ByteArray → Bool) (l : List Int) (k : Nat) (hk : k ≤ l.length) : ∀ (d n p q e : Nat), trailF ok l d n p = .ok q → p ≤ k → k < q → k - p < e → trailF ok (l.take k) e n p = .error 92
  | 0, n, p, q, e, h, _, _, _ => by rw [trailF] at h; cases h
  | d + 1, n, p, q, e, h, hp, hq, he => by
    obtain ⟨e, rfl⟩ : ∃ e', e = e' + 1 := ⟨e - 1, by omega⟩
    cases h1 : lineL 0 (l.drop p) with
    | error x => rw [trail_err h1] at h; cases h
    | ok sr =>
      obtain ⟨s, r⟩ := sr
      rw [trail_ok h1] at h
      by_cases h2 : s.length + 2 ≤ k - p
      · obtain ⟨k1, k2, k3⟩ := take_drop_len l p k s r hk hp h1 h2
        rw [trail_ok k1, k2]
        by_cases c1 : s = []
        · rw [if_pos c1] at h
          simp only [Except.ok.injEq] at h
          omega
        · rw [if_neg c1] at h ⊢
          by_cases c2 : ok (strOfNums s) = true ∧ n < 100
          · rw [if_pos c2] at h ⊢
            exact trail_cut ok l k hk d (n + 1) _ q e h (by omega) hq (by omega)
          · rw [if_neg c2] at h; cases h
      · rw [trail_err]
        rw [List.drop_take]
        exact line_cut _ _ _ _ _ h1 (by omega)
theorem rd_take (l : List Int) (k i : Nat) (h : i < k) : rd (l.take k) (i : Int) = rd l (i : Int) := by
  unfold rd
  simp only [Int.toNat_natCast, List.getD_eq_getElem?_getD, List.getElem?_take, if_pos h]
theorem end_cut (l : List Int) (k : Nat) (hk : k ≤ l.length) (p q : Nat) (h : endF l 2 p = .ok q) (hp : p ≤ k) : endF (l.take k) 2 p = if k < p + 2 then .error 92 else .ok q := by
  have hl : (l.take k).length = k := by rw [List.length_take]; omega
  have h1 := end_le h
  simp only [endF, Nat.one_ne_zero, if_false, if_true] at h ⊢
  rw [if_pos (show p < l.length by omega)] at h
  rw [hl]
  by_cases c1 : p < k
  · rw [if_pos c1, rd_take l k p c1]
    by_cases c2 : rd l (p : Int) = 13
    · rw [if_pos c2] at h ⊢
      rw [if_pos (show p + 1 < l.length by omega)] at h
      by_cases c3 : p + 1 < k
      · rw [if_pos c3, rd_take l k (p + 1) c3, if_neg (show ¬ k < p + 2 by omega)]; exact h
      · rw [if_neg c3, if_pos (by omega)]
    · rw [if_neg c2] at h; cases h
  · rw [if_neg c1, if_pos (by omega)]
theorem body_cut (okb okf : ByteArray → Bool) (l : List Int) (k : Nat) (hk : k ≤ l.length) : ∀ (d p : Nat) (out o : List Int) (q e : Nat), bodyF okb okf l d p out = .ok (o, q) → p ≤ k → k < q → k - p < e → bodyF okb okf (l.take k) e p out = .error 92
  | 0, p, out, o, q, e, h, _, _, _ => by rw [bodyF] at h; cases h
  | d + 1, p, out, o, q, e, h, hp, hq, he => by
    obtain ⟨e, rfl⟩ : ∃ e', e = e' + 1 := ⟨e - 1, by omega⟩
    rw [bodyF] at h ⊢
    cases h1 : lineL 0 (l.drop p) with
    | error x => rw [h1] at h; cases h
    | ok sr =>
      obtain ⟨s, r⟩ := sr
      rw [h1] at h
      simp only [] at h
      by_cases h2 : s.length + 2 ≤ k - p
      · obtain ⟨k1, k2, k3⟩ := take_drop_len l p k s r hk hp h1 h2
        rw [k1]
        simp only []
        rw [k2]
        cases h3 : lenAt okb (strOfNums s) (strOfNums s).size 0 0 with
        | error x => rw [h3] at h; cases h
        | ok n =>
          rw [h3] at h
          simp only [] at h ⊢
          have hl : (l.take k).length = k := by rw [List.length_take]; omega
          by_cases c1 : n = 0
          · rw [if_pos c1] at h ⊢
            cases h4 : trailF okf l (l.length + 1) 0 (l.length - r.length) with
            | error x => rw [h4] at h; cases h
            | ok q' =>
              rw [h4] at h
              simp only [Except.ok.injEq, Prod.mk.injEq] at h
              rw [trail_cut okf l k hk _ 0 _ q' _ h4 (by omega) (by omega) (by rw [hl]; omega)]
          · rw [if_neg c1] at h ⊢
            by_cases c2 : ¬ n ≤ 65536 - (out.length : Int)
            · rw [if_pos c2] at h; cases h
            · rw [if_neg c2] at h ⊢
              by_cases c3 : ¬ n ≤ (l.length : Int) - ((l.length - r.length : Nat) : Int)
              · rw [if_pos c3] at h; cases h
              · rw [if_neg c3] at h
                by_cases c4 : ¬ n ≤ ((l.take k).length : Int) - ((l.length - r.length : Nat) : Int)
                · rw [if_pos c4]
                · rw [if_neg c4]
                  rw [hl] at c4
                  have hn0 := (len_range _ _ _ _ h3 (by omega) (by simp) (by omega)).1
                  cases h4 : endF l 2 (l.length - r.length + n.toNat) with
                  | error x => rw [h4] at h; cases h
                  | ok q' =>
                    have he1 := end_le h4
                    rw [h4] at h
                    simp only [] at h
                    rw [end_cut l k hk _ q' h4 (by omega)]
                    by_cases c5 : k < l.length - r.length + n.toNat + 2
                    · rw [if_pos c5]
                    · rw [if_neg c5]
                      simp only []
                      rw [List.take_take, Nat.min_eq_left (by omega)]
                      exact body_cut okb okf l k hk d q' _ o q e h (by omega) hq (by omega)
      · rw [show lineL 0 ((l.take k).drop p) = .error 92 from by rw [List.drop_take]; exact line_cut _ _ _ _ _ h1 (by omega)]
/-- What is cut off isn't all there. -/
theorem open_cut (okb okf : ByteArray → Bool) (l out : List Int) (k : Nat) (h : openF okb okf l = (out, (l.length : Int), 0)) (hk : k < l.length) : openF okb okf (l.take k) = ([], 0, 92) := by
  unfold openF at h ⊢
  cases h1 : bodyF okb okf l (l.length + 1) 0 [] with
  | error x =>
    rw [h1] at h
    simp only [Prod.mk.injEq] at h
    omega
  | ok oq =>
    obtain ⟨o, q⟩ := oq
    rw [h1] at h
    simp only [Prod.mk.injEq] at h
    have hl : (l.take k).length = k := by rw [List.length_take]; omega
    rw [body_cut okb okf l k (by omega) _ 0 [] o q _ h1 (by omega) (by omega) (by rw [hl]; omega)]
end Go.Proofs.YtibgcbngnfaaiaaDoor.H

namespace Go.Proofs.YtibgcbngnfaaiaaDoor.H
open Go.RowKit Go.Proofs.YtibgcbngnfaaiaaDoorW.PrintWords Go.Proofs.YtibgcbngnfaaiaaDoorW.PrintLast Go.Proofs.YtibgcbngnfaaiaaDoorW.PrintMore
set_option linter.unusedVariables false
set_option linter.unusedSimpArgs false

theorem hexL_length' : ∀ (k u : Nat), (hexL k u).length ≤ k := hexL_length
theorem strOf_app (a b : List Int) : strOfNums a ++ strOfNums b = strOfNums (a ++ b) := by
  have h : (strOfNums a ++ strOfNums b).data.toList = (strOfNums (a ++ b)).data.toList := by
    rw [strOfNums_data, List.map_append, ← strOfNums_data, ← strOfNums_data]; simp
  exact ByteArray.ext (Array.toList_inj.1 h)
theorem hexcut (d : Nat) (h : d < 16) : (⟨#[48, 49, 50, 51, 52, 53, 54, 55, 56, 57, 97, 98, 99, 100, 101, 102]⟩ : ByteArray).extract d (d + 1) = strOfNums [hexD d] := by
  have : ∀ d : Fin 16, (⟨#[48, 49, 50, 51, 52, 53, 54, 55, 56, 57, 97, 98, 99, 100, 101, 102]⟩ : ByteArray).extract d.1 (d.1 + 1) = strOfNums [hexD d.1] := by decide +kernel
  exact this ⟨d, h⟩

set_option maxHeartbeats 1000000 in
theorem hextext_calls : ∀ (k u : Nat) (w : World), k ≤ 1000 → u < 16 ^ (k + 1) → u ≤ 9223372036854775807 →
    Calls Tryd.prog 38 #[.int .i64 u] w fun e w' => e = .returned (.string (strOfNums (hexL (k + 1) u))) ∧ Drawn0 w w' := by
  intro k
  induction k with
  | zero =>
    intro u w hk h h2
    have hu : u < 16 := by omega
    have HC := Aside0.mk (hexcut u hu)
    have HL := Aside0.mk (hexL_small 0 u hu)
    have h1 : decide ((u : Int) < 16) = true := by simp; omega
    go_enter Tryd.func38, Tryd.ntmps38
    go_wp2
    go_ret
    exact ⟨by rw [HL.out, ← HC.out]; rfl, Drawn0.refl _⟩
  | succ k ih =>
    intro u w hk h h2
    by_cases hu : u < 16
    · have HC := Aside0.mk (hexcut u hu)
      have HL := Aside0.mk (hexL_small (k + 1) u hu)
      have h1 : decide ((u : Int) < 16) = true := by simp; omega
      clear ih h
      go_enter Tryd.func38, Tryd.ntmps38
      go_wp2
      go_ret
      exact ⟨by rw [HL.out, ← HC.out]; rfl, Drawn0.refl _⟩
    · have HC := Aside0.mk (hexcut (u % 16) (by omega))
      have HL := Aside0.mk (hexL_great (k + 1) u hu)
      have h1 : decide ((u : Int) < 16) = false := by simp; omega
      have HI : Aside0 (∀ w, Calls Tryd.prog 38 #[.int .i64 ((u / 16 : Nat) : Int)] w fun e w' => e = .returned (.string (strOfNums (hexL (k + 1) (u / 16)))) ∧ Drawn0 w w') :=
        ⟨fun w => ih (u / 16) w (by omega) (by rw [Nat.div_lt_iff_lt_mul (by omega)]; rw [Nat.pow_succ] at h; exact h) (by omega)⟩
      obtain ⟨q, hq⟩ : ∃ q, u / 16 = q := ⟨_, rfl⟩
      obtain ⟨r, hr⟩ : ∃ r, u % 16 = r := ⟨_, rfl⟩
      rw [hq] at HI HL
      rw [hr] at HC HL
      have hq1 : (u : Int) / 16 = (q : Int) := by omega
      have hr1 : (u : Int) % 16 = (r : Int) := by omega
      have hr2 : r < 16 := by omega
      have hw1 : IntKind.i64.wrap ((u : Int).tdiv 16) = (q : Int) := by
        rw [Int.tdiv_eq_ediv_of_nonneg (by omega), hq1]; exact IntWalk.i64_in _ (by omega)
      have hw2 : IntKind.i64.wrap ((u : Int).tmod 16) = (r : Int) := by
        rw [Int.tmod_eq_emod_of_nonneg (by omega), hr1]; exact IntWalk.i64_in _ (by omega)
      have hv1 : IntKind.i64.wrap ((u : Int) / 16) = (q : Int) := by rw [hq1]; exact IntWalk.i64_in _ (by omega)
      have hv2 : IntKind.i64.wrap ((u : Int) % 16) = (r : Int) := by rw [hr1]; exact IntWalk.i64_in _ (by omega)
      have hv3 : (u : Int).tmod 16 = (r : Int) := by rw [Int.tmod_eq_emod_of_nonneg (by omega), hr1]
      have hw3 : IntKind.i64.wrap ((r : Int) + 1) = (r : Int) + 1 := IntWalk.i64_in _ (by omega)
      have hb1 : (0 : Int) ≤ (r : Int) + 1 := by omega
      have hb2 : ((r : Int) + 1).toNat = r + 1 := by omega
      have hb3 : (r : Int) + 1 ≤ 16 := by omega
      have hb4 : r + 1 ≤ 16 := by omega
      have hb5 : (r : Int) ≤ (r : Int) + 1 := by omega
      have hlen := hexL_length (k + 1) q
      have hb6 : ¬ 9223372036854775807 < (strOfNums (hexL (k + 1) q)).size + 1 := by rw [strOfNums_size]; omega
      have hb7 : (strOfNums (hexL (k + 1) q)).size + 1 ≤ 9223372036854775807 := by omega
      clear ih h hq hr hq1 hr1 hlen
      go_enter Tryd.func38, Tryd.ntmps38
      go_wp2
      go_quiet ((go_at_call 38; (with_reducible refine (HI.out _).mono ?_); rintro e w' ⟨rfl, ⟨nd, rfl⟩⟩; exact ⟨rfl, _, World.drewN_drewN _ _ _⟩))
      go_wp2
      go_ret
      exact ⟨by rw [HL.out, ← strOf_app, ← HC.out]; rfl, ⟨_, rfl⟩⟩
end Go.Proofs.YtibgcbngnfaaiaaDoor.H

namespace Go.Proofs.YtibgcbngnfaaiaaDoor.H
open Go.RowKit Go.Proofs.YtibgcbngnfaaiaaDoorW.PrintWords Go.Proofs.YtibgcbngnfaaiaaDoorW.PrintLast Go.Proofs.YtibgcbngnfaaiaaDoorW.PrintMore
attribute [local go_sem] max2_int min2_int
set_option linter.unusedVariables false
set_option linter.unusedSimpArgs false

section
variable {P : Program} {ops : Array Oper} {o : Oper} {a : Act} {w : World} {K : Act → World → Prop} {Q : Exit → Act → World → Prop} {E : Prop}
/-- append(row, s...), s a string, as one step of a region that draws. -/
theorem step_app_str (base : Nat) (hg : o.guard = none) (s x : Operand) (t u e : TypeId) (ho : o.op = .call { callee := .builtin .append, args := #[s, x], argTypes := #[t, u] })
    (ht : P.underlying t = some (.slice e)) (hu : P.underlying u = some .string) (hinfo : (P.info? e).map (fun i => (i.zero, i.size, i.bytes)) = some (some (.int .u8 0), 1, 1))
    (v : Value) (xs ys : List Int) (y : ByteArray) (hy : bytesOf y = ys) (hs : a.eval s = v) (hx : a.eval x = .string y)
    (HO : w.ownsRow base e 1 v xs.length (nums .u8 xs)) (hbase : base ≤ w.heap.size) (hl : xs.length + y.size ≤ 140737488355328)
    (h : ∀ v1 w1, w1.ownsRow base e 1 v1 (xs ++ ys).length (nums .u8 (xs ++ ys)) → Below base w w1 → K (a.put o.dst v1) w1) :
    if Region.wanted o (yielded ops a.tmps) = true then Oper.wp P o a w K Q else E := by
  subst hy
  obtain ⟨i0, hi, hzz⟩ := Option.map_eq_some_iff.1 hinfo
  simp only [Prod.mk.injEq] at hzz
  obtain ⟨hz0, hz1, hz2⟩ := hzz
  obtain ⟨v', w', hr, h2, h3, h4⟩ := Lib.run_append_own_string (P := P) w base t u o.type e i0 ht hu hi hz0 hz1 hz2 v xs.length (nums .u8 xs) HO y (by simp only [maxLen]; omega) hl hbase
  refine want hg (wp_value (v := v') (w' := w') ?_ (h v' w' ?_ ((Below.refl base w).grown h3 hbase (own_base HO))))
  · simp [execOp, ho, resolve, invoke, builtin, hs, hx, hr, Result.andThen]
  · have hc : nums .u8 (xs ++ bytesOf y) = nums .u8 xs ++ Lib.strCells y := by
      rw [nums_append]
      simp [bytesOf, Lib.strCells, nums]
    rw [List.length_append, bytesOf_length, hc]
    exact h2
/-- append(row, another...), the other one read. -/
theorem step_app_row (base : Nat) (hg : o.guard = none) (s x : Operand) (t e : TypeId) (ho : o.op = .call { callee := .builtin .append, args := #[s, x], argTypes := #[t, t] })
    (ht : P.underlying t = some (.slice e)) (hinfo : (P.info? e).map (fun i => (i.zero, i.size, i.bytes)) = some (some (.int .u8 0), 1, 1))
    (v : Value) (xs ys : List Int) (A : Option Addr) (m c : Nat) (hs : a.eval s = v) (hx : a.eval x = .slice A m c)
    (HO : w.ownsRow base e 1 v xs.length (nums .u8 xs)) (HR : ReadsInt w .u8 A m ys) (hbase : base ≤ w.heap.size) (hl : xs.length + m ≤ 140737488355328)
    (h : ∀ v1 w1, w1.ownsRow base e 1 v1 (xs ++ ys).length (nums .u8 (xs ++ ys)) → Below base w w1 → K (a.put o.dst v1) w1) :
    if Region.wanted o (yielded ops a.tmps) = true then Oper.wp P o a w K Q else E := by
  obtain ⟨i0, hi, hzz⟩ := Option.map_eq_some_iff.1 hinfo
  simp only [Prod.mk.injEq] at hzz
  obtain ⟨hz0, hz1, hz2⟩ := hzz
  obtain ⟨v1, w1, hr, h1, h2⟩ : ∃ v1 w1, (Builtin.append_ #[t, t] o.type #[v, .slice A m c]).run P w = .ok v1 w1 ∧ w1.ownsRow base e 1 v1 (xs ++ ys).length (nums .u8 (xs ++ ys)) ∧ w.grownBy w1 v.ownBlock := by
    rcases A with _ | ad
    · have h0 : m = 0 := by
        rcases Nat.eq_zero_or_pos m with h0 | h0
        · exact h0
        · obtain ⟨_, h1, _⟩ := HR.2.2 h0
          cases h1
      subst h0
      obtain rfl : ys = [] := List.eq_nil_of_length_eq_zero HR.1
      refine ⟨v, w, ?_, by simpa using HO, World.grownBy.refl w _⟩
      rcases HO.2 with ⟨rfl, hn⟩ | ⟨g, cap, cur, rfl, _, _, hnc, _⟩
      · simp [Builtin.append_, run_underlying ht, sizeOf, typeInfo, hi, Builtin.lenOf, Builtin.firstCells]
      · simp [Builtin.append_, run_underlying ht, sizeOf, typeInfo, hi, Builtin.lenOf, Builtin.firstCells, hnc, storeCells]
    · have hm := HR.1
      have hcells : ∀ j u, (nums .u8 ys)[j]? = some u → w.cell? (ad.add j) = some u := by
        intro j u hu
        have hj : j < m := by
          rcases Nat.lt_or_ge j m with h | h
          · exact h
          · simp [nums, List.getElem?_eq_none (show ys.length ≤ j by omega)] at hu
        obtain ⟨ad', h', hc⟩ := HR.2.2 (by omega)
        injection h' with h'
        subst h'
        rw [hc j hj]
        simp [nums, List.getElem?_eq_getElem (show j < ys.length by omega)] at hu
        simp [List.getD_eq_getElem?_getD, List.getElem?_eq_getElem (show j < ys.length by omega), hu]
      obtain ⟨v1, w1, hr, h2, h3, _, _⟩ := run_append_own_at (P := P) w base t o.type e i0 (.int .u8 0) 1 1 ht hi hz0 hz1 hz2 rfl (by omega) v xs.length (nums .u8 xs) HO ad m c (nums .u8 ys) (by simp [nums, hm]) hcells
        (by intro u hu; simp only [nums, List.mem_map] at hu; obtain ⟨q, _, rfl⟩ := hu; rfl) (by simp only [maxLen]; omega) (by omega) hbase
      exact ⟨v1, w1, hr, by simpa [nums, hm] using h2, h3⟩
  refine want hg (wp_value (v := v1) (w' := w1) ?_ (h v1 w1 h1 ((Below.refl base w).grown h2 hbase (own_base HO))))
  simp [execOp, ho, resolve, invoke, builtin, hs, hx, hr, Result.andThen]
end

theorem cut_at {w : World} {A : Option Addr} {c : Nat} {l : List Int} (hr : ReadsInt w .u8 A l.length l) (hc : l.length ≤ c) (n : Nat) (hn : n ≤ l.length) :
    ∃ A2 c2 tk dr, l.take n = tk ∧ l.drop n = dr ∧ (∀ W : World, (Instr.slice 22 (.slice A l.length c) none (some (.int .i64 (n : Int))) none).run Tryd.prog W = .ok (.slice A tk.length c) W) ∧
      (∀ W : World, (Instr.slice 22 (.slice A l.length c) (some (.int .i64 (n : Int))) none none).run Tryd.prog W = .ok (.slice A2 dr.length c2) W) ∧
      ReadsInt w .u8 A tk.length tk ∧ tk.length ≤ c ∧ ReadsInt w .u8 A2 dr.length dr ∧ dr.length ≤ c2 := by
  obtain ⟨i0, hi0, _, hsz, _⟩ := info_parts i5
  obtain ⟨h1, h2, h3⟩ := print_take_int (P := Tryd.prog) (k := .u8) 22 5 Tryd.underlying22 hi0 hsz A c l (n : Int) (by omega) (by omega) hc
  obtain ⟨A2, k1, k2, k3⟩ := print_drop_of (P := Tryd.prog) (Value.int .u8) 0 22 5 .i64 Tryd.underlying22 hi0 hsz A c l (n : Int) (by omega) (by omega) hc
  simp only [Int.toNat_natCast] at h1 h2 h3 k1 k2 k3
  exact ⟨A2, _, _, _, rfl, rfl, h1, k1, h2 w hr, h3, k2 w hr, k3⟩

def slen : Value → Nat | .slice _ n _ => n | _ => 0
theorem bytesF_nil (size : Int) : bytesF [] size = [48, 13, 10, 13, 10] := by
  have h : ((max size 1).toNat - 1) / (max size 1).toNat = 0 := Nat.div_eq_of_lt (by omega)
  rw [bytesF_parts]
  simp [h, partsOf, chunksOf]
theorem bytesF_cons (l : List Int) (size : Int) (h : 0 < l.length) : bytesF l size = chunkE (l.take (max size 1).toNat) ++ bytesF (l.drop (max size 1).toNat) size := by
  obtain ⟨sz, hsz, h1⟩ : ∃ sz, (max size 1).toNat = sz ∧ 1 ≤ sz := ⟨_, rfl, by omega⟩
  rw [bytesF_parts, bytesF_parts, hsz]
  have e : (l.length + sz - 1) / sz = ((l.drop sz).length + sz - 1) / sz + 1 := by
    rw [List.length_drop]
    rcases Nat.lt_or_ge sz l.length with h2 | h2
    · rw [show l.length + sz - 1 = (l.length - sz + sz - 1) + sz from by omega, Nat.add_div_right _ (by omega)]
    · rw [show l.length - sz = 0 from by omega, show l.length + sz - 1 = (l.length - 1) + sz from by omega, Nat.add_div_right _ (by omega), Nat.div_eq_of_lt (by omega), Nat.div_eq_of_lt (by omega)]
  rw [e]
  unfold partsOf chunksOf
  rw [List.range_succ_eq_map]
  simp only [List.map_cons, List.map_map, List.flatten_cons, Nat.zero_mul, List.drop_zero, List.append_assoc]
  congr 3
  refine List.map_congr_left fun k _ => ?_
  simp only [Function.comp_apply, List.drop_drop, Nat.succ_eq_add_one]
  rw [show sz + k * sz = (k + 1) * sz from by rw [Nat.add_mul]; omega]
theorem chunkE_len (b : List Int) : (chunkE b).length ≤ b.length + 21 := by
  have h1 := hexL_length 17 b.length
  simp only [chunkE, List.length_append, List.length_cons, List.length_nil]
  omega
theorem bytesF_len (l : List Int) (size : Int) : ∀ n, l.length = n → (bytesF l size).length ≤ n * 22 + 5 := by
  intro n
  induction n using Nat.strongRecOn generalizing l with
  | ind n ih =>
    intro hn
    rcases Nat.eq_zero_or_pos l.length with h | h
    · obtain rfl := List.eq_nil_of_length_eq_zero h
      rw [bytesF_nil]; simp
    · rw [bytesF_cons l size h, List.length_append]
      obtain ⟨sz, hsz, h1⟩ : ∃ sz, (max size 1).toNat = sz ∧ 1 ≤ sz := ⟨_, rfl, by omega⟩
      rw [hsz]
      have h2 := ih (l.drop sz).length (by rw [List.length_drop]; omega) (l.drop sz) rfl
      have h3 := chunkE_len (l.take sz)
      rw [List.length_take] at h3
      rw [List.length_drop] at h2
      omega

set_option maxHeartbeats 4000000 in
set_option maxRecDepth 100000 in
theorem rbytes_calls (A : Option Addr) (c : Nat) (l : List Int) (size : Int) (w : World) (hr : ReadsInt w .u8 A l.length l) (hl : l.length ≤ 1048576) (hc : l.length ≤ c) (hs : size ≤ 9223372036854775807) :
    Calls Tryd.prog 17 #[.slice A l.length c, .int .i64 size] w fun e w' => ∃ v, e = .returned v ∧ w'.ownsRow w.heap.size 5 1 v (bytesF l size).length (nums .u8 (bytesF l size)) ∧ Below w.heap.size w w' := by
  have HR := Aside0.mk hr
  have hbl := bytesF_len l size _ rfl
  obtain ⟨bf, hbf⟩ : ∃ bf, bytesF l size = bf := ⟨_, rfl⟩
  rw [hbf] at hbl ⊢
  have HBF := Aside0.mk hbf
  have HBL : Aside0 (bf.length ≤ 100000000) := ⟨by omega⟩
  clear hr hbl hbf
  obtain ⟨sz, hsz, hsz1, hsz2, hsz3⟩ : ∃ sz : Nat, (max size 1 = (sz : Int)) ∧ 1 ≤ sz ∧ sz ≤ 9223372036854775807 ∧ (max size 1).toNat = sz := ⟨(max size 1).toNat, by omega, by omega, by omega, rfl⟩
  have HSZ := Aside0.mk hsz3
  clear hsz3
  go_enter Tryd.func17, Tryd.ntmps17
  go_wp2
  clear hsz
  go_loopw [0, 5] (fun v0 v5 wr => ∃ (l1 outl : List Int) (A1 : Option Addr) (c1 : Nat), v0 = .slice A1 l1.length c1 ∧ l1.length ≤ 1048576 ∧ Aside0 (l1.length ≤ c1) ∧ Aside0 (ReadsInt w .u8 A1 l1.length l1) ∧ Aside0 (wr.ownsRow w.heap.size 5 1 v5 outl.length (nums .u8 outl)) ∧ Aside0 (Below w.heap.size w wr) ∧ Aside0 (outl ++ bytesF l1 size = bf)) (fun v0 _ _ => slen v0)
  case atStart => exact ⟨l, [], A, c, rfl, hl, ⟨hc⟩, HR, ⟨World.ownsRow_nil _ _ _ _⟩, ⟨Below.refl _ _⟩, ⟨by rw [List.nil_append]; exact HBF.out⟩⟩
  case round =>
    obtain ⟨l1, outl, A1, c1, rfl, hl1, hc1, hr1, ho1, hb1, he1⟩ := hrel
    by_cases h0 : 0 < l1.length
    · have h0' : decide ((0 : Int) < (l1.length : Int)) = true := by simp; omega
      obtain ⟨n, hn, hn1, hn2, hn3⟩ : ∃ n : Nat, (min (sz : Int) (l1.length : Int)) = (n : Int) ∧ 1 ≤ n ∧ n ≤ l1.length ∧ n = min sz l1.length := ⟨min sz l1.length, by omega, by omega, by omega, rfl⟩
      obtain ⟨A2, c2, tk, dr, htk, hdr, hrun1, hrun2, hrt, hct, hrd, hcd⟩ := cut_at hr1.out hc1.out n hn2
      have hbt : (⟨n, by omega⟩ : Fin (l1.length + 1)).1 = n := rfl
      have HTL : Aside0 (tk.length = n) := ⟨by rw [← htk, List.length_take]; omega⟩
      have HDL : Aside0 (dr.length = l1.length - n) := ⟨by rw [← hdr, List.length_drop]⟩
      have HBL2 : Aside0 (outl ++ (chunkE tk ++ bytesF dr size) = bf) := ⟨by
        have e := bytesF_cons l1 size h0
        have et : l1.take sz = l1.take n := by
          rw [hn3]; rcases Nat.le_total sz l1.length with h | h
          · rw [Nat.min_eq_left h]
          · rw [Nat.min_eq_right h, List.take_of_length_le h, List.take_of_length_le (Nat.le_refl _)]
        have ed : l1.drop sz = l1.drop n := by
          rw [hn3]; rcases Nat.le_total sz l1.length with h | h
          · rw [Nat.min_eq_left h]
          · rw [Nat.min_eq_right h, List.drop_of_length_le h, List.drop_of_length_le (Nat.le_refl _)]
        rw [HSZ.out, et, ed, htk, hdr] at e
        rw [← e]; exact he1.out⟩
      have HRT := Aside0.mk hrt
      have HRD := Aside0.mk hrd
      have HCD := Aside0.mk hcd
      have HHT : Aside0 (∀ w, Calls Tryd.prog 38 #[.int .i64 (n : Int)] w fun e w' => e = .returned (.string (strOfNums (hexL 17 n))) ∧ Drawn0 w w') := ⟨fun w => hextext_calls 16 n w (by omega) (by omega) (by omega)⟩
      clear hbt hn3 htk hdr hct hrt hrd hcd
      have HBS := Aside0.mk hb1.out.size
      have HOL : Aside0 (outl.length ≤ 100000000) := ⟨by
        have e1 := congrArg List.length HBL2.out
        have e2 := HBL.out
        have e3 := HTL.out
        simp only [List.length_append, chunkE, List.length_cons, List.length_nil] at e1
        omega⟩
      have hx1 := hexL_length 17 n
      have HL1 : Aside0 (outl.length + (strOfNums (hexL 17 n)).size ≤ 140737488355328) := ⟨by
        rw [strOfNums_size]; have := HOL.out; omega⟩
      have HL2 : Aside0 ((outl ++ hexL 17 n).length + (ByteArray.mk #[13, 10]).size ≤ 140737488355328) := ⟨by
        rw [List.length_append]; have := HOL.out; have e : (ByteArray.mk #[13, 10]).size = 2 := rfl; omega⟩
      have HL3 : Aside0 ((outl ++ hexL 17 n ++ [13, 10]).length + tk.length ≤ 140737488355328) := ⟨by
        rw [List.length_append, List.length_append]; have := HOL.out; have := HTL.out; simp only [List.length_cons, List.length_nil]; omega⟩
      clear hx1
      go_wp2
      go_region_law (first
        | (refine step_app_str w.heap.size rfl (.tmp 16) (.tmp 18) 22 9 5 rfl Tryd.underlying22 Tryd.underlying9 j5' _ outl (hexL 17 n) _ (hexL_bytes n) rfl rfl HO2.out HB2.out.size HL1.out ?_; intro v3 w3 ho3 hb3; have HO3 := Aside0.mk ho3; have HB3 := Aside0.mk (HB2.out.trans hb3); clear ho3 hb3)
        | (refine step_app_str w.heap.size rfl (.tmp 19) (.const (Value.string { data := #[13, 10] })) 22 9 5 rfl Tryd.underlying22 Tryd.underlying9 j5' _ (outl ++ hexL 17 n) [13, 10] _ (by rfl) rfl rfl HO3.out HB3.out.size HL2.out ?_; intro v4 w4 ho4 hb4; have HO4 := Aside0.mk ho4; have HB4 := Aside0.mk (HB3.out.trans hb4); clear ho4 hb4)
        | (refine step_app_row w.heap.size rfl (.tmp 20) (.tmp 23) 22 5 rfl Tryd.underlying22 j5' _ (outl ++ hexL 17 n ++ [13, 10]) tk A1 tk.length c1 rfl rfl HO4.out (HRT.out.below (HB4.out.mono (Nat.le_refl _))) HB4.out.size HL3.out ?_; intro v5 w5 ho5 hb5; have HO5 := Aside0.mk ho5; have HB5 := Aside0.mk (HB4.out.trans hb5); clear ho5 hb5)
        | (go_simp; go_at_call 38; (with_reducible refine (HHT.out _).mono ?_); rintro e w2 ⟨rfl, hd2⟩; have HB2 := Aside0.mk ((below_drew hb1.out).trans (hd2.below.mono (below_drew hb1.out).size)); have HO2 := Aside0.mk (pw_own_below (pw_own_below ho1.out (below_drew (Below.refl _ _))) hd2.below); clear hd2))
      have HL5 : Aside0 ((outl ++ hexL 17 n ++ [13, 10] ++ tk).length + (ByteArray.mk #[13, 10]).size ≤ 140737488355328) := ⟨by
        rw [List.length_append]; have h1 := HOL.out; have h2 := HTL.out; have h3 := HL3.out; have e : (ByteArray.mk #[13, 10]).size = 2 := rfl
        have h4 := hexL_length 17 n
        simp only [List.length_append, List.length_cons, List.length_nil] at h3 ⊢; omega⟩
      have HE : Aside0 (outl ++ hexL 17 n ++ [13, 10] ++ tk ++ bytesOf (ByteArray.mk #[13, 10]) = outl ++ chunkE tk) := ⟨by
        have e : bytesOf (ByteArray.mk #[13, 10]) = [13, 10] := rfl
        rw [e]; simp [chunkE, HTL.out]⟩
      go_wp2_with (at_builtin; refine print_append_str (w0 := w) w.heap.size rfl (.tmp 25) (.const (Value.string { data := #[13, 10] })) 22 9 5 rfl Tryd.underlying22 Tryd.underlying9 j5' _ (outl ++ hexL 17 n ++ [13, 10] ++ tk) _ rfl rfl HO5.out HB5.out HB5.out.size HL5.out ?_; intro v6 w6 ho6 hb6 hg6; clear hg6; rw [HE.out] at ho6; replace ho6 := Aside0.mk ho6; replace hb6 := Aside0.mk hb6)
      go_roundw
      case rel => exact ⟨dr, outl ++ chunkE tk, A2, c2, rfl, by have := HDL.out; omega, HCD, HRD, ho6, hb6, ⟨by rw [List.append_assoc]; exact HBL2.out⟩⟩
      case measure => have := HDL.out; show dr.length < l1.length; omega
    · have h0' : decide ((0 : Int) < (l1.length : Int)) = false := decide_eq_false (by omega)
      have hz : l1.length = 0 := by omega
      obtain rfl := List.eq_nil_of_length_eq_zero hz
      clear hz h0
      have HF : Aside0 (outl ++ [48, 13, 10, 13, 10] = bf) := ⟨by have := he1.out; rw [bytesF_nil] at this; exact this⟩
      have HL4 : Aside0 (outl.length + (ByteArray.mk #[48, 13, 10, 13, 10]).size ≤ 140737488355328) := ⟨by
        have e1 := congrArg List.length HF.out
        have e2 := HBL.out
        simp only [List.length_append] at e1
        have e : (ByteArray.mk #[48, 13, 10, 13, 10]).size = 5 := rfl
        omega⟩
      go_wp2_with (at_builtin; refine print_append_str (w0 := w) w.heap.size rfl (.tmp 30) (.const (Value.string { data := #[48, 13, 10, 13, 10] })) 22 9 5 rfl Tryd.underlying22 Tryd.underlying9 j5' _ outl _ rfl rfl ho1.out hb1.out hb1.out.size HL4.out ?_; intro v6 w6 ho6 hb6 hg6; clear hg6; rw [show outl ++ bytesOf (ByteArray.mk #[48, 13, 10, 13, 10]) = bf from HF.out] at ho6; replace ho6 := Aside0.mk ho6; replace hb6 := Aside0.mk hb6)
      go_ret
      exact ⟨_, rfl, ho6.out, hb6.out⟩
end Go.Proofs.YtibgcbngnfaaiaaDoor.H

namespace Go.Proofs.YtibgcbngnfaaiaaDoor.H
open Go.RowKit Go.Proofs.YtibgcbngnfaaiaaDoorW.PrintWords Go.Proofs.YtibgcbngnfaaiaaDoorW.PrintLast Go.Proofs.YtibgcbngnfaaiaaDoorW.PrintMore Go.Proofs.YtibgcbngnfaaiaaDoor.PA
set_option linter.unusedVariables false
set_option linter.unusedSimpArgs false

theorem own_reads3 {w : World} {base : Nat} {v : Value} {xs : List Int} (ho : w.ownsRow base 5 1 v xs.length (nums .u8 xs)) : ∃ A1 c1, v = .slice A1 xs.length c1 ∧ xs.length ≤ c1 ∧ ReadsInt w .u8 A1 xs.length xs := by
  obtain ⟨A1, c1, rfl, h1, h2⟩ := Kd.R_reads (Kd.R_of_own (enc := Value.int .u8) (h1 := fun _ => rfl) (ok := fun _ => True) ho (fun _ _ => trivial))
  exact ⟨A1, c1, rfl, h1, Kd.reads_of_C h2⟩
theorem bytes_calls' (A : Option Addr) (c : Nat) (l : List Int) (size : Int) (w : World) (hr : ReadsInt w .u8 A l.length l) (hl : l.length ≤ 1048576) (hc : l.length ≤ c) (hs : size ≤ 9223372036854775807) (hT : Tz w) (b : List Int) (h : bytesF l size = b) :
    Calls Tryd.prog 14 #[.slice A l.length c, .int .i64 size] w fun e w' => ∃ A1 c1, e = .returned (.slice A1 b.length c1) ∧ b.length ≤ c1 ∧ ReadsInt w' .u8 A1 b.length b ∧ Below w.heap.size w w' := by
  subst h
  refine (bytes_calls A c l size w hr hl hc hs hT).mono ?_
  rintro e w' ⟨v, rfl, ho, hb⟩
  obtain ⟨A1, c1, rfl, h1, h2⟩ := own_reads3 ho
  exact ⟨A1, c1, rfl, h1, h2, hb⟩
theorem rbytes_calls' (A : Option Addr) (c : Nat) (l : List Int) (size : Int) (w : World) (hr : ReadsInt w .u8 A l.length l) (hl : l.length ≤ 1048576) (hc : l.length ≤ c) (hs : size ≤ 9223372036854775807) (b : List Int) (h : bytesF l size = b) :
    Calls Tryd.prog 17 #[.slice A l.length c, .int .i64 size] w fun e w' => ∃ A1 c1, e = .returned (.slice A1 b.length c1) ∧ b.length ≤ c1 ∧ ReadsInt w' .u8 A1 b.length b ∧ Below w.heap.size w w' := by
  subst h
  refine (rbytes_calls A c l size w hr hl hc hs).mono ?_
  rintro e w' ⟨v, rfl, ho, hb⟩
  obtain ⟨A1, c1, rfl, h1, h2⟩ := own_reads3 ho
  exact ⟨A1, c1, rfl, h1, h2, hb⟩
theorem open_calls2 (A : Option Addr) (c : Nat) (l : List Int) (w : World) (hr : ReadsInt w .u8 A l.length l) (hc : l.length ≤ c) (x : List Int) (n f : Int) (h : openF okbS okfS l = (x, n, f)) :
    Calls Tryd.prog 15 #[.slice A l.length c] w fun e w' => ∃ A1 c1, e = .returned (.tuple #[.slice A1 x.length c1, .int .i64 n, .int .i64 f]) ∧ x.length ≤ c1 ∧ ReadsInt w' .u8 A1 x.length x ∧ Below w.heap.size w w' :=
  open_calls' A c l w hr hc (x, n, f) h

set_option maxHeartbeats 4000000 in
set_option maxRecDepth 100000 in
theorem chunkBack_calls (A : Option Addr) (c : Nat) (l : List Int) (A2 : Option Addr) (c2 : Nat) (l2 : List Int) (size : Int) (hs : size ≤ 9223372036854775807) (w : World) (hr : ReadsInt w .u8 A l.length l) (hc : l.length ≤ c) (hr2 : ReadsInt w .u8 A2 l2.length l2) (hc2 : l2.length ≤ c2) (hT : Tz w) :
    Calls Tryd.prog 3 #[.slice A l.length c, .slice A2 l2.length c2, .int .i64 size] w fun e w' => e = .returned (.bool true) ∧ Below w.heap.size w w' := by
  have HR := Aside0.mk hr
  have HC := Aside0.mk hc
  have HR2 := Aside0.mk hr2
  have HC2 := Aside0.mk hc2
  have HT := Aside0.mk hT
  clear hr hc hr2 hc2 hT
  by_cases h1 : 2000 < l.length
  · have h1' : decide ((2000 : Int) < (l.length : Int)) = true := by simp; omega
    go_enter Tryd.func3, Tryd.ntmps3
    go_wp2_with (go_at_call 13; ((with_reducible refine (known11_calls _ HT.out).mono ?_); rintro e w1 ⟨rfl, hb1⟩))
    go_ret
    exact ⟨rfl, hb1⟩
  · have h1' : decide ((2000 : Int) < (l.length : Int)) = false := decide_eq_false (by omega)
    by_cases h2 : 100 < l2.length
    · have h2' : decide ((100 : Int) < (l2.length : Int)) = true := by simp; omega
      go_enter Tryd.func3, Tryd.ntmps3
      go_wp2_with (go_at_call 13; ((with_reducible refine (known11_calls _ HT.out).mono ?_); rintro e w1 ⟨rfl, hb1⟩))
      go_ret
      exact ⟨rfl, hb1⟩
    · have h2' : decide ((100 : Int) < (l2.length : Int)) = false := decide_eq_false (by omega)
      have ho := open_bytes okbS okfS l size l2 (by omega)
      have hbl := bytesF_len l size _ rfl
      obtain ⟨b, hb⟩ : ∃ b, bytesF l size = b := ⟨_, rfl⟩
      rw [hb] at ho hbl
      obtain ⟨bb, hbb⟩ : ∃ bb, b ++ l2 = bb := ⟨_, rfl⟩
      rw [hbb] at ho
      have HB := Aside0.mk hb
      have HBB := Aside0.mk hbb
      have HO := Aside0.mk ho
      have HBL : Aside0 (b.length ≤ 50000) := ⟨by omega⟩
      have HL : Aside0 (l.length ≤ 1048576) := ⟨by omega⟩
      have HL2 : Aside0 (l2.length ≤ 100) := ⟨by omega⟩
      clear hb hbb ho hbl
      go_enter Tryd.func3, Tryd.ntmps3
      go_wp2_with (first
        | (go_at_call 13; ((with_reducible refine (known11_calls _ HT.out).mono ?_); rintro e w1 ⟨rfl, hb1⟩; replace hb1 := Aside0.mk hb1))
        | (go_at_call 14; ((with_reducible refine (bytes_calls' A c l size _ (HR.out.below hb1.out) HL.out HC.out hs (tz_below HT.out hb1.out) b HB.out).mono ?_); rintro e w2 ⟨A3, c3, rfl, hc3, hr3, hb2⟩; replace hb2 := Aside0.mk (hb1.out.trans (hb2.mono hb1.out.size)); replace hc3 := Aside0.mk hc3; replace hr3 := Aside0.mk hr3))
        | (at_builtin; refine print_append_row (w0 := w2) w2.heap.size rfl (.const (Value.slice none 0 0)) (.tmp 25) 22 5 .u8 1 rfl Tryd.underlying22 j5' (by decide) _ [] b A3 b.length c3 rfl rfl (World.ownsRow_nil _ _ _ _) hr3.out (Below.refl _ _) (Nat.le_refl _) (by have := HBL.out; simp only [List.length_nil]; omega) ?_; intro v4 w4 ho4 hb4 hg4 hat4; clear hg4 hat4; rw [List.nil_append] at ho4; obtain ⟨A4, c4, rfl⟩ := own_slice ho4; replace ho4 := Aside0.mk ho4; replace hb4 := Aside0.mk hb4)
        | (at_builtin; refine print_append_row (w0 := w2) w2.heap.size rfl (.tmp 26) (.tmp 27) 22 5 .u8 1 rfl Tryd.underlying22 j5' (by decide) _ b l2 A2 l2.length c2 rfl rfl ho4.out ((HR2.out.below hb2.out).below hb4.out) hb4.out hb4.out.size (by have := HBL.out; have := HL2.out; omega) ?_; intro v5 w5 ho5 hb5 hg5 hat5; clear hg5 hat5; rw [HBB.out] at ho5; obtain ⟨A5, c5, rfl, hc5, hr5⟩ := own_reads3 ho5; clear ho5; replace hc5 := Aside0.mk hc5; replace hr5 := Aside0.mk hr5; replace hb5 := Aside0.mk hb5)
        | (go_at_call 15; ((with_reducible refine (open_calls2 A5 c5 bb _ hr5.out hc5.out _ _ _ HO.out).mono ?_); rintro e w6 ⟨A6, c6, rfl, hc6, hr6, hb6⟩; have hb26 := Aside0.mk (hb5.out.trans (hb6.mono hb5.out.size)); have hbw6 := Aside0.mk (hb2.out.trans (hb26.out.mono hb2.out.size)); clear hb6; replace hc6 := Aside0.mk hc6; replace hr6 := Aside0.mk hr6))
        | (go_at_call 17; ((with_reducible refine (rbytes_calls' A c l size _ (HR.out.below hbw6.out) HL.out HC.out hs b HB.out).mono ?_); rintro e w7 ⟨A7, c7, rfl, hc7, hr7, hb7⟩; replace hb7 := Aside0.mk hb7; replace hc7 := Aside0.mk hc7; replace hr7 := Aside0.mk hr7))
        | (go_at_call 16; ((with_reducible refine (same_bytes A3 A7 c3 c7 b _ ((hr3.out.below hb26.out).below hb7.out) hc3.out hr7.out hc7.out).mono ?_); rintro e w8 ⟨rfl, hd8⟩; replace hd8 := Aside0.mk hd8.below))
        | (go_at_call 16; ((with_reducible refine (same_bytes A6 A c6 c l _ ((hr6.out.below hb7.out).below hd8.out) hc6.out (((HR.out.below hbw6.out).below hb7.out).below hd8.out) HC.out).mono ?_); rintro e w9 ⟨rfl, hd9⟩)))
      go_ret
      have B7 := hbw6.out.trans (hb7.out.mono hbw6.out.size)
      have B8 := B7.trans (hd8.out.mono B7.size)
      exact ⟨rfl, B8.trans (hd9.below.mono B8.size)⟩
end Go.Proofs.YtibgcbngnfaaiaaDoor.H

namespace Go.Proofs.YtibgcbngnfaaiaaDoor.H
open Go.RowKit Go.Proofs.YtibgcbngnfaaiaaDoorW.PrintWords Go.Proofs.YtibgcbngnfaaiaaDoorW.PrintLast Go.Proofs.YtibgcbngnfaaiaaDoorW.PrintMore Go.Proofs.YtibgcbngnfaaiaaDoor.PA
set_option linter.unusedVariables false
set_option linter.unusedSimpArgs false

/-- A place from 0 to m - 1. -/
theorem place_calls (k m : Int) (h0 : 0 < m) (hm : m ≤ 4611686018427387904) (hk : -9223372036854775808 ≤ k ∧ k ≤ 9223372036854775807) : ∃ p : Nat, (p : Int) < m ∧ ∀ w, Calls Tryd.prog 21 #[.int .i64 k, .int .i64 m] w fun e w' => e = .returned (.int .i64 (p : Int)) ∧ Drawn0 w w' := by
  have h1 := Int.tmod_lt_of_pos k h0
  have h2 := Int.lt_tmod_of_pos k h0
  by_cases hn : k.tmod m < 0
  · refine ⟨(k.tmod m + m).toNat, by omega, fun w => ?_⟩
    refine (ambryhelp_Place.calls k m (k.tmod m + m) w ?_).mono ?_
    · unfold ambryhelp_Place.f
      rw [if_neg (by omega), if_pos hn, IntWalk.wrap64_in _ (by omega)]
    · rintro e w' ⟨rfl, hd⟩
      rw [Int.toNat_of_nonneg (by omega)]
      exact ⟨rfl, hd⟩
  · refine ⟨(k.tmod m).toNat, by omega, fun w => ?_⟩
    refine (ambryhelp_Place.calls k m (k.tmod m) w ?_).mono ?_
    · unfold ambryhelp_Place.f
      rw [if_neg (by omega), if_neg hn]
    · rintro e w' ⟨rfl, hd⟩
      rw [Int.toNat_of_nonneg (by omega)]
      exact ⟨rfl, hd⟩
/-- make([]byte, n), and what it reads as. -/
theorem make_zeros (m : Int) (h0 : 0 ≤ m) (hm : m ≤ 140737488355328) : ∃ X, (∀ W : World, (Instr.makeSlice 22 (.int .i64 m) (.int .i64 m)).run Tryd.prog W = .ok (.slice (some ⟨W.heap.size, 0, none⟩) (List.replicate m.toNat (0 : Int)).length (List.replicate m.toNat (0 : Int)).length) (W.alloc X)) ∧
    ∀ W : World, ReadsInt (W.alloc X) .u8 (some ⟨W.heap.size, 0, none⟩) (List.replicate m.toNat (0 : Int)).length (List.replicate m.toNat (0 : Int)) := by
  refine ⟨.cells (madeCells #[.int .u8 0] m.toNat) 5, ?_⟩
  rw [List.length_replicate]
  obtain ⟨k, rfl⟩ := Int.eq_ofNat_of_zero_le h0
  rw [Int.toNat_natCast]
  refine ⟨print_make 22 5 .u8 1 Tryd.underlying22 j5' (by decide) k (by omega), fun W => ?_⟩
  obtain ⟨A, c, he, _, hr⟩ := own_reads3 (xs := List.replicate k 0) (w := W.alloc (.cells (madeCells #[.int .u8 0] k) 5)) (v := .slice (some ⟨W.heap.size, 0, none⟩) k k) (base := W.heap.size) (by simpa using own_made W W.heap.size 5 .u8 k (Nat.le_refl _) (by omega))
  injection he with e1 e2 e3
  subst e1
  rw [List.length_replicate] at hr
  exact hr

theorem bt {w a b : World} (h : Below w.heap.size w a) (k : Below a.heap.size a b) : Below w.heap.size w b := h.trans (k.mono h.size)

set_option maxHeartbeats 4000000 in
set_option maxRecDepth 100000 in
theorem chunkGreat_calls (n size : Int) (hn : -9223372036854775808 ≤ n ∧ n ≤ 9223372036854775807) (hs : -9223372036854775808 ≤ size ∧ size ≤ 9223372036854775807) (w : World) (hT : Tz w) :
    Calls Tryd.prog 5 #[.int .i64 n, .int .i64 size] w fun e w' => e = .returned (.bool true) ∧ Below w.heap.size w w' := by
  have HT := Aside0.mk hT
  clear hT
  obtain ⟨p, hp, hP⟩ := place_calls n 5 (by omega) (by omega) hn
  obtain ⟨q, hq, hQ⟩ := place_calls size 70000 (by omega) (by omega) hs
  obtain ⟨X, hmk, hrd⟩ := make_zeros (65534 + (p : Int)) (by omega) (by omega)
  have hzl : (List.replicate (65534 + (p : Int)).toNat (0 : Int)).length = 65534 + p := by rw [List.length_replicate]; omega
  generalize List.replicate (65534 + (p : Int)).toNat (0 : Int) = zs at hmk hrd hzl
  have hbl := bytesF_len zs (1000 + (q : Int)) _ rfl
  obtain ⟨b, hb⟩ : ∃ b, bytesF zs (1000 + (q : Int)) = b := ⟨_, rfl⟩
  have HP := Aside0.mk hP
  have HQ := Aside0.mk hQ
  have HRD := Aside0.mk hrd
  have HZL := Aside0.mk hzl
  have HZ2 : Aside0 (zs.length ≤ 1048576) := ⟨by omega⟩
  have HB := Aside0.mk hb
  have hp2 : (p : Int) ≤ 4 := by omega
  have hq2 : (q : Int) < 70000 := by omega
  by_cases h1 : 2 < p
  · have ho := open_bytes_long okbS okfS zs (1000 + (q : Int)) (by omega) (by omega)
    rw [hb] at ho
    have HO := Aside0.mk ho
    have h1' : decide ((65536 : Int) < 65534 + (p : Int)) = true := decide_eq_true (by omega)
    have hw1 : IntKind.i64.wrap (65534 + (p : Int)) = 65534 + (p : Int) := IntWalk.i64_in _ (by omega)
    have hw2 : IntKind.i64.wrap (1000 + (q : Int)) = 1000 + (q : Int) := IntWalk.i64_in _ (by omega)
    clear hP hQ hrd hzl hb ho hbl
    go_enter Tryd.func5, Tryd.ntmps5
    go_wp2_with (first
      | (go_at_call 13; ((with_reducible refine (known11_calls _ HT.out).mono ?_); rintro e w1 ⟨rfl, hb1⟩; replace hb1 := Aside0.mk hb1))
      | (go_at_call 21; ((with_reducible refine (HP.out _).mono ?_); rintro e w2 ⟨rfl, hd2⟩; have hb2 := Aside0.mk (hb1.out.trans (hd2.below.mono hb1.out.size)); clear hd2)))
    go_region_law (first
      | (go_simp; go_at_call 21; (with_reducible refine (HQ.out _).mono ?_); rintro e w3 ⟨rfl, hd3⟩; (first | (have HR3 : Aside0 (ReadsInt w3 .u8 (some ⟨w2.heap.size, 0, none⟩) zs.length zs) := ⟨(HRD.out w2.drew).below hd3.below⟩) | skip); replace hd3 := Aside0.mk hd3.below)
      | (go_simp; go_at_call 17; (with_reducible refine (rbytes_calls' _ zs.length zs (1000 + (q : Int)) _ (by first | exact HR3.out | exact HRD.out _) HZ2.out (Nat.le_refl _) (by omega) b HB.out).mono ?_); rintro e w4 ⟨A4, c4, rfl, hc4, hr4, hb4⟩; replace hb4 := Aside0.mk hb4; replace hc4 := Aside0.mk hc4; replace hr4 := Aside0.mk hr4)
      | (go_simp; go_at_call 15; (with_reducible refine (open_calls2 A4 c4 b _ hr4.out hc4.out _ _ _ HO.out).mono ?_); rintro e w5 ⟨A5, c5, rfl, hc5, hr5, hb5⟩; replace hb5 := Aside0.mk hb5; replace hc5 := Aside0.mk hc5; replace hr5 := Aside0.mk hr5))
    all_goals
      go_wp2
      go_ret
      refine ⟨rfl, ?_⟩
      first
        | exact bt (bt (bt (below_alloc (below_drew hb2.out) X) hd3.out) hb4.out) hb5.out
        | exact bt (bt (below_alloc (bt (below_drew hb2.out) hd3.out) X) hb4.out) hb5.out
  · have ho := open_bytes okbS okfS zs (1000 + (q : Int)) [] (by omega)
    rw [hb, List.append_nil] at ho
    have HO := Aside0.mk ho
    have h1' : decide ((65536 : Int) < 65534 + (p : Int)) = false := decide_eq_false (by omega)
    have h2' : ((zs.length : Int) == 65534 + (p : Int)) = true := beq_iff_eq.2 (by omega)
    have hw1 : IntKind.i64.wrap (65534 + (p : Int)) = 65534 + (p : Int) := IntWalk.i64_in _ (by omega)
    have hw2 : IntKind.i64.wrap (1000 + (q : Int)) = 1000 + (q : Int) := IntWalk.i64_in _ (by omega)
    clear hP hQ hrd hzl hb ho hbl
    go_enter Tryd.func5, Tryd.ntmps5
    go_wp2_with (first
      | (go_at_call 13; ((with_reducible refine (known11_calls _ HT.out).mono ?_); rintro e w1 ⟨rfl, hb1⟩; replace hb1 := Aside0.mk hb1))
      | (go_at_call 21; ((with_reducible refine (HP.out _).mono ?_); rintro e w2 ⟨rfl, hd2⟩; have hb2 := Aside0.mk (hb1.out.trans (hd2.below.mono hb1.out.size)); clear hd2)))
    go_region_law (first
      | (go_simp; go_at_call 21; (with_reducible refine (HQ.out _).mono ?_); rintro e w3 ⟨rfl, hd3⟩; (first | (have HR3 : Aside0 (ReadsInt w3 .u8 (some ⟨w2.heap.size, 0, none⟩) zs.length zs) := ⟨(HRD.out w2.drew).below hd3.below⟩) | skip); replace hd3 := Aside0.mk hd3.below)
      | (go_simp; go_at_call 17; (with_reducible refine (rbytes_calls' _ zs.length zs (1000 + (q : Int)) _ (by first | exact HR3.out | exact HRD.out _) HZ2.out (Nat.le_refl _) (by omega) b HB.out).mono ?_); rintro e w4 ⟨A4, c4, rfl, hc4, hr4, hb4⟩; replace hb4 := Aside0.mk hb4; replace hc4 := Aside0.mk hc4; replace hr4 := Aside0.mk hr4)
      | (go_simp; go_at_call 15; (with_reducible refine (open_calls2 A4 c4 b _ hr4.out hc4.out _ _ _ HO.out).mono ?_); rintro e w5 ⟨A5, c5, rfl, hc5, hr5, hb5⟩; replace hb5 := Aside0.mk hb5; replace hc5 := Aside0.mk hc5; replace hr5 := Aside0.mk hr5))
    all_goals
      go_wp2
      go_ret
      refine ⟨rfl, ?_⟩
      first
        | exact bt (bt (bt (below_alloc (below_drew hb2.out) X) hd3.out) hb4.out) hb5.out
        | exact bt (bt (below_alloc (bt (below_drew hb2.out) hd3.out) X) hb4.out) hb5.out
end Go.Proofs.YtibgcbngnfaaiaaDoor.H

namespace Go.Proofs.YtibgcbngnfaaiaaDoor.H
open Go.RowKit Go.Proofs.YtibgcbngnfaaiaaDoorW.PrintWords
set_option linter.unusedVariables false
set_option linter.unusedSimpArgs false

theorem strOf_bytes (t : ByteArray) : strOfNums (bytesOf t) = t := by
  have h : (strOfNums (bytesOf t)).data.toList = t.data.toList := by
    rw [strOfNums_data, bytesOf, List.map_map]
    refine (List.map_congr_left fun x _ => ?_).trans (List.map_id _)
    simp
  exact ByteArray.ext (Array.toList_inj.1 h)
theorem toL_strOf_app (a b : List Int) : toL (strOfNums (a ++ b)) = toL (strOfNums a) ++ toL (strOfNums b) := by
  simp only [toL, strOfNums_data, List.map_append]
theorem toL_strOf_bytes (t : ByteArray) : toL (strOfNums (bytesOf t)) = toL t := by rw [strOf_bytes]
theorem strOf_drop (a b : List Int) : (strOfNums (a ++ b)).extract a.length (strOfNums (a ++ b)).size = strOfNums b := by
  have h : ((strOfNums (a ++ b)).extract a.length (strOfNums (a ++ b)).size).data.toList = (strOfNums b).data.toList := by
    rw [Lib.extract_data, strOfNums_data, strOfNums_data, strOfNums_size]
    simp
    exact List.take_of_length_le (by simp)
  exact ByteArray.ext (Array.toList_inj.1 h)
theorem bytesOf_mem {t : ByteArray} {x : Int} (h : x ∈ bytesOf t) : ∃ c ∈ toL t, x = (c.toNat : Int) := by
  unfold bytesOf at h
  rw [List.mem_map] at h
  obtain ⟨c, hc, rfl⟩ := h
  exact ⟨c, hc, rfl⟩
theorem plain_text {t : ByteArray} (h : (toL t).all textB = true) : plainL (bytesOf t) := by
  intro x hx
  obtain ⟨c, hc, rfl⟩ := bytesOf_mem hx
  have h1 := List.all_eq_true.1 h c hc
  unfold textB at h1
  constructor
  · intro e
    have : c.toNat = 13 := by omega
    rw [this] at h1; revert h1; decide
  · intro e
    have : c.toNat = 10 := by omega
    rw [this] at h1; revert h1; decide
theorem tokB_no {c : UInt8} (h : tokB c = true) : c.toNat ≠ 13 ∧ c.toNat ≠ 10 ∧ c.toNat ≠ 58 := by
  have key : ∀ n : Fin 256, tokB ((n.val : Nat).toUInt8) = true → n.val ≠ 13 ∧ n.val ≠ 10 ∧ n.val ≠ 58 := by decide +kernel
  have h1 := key ⟨c.toNat, c.toNat_lt⟩
  have h2 : (c.toNat).toUInt8 = c := by simp
  simp only [h2] at h1
  exact h1 h
theorem plain_tok {t : ByteArray} (h : tokL (toL t) = true) : plainL (bytesOf t) := by
  intro x hx
  obtain ⟨c, hc, rfl⟩ := bytesOf_mem hx
  have h0 : (toL t).all tokB = true := by unfold tokL at h; exact (Bool.and_eq_true_iff.1 h).1
  have h1 := tokB_no (List.all_eq_true.1 h0 c hc)
  omega
theorem plain_app {a b : List Int} (ha : plainL a) (hb : plainL b) : plainL (a ++ b) := fun x hx => (List.mem_append.1 hx).elim (ha x) (hb x)
theorem colon_tok : ∀ (a r : List UInt8), a.all tokB = true → colon (a ++ 58 :: r) = some a.length
  | [], r, _ => rfl
  | c :: a, r, h => by
    rw [List.all_cons, Bool.and_eq_true] at h
    have h1 := (tokB_no h.1).2.2
    rw [List.cons_append, colon, if_neg h1, colon_tok a r h.2]
    rfl
/-- name: value is a field. -/
theorem field_line (name value : ByteArray) (h2 : tokL (toL name) = true) (h3 : ((toL value).all textB && (trimL (toL value) == toL value)) = true) :
    okfS (strOfNums (bytesOf name ++ [58, 32] ++ bytesOf value)) = true := by
  have e : toL (strOfNums (bytesOf name ++ [58, 32] ++ bytesOf value)) = toL name ++ 58 :: (32 :: toL value) := by
    rw [toL_strOf_app, toL_strOf_app, toL_strOf_bytes, toL_strOf_bytes]
    simp [toL, strOfNums]
  have h0 : (toL name).all tokB = true := by unfold tokL at h2; exact (Bool.and_eq_true_iff.1 h2).1
  rw [Bool.and_eq_true, beq_iff_eq] at h3
  unfold okfS fieldL
  rw [e, colon_tok _ _ h0]
  simp only [List.take_left]
  rw [h2, Bool.true_and]
  have ed : (toL name ++ 58 :: (32 :: toL value)).drop ((toL name).length + 1) = 32 :: toL value := by
    rw [← List.drop_drop, List.drop_left]; rfl
  have et : trimL (32 :: toL value) = trimL (toL value) := rfl
  rw [ed, et, h3.2]
  exact h3.1
/-- 00;ext tells 0. -/
theorem ext_len (ext : ByteArray) (h1 : (toL ext).all textB = true) : lenAt okbS (strOfNums ([48, 48, 59] ++ bytesOf ext)) (strOfNums ([48, 48, 59] ++ bytesOf ext)).size 0 0 = .ok 0 := by
  have hz : (strOfNums ([48, 48, 59] ++ bytesOf ext)).size = ext.size + 3 := by rw [strOfNums_size, List.length_append, bytesOf_length]; simp; omega
  have hr : ∀ x ∈ ([48, 48, 59] ++ bytesOf ext : List Int), 0 ≤ x ∧ x < 256 := by
    intro x hx
    rcases List.mem_append.1 hx with h | h
    · simp at h; omega
    · obtain ⟨c, _, rfl⟩ := bytesOf_mem h
      have := c.toNat_lt; omega
  have hdrop := strOf_drop [48, 48, 59] (bytesOf ext)
  have b0 := bt_str ([48, 48, 59] ++ bytesOf ext) 0 (by simp) hr
  have b1 := bt_str ([48, 48, 59] ++ bytesOf ext) 1 (by simp) hr
  have b2 := bt_str ([48, 48, 59] ++ bytesOf ext) 2 (by simp) hr
  generalize strOfNums ([48, 48, 59] ++ bytesOf ext) = s at hz hdrop b0 b1 b2 ⊢
  have e0 := lenAt_on (ok := okbS) (s := s) (i := 0) (n := 0) (b := 48) (by omega) b0.symm (by decide) (by omega)
  have e1 := lenAt_on (ok := okbS) (s := s) (i := 0 + 1) (n := 16 * 0 + hexv 48) (b := 48) (by omega) b1.symm (by decide) (by omega)
  have e2 := lenAt_stop (ok := okbS) (s := s) (i := 0 + 1 + 1) (n := 16 * (16 * 0 + hexv 48) + hexv 48) (b := 59) (by omega) b2.symm (by decide)
  rw [Nat.sub_zero] at e0
  rw [e0, e1, e2, if_pos]
  · rfl
  · refine ⟨by omega, rfl, ?_⟩
    have : (0 + 1 + 1 + 1 : Nat) = ([48, 48, 59] : List Int).length := rfl
    rw [this, hdrop]
    unfold okbS
    rw [toL_strOf_bytes]; exact h1
def tailL (ext name value : ByteArray) : List Int := [48, 48, 59] ++ bytesOf ext ++ [13, 10] ++ bytesOf name ++ [58, 32] ++ bytesOf value ++ [13, 10, 13, 10]
theorem open_cuts (l : List Int) (size : Int) (ext name value : ByteArray) (hl : l.length ≤ 65536) (he : ext.size ≤ 50) (hn : name.size ≤ 50) (hv : value.size ≤ 50)
    (h1 : (toL ext).all textB = true) (h2 : tokL (toL name) = true) (h3 : ((toL value).all textB && (trimL (toL value) == toL value)) = true) :
    ∃ pre, bytesF l size = pre ++ [48, 13, 10, 13, 10] ∧ openF okbS okfS (pre ++ tailL ext name value) = (l, ((pre ++ tailL ext name value).length : Int), 0) := by
  obtain ⟨sz, hsz, hz1⟩ : ∃ sz, (max size 1).toNat = sz ∧ 1 ≤ sz := ⟨_, rfl, by omega⟩
  refine ⟨chunksOf (partsOf l sz ((l.length + sz - 1) / sz)), by rw [bytesF_parts, hsz], ?_⟩
  have hf : (partsOf l sz ((l.length + sz - 1) / sz)).flatten = l := by
    rw [partsOf_flat]; exact List.take_of_length_le (ceil_all _ _ hz1)
  have hpos := partsOf_pos l sz _ hz1 fun k hk => ceil_pos l.length sz k hz1 hk
  generalize partsOf l sz ((l.length + sz - 1) / sz) = bs at hf hpos ⊢
  obtain ⟨pre, hpre⟩ : ∃ pre, chunksOf bs = pre := ⟨_, rfl⟩
  obtain ⟨L, hL⟩ : ∃ L, pre ++ tailL ext name value = L := ⟨_, rfl⟩
  rw [hpre, hL]
  have hlen : L.length = pre.length + (tailL ext name value).length := by rw [← hL, List.length_append]
  have htl : (tailL ext name value).length = ext.size + name.size + value.size + 11 := by
    simp only [tailL, List.length_append, bytesOf_length, List.length_cons, List.length_nil]; omega
  have k1 := body_chunks okbS okfS L bs 1 0 [] (tailL ext name value) hpos (by rw [hpre, hL]; rfl) (by omega) (by rw [hf]; simpa using hl)
  rw [hpre, hf, Nat.zero_add, List.nil_append] at k1
  have hd : L.drop pre.length = ([48, 48, 59] ++ bytesOf ext) ++ 13 :: 10 :: (bytesOf name ++ [58, 32] ++ bytesOf value ++ 13 :: 10 :: 13 :: 10 :: []) := by
    rw [← hL, List.drop_left]; simp [tailL]
  have hv' : (toL value).all textB = true := (Bool.and_eq_true_iff.1 h3).1
  have p1 : plainL ([48, 48, 59] ++ bytesOf ext) := plain_app (by intro x hx; simp at hx; omega) (plain_text h1)
  have p2 : plainL (bytesOf name ++ [58, 32] ++ bytesOf value) := plain_app (plain_app (plain_tok h2) (by intro x hx; simp at hx; omega)) (plain_text hv')
  have l1 := line_app _ 0 (bytesOf name ++ [58, 32] ++ bytesOf value ++ 13 :: 10 :: 13 :: 10 :: []) p1 (by simp only [List.length_append, bytesOf_length, List.length_cons, List.length_nil]; omega)
  rw [← hd] at l1
  have q1 : L.length - (bytesOf name ++ [58, 32] ++ bytesOf value ++ 13 :: 10 :: 13 :: 10 :: []).length = pre.length + ext.size + 5 := by
    simp only [List.length_append, bytesOf_length, List.length_cons, List.length_nil]; omega
  have hd2 : L.drop (pre.length + ext.size + 5) = bytesOf name ++ [58, 32] ++ bytesOf value ++ 13 :: 10 :: (13 :: 10 :: []) := by
    rw [Nat.add_assoc, ← List.drop_drop, hd, show ext.size + 5 = ([48, 48, 59] ++ bytesOf ext).length + 2 from by simp only [List.length_append, bytesOf_length, List.length_cons, List.length_nil]; omega, ← List.drop_drop, List.drop_left]
    rfl
  have l2 := line_app _ 0 (13 :: 10 :: []) p2 (by simp only [List.length_append, bytesOf_length, List.length_cons, List.length_nil]; omega)
  rw [← hd2] at l2
  have q2 : L.length - (13 :: 10 :: [] : List Int).length = L.length - 2 := rfl
  have hd3 : L.drop (L.length - 2) = 13 :: 10 :: [] := by
    have e : L.length - 2 = pre.length + ext.size + 5 + ((bytesOf name ++ [58, 32] ++ bytesOf value).length + 2) := by
      simp only [List.length_append, bytesOf_length, List.length_cons, List.length_nil]; omega
    rw [e, ← List.drop_drop, hd2, ← List.drop_drop, List.drop_left]
    rfl
  have hne : ¬ (bytesOf name ++ [58, 32] ++ bytesOf value) = [] := by simp
  have ht : trailF okfS L (L.length + 1) 0 (pre.length + ext.size + 5) = .ok L.length := by
    obtain ⟨n, hn⟩ : ∃ n, L.length + 1 = n + 1 + 1 := ⟨L.length - 1, by omega⟩
    rw [hn, trail_ok l2, if_neg hne, if_pos ⟨field_line name value h2 h3, by omega⟩, q2, trail_ok (by rw [hd3]; exact line_crlf 0 []), if_pos rfl]
    rfl
  have hbl : bodyF okbS okfS L 1 pre.length l = .ok (l, L.length) := by
    rw [bodyF, l1]
    simp only [ext_len ext h1, q1, if_true, ht]
  rw [hbl] at k1
  have k2 := body_fuel okbS okfS L _ _ _ _ k1 (fun h => by cases h) (L.length + 1) (by
    have := chunksOf_len bs
    rw [hpre] at this; omega)
  unfold openF
  rw [k2]
end Go.Proofs.YtibgcbngnfaaiaaDoor.H

namespace Go.Proofs.YtibgcbngnfaaiaaDoor.H
open Go.RowKit Go.Proofs.YtibgcbngnfaaiaaDoorW.PrintWords Go.Proofs.YtibgcbngnfaaiaaDoorW.PrintLast Go.Proofs.YtibgcbngnfaaiaaDoorW.PrintMore Go.Proofs.YtibgcbngnfaaiaaDoor.PA
set_option linter.unusedVariables false
set_option linter.unusedSimpArgs false

theorem rtext_calls (s : ByteArray) (w : World) (hs : s.size ≤ 4294967296) : Calls Tryd.prog 18 #[.string s] w fun e w' => e = .returned (.bool ((toL s).all textB)) ∧ Drawn0 w w' := by
  obtain ⟨K, hK⟩ := rtext_f (toL s) (by rw [toL_length]; omega)
  have h := hK K (Nat.le_refl _)
  rw [ofL_toL] at h
  exact ambryref10_Text.calls K s _ w h
theorem rtoken_calls (s : ByteArray) (w : World) (hs : s.size ≤ 4294967296) : Calls Tryd.prog 19 #[.string s] w fun e w' => e = .returned (.bool (tokL (toL s))) ∧ Drawn0 w w' := by
  obtain ⟨K, hK⟩ := rtoken_f (toL s) (by rw [toL_length]; omega)
  have h := hK K (Nat.le_refl _)
  rw [ofL_toL] at h
  exact ambryref10_Token.calls K s _ w h
theorem rvalue_calls (s : ByteArray) (w : World) (hs : s.size ≤ 4294967296) : Calls Tryd.prog 20 #[.string s] w fun e w' => e = .returned (.bool ((toL s).all textB && (trimL (toL s) == toL s))) ∧ Drawn0 w w' := by
  obtain ⟨K, hK⟩ := rvalue_f (toL s) (by rw [toL_length]; omega)
  have h := hK K (Nat.le_refl _)
  rw [ofL_toL] at h
  exact ambryref10_Value.calls K s _ w h

set_option maxHeartbeats 8000000 in
set_option maxRecDepth 100000 in
theorem chunkCuts_early (A : Option Addr) (c : Nat) (l : List Int) (size at_ : Int) (a3 a4 a5 : ByteArray) (w : World) (hT : Tz w)
    (h : ¬ (l.length ≤ 500 ∧ a3.size ≤ 50 ∧ a4.size ≤ 50 ∧ a5.size ≤ 50 ∧ (toL a3).all textB = true ∧ tokL (toL a4) = true ∧ ((toL a5).all textB && (trimL (toL a5) == toL a5)) = true)) :
    Calls Tryd.prog 4 #[.slice A l.length c, .int .i64 size, .int .i64 at_, .string a3, .string a4, .string a5] w fun e w' => e = .returned (.bool true) ∧ Below w.heap.size w w' := by
  have HT := Aside0.mk hT
  clear hT
  by_cases h1 : 500 < l.length
  · have h1' : decide ((500 : Int) < (l.length : Int)) = true := decide_eq_true (by omega)
    clear h
    go_enter Tryd.func4, Tryd.ntmps4
    go_wp2_with (first
      | (go_at_call 13; ((with_reducible refine (known11_calls _ HT.out).mono ?_); rintro e w1 ⟨rfl, hb1⟩; replace hb1 := Aside0.mk hb1)))
    go_ret
    exact ⟨rfl, hb1.out⟩
  have h1' : decide ((500 : Int) < (l.length : Int)) = false := decide_eq_false (by omega)
  by_cases h2 : 50 < a3.size
  · have h2' : decide ((50 : Int) < (a3.size : Int)) = true := decide_eq_true (by omega)
    clear h
    go_enter Tryd.func4, Tryd.ntmps4
    go_wp2_with (first
      | (go_at_call 13; ((with_reducible refine (known11_calls _ HT.out).mono ?_); rintro e w1 ⟨rfl, hb1⟩; replace hb1 := Aside0.mk hb1)))
    go_ret
    exact ⟨rfl, hb1.out⟩
  have h2' : decide ((50 : Int) < (a3.size : Int)) = false := decide_eq_false (by omega)
  by_cases h3 : 50 < a4.size
  · have h3' : decide ((50 : Int) < (a4.size : Int)) = true := decide_eq_true (by omega)
    clear h
    go_enter Tryd.func4, Tryd.ntmps4
    go_wp2_with (first
      | (go_at_call 13; ((with_reducible refine (known11_calls _ HT.out).mono ?_); rintro e w1 ⟨rfl, hb1⟩; replace hb1 := Aside0.mk hb1)))
    go_ret
    exact ⟨rfl, hb1.out⟩
  have h3' : decide ((50 : Int) < (a4.size : Int)) = false := decide_eq_false (by omega)
  by_cases h4 : 50 < a5.size
  · have h4' : decide ((50 : Int) < (a5.size : Int)) = true := decide_eq_true (by omega)
    clear h
    go_enter Tryd.func4, Tryd.ntmps4
    go_wp2_with (first
      | (go_at_call 13; ((with_reducible refine (known11_calls _ HT.out).mono ?_); rintro e w1 ⟨rfl, hb1⟩; replace hb1 := Aside0.mk hb1)))
    go_ret
    exact ⟨rfl, hb1.out⟩
  have h4' : decide ((50 : Int) < (a5.size : Int)) = false := decide_eq_false (by omega)
  have HX3 : Aside0 (a3.size ≤ 4294967296) := ⟨by omega⟩
  have HX4 : Aside0 (a4.size ≤ 4294967296) := ⟨by omega⟩
  have HX5 : Aside0 (a5.size ≤ 4294967296) := ⟨by omega⟩
  cases k0 : (toL a3).all textB with
  | false =>
    have HT3 := Aside0.mk k0
    clear h k0
    go_enter Tryd.func4, Tryd.ntmps4
    go_wp2_with (first
      | (go_at_call 13; ((with_reducible refine (known11_calls _ HT.out).mono ?_); rintro e w1 ⟨rfl, hb1⟩; replace hb1 := Aside0.mk hb1))
      | (go_at_call 18; ((with_reducible refine (rtext_calls a3 _ HX3.out).mono ?_); rintro e w2 ⟨rfl, hd2⟩; rw [HT3.out]; replace hd2 := Aside0.mk (bt hb1.out hd2.below))))
    go_ret
    exact ⟨rfl, hd2.out⟩
  | true =>
    have HT3 := Aside0.mk k0
    cases k1 : tokL (toL a4) with
    | false =>
      have HT4 := Aside0.mk k1
      clear h k0 k1
      go_enter Tryd.func4, Tryd.ntmps4
      go_wp2_with (first
        | (go_at_call 13; ((with_reducible refine (known11_calls _ HT.out).mono ?_); rintro e w1 ⟨rfl, hb1⟩; replace hb1 := Aside0.mk hb1))
        | (go_at_call 18; ((with_reducible refine (rtext_calls a3 _ HX3.out).mono ?_); rintro e w2 ⟨rfl, hd2⟩; rw [HT3.out]; replace hd2 := Aside0.mk (bt hb1.out hd2.below)))
        | (go_at_call 19; ((with_reducible refine (rtoken_calls a4 _ HX4.out).mono ?_); rintro e w3 ⟨rfl, hd3⟩; rw [HT4.out]; replace hd3 := Aside0.mk (bt hd2.out hd3.below))))
      go_ret
      exact ⟨rfl, hd3.out⟩
    | true =>
      have HT4 := Aside0.mk k1
      cases k2 : ((toL a5).all textB && (trimL (toL a5) == toL a5)) with
      | false =>
        have HT5 := Aside0.mk k2
        clear h k0 k1 k2
        go_enter Tryd.func4, Tryd.ntmps4
        go_wp2_with (first
          | (go_at_call 13; ((with_reducible refine (known11_calls _ HT.out).mono ?_); rintro e w1 ⟨rfl, hb1⟩; replace hb1 := Aside0.mk hb1))
          | (go_at_call 18; ((with_reducible refine (rtext_calls a3 _ HX3.out).mono ?_); rintro e w2 ⟨rfl, hd2⟩; rw [HT3.out]; replace hd2 := Aside0.mk (bt hb1.out hd2.below)))
          | (go_at_call 19; ((with_reducible refine (rtoken_calls a4 _ HX4.out).mono ?_); rintro e w3 ⟨rfl, hd3⟩; rw [HT4.out]; replace hd3 := Aside0.mk (bt hd2.out hd3.below)))
          | (go_at_call 20; ((with_reducible refine (rvalue_calls a5 _ HX5.out).mono ?_); rintro e w4 ⟨rfl, hd4⟩; rw [HT5.out]; replace hd4 := Aside0.mk (bt hd3.out hd4.below))))
        go_ret
        exact ⟨rfl, hd4.out⟩
      | true =>
        have HT5 := Aside0.mk k2
        exact (h ⟨by omega, by omega, by omega, by omega, k0, k1, k2⟩).elim
end Go.Proofs.YtibgcbngnfaaiaaDoor.H

namespace Go.Proofs.YtibgcbngnfaaiaaDoor.H
open Go.RowKit Go.Proofs.YtibgcbngnfaaiaaDoorW.PrintWords Go.Proofs.YtibgcbngnfaaiaaDoorW.PrintLast Go.Proofs.YtibgcbngnfaaiaaDoorW.PrintMore Go.Proofs.YtibgcbngnfaaiaaDoor.PA
set_option linter.unusedVariables false
set_option linter.unusedSimpArgs false

/-- row[:n] at a number. -/
theorem cut_to (A : Option Addr) (c : Nat) (l : List Int) (hc : l.length ≤ c) (z : Int) (n : Nat) (hz : z = (n : Int)) (hn : n ≤ l.length) (tk : List Int) (ht : l.take n = tk) :
    (∀ W : World, (Instr.slice 22 (.slice A l.length c) none (some (.int .i64 z)) none).run Tryd.prog W = .ok (.slice A tk.length c) W) ∧ tk.length ≤ c ∧ ∀ W, ReadsInt W .u8 A l.length l → ReadsInt W .u8 A tk.length tk := by
  subst hz; subst ht
  obtain ⟨i0, hi0, _, hsz, _⟩ := info_parts i5
  obtain ⟨h1, h2, h3⟩ := print_take_int (P := Tryd.prog) (k := .u8) 22 5 Tryd.underlying22 hi0 hsz A c l (n : Int) (by omega) (by omega) hc
  simp only [Int.toNat_natCast] at h1 h2 h3
  exact ⟨h1, h3, h2⟩

set_option maxHeartbeats 8000000 in
set_option maxRecDepth 100000 in
theorem chunkCuts_main (A : Option Addr) (c : Nat) (l : List Int) (size at_ : Int) (hs : size ≤ 9223372036854775807) (hat : -9223372036854775808 ≤ at_ ∧ at_ ≤ 9223372036854775807) (a3 a4 a5 : ByteArray) (w : World) (hr : ReadsInt w .u8 A l.length l) (hc : l.length ≤ c) (hT : Tz w)
    (h1 : l.length ≤ 500) (h2 : a3.size ≤ 50) (h3 : a4.size ≤ 50) (h4 : a5.size ≤ 50) (k0 : (toL a3).all textB = true) (k1 : tokL (toL a4) = true) (k2 : ((toL a5).all textB && (trimL (toL a5) == toL a5)) = true) :
    Calls Tryd.prog 4 #[.slice A l.length c, .int .i64 size, .int .i64 at_, .string a3, .string a4, .string a5] w fun e w' => e = .returned (.bool true) ∧ Below w.heap.size w w' := by
  have HR := Aside0.mk hr
  have HC := Aside0.mk hc
  have HT := Aside0.mk hT
  obtain ⟨pre, hpre, ho⟩ := open_cuts l size a3 a4 a5 (by omega) h2 h3 h4 k0 k1 k2
  obtain ⟨b, hb⟩ : ∃ b, bytesF l size = b := ⟨_, rfl⟩
  have hbl := bytesF_len l size _ rfl
  rw [hb] at hpre hbl
  have hbp : b.length = pre.length + 5 := by rw [hpre]; simp
  have hbt : b.take (b.length - 5) = pre := by rw [hbp, hpre, Nat.add_sub_cancel, List.take_left]
  obtain ⟨y, hy⟩ : ∃ y : ByteArray, (⟨#[48, 48, 59]⟩ : ByteArray) ++ a3 ++ ⟨#[13, 10]⟩ ++ a4 ++ ⟨#[58, 32]⟩ ++ a5 ++ ⟨#[13, 10, 13, 10]⟩ = y := ⟨_, rfl⟩
  have hyb : bytesOf y = tailL a3 a4 a5 := by
    rw [← hy]; simp only [bytesOf_app, tailL]; rfl
  have hys : y.size ≤ 1000 := by rw [← bytesOf_length, hyb]; simp only [tailL, List.length_append, bytesOf_length, List.length_cons, List.length_nil]; omega
  obtain ⟨cc, hcc⟩ : ∃ cc, pre ++ tailL a3 a4 a5 = cc := ⟨_, rfl⟩
  rw [hcc] at ho
  have hcl : 0 < cc.length := by rw [← hcc]; simp [tailL]; omega
  have hcl2 : cc.length ≤ 4000000 := by rw [← hcc, List.length_append, ← hyb, bytesOf_length]; omega
  obtain ⟨p, hp, hP⟩ := place_calls at_ (cc.length : Int) (by omega) (by omega) hat
  have hp' : p < cc.length := by omega
  obtain ⟨cp, hcp⟩ : ∃ cp, cc.take p = cp := ⟨_, rfl⟩
  have ho2 := open_cut okbS okfS cc l p ho hp'
  rw [hcp] at ho2
  have HB := Aside0.mk hb
  have HBT := Aside0.mk hbt
  have HO := Aside0.mk ho
  have HO2 := Aside0.mk ho2
  have HP := Aside0.mk hP
  have HCP := Aside0.mk hcp
  have HYB : Aside0 (pre ++ bytesOf y = cc) := ⟨by rw [hyb]; exact hcc⟩
  have HBP := Aside0.mk hbp
  have HPP := Aside0.mk hp'
  have HL : Aside0 (l.length ≤ 1048576) := ⟨by omega⟩
  have HS1 : Aside0 (pre.length + y.size ≤ 140737488355328) := ⟨by omega⟩
  have HT3 := Aside0.mk k0
  have HT4 := Aside0.mk k1
  have HT5 := Aside0.mk k2
  have h1' : decide ((500 : Int) < (l.length : Int)) = false := decide_eq_false (by omega)
  have h2' : decide ((50 : Int) < (a3.size : Int)) = false := decide_eq_false (by omega)
  have h3' : decide ((50 : Int) < (a4.size : Int)) = false := decide_eq_false (by omega)
  have h4' : decide ((50 : Int) < (a5.size : Int)) = false := decide_eq_false (by omega)
  have h5' : decide ((b.length : Int) < 5) = false := decide_eq_false (by omega)
  have hb2 : b.length ≤ 100000 := by omega
  have hb3 : 5 ≤ b.length := by omega
  have hcl3 : (cc.length : Int) ≤ 4000000 := by omega
  have HX3 : Aside0 (a3.size ≤ 4294967296) := ⟨by omega⟩
  have HX4 : Aside0 (a4.size ≤ 4294967296) := ⟨by omega⟩
  have HX5 : Aside0 (a5.size ≤ 4294967296) := ⟨by omega⟩
  clear hr hc hT k0 k1 k2 hpre ho hb hbl hbp hbt hyb hcc hcl hP hp hcp ho2 hp'
  go_enter Tryd.func4, Tryd.ntmps4
  go_wp2_with (first
    | (go_at_call 13; ((with_reducible refine (known11_calls _ HT.out).mono ?_); rintro e w1 ⟨rfl, hb1⟩; replace hb1 := Aside0.mk hb1))
    | (go_at_call 18; ((with_reducible refine (rtext_calls a3 _ HX3.out).mono ?_); rintro e w2 ⟨rfl, hd2⟩; rw [HT3.out]; replace hd2 := Aside0.mk (bt hb1.out hd2.below)))
    | (go_at_call 19; ((with_reducible refine (rtoken_calls a4 _ HX4.out).mono ?_); rintro e w3 ⟨rfl, hd3⟩; rw [HT4.out]; replace hd3 := Aside0.mk (bt hd2.out hd3.below)))
    | (go_at_call 20; ((with_reducible refine (rvalue_calls a5 _ HX5.out).mono ?_); rintro e w4 ⟨rfl, hd4⟩; rw [HT5.out]; replace hd4 := Aside0.mk (bt hd3.out hd4.below)))
    | (go_at_call 14; ((with_reducible refine (bytes_calls' A c l size _ (HR.out.below hd4.out) HL.out HC.out hs (tz_below HT.out hd4.out) b HB.out).mono ?_); rintro e w5 ⟨A5, c5, rfl, hc5, hr5, hb5⟩; replace hb5 := Aside0.mk (bt hd4.out hb5); have hct := cut_to A5 c5 b hc5 ((b.length : Int) - 5) (b.length - 5) (by omega) (by omega) pre HBT.out; have hrun5 := hct.1; have HR5 := Aside0.mk (hct.2.2 _ hr5); clear hct hc5 hr5))
    | (at_builtin; refine print_append_row (w0 := w5) w5.heap.size rfl (.const (Value.slice none 0 0)) (.tmp 66) 22 5 .u8 1 rfl Tryd.underlying22 j5' (by decide) _ [] pre A5 pre.length c5 rfl rfl (World.ownsRow_nil _ _ _ _) HR5.out (Below.refl _ _) (Nat.le_refl _) (by have := HS1.out; simp only [List.length_nil]; omega) ?_; intro v6 w6 ho6 hb6 hg6 hat6; clear hg6 hat6; rw [List.nil_append] at ho6; obtain ⟨A6, c6, rfl⟩ := own_slice ho6; replace ho6 := Aside0.mk ho6; replace hb6 := Aside0.mk hb6)
    | (at_builtin; refine print_append_str (w0 := w5) w5.heap.size rfl (.tmp 68) (.tmp 77) 22 9 5 rfl Tryd.underlying22 Tryd.underlying9 j5' _ pre y rfl rfl ho6.out hb6.out hb6.out.size HS1.out ?_; intro v7 w7 ho7 hb7 hg7; clear hg7; rw [HYB.out] at ho7; obtain ⟨A7, c7, rfl, hc7, hr7⟩ := own_reads3 ho7; clear ho7; have hct7 := cut_to A7 c7 cc hc7 (p : Int) p rfl (Nat.le_of_lt HPP.out) cp HCP.out; have hrun7 := hct7.1; have HCT7 := Aside0.mk hct7.2; clear hct7; replace hc7 := Aside0.mk hc7; replace hr7 := Aside0.mk hr7; replace hb7 := Aside0.mk hb7)
    | (go_at_call 15; ((with_reducible refine (open_calls2 A7 c7 cc _ hr7.out hc7.out _ _ _ HO.out).mono ?_); rintro e w8 ⟨A8, c8, rfl, hc8, hr8, hb8⟩; replace hb8 := Aside0.mk hb8; replace hc8 := Aside0.mk hc8; replace hr8 := Aside0.mk hr8))
    | (go_at_call 21; ((with_reducible refine (HP.out _).mono ?_); rintro e w9 ⟨rfl, hd9⟩; replace hd9 := Aside0.mk hd9.below; have hbw9 := Aside0.mk (bt (bt (bt hb5.out hb7.out) hb8.out) hd9.out)))
    | (go_at_call 15; ((with_reducible refine (open_calls2 A7 c7 cp _ (((HCT7.out.2 _ hr7.out).below hb8.out).below hd9.out) HCT7.out.1 _ _ _ HO2.out).mono ?_); rintro e w10 ⟨A10, c10, rfl, hc10, hr10, hb10⟩; have hbw10 := Aside0.mk (bt hbw9.out hb10); replace hb10 := Aside0.mk hb10; replace hc10 := Aside0.mk hc10; replace hr10 := Aside0.mk hr10))
    | (go_at_call 16; ((with_reducible refine (same_bytes A8 A c8 c l _ ((hr8.out.below hd9.out).below hb10.out) hc8.out (HR.out.below hbw10.out) HC.out).mono ?_); rintro e w11 ⟨rfl, hd11⟩)))
  go_ret
  exact ⟨rfl, bt hbw10.out hd11.below⟩
theorem chunkCuts_calls (A : Option Addr) (c : Nat) (l : List Int) (size at_ : Int) (hs : size ≤ 9223372036854775807) (hat : -9223372036854775808 ≤ at_ ∧ at_ ≤ 9223372036854775807) (a3 a4 a5 : ByteArray) (w : World) (hr : ReadsInt w .u8 A l.length l) (hc : l.length ≤ c) (hT : Tz w) :
    Calls Tryd.prog 4 #[.slice A l.length c, .int .i64 size, .int .i64 at_, .string a3, .string a4, .string a5] w fun e w' => e = .returned (.bool true) ∧ Below w.heap.size w w' := by
  by_cases h : l.length ≤ 500 ∧ a3.size ≤ 50 ∧ a4.size ≤ 50 ∧ a5.size ≤ 50 ∧ (toL a3).all textB = true ∧ tokL (toL a4) = true ∧ ((toL a5).all textB && (trimL (toL a5) == toL a5)) = true
  · obtain ⟨h1, h2, h3, h4, h5, h6, h7⟩ := h
    exact chunkCuts_main A c l size at_ hs hat a3 a4 a5 w hr hc hT h1 h2 h3 h4 h5 h6 h7
  · exact chunkCuts_early A c l size at_ a3 a4 a5 w hT h
end Go.Proofs.YtibgcbngnfaaiaaDoor.H

namespace Go.Proofs.YtibgcbngnfaaiaaDoor.H
open Go.RowKit Go.Proofs.YtibgcbngnfaaiaaDoorW.PrintWords Go.Proofs.YtibgcbngnfaaiaaDoorW.PrintLast Go.Proofs.YtibgcbngnfaaiaaDoorW.PrintMore Go.Proofs.YtibgcbngnfaaiaaDoor.PA
set_option linter.unusedVariables false
set_option linter.unusedSimpArgs false

/-- Two rows of one's own, no block of both. -/
def Apart2 (u v : Value) : Prop := ∀ b, u.ownBlock = some b → v.ownBlock = some b → False
theorem Apart2.symm {u v : Value} (h : Apart2 u v) : Apart2 v u := fun b h1 h2 => h b h2 h1
theorem apart_grow {w : World} {base n : Nat} {e : TypeId} {u v v' : Value} {xs : List Value} (h : Apart2 u v) (hu : w.ownsRow base e 1 u n xs) (hv : v'.ownBlock = v.ownBlock ∨ ∃ b, v'.ownBlock = some b ∧ w.heap.size ≤ b) : Apart2 u v' := by
  intro b h1 h2
  rcases hv with hv | ⟨g, hg, hle⟩
  · exact h b h1 (hv ▸ h2)
  · have h3 := (hu.lt b h1).2
    rw [hg] at h2
    cases h2
    omega
theorem own_apart {w w' : World} {base n : Nat} {e : TypeId} {u v : Value} {xs : List Value} (h : Apart2 u v) (hu : w.ownsRow base e 1 u n xs) (hg : w.grownBy w' v.ownBlock) : w'.ownsRow base e 1 u n xs := by
  refine hu.kept hg ?_
  cases hb : u.ownBlock with
  | none => exact .inl rfl
  | some b => exact .inr (fun e => h b hb e.symm)
theorem reads_but {wo wr w' : World} {base n m D : Nat} {e : TypeId} {v : Value} {xs dl : List Int} (hr : ReadsInt wr .u8 (some ⟨D, 0, none⟩) m dl) (ho : wo.ownsRow base e 1 v n (nums .u8 xs)) (hD : D = wo.heap.size) (hDr : D < wr.heap.size) (hg : wr.grownBy w' v.ownBlock) : ReadsInt w' .u8 (some ⟨D, 0, none⟩) m dl := by
  have hne : some D ≠ v.ownBlock := fun e => by have := (ho.lt D e.symm).2; omega
  refine ⟨hr.1, hr.2.1, fun h => ?_⟩
  obtain ⟨ad, he, hc⟩ := hr.2.2 h
  refine ⟨ad, he, fun j hj => ?_⟩
  rw [← hc j hj]
  have hb : (ad.add j).block = D := by
    injection he with he
    subst he
    unfold Addr.add; split <;> rfl
  exact World.cell?_of_block (by rw [hb]; exact hg.block D hDr hne)
theorem own_readsA {w : World} {base c n : Nat} {A : Option Addr} {xs : List Int} (ho : w.ownsRow base 5 1 (.slice A n c) n (nums .u8 xs)) (hn : n = xs.length := by rfl) : ReadsInt w .u8 A xs.length xs ∧ xs.length ≤ c := by
  subst hn
  obtain ⟨A1, c1, he, h1, h2⟩ := own_reads3 ho
  injection he with e1 e2 e3
  subst e1; subst e3
  exact ⟨h2, h1⟩
theorem bytesF_one (l : List Int) (h : 0 < l.length) : bytesF l (l.length : Int) = chunkE l ++ [48, 13, 10, 13, 10] := by
  rw [bytesF_cons l _ h]
  have : (max (l.length : Int) 1).toNat = l.length := by omega
  rw [this, List.take_length, List.drop_length, bytesF_nil]

theorem bytes_callsM (A : Option Addr) (m : Nat) (l : List Int) (size : Int) (w : World) (hl : l.length = m) (hr : ReadsInt w .u8 A m l) (hT : Tz w) (hs : m ≤ 255 ∧ size ≤ 9223372036854775807) (b : List Int) (h : bytesF l size = b) :
    Calls Tryd.prog 14 #[.slice A m m, .int .i64 size] w fun e w' => ∃ A1 c1, e = .returned (.slice A1 b.length c1) ∧ b.length ≤ c1 ∧ ReadsInt w' .u8 A1 b.length b ∧ Below w.heap.size w w' := by
  subst hl
  exact bytes_calls' A l.length l size w hr (by omega) (Nat.le_refl _) hs.2 hT b h

set_option maxHeartbeats 8000000 in
set_option maxRecDepth 100000 in
theorem chunkMany_calls (A : Option Addr) (c : Nat) (ls : List Int) (x : Int) (w : World) (hr : ReadsInt w .u8 A ls.length ls) (hc : ls.length ≤ c) (hw : ∀ n ∈ ls, (Lit.int .u8 n).wf = true) (hT : Tz w) :
    Calls Tryd.prog 7 #[.slice A ls.length c, .int .u8 x] w fun e w' => e = .returned (.bool true) ∧ Below w.heap.size w w' := by
  have HR := Aside0.mk hr
  have HC := Aside0.mk hc
  have HT := Aside0.mk hT
  have HW := Aside0.mk hw
  clear hr hc hT hw
  by_cases h1 : 30 < ls.length
  · have h1' : decide ((30 : Int) < (ls.length : Int)) = true := decide_eq_true (by omega)
    go_enter Tryd.func7, Tryd.ntmps7
    go_wp2_with (go_at_call 13; ((with_reducible refine (known11_calls _ HT.out).mono ?_); rintro e w1 ⟨rfl, hb1⟩))
    go_ret
    exact ⟨rfl, hb1⟩
  · have h1' : decide ((30 : Int) < (ls.length : Int)) = false := decide_eq_false (by omega)
    go_enter Tryd.func7, Tryd.ntmps7
    go_wp2_with (go_at_call 13; ((with_reducible refine (known11_calls _ HT.out).mono ?_); rintro e w1 ⟨rfl, hb1⟩; replace hb1 := Aside0.mk hb1))
    go_loopw [5, 6, 7] (fun v5 v6 v7 wr => ∃ (k : Nat) (bs : List (List Int)), k ≤ ls.length ∧ v7 = .int .i64 k ∧ Aside0 (wr.ownsRow w.heap.size 5 1 v5 (chunksOf bs).length (nums .u8 (chunksOf bs))) ∧ Aside0 (wr.ownsRow w.heap.size 5 1 v6 bs.flatten.length (nums .u8 bs.flatten)) ∧ Aside0 (Apart2 v5 v6) ∧ Aside0 (Below w.heap.size w wr) ∧ Aside0 (∀ b ∈ bs, 0 < b.length) ∧ Aside0 (bs.flatten.length ≤ 255 * k ∧ (chunksOf bs).length ≤ 300 * k)) (fun _ _ v7 _ => ls.length - (intOf v7).toNat)
    case atStart => exact ⟨0, [], Nat.zero_le _, rfl, ⟨World.ownsRow_nil _ _ _ _⟩, ⟨World.ownsRow_nil _ _ _ _⟩, ⟨fun b h => by cases h⟩, hb1, ⟨fun b h => by cases h⟩, ⟨by simp [chunksOf]⟩⟩
    case round =>
      obtain ⟨k, bs, hk, rfl, ho5, ho6, hap, hb, hpos, hlen⟩ := hrel
      by_cases hlt : k < ls.length
      · have hlt' : decide ((k : Int) < (ls.length : Int)) = true := decide_eq_true (by omega)
        obtain ⟨ad, hA, hcell⟩ := (HR.out.below hb.out).2.2 (by omega)
        have hck := hcell k hlt
        clear hcell
        obtain ⟨m, hm, hm2⟩ : ∃ m : Nat, ls.getD k 0 = (m : Int) ∧ m ≤ 255 := by
          have h := HW.out (ls.getD k 0) (by rw [List.getD_eq_getElem?_getD, List.getElem?_eq_getElem hlt]; exact List.getElem_mem hlt)
          have := bounds_u8 h
          exact ⟨(ls.getD k 0).toNat, by omega, by omega⟩
        rw [hm] at hck
        clear hm
        subst hA
        by_cases hm0 : m = 0
        · subst hm0
          go_wp2
          go_roundw
          case rel => exact ⟨k + 1, bs, by omega, by go_num, ho5, ho6, hap, hb, hpos, ⟨by have := hlen.out; omega⟩⟩
          case measure => simp [intOf]; omega
        · have hm0' : ((m : Int) == 0) = false := beq_eq_false_iff_ne.2 (by omega)
          obtain ⟨wo, rfl⟩ : ∃ wo : World, wo = wr := ⟨_, rfl⟩
          obtain ⟨D, hD⟩ : ∃ D, D = wo.heap.size := ⟨_, rfl⟩
          have hmk : (Instr.makeSlice 22 (.int .i64 (m : Int)) (.int .i64 (m : Int))).run Tryd.prog wo = .ok (.slice (some ⟨D, 0, none⟩) m m) (wo.alloc (.cells (madeCells #[.int .u8 0] m) 5)) := by
            rw [hD]; exact print_make 22 5 .u8 1 Tryd.underlying22 j5' (by decide) m (by omega) wo
          have hom := own_made wo D 5 .u8 m (by omega) (by omega)
          rw [← hD] at hom
          obtain ⟨wM, hwM, HOM, HBM, HSM⟩ : ∃ wM, wo.alloc (.cells (madeCells #[.int .u8 0] m) 5) = wM ∧ Aside0 (wM.ownsRow D 5 1 (.slice (some ⟨D, 0, none⟩) m m) m (nums .u8 (List.replicate m 0))) ∧ Aside0 (Below wo.heap.size wo wM) ∧ Aside0 (wM.heap.size = D + 1) :=
            ⟨_, rfl, ⟨hom⟩, ⟨below_alloc (Below.refl _ _) _⟩, ⟨by rw [hD]; simp⟩⟩
          rw [hwM] at hmk
          clear hom hwM
          have HD := Aside0.mk hD
          clear hD
          have hm1 : 1 ≤ m := by omega
          have hk30 : k < 30 := by omega
          go_wp2
          clear hmk
          go_loopw [9] (fun v9 wi => ∃ (j : Nat) (dl : List Int), j ≤ m ∧ v9 = .int .i64 j ∧ dl.length = m ∧ Aside0 (wi.ownsRow D 5 1 (.slice (some ⟨D, 0, none⟩) m m) m (nums .u8 dl)) ∧ Aside0 (wM.grownBy wi (some D))) (fun v9 _ => m - (intOf v9).toNat)
          case atStart => exact ⟨0, List.replicate m 0, Nat.zero_le _, rfl, by simp, HOM, ⟨World.grownBy.refl _ _⟩⟩
          case round =>
            obtain ⟨j, dl, hj, rfl, hdl, hod, hgd⟩ := hrel
            by_cases hjm : j < m
            · have hjm' : decide ((j : Int) < (m : Int)) = true := decide_eq_true (by omega)
              have hc9 := hod.out.cellAt j (by omega)
              rw [show (nums .u8 dl)[j]? = some (.int .u8 (dl.getD j 0)) from by simp [nums, List.getD_eq_getElem?_getD, List.getElem?_eq_getElem (show j < dl.length by omega)]] at hc9
              have hf9 := hod.out.frozenAt j
              have hkj : (k : Int) * (j : Int) ≤ 30 * 255 := by
                have := Nat.mul_le_mul (show k ≤ 30 by omega) (show j ≤ 255 by omega)
                have e : ((k * j : Nat) : Int) = (k : Int) * (j : Int) := Int.natCast_mul k j
                omega
              have hkj0 : 0 ≤ (k : Int) * (j : Int) := Int.mul_nonneg (by omega) (by omega)
              have HDL := Aside0.mk hdl
              clear hdl
              go_wp2
              go_roundw
              case rel =>
                refine ⟨j + 1, dl.set j ((x + (k : Int) * (j : Int)) % 256), by omega, by go_num, by rw [List.length_set]; exact HDL.out, ⟨?_⟩, ⟨gtrans hgd.out (hod.out.stored j _).2⟩⟩
                have h := (hod.out.stored j (.int .u8 ((x + (k : Int) * (j : Int)) % 256))).1
                rw [show (nums .u8 dl).set j (.int .u8 ((x + (k : Int) * (j : Int)) % 256)) = nums .u8 (dl.set j ((x + (k : Int) * (j : Int)) % 256)) from by simp [nums, List.map_set]] at h
                exact h
              case measure => simp [intOf]; omega
            · have hjm' : decide ((j : Int) < (m : Int)) = false := decide_eq_false (by omega)
              have hdl0 : 0 < dl.length := by omega
              have hgo : Aside0 (wo.grownBy wr (some D)) := ⟨gtrans (grown_of_below HBM.out _) hgd.out⟩
              have hne5 : ∀ v xs, wo.ownsRow w.heap.size 5 1 v xs.length (nums .u8 xs) → wr.ownsRow w.heap.size 5 1 v xs.length (nums .u8 xs) := fun v xs h => h.kept hgo.out (by
                cases hb : v.ownBlock with
                | none => exact .inl rfl
                | some b => exact .inr (fun e => by have := (h.lt b hb).2; have := HD.out; cases e; omega))
              have HO6w := ho6
              have HDr : Aside0 (D < wr.heap.size) := ⟨by have h1 := HSM.out; have h2 := hgd.out.size; omega⟩
              have HO5 := Aside0.mk (hne5 _ _ ho5.out)
              have HO6 := Aside0.mk (hne5 _ _ ho6.out)
              have hrD : ReadsInt wr .u8 (some ⟨D, 0, none⟩) m dl := by
                obtain ⟨A1, c1, he, _, h⟩ := own_reads3 (by rw [hdl]; exact hod.out : wr.ownsRow D 5 1 (.slice (some ⟨D, 0, none⟩) m m) dl.length (nums .u8 dl))
                injection he with e1 e2 e3
                subst e1
                rw [hdl] at h; exact h
              have HRD := Aside0.mk hrD
              have HBB : Aside0 (Below w.heap.size w wr) := ⟨hb.out.grown hgo.out hb.out.size (fun k hk => by cases hk; rw [HD.out]; exact hb.out.size)⟩
              have HDL := Aside0.mk hdl
              have HF := Aside0.mk (bytesF_one dl hdl0)
              have HFL := Aside0.mk (bytesF_len dl (dl.length : Int) _ rfl)
              rw [hdl] at HF HFL
              obtain ⟨b, hb9⟩ : ∃ b, bytesF dl (m : Int) = b := ⟨_, rfl⟩
              rw [hb9] at HF HFL
              have hbl : b.length = (chunkE dl).length + 5 := by rw [HF.out]; simp
              have hbl2 : b.length ≤ 6000 := by have := HFL.out; omega
              have HB9 := Aside0.mk hb9
              have HBT : Aside0 (b.take (b.length - 5) = chunkE dl) := ⟨by rw [hbl, HF.out, Nat.add_sub_cancel, List.take_left]⟩
              have hb5 : decide ((b.length : Int) < 5) = false := decide_eq_false (by omega)
              have hb6 : 5 ≤ b.length := by omega
              have HS6 : Aside0 ((bs.flatten.length + m) * 1 ≤ 140737488355328) := ⟨by have := hlen.out; omega⟩
              have HS5 : Aside0 (((chunksOf bs).length + (chunkE dl).length) * 1 ≤ 140737488355328) := ⟨by have := hlen.out; omega⟩
              have HCL : Aside0 ((chunkE dl).length ≤ 276) := ⟨by have := chunkE_len dl; omega⟩
              clear hdl hdl0 hne5 hrD hb9 hbl hgd hod ho5 ho6 hb
              go_wp2_with (first
                | (at_builtin; refine print_append_row (w0 := w) w.heap.size rfl (.tmp 51) (.tmp 52) 22 5 .u8 1 rfl Tryd.underlying22 j5' (by decide) _ bs.flatten dl (some ⟨D, 0, none⟩) m m rfl rfl HO6.out HRD.out HBB.out HBB.out.size HS6.out ?_; intro v7 w7 ho7 hb7 hg7 hat7; replace ho7 := Aside0.mk ho7; have HB7 := Aside0.mk hb7; have HO57 := Aside0.mk (own_apart hap.out HO5.out hg7); have HAP7 := Aside0.mk (apart_grow hap.out HO5.out hat7); have HRD7 := Aside0.mk (reads_but HRD.out HO6w.out HD.out HDr.out hg7); clear hb7 hg7 hat7)
                | (go_at_call 14; ((with_reducible refine (bytes_callsM (some ⟨D, 0, none⟩) m dl m _ HDL.out HRD7.out (tz_below HT.out HB7.out) (by omega) b HB9.out).mono ?_); rintro e w8 ⟨A8, c8, rfl, hc8, hr8, hb8⟩; have HB8 := Aside0.mk (bt HB7.out hb8); have HO58 := Aside0.mk (pw_own_below HO57.out hb8); have HO68 := Aside0.mk (pw_own_below ho7.out hb8); have hct := cut_to A8 c8 b hc8 ((b.length : Int) - 5) (b.length - 5) (by omega) (by omega) (chunkE dl) HBT.out; have hrun8 := hct.1; have HR8 := Aside0.mk (hct.2.2 _ hr8); obtain ⟨q, hq⟩ : ∃ q, (chunkE dl).length = q := ⟨_, rfl⟩; rw [hq] at hrun8; have HQ := Aside0.mk hq; clear hct hc8 hr8 hb8 hq))
                | (at_builtin; refine print_append_row (w0 := w) w.heap.size rfl (.tmp 61) (.tmp 66) 22 5 .u8 1 rfl Tryd.underlying22 j5' (by decide) _ (chunksOf bs) (chunkE dl) A8 q c8 rfl rfl HO58.out (by rw [← HQ.out]; exact HR8.out) HB8.out HB8.out.size (by rw [← HQ.out]; exact HS5.out) ?_; intro v9 w9 ho9 hb9 hg9 hat9; replace ho9 := Aside0.mk ho9; have HB9' := Aside0.mk hb9; have HO69 := Aside0.mk (own_apart HAP7.out.symm HO68.out hg9); have HAP9 := Aside0.mk (apart_grow HAP7.out.symm HO68.out hat9).symm; clear hb9 hg9 hat9))
              go_roundw
              case rel => exact ⟨k + 1, bs ++ [dl], by omega, by go_num, ⟨by rw [chunksOf_app, show chunksOf [dl] = chunkE dl from by simp [chunksOf]]; exact ho9.out⟩, ⟨by rw [List.flatten_append, show [dl].flatten = dl from by simp]; exact HO69.out⟩, HAP9, HB9', ⟨fun b hb => by rcases List.mem_append.1 hb with h | h; exact hpos.out b h; rw [List.mem_singleton] at h; subst h; have := HDL.out; omega⟩, ⟨by
                have h1 := hlen.out; have h2 := HDL.out; have h3 := HCL.out
                rw [chunksOf_app, show chunksOf [dl] = chunkE dl from by simp [chunksOf], List.flatten_append, show [dl].flatten = dl from by simp, List.length_append, List.length_append]; omega⟩⟩
              case measure => simp [intOf]; omega
      · have hlt' : decide ((k : Int) < (ls.length : Int)) = false := decide_eq_false (by omega)
        obtain ⟨A5, c5, rfl⟩ := own_slice ho5.out
        obtain ⟨A6, c6, rfl⟩ := own_slice ho6.out
        have hz := zeros_len okbS 3 (by omega) (by omega)
        have ho := open_chunks okbS okfS bs [48, 48, 48] [114, 101, 115, 116] hpos.out (by have := hlen.out; omega) hz.2 (by simp) hz.1
        obtain ⟨cb, hcb⟩ : ∃ cb, chunksOf bs = cb := ⟨_, rfl⟩
        obtain ⟨fl, hfl⟩ : ∃ fl, bs.flatten = fl := ⟨_, rfl⟩
        rw [hcb, hfl] at ho hlen
        rw [hcb] at ho5
        rw [hfl] at ho6
        rw [show (((cb.length + ([48, 48, 48] : List Int).length + 4 : Nat)) : Int) = (cb.length : Int) + 7 from by simp only [List.length_cons, List.length_nil]; omega] at ho
        obtain ⟨cc, hcc⟩ : ∃ cc, cb ++ ([48, 48, 48] ++ 13 :: 10 :: 13 :: 10 :: [114, 101, 115, 116]) = cc := ⟨_, rfl⟩
        rw [hcc] at ho
        have HO := Aside0.mk ho
        have HCC : Aside0 (cb ++ bytesOf (ByteArray.mk #[48, 48, 48, 13, 10, 13, 10, 114, 101, 115, 116]) = cc) := ⟨hcc⟩
        have HS : Aside0 (cb.length + (ByteArray.mk #[48, 48, 48, 13, 10, 13, 10, 114, 101, 115, 116]).size ≤ 140737488355328) := ⟨by
          have e : (ByteArray.mk #[48, 48, 48, 13, 10, 13, 10, 114, 101, 115, 116]).size = 11 := rfl
          have := hlen.out; omega⟩
        have hfl5 : decide ((fl.length : Int) ≤ 65536) = true := decide_eq_true (by have := hlen.out; omega)
        have hcbl : cb.length ≤ 100000 := by have := hlen.out; omega
        have h6 := own_readsA ho6.out
        have HC6 := Aside0.mk h6.2
        rw [hcb] at hap
        rw [hfl] at hap
        rw [hcb, hfl]
        clear ho hcc hcb hfl hz hpos h6
        go_wp2_with (first
          | (at_builtin; refine print_append_str (w0 := w) w.heap.size rfl (.tmp 69) (.const (Value.string { data := #[48, 48, 48, 13, 10, 13, 10, 114, 101, 115, 116] })) 22 9 5 rfl Tryd.underlying22 Tryd.underlying9 j5' _ cb _ rfl rfl ho5.out hb.out hb.out.size HS.out ?_; intro v7 w7 ho7 hb7 hg7; rw [HCC.out] at ho7; have HO67 := Aside0.mk (own_apart hap.out.symm ho6.out hg7); obtain ⟨A7, c7, rfl, hc7, hr7⟩ := own_reads3 ho7; clear ho7 hg7; replace hc7 := Aside0.mk hc7; replace hr7 := Aside0.mk hr7; replace hb7 := Aside0.mk hb7)
          | (go_at_call 15; ((with_reducible refine (open_calls2 A7 c7 cc _ hr7.out hc7.out _ _ _ HO.out).mono ?_); rintro e w8 ⟨A8, c8, rfl, hc8, hr8, hb8⟩; have HR68 := Aside0.mk ((own_readsA HO67.out).1.below hb8); replace hb8 := Aside0.mk (bt hb7.out hb8); replace hc8 := Aside0.mk hc8; replace hr8 := Aside0.mk hr8))
          | (go_at_call 16; ((with_reducible refine (same_bytes A8 A6 c8 c6 fl _ hr8.out hc8.out HR68.out HC6.out).mono ?_); rintro e w9 ⟨rfl, hd9⟩)))
        go_ret
        exact ⟨rfl, bt hb8.out hd9.below⟩
end Go.Proofs.YtibgcbngnfaaiaaDoor.H
