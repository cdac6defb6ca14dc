/- http.Request's closure walked. · http.Request. · http.Response's closure. · http.Response. -/
import Derived.Test.YtibgcbngnfaaiaaDoorHNe
import Derived.RegionDies
namespace Go.Proofs.YtibgcbngnfaaiaaDoor.H
open Go.RowKit Go.Proofs.YtibgcbngnfaaiaaDoorW.PrintWords Go.Proofs.YtibgcbngnfaaiaaDoorW.PrintLast Go.Proofs.YtibgcbngnfaaiaaDoorW.PrintMore Go.Proofs.YtibgcbngnfaaiaaDoor.PA
set_option linter.unusedVariables false
set_option linter.unusedSimpArgs false

theorem rds_first {w : World} {A : Option Addr} {f : List UInt8} {L : List (List UInt8)} (h : RdS w A ((f :: L).map ofL)) : ∃ ad, A = some ad ∧ w.cell? ad = some (.string (ofL f)) := by
  obtain ⟨ad, h1, h2⟩ := rds_cell h 0 (by simp)
  rw [show ad.add 0 = ad from by unfold Addr.add; simp] at h2
  exact ⟨ad, h1, h2⟩
/-- l[1:] of a row of strings. -/
theorem cut_tail (A : Option Addr) (c : Nat) (f : List UInt8) (L : List (List UInt8)) (hc : (f :: L).length ≤ c) :
    ∃ A' c', (∀ W : World, (Instr.slice 38 (.slice A (L.length + 1) c) (some (.int .i64 1)) none none).run Tryd.prog W = .ok (.slice A' L.length c') W) ∧ L.length ≤ c' ∧ ∀ W, RdS W A ((f :: L).map ofL) → RdS W A' (L.map ofL) := by
  obtain ⟨i0, hi0, _, hsz, _⟩ := info_parts info9
  obtain ⟨A', h1, h2, h3⟩ := print_drop_of (P := Tryd.prog) Value.string ByteArray.empty 38 9 .i64 Tryd.underlying38 hi0 hsz A c ((f :: L).map ofL) 1 (by omega) (by simp; omega) (by rw [List.length_map]; exact hc)
  simp only [List.length_map, List.map_cons, List.length_cons, show (1 : Int).toNat = 1 from rfl, List.drop_succ_cons, List.drop_zero] at h1 h2 h3
  refine ⟨A', _, h1, h3, fun W h => ?_⟩
  have h4 := h2 W (by have := Kd.reads_of_C (enc := Value.string) (d := ByteArray.empty) (h1 := fun _ => rfl) h; simpa using this)
  unfold RdS
  rw [List.length_map]
  exact Kd.C_of_reads (enc := Value.string) (d := ByteArray.empty) (h1 := fun _ => rfl) h4
theorem splitSp_pieces : ∀ (n : Nat) (cur l : List UInt8), l.length = n → ∀ p ∈ splitSp cur l, p.length ≤ cur.length + n
  | 0, cur, l, h, p, hp => by
    obtain rfl := List.eq_nil_of_length_eq_zero h
    simp [splitSp] at hp; rw [hp]; omega
  | n + 1, cur, c :: r, h, p, hp => by
    have hr : r.length = n := by simpa using h
    rw [splitSp] at hp
    split at hp
    · rcases List.mem_cons.1 hp with h1 | h1
      · rw [h1]; omega
      · have := splitSp_pieces n [] r hr p h1
        simp only [List.length_nil] at this; omega
    · have := splitSp_pieces n (cur ++ [c]) r hr p hp
      simp only [List.length_append, List.length_cons, List.length_nil] at this; omega
  | n + 1, cur, [], h, p, hp => by cases h
theorem fieldS_sizes (l : List UInt8) (h : l.length ≤ 8192) : (fieldS l).f0.size ≤ 100000000 ∧ (fieldS l).f1.size ≤ 100000000 := by
  unfold fieldS
  split
  · simp [ofL_size]
  · rename_i i hi
    have := trimL_le (l.drop (i + 1))
    rw [List.length_drop] at this
    simp only [ofL_size, List.length_take]
    omega
theorem parseS_sizes (L : List ByteArray) (h : ∀ s ∈ L, s.size ≤ 8192) : (parseS L).1.length ≤ 1000 ∧ ∀ f ∈ (parseS L).1, f.f0.size ≤ 100000000 ∧ f.f1.size ≤ 100000000 := by
  unfold parseS
  split
  · simp
  · split
    · refine ⟨by simp [fieldsS]; omega, fun f hf => ?_⟩
      simp only [fieldsS, List.mem_map] at hf
      obtain ⟨s, hs, rfl⟩ := hf
      exact fieldS_sizes _ (by rw [toL_length]; exact h s hs)
    · simp
theorem fields_okL (A : Option Addr) (c : Nat) (L : List (List UInt8)) (w : World) (hr : RdS w A (L.map ofL)) (hc : L.length ≤ c) (hs : ∀ s ∈ L.map ofL, s.size ≤ 8192) (fs : List S103) (h : parseS (L.map ofL) = (fs, 0)) :
    Calls Tryd.prog 51 #[.slice A L.length c] w fun e w' => ∃ A1 c1, e = .returned (.slice A1 fs.length c1) ∧ OwnF w' w.heap.size A1 c1 fs ∧ Below w.heap.size w w' := by
  have h0 := fields_okR A c (L.map ofL) w hr (by rw [List.length_map]; exact hc) (fun s hs' => by have := hs s hs'; omega) fs h
  rw [List.length_map] at h0
  exact h0
theorem fields_noL (A : Option Addr) (c : Nat) (L : List (List UInt8)) (w : World) (hr : RdS w A (L.map ofL)) (hc : L.length ≤ c) (hs : ∀ s ∈ L.map ofL, s.size ≤ 8192) (fs : List S103) (x : Int) (hx : x ≠ 0) (h : parseS (L.map ofL) = (fs, x)) :
    Calls Tryd.prog 51 #[.slice A L.length c] w fun e w' => e = .panicked (stopH x) ∧ Below w.heap.size w w' := by
  have h0 := fields_no A c (L.map ofL) w hr (by rw [List.length_map]; exact hc) (fun s hs' => by have := hs s hs'; omega) fs x hx h
  rw [List.length_map] at h0
  exact h0
theorem rds_three {w : World} {g : Nat} {m t v : List UInt8} (h : RdS w (some ⟨g, 0, none⟩) ([m, t, v].map ofL)) : w.cell? ⟨g, 0, none⟩ = some (.string (ofL m)) ∧ w.cell? ⟨g, 1, none⟩ = some (.string (ofL t)) ∧ w.cell? ⟨g, 2, none⟩ = some (.string (ofL v)) := by
  have k : ∀ j, j < 3 → w.cell? ⟨g, j, none⟩ = some (.string (([m, t, v].map ofL).getD j ByteArray.empty)) := fun j hj => by
    obtain ⟨ad, h1, h2⟩ := rds_cell h j (by simpa using hj)
    injection h1 with h1
    subst h1
    rw [add_plain] at h2
    exact h2
  exact ⟨k 0 (by omega), k 1 (by omega), k 2 (by omega)⟩
theorem htoken_L (m : List UInt8) (w : World) (hs : m.length ≤ 4294967296) (b : Bool) (h : tokL m = b) : Calls Tryd.prog 49 #[.string (ofL m)] w fun e w' => e = .returned (.bool b) ∧ Drawn0 w w' := by
  subst h
  have := htoken_calls (ofL m) w (by rw [ofL_size]; exact hs)
  rw [toL_ofL] at this; exact this
theorem htarget_L (m : List UInt8) (w : World) (hs : m.length ≤ 4294967296) (b : Bool) (h : targetL m = b) : Calls Tryd.prog 50 #[.string (ofL m)] w fun e w' => e = .returned (.bool b) ∧ Drawn0 w w' := by
  subst h
  have := htarget_calls (ofL m) w (by rw [ofL_size]; exact hs)
  rw [toL_ofL] at this; exact this
theorem splitCR_pieces : ∀ (n : Nat) (cur l : List UInt8), l.length = n → ∀ p ∈ splitCR cur l, p.length ≤ cur.length + n := by
  intro n
  induction n using Nat.strongRecOn with
  | ind n ih =>
    intro cur l h p hp
    match l, h with
    | [], h => simp [splitCR] at hp; rw [hp]; omega
    | [c], h => simp [splitCR] at hp; rw [hp]; simp at h ⊢; omega
    | c :: d :: r, h =>
      simp only [List.length_cons] at h
      rw [splitCR] at hp
      split at hp
      · rcases List.mem_cons.1 hp with h1 | h1
        · rw [h1]; omega
        · have := ih r.length (by omega) [] r rfl p h1
          simp only [List.length_nil] at this; omega
      · have := ih (d :: r).length (by simp; omega) (cur ++ [c]) (d :: r) rfl p hp
        simp only [List.length_append, List.length_cons, List.length_nil] at this; omega
theorem splitCR_ne (cur l : List UInt8) : splitCR cur l ≠ [] := by
  match l with
  | [] => simp [splitCR]
  | [c] => simp [splitCR]
  | c :: d :: r =>
    rw [splitCR]
    split
    · simp
    · exact splitCR_ne (cur ++ [c]) (d :: r)
termination_by l.length
theorem headS_ne (l : List UInt8) (L : List (List UInt8)) (at_ : Nat) (h : headS l = .ok (L, at_)) : L ≠ [] := by
  unfold headS at h
  split at h
  · split at h <;> cases h
  · split at h
    · cases h; exact splitCR_ne _ _
    · cases h
theorem headS_lim (l : List UInt8) (L : List (List UInt8)) (at_ : Nat) (h : headS l = .ok (L, at_)) : at_ ≤ l.length ∧ ∀ f ∈ L, f.length ≤ 8192 := by
  unfold headS at h
  split at h
  · split at h <;> cases h
  · rename_i i hi
    have h1 := endAt_le _ _ hi
    rw [List.length_take] at h1
    split at h
    · cases h
      refine ⟨by omega, fun f hf => ?_⟩
      have := splitCR_pieces _ [] _ rfl f hf
      rw [List.length_take] at this
      simp only [List.length_nil] at this; omega
    · cases h
theorem OwnF.lower {w : World} {base base' c : Nat} {A : Option Addr} {fs : List S103} (h : OwnF w base A c fs) (hb : base' ≤ base) : OwnF w base' A c fs :=
  Kd.R_mono (Kd.R_lower h hb) (fun k hk => Nat.le_trans hb hk)
theorem trail_bd {ok : ByteArray → Bool} {l : List Int} : ∀ (d n p q : Nat), trailF ok l d n p = .ok q → q ≤ l.length
  | 0, _, _, _, h => by rw [trailF] at h; cases h
  | d + 1, n, p, q, h => by
    rw [trailF] at h
    split at h
    · cases h
    · split at h
      · cases h; omega
      · split at h
        · exact trail_bd d _ _ q h
        · cases h
theorem body_bd {okb okf : ByteArray → Bool} {l : List Int} : ∀ (d p : Nat) (out o : List Int) (q : Nat), bodyF okb okf l d p out = .ok (o, q) → q ≤ l.length
  | 0, _, _, _, _, h => by rw [bodyF] at h; cases h
  | d + 1, p, out, o, q, h => by
    rw [bodyF] at h
    split at h
    · cases h
    · split at h
      · cases h
      · split at h
        · split at h
          · cases h
          · rename_i h1; cases h; exact trail_bd _ _ _ _ h1
        · split at h
          · cases h
          · split at h
            · cases h
            · split at h
              · cases h
              · exact body_bd d _ _ o q h
theorem toldS_nonneg (l : List ByteArray) (n : Int) (h : toldS l = .ok n) : 0 ≤ n := by
  cases l with
  | nil => cases h; omega
  | cons t r =>
    rw [toldS] at h
    split at h
    · exact numF_nonneg _ _ h
    · cases h
theorem framed_bd (fs : List S103) (rest : List UInt8) (b : List Int) (n : Int) (told : Bool) (h : framedS fs rest = .ok (b, n, told)) : 0 ≤ n ∧ n ≤ rest.length := by
  unfold framedS framedT at h
  split at h
  · split at h
    · cases h
    · rename_i h1
      have h0 := toldS_nonneg _ _ h1
      unfold plainB at h
      split at h
      · cases h
      · split at h
        · cases h
        · cases h; omega
  · split at h
    · split at h
      · cases h
      · rename_i h1
        cases h
        unfold openU openF at h1
        split at h1
        rename_i h2
        split at h1
        · cases h1
          split at h2
          · rename_i h3
            cases h2
            have := body_bd _ _ _ _ _ h3
            rw [iL_length] at this
            omega
          · cases h2; omega
        · cases h1
    · cases h
  · cases h
set_option maxHeartbeats 8000000 in
set_option maxRecDepth 100000 in
theorem req1_calls (Bb Br Bn : Nat) (A : Option Addr) (c : Nat) (l : List UInt8) (w : World) (hr : ∀ W, Grw2 Br Bn w W → ReadsInt W .u8 A l.length (iL l)) (hc : l.length ≤ c) (hl : l.length ≤ 1000000000) (hm : Mz w)
    (hb : w.heap[Bb]? = some (.cells #[.slice A l.length c] 22 (0, 0))) (hbr : w.heap[Br]? = some (.cells #[.string ⟨#[]⟩, .string ⟨#[]⟩, .slice none 0 0, .slice none 0 0] 41 (0, 0))) (hbn : w.heap[Bn]? = some (.cells #[.int .i64 0] 3 (0, 0)))
    (h1 : Bb ≠ Br) (h2 : Bb ≠ Bn) (h3 : Br ≠ Bn) :
    Calls Tryd.prog 45 #[.pointer (some ⟨Bb, 0, none⟩), .pointer (some ⟨Br, 0, none⟩), .pointer (some ⟨Bn, 0, none⟩)] w (Req1Post l Br Bn w) := by
  have HR := Aside0.mk hr
  have HC := Aside0.mk hc
  have HL := Aside0.mk hl
  have HM := Aside0.mk hm
  have kb := Aside0.mk hb
  have kr := Aside0.mk hbr
  have kn := Aside0.mk hbn
  have hcb := blk_cell hb 0
  replace hcb : w.cell? ⟨Bb, 0, none⟩ = some (.slice A l.length c) := hcb
  clear hr hm hb hbr hbn
  cases hhd : headS l with
  | error x =>
    have HHD := Aside0.mk hhd
    have HF : Aside0 (reqS l = .error x) := ⟨by unfold reqS; rw [hhd]⟩
    clear hhd
    go_enter Tryd.func45, Tryd.ntmps45
    go_wp2_with (first
      | (go_at_call 46; ((with_reducible refine (lines_noC A c l _ (HR.out _ (Grw2.refl _ _ _)) HC.out HL.out HM.out x HHD.out).mono ?_); rintro e w1 ⟨rfl, hb1⟩; replace hb1 := Aside0.mk hb1)))
    exact ⟨rfl, req1_err HF.out (Grw2.of_below hb1.out)⟩
  | ok La =>
    obtain ⟨L0, at_⟩ := La
    have hne := headS_ne l L0 at_ hhd
    obtain ⟨f, L, rfl⟩ : ∃ f L, L0 = f :: L := by
      cases L0 with
      | nil => exact (hne rfl).elim
      | cons f L => exact ⟨f, L, rfl⟩
    have HHD := Aside0.mk hhd
    have hlim := headS_lim l _ at_ hhd
    obtain ⟨rest, hrest⟩ : ∃ rest, l.drop at_ = rest := ⟨_, rfl⟩
    have HREST := Aside0.mk hrest
    have HF : Aside0 (reqS l = behindS (lineS f) L rest at_) := ⟨by unfold reqS; rw [hhd]; simp only [List.headD_cons, List.tail_cons]; rw [hrest]⟩
    obtain ⟨P, hP⟩ : ∃ P, splitSp [] f = P := ⟨_, rfl⟩
    have HFS : Aside0 ((ofL f).size < 4294967281) := ⟨by rw [ofL_size]; have := hlim.2 f (by simp); omega⟩
    have HP : Aside0 (splitSp [] (toL (ofL f)) = P) := ⟨by rw [toL_ofL]; exact hP⟩
    have HLS : Aside0 (lineS f = lineT P) := ⟨by unfold lineS; rw [hP]⟩
    clear hhd hne hrest hP
    by_cases h3p : P.length = 3
    · obtain ⟨m, t, v, rfl⟩ : ∃ m t v, P = [m, t, v] := by
        match P, h3p with
        | [m, t, v], _ => exact ⟨m, t, v, rfl⟩
      clear h3p
      have hsz := splitSp_pieces _ [] (toL (ofL f)) rfl
      rw [HP.out, toL_ofL] at hsz
      have hf8 := hlim.2 f (by simp)
      have HMS : Aside0 (m.length ≤ 4294967296) := ⟨by have := hsz m (by simp); simp only [List.length_nil] at this; omega⟩
      have HTS : Aside0 (t.length ≤ 4294967296) := ⟨by have := hsz t (by simp); simp only [List.length_nil] at this; omega⟩
      have HLT : Aside0 (lineS f = if (tokL m && (targetL t && (v == [72, 84, 84, 80, 47, 49, 46, 49]))) = true then some (m, t) else none) := HLS
      clear hsz HLS
      cases htk : tokL m with
      | false =>
        have HTK := Aside0.mk htk
        have HF2 : Aside0 (reqS l = .error 95) := ⟨by rw [HF.out, HLT.out, htk]; rfl⟩
        clear htk
        go_enter Tryd.func45, Tryd.ntmps45
        go_wp2_with (first
          | (go_at_call 46; ((with_reducible refine (lines_okC A c l _ (HR.out _ (Grw2.refl _ _ _)) HC.out HL.out HM.out (f :: L) at_ HHD.out rest HREST.out).mono ?_); rintro e w1 ⟨A1, c1, A2, c2, rfl, hc1, hr1, hc2, hr2, hb1⟩; obtain ⟨ad1, rfl, hcl0⟩ := rds_first hr1; replace hc1 := Aside0.mk hc1; replace hr1 := Aside0.mk hr1; replace hc2 := Aside0.mk hc2; replace hr2 := Aside0.mk hr2; have kb1 := Aside0.mk (blk_below kb.out hb1); have kr1 := Aside0.mk (blk_below kr.out hb1); have kn1 := Aside0.mk (blk_below kn.out hb1); replace hb1 := Aside0.mk hb1))
          | (go_at_call 47; ((with_reducible refine (split_calls2 (ofL f) _ HFS.out (mz_below HM.out hb1.out) _ HP.out).mono ?_); rintro e w2 ⟨g2, c3, rfl, hg2, hr3, hb2⟩; have hp3 := rds_three hr3; obtain ⟨hp0, hp1, hp2⟩ := hp3; replace hg2 := Aside0.mk hg2; replace hr3 := Aside0.mk hr3; have kr2 := Aside0.mk (blk_below kr1.out hb2); have kn2 := Aside0.mk (blk_below kn1.out hb2); have kb2 := Aside0.mk (blk_below kb1.out hb2); have hb12 := Aside0.mk hb2; replace hb2 := Aside0.mk (bt' hb1.out hb2)))
          | (go_at_call 49; ((with_reducible refine (htoken_L m _ HMS.out _ HTK.out).mono ?_); rintro e w3 ⟨rfl, ⟨n3, rfl⟩⟩))
          | (go_at_call 48; ((with_reducible refine (hmust_no _ _).mono ?_); rintro e w' ⟨rfl, rfl⟩)))
        exact ⟨rfl, req1_err HF2.out (Grw2.of_below (below_of_drawn hb2.out n3))⟩
      | true =>
        have HTK := Aside0.mk htk
        cases htg : targetL t with
        | false =>
          have HTG := Aside0.mk htg
          have HF2 : Aside0 (reqS l = .error 95) := ⟨by rw [HF.out, HLT.out, htk, htg]; rfl⟩
          clear htk htg
          go_enter Tryd.func45, Tryd.ntmps45
          go_wp2_with (first
            | (go_at_call 46; ((with_reducible refine (lines_okC A c l _ (HR.out _ (Grw2.refl _ _ _)) HC.out HL.out HM.out (f :: L) at_ HHD.out rest HREST.out).mono ?_); rintro e w1 ⟨A1, c1, A2, c2, rfl, hc1, hr1, hc2, hr2, hb1⟩; obtain ⟨ad1, rfl, hcl0⟩ := rds_first hr1; replace hc1 := Aside0.mk hc1; replace hr1 := Aside0.mk hr1; replace hc2 := Aside0.mk hc2; replace hr2 := Aside0.mk hr2; have kb1 := Aside0.mk (blk_below kb.out hb1); have kr1 := Aside0.mk (blk_below kr.out hb1); have kn1 := Aside0.mk (blk_below kn.out hb1); replace hb1 := Aside0.mk hb1))
            | (go_at_call 47; ((with_reducible refine (split_calls2 (ofL f) _ HFS.out (mz_below HM.out hb1.out) _ HP.out).mono ?_); rintro e w2 ⟨g2, c3, rfl, hg2, hr3, hb2⟩; have hp3 := rds_three hr3; obtain ⟨hp0, hp1, hp2⟩ := hp3; replace hg2 := Aside0.mk hg2; replace hr3 := Aside0.mk hr3; have kr2 := Aside0.mk (blk_below kr1.out hb2); have kn2 := Aside0.mk (blk_below kn1.out hb2); have kb2 := Aside0.mk (blk_below kb1.out hb2); have hb12 := Aside0.mk hb2; replace hb2 := Aside0.mk (bt' hb1.out hb2)))
            | (go_at_call 49; ((with_reducible refine (htoken_L m _ HMS.out _ HTK.out).mono ?_); rintro e w3 ⟨rfl, ⟨n3, rfl⟩⟩))
            | (go_at_call 50; ((with_reducible refine (htarget_L t _ HTS.out _ HTG.out).mono ?_); rintro e w4 ⟨rfl, ⟨n4, rfl⟩⟩))
            | (go_at_call 48; ((with_reducible refine (hmust_no _ _).mono ?_); rintro e w' ⟨rfl, rfl⟩)))
          exact ⟨rfl, req1_err HF2.out (Grw2.of_below (below_of_drawn hb2.out _))⟩
        | true =>
          have HTG := Aside0.mk htg
          by_cases hv : v = [72, 84, 84, 80, 47, 49, 46, 49]
          · subst hv
            have e3 : ((ofL [72, 84, 84, 80, 47, 49, 46, 49]).toList == [72, 84, 84, 80, 47, 49, 46, 49]) = true := by rw [ofL_toList]; rfl
            have HF2 : Aside0 (reqS l = restS m t L rest at_) := ⟨by rw [HF.out, HLT.out, htk, htg]; rfl⟩
            clear htk htg
            go_enter Tryd.func45, Tryd.ntmps45
            go_wp2_with (first
              | (go_at_call 46; ((with_reducible refine (lines_okC A c l _ (HR.out _ (Grw2.refl _ _ _)) HC.out HL.out HM.out (f :: L) at_ HHD.out rest HREST.out).mono ?_); rintro e w1 ⟨A1, c1, A2, c2, rfl, hc1, hr1, hc2, hr2, hb1⟩; obtain ⟨ad1, rfl, hcl0⟩ := rds_first hr1; replace hc1 := Aside0.mk hc1; replace hr1 := Aside0.mk hr1; replace hc2 := Aside0.mk hc2; replace hr2 := Aside0.mk hr2; have kb1 := Aside0.mk (blk_below kb.out hb1); have kr1 := Aside0.mk (blk_below kr.out hb1); have kn1 := Aside0.mk (blk_below kn.out hb1); replace hb1 := Aside0.mk hb1))
              | (go_at_call 47; ((with_reducible refine (split_calls2 (ofL f) _ HFS.out (mz_below HM.out hb1.out) _ HP.out).mono ?_); rintro e w2 ⟨g2, c3, rfl, hg2, hr3, hb2⟩; have hp3 := rds_three hr3; obtain ⟨hp0, hp1, hp2⟩ := hp3; replace hg2 := Aside0.mk hg2; replace hr3 := Aside0.mk hr3; have kr2 := Aside0.mk (blk_below kr1.out hb2); have kn2 := Aside0.mk (blk_below kn1.out hb2); have kb2 := Aside0.mk (blk_below kb1.out hb2); have hb12 := Aside0.mk hb2; replace hb2 := Aside0.mk (bt' hb1.out hb2)))
              | (go_at_call 49; ((with_reducible refine (htoken_L m _ HMS.out _ HTK.out).mono ?_); rintro e w3 ⟨rfl, ⟨n3, rfl⟩⟩))
              | (go_at_call 50; ((with_reducible refine (htarget_L t _ HTS.out _ HTG.out).mono ?_); rintro e w4 ⟨rfl, ⟨n4, rfl⟩⟩))
              | (go_at_call 48; ((with_reducible refine (hmust_ok _ _).mono ?_); rintro e w' ⟨rfl, rfl⟩)))
            obtain ⟨w5, hw5, hb5, hg0, hg1, kr5, kn5, kb5, hr5⟩ : ∃ w5, w2.drewN (n3 + n4) = w5 ∧ Aside0 (Below w.heap.size w w5) ∧ w5.cell? ⟨g2, 0, none⟩ = some (.string (ofL m)) ∧ w5.cell? ⟨g2, 1, none⟩ = some (.string (ofL t)) ∧ Aside0 (w5.heap[Br]? = some (.cells #[.string ⟨#[]⟩, .string ⟨#[]⟩, .slice none 0 0, .slice none 0 0] 41 (0, 0))) ∧ Aside0 (w5.heap[Bn]? = some (.cells #[.int .i64 0] 3 (0, 0))) ∧ Aside0 (w5.heap[Bb]? = some (.cells #[.slice A l.length c] 22 (0, 0))) ∧ Aside0 (RdS w5 (some ad1) ((f :: L).map ofL)) :=
              ⟨_, rfl, ⟨below_of_drawn hb2.out _⟩, by rw [World.cell?_drewN]; exact hp0, by rw [World.cell?_drewN]; exact hp1, ⟨blk_drewN kr2.out _⟩, ⟨blk_drewN kn2.out _⟩, ⟨blk_drewN kb2.out _⟩, ⟨RdS.below hr1.out (below_of_drawn hb12.out _)⟩⟩
            rw [hw5]
            clear hw5 hp0 hp1 hp2
            obtain ⟨A6, c6, hcut, hc6, hrd6⟩ := cut_tail (some ad1) c1 f L hc1.out
            have HC6 := Aside0.mk hc6
            have HRD6 := Aside0.mk (hrd6 _ hr5.out)
            clear hc6 hrd6
            have HLS2 : Aside0 (∀ s ∈ L.map ofL, s.size ≤ 8192) := ⟨fun s hs => by
              rw [List.mem_map] at hs
              obtain ⟨q, hq, rfl⟩ := hs
              rw [ofL_size]
              exact hlim.2 q (by simp [hq])⟩
            have HFSZ0 := parseS_sizes (L.map ofL) HLS2.out
            have hgb : ¬ g2 = Br := by have h1 := hg2.out; have h2 := blk_lt kr1.out; omega
            cases hps : parseS (L.map ofL) with
            | mk fs x =>
              rw [hps] at HFSZ0
              have HFSZ := Aside0.mk HFSZ0
              have HPS := Aside0.mk hps
              clear hps HFSZ0
              by_cases hx : x = 0
              · subst hx
                have HF3 : Aside0 (reqS l = if (allS fs hostN).length = 1 then (match framedS fs rest with | .error x => .error x | .ok (b, n, _) => .ok (m, t, fs, b, (at_ : Int) + n)) else .error 90) := ⟨by rw [HF2.out]; unfold restS; rw [HPS.out]; rfl⟩
                go_region_held3 (fun w' => w'.cell? ⟨g2, 0, none⟩ = some (.string (ofL m)) ∧ w'.cell? ⟨g2, 1, none⟩ = some (.string (ofL t))) (first | go_keep | (refine ⟨?_, ?_⟩ <;> (repeat (rw [cell_far (by simpa using hgb)])) <;> assumption))
                  (first | (go_at_call 51; (with_reducible refine (fields_okL A6 c6 L _ (RdS.below HRD6.out (below_drew (Below.refl _ _))) HC6.out HLS2.out fs HPS.out).mono ?_); rintro e w6 ⟨A7, c7, rfl, ho7, hb7⟩; have g60 : w6.cell? ⟨g2, 0, none⟩ = some (.string (ofL m)) := pw_cell_below (bt' (below_drew (Below.refl _ _)) hb7) hg0; have g61 : w6.cell? ⟨g2, 1, none⟩ = some (.string (ofL t)) := pw_cell_below (bt' (below_drew (Below.refl _ _)) hb7) hg1; have kr6 := blk_below kr5.out (bt' (below_drew (Below.refl _ _)) hb7); have b60 : w6.cell? ⟨Br, 0, none⟩ = some (.string ⟨#[]⟩) := blk_cell kr6 0; have b61 : w6.cell? ⟨Br, 1, none⟩ = some (.string ⟨#[]⟩) := blk_cell kr6 1; have b62 : w6.cell? ⟨Br, 2, none⟩ = some (.slice none 0 0) := blk_cell kr6 2; have f60 : w6.frozen? ⟨Br, 0, none⟩ = false := blk_frozen kr6 0; have f61 : w6.frozen? ⟨Br, 1, none⟩ = false := blk_frozen kr6 1; have f62 : w6.frozen? ⟨Br, 2, none⟩ = false := blk_frozen kr6 2; replace kr6 := Aside0.mk kr6; replace ho7 := Aside0.mk ho7; replace hb7 := Aside0.mk hb7))
                have hBrl := blk_lt kr1.out
                have hb56 := bt' (below_drew (Below.refl w5.heap.size w5)) hb7.out
                obtain ⟨w8, hw8, kr8, kn8, kb8, ho8, HG8, HB8, HW58⟩ : ∃ w8, ((w6.setCell ⟨Br, 0, none⟩ (.string (ofL m))).setCell ⟨Br, 1, none⟩ (.string (ofL t))).setCell ⟨Br, 2, none⟩ (.slice A7 fs.length c7) = w8 ∧ Aside0 (w8.heap[Br]? = some (.cells #[.string (ofL m), .string (ofL t), .slice A7 fs.length c7, .slice none 0 0] 41 (0, 0))) ∧ Aside0 (w8.heap[Bn]? = some (.cells #[.int .i64 0] 3 (0, 0))) ∧ Aside0 (w8.heap[Bb]? = some (.cells #[.slice A l.length c] 22 (0, 0))) ∧ Aside0 (OwnF w8 w5.heap.size A7 c7 fs) ∧ Aside0 (Grw2 Br Bn w w8) ∧ Aside0 (w.heap.size ≤ w5.heap.size) ∧ Aside0 (w5.heap.size ≤ w8.heap.size) := by
                  have hbw5 := hb5.out
                  have hBw : Br < w5.heap.size := by have := blk_lt kr5.out; omega
                  have hn5 := blk_below kn5.out hb56
                  have hbb5 := blk_below kb5.out hb56
                  refine ⟨_, rfl, ⟨?_⟩, ⟨?_⟩, ⟨?_⟩, ⟨?_⟩, ⟨?_⟩, ⟨hbw5.size⟩, ⟨by simp; exact hb56.size⟩⟩
                  · exact blk_put (blk_put (blk_put kr6.out 0 _ rfl) 1 _ rfl) 2 _ rfl
                  · exact blk_at (blk_at (blk_at hn5 (p := ⟨Br, 0, none⟩) (Ne.symm h3) _) (p := ⟨Br, 1, none⟩) (Ne.symm h3) _) (p := ⟨Br, 2, none⟩) (Ne.symm h3) _
                  · exact blk_at (blk_at (blk_at hbb5 (p := ⟨Br, 0, none⟩) h1 _) (p := ⟨Br, 1, none⟩) h1 _) (p := ⟨Br, 2, none⟩) h1 _
                  · exact ((OwnF.set ho7.out (p := ⟨Br, 0, none⟩) hBw _).set (p := ⟨Br, 1, none⟩) hBw _).set (p := ⟨Br, 2, none⟩) hBw _
                  · exact (((Grw2.of_below (bt' hbw5 hb56)).setA 0 _).setA 1 _).setA 2 _
                rw [hw8]
                clear hw8
                have r80 : w8.cell? ⟨Br, 2, none⟩ = some (.slice A7 fs.length c7) := blk_cell kr8.out 2
                by_cases hho : (allS fs hostN).length = 1
                · have HHO := Aside0.mk hho
                  have hho' : (((allS fs hostN).length : Int) == 1) = true := beq_iff_eq.2 (by omega)
                  obtain ⟨hs, hhs⟩ : ∃ hs, allS fs hostN = hs := ⟨_, rfl⟩
                  have HF4 : Aside0 (reqS l = match framedS fs rest with | .error x => .error x | .ok (b, n, _) => .ok (m, t, fs, b, (at_ : Int) + n)) := ⟨by rw [HF3.out, if_pos hho]⟩
                  rw [hhs] at hho'
                  have HHS := Aside0.mk hhs
                  have HAT := Aside0.mk hlim.1
                  have HRL0 : Aside0 (rest.length = l.length - at_) := ⟨by rw [← HREST.out, List.length_drop]⟩
                  have HRL : Aside0 (rest.length ≤ 1000000000) := ⟨by have := HRL0.out; omega⟩
                  clear hho hhs
                  cases hfr : framedS fs rest with
                  | error x =>
                    have HFR := Aside0.mk hfr
                    have HF5 : Aside0 (reqS l = .error x) := ⟨by rw [HF4.out, hfr]⟩
                    clear hfr
                    go_wp2_with (first
                      | (go_at_call 52; ((with_reducible refine (hall_calls' A7 c7 fs hostN _ (OwnF.reads ho8.out).2 (OwnF.reads ho8.out).1 HFSZ.out hs HHS.out).mono ?_); rintro e w9 ⟨A9, c9, rfl, hc9, hr9, hb9⟩; have r90 : w9.cell? ⟨Br, 2, none⟩ = some (.slice A7 fs.length c7) := blk_cell (blk_below kr8.out hb9) 2; have ho9 := Aside0.mk (OwnF.below ho8.out hb9); replace hb9 := Aside0.mk hb9; replace hr9 := Aside0.mk hr9; replace hc9 := Aside0.mk hc9))
                      | (go_at_call 48; ((with_reducible refine (hmust_ok _ _).mono ?_); rintro e w' ⟨rfl, rfl⟩))
                      | (go_at_call 53; ((with_reducible refine (framed_noC A7 c7 fs A2 c2 rest _ (OwnF.reads ho9.out).2 (OwnF.reads ho9.out).1 (hr2.out _ (HR.out _ (HG8.out.trans (Grw2.of_below hb9.out)))) hc2.out HRL.out HFSZ.out x HFR.out).mono ?_); rintro e w10 ⟨rfl, hb10⟩; replace hb10 := Aside0.mk hb10)))
                    exact ⟨rfl, req1_err HF5.out ((HG8.out.trans (Grw2.of_below hb9.out)).trans (Grw2.of_below hb10.out))⟩
                  | ok bnt =>
                    obtain ⟨b, n, told⟩ := bnt
                    have HFR := Aside0.mk hfr
                    have HF5 : Aside0 (reqS l = .ok (m, t, fs, b, (at_ : Int) + n)) := ⟨by rw [HF4.out, hfr]⟩
                    have hbd := framed_bd _ _ _ _ _ hfr
                    clear hfr
                    go_wp2_with (first
                      | (go_at_call 52; ((with_reducible refine (hall_calls' A7 c7 fs hostN _ (OwnF.reads ho8.out).2 (OwnF.reads ho8.out).1 HFSZ.out hs HHS.out).mono ?_); rintro e w9 ⟨A9, c9, rfl, hc9, hr9, hb9⟩; have r90 : w9.cell? ⟨Br, 2, none⟩ = some (.slice A7 fs.length c7) := blk_cell (blk_below kr8.out hb9) 2; have ho9 := Aside0.mk (OwnF.below ho8.out hb9); replace hb9 := Aside0.mk hb9; replace hr9 := Aside0.mk hr9; replace hc9 := Aside0.mk hc9))
                      | (go_at_call 48; ((with_reducible refine (hmust_ok _ _).mono ?_); rintro e w' ⟨rfl, rfl⟩))
                      | (go_at_call 53; ((with_reducible refine (framed_okC A7 c7 fs A2 c2 rest _ (OwnF.reads ho9.out).2 (OwnF.reads ho9.out).1 (hr2.out _ (HR.out _ (HG8.out.trans (Grw2.of_below hb9.out)))) hc2.out HRL.out HFSZ.out b n told HFR.out).mono ?_); rintro e w10 ⟨A10, c10, rfl, ho10, hb10⟩; have kb10 := blk_below (blk_below kb8.out hb9.out) hb10; have kr10 := blk_below (blk_below kr8.out hb9.out) hb10; have kn10 := blk_below (blk_below kn8.out hb9.out) hb10; have b10 : w10.cell? ⟨Bb, 0, none⟩ = some (.slice A l.length c) := blk_cell kb10 0; have r103 : w10.cell? ⟨Br, 3, none⟩ = some (.slice none 0 0) := blk_cell kr10 3; have n10 : w10.cell? ⟨Bn, 0, none⟩ = some (.int .i64 0) := blk_cell kn10 0; have fr10 : w10.frozen? ⟨Br, 3, none⟩ = false := blk_frozen kr10 3; have fn10 : w10.frozen? ⟨Bn, 0, none⟩ = false := blk_frozen kn10 0; replace kb10 := Aside0.mk kb10; replace kr10 := Aside0.mk kr10; replace kn10 := Aside0.mk kn10; replace ho10 := Aside0.mk ho10; replace hb10 := Aside0.mk hb10)))
                    have hq1 : wrap64 (wrap64 ((l.length : Int) - (rest.length : Int)) + n) = (at_ : Int) + n := by
                      have ha := HAT.out
                      have hb := HRL0.out
                      have hcc := HL.out
                      rw [IntWalk.wrap64_in ((l.length : Int) - (rest.length : Int)) (by omega), IntWalk.wrap64_in _ (by omega)]
                      omega
                    rw [hq1]
                    have hw5 : w5.heap.size ≤ w9.heap.size := by
                      have ha := hb9.out.size
                      have hb := HW58.out
                      omega
                    have hlr : Br < w5.heap.size := blk_lt kr5.out
                    have hln : Bn < w5.heap.size := blk_lt kn5.out
                    refine ⟨rfl, _, results_none rfl _ _ _, ?_⟩
                    unfold Req1Post
                    rw [HF5.out]
                    refine ⟨rfl, A7, c7, A10, c10, ?_, ?_, ?_, ?_, ?_⟩
                    · exact blk_at (blk_put kr10.out 3 (.slice A10 b.length c10) rfl) (p := ⟨Bn, 0, none⟩) h3 _
                    · exact blk_put (blk_at kn10.out (p := ⟨Br, 3, none⟩) (Ne.symm h3) _) 0 _ rfl
                    · exact OwnF.lower (((OwnF.below ho9.out hb10.out).set (p := ⟨Br, 3, none⟩) hlr _).set (p := ⟨Bn, 0, none⟩) hln _) HB8.out
                    · exact OwnB.lower ((ho10.out.set (p := ⟨Br, 3, none⟩) (Nat.lt_of_lt_of_le hlr hw5) _).set (p := ⟨Bn, 0, none⟩) (Nat.lt_of_lt_of_le hln hw5) _) (Nat.le_trans HB8.out hw5)
                    · exact (((HG8.out.trans (Grw2.of_below hb9.out)).trans (Grw2.of_below hb10.out)).setA 3 _).setB 0 _
                · have HF4 : Aside0 (reqS l = .error 90) := ⟨by rw [HF3.out, if_neg hho]⟩
                  have hho' : (((allS fs hostN).length : Int) == 1) = false := beq_eq_false_iff_ne.2 (by omega)
                  obtain ⟨hs, hhs⟩ : ∃ hs, allS fs hostN = hs := ⟨_, rfl⟩
                  rw [hhs] at hho'
                  have HHS := Aside0.mk hhs
                  clear hho hhs
                  go_wp2_with (first
                    | (go_at_call 52; ((with_reducible refine (hall_calls' A7 c7 fs hostN _ (OwnF.reads ho8.out).2 (OwnF.reads ho8.out).1 HFSZ.out hs HHS.out).mono ?_); rintro e w9 ⟨A9, c9, rfl, hc9, hr9, hb9⟩; replace hb9 := Aside0.mk hb9; replace hr9 := Aside0.mk hr9; replace hc9 := Aside0.mk hc9))
                    | (go_at_call 48; ((with_reducible refine (hmust_no _ _).mono ?_); rintro e w' ⟨rfl, rfl⟩)))
                  exact ⟨rfl, req1_err HF4.out (HG8.out.trans (Grw2.of_below hb9.out))⟩
              · have HX := Aside0.mk hx
                have HF3 : Aside0 (reqS l = .error x) := ⟨by rw [HF2.out]; unfold restS; rw [HPS.out]; exact if_neg hx⟩
                clear hx
                go_region_dies
                all_goals go_wp2_with (first | (go_at_call 51; (with_reducible refine (fields_noL A6 c6 L _ (RdS.below HRD6.out (below_drew (Below.refl _ _))) HC6.out HLS2.out fs x HX.out HPS.out).mono ?_); rintro e w6 ⟨rfl, hb7⟩; replace hb7 := Aside0.mk hb7))
                all_goals exact ⟨rfl, req1_err HF3.out (Grw2.of_below (bt' hb5.out (bt' (below_drew (Below.refl _ _)) hb7.out)))⟩
          · have HF2 : Aside0 (reqS l = .error 95) := ⟨by rw [HF.out, HLT.out, htk, htg, beq_eq_false_iff_ne.2 hv]; rfl⟩
            have e2 : decide (ofL v = (⟨#[72, 84, 84, 80, 47, 49, 46, 49]⟩ : ByteArray)) = false := decide_eq_false (fun e => hv (by rw [← toL_ofL v, e]; rfl))
            have e3 : ((ofL v).toList == [72, 84, 84, 80, 47, 49, 46, 49]) = false := beq_eq_false_iff_ne.2 (by rw [ofL_toList]; exact hv)
            clear htk htg hv
            go_enter Tryd.func45, Tryd.ntmps45
            go_wp2_with (first
              | (go_at_call 46; ((with_reducible refine (lines_okC A c l _ (HR.out _ (Grw2.refl _ _ _)) HC.out HL.out HM.out (f :: L) at_ HHD.out rest HREST.out).mono ?_); rintro e w1 ⟨A1, c1, A2, c2, rfl, hc1, hr1, hc2, hr2, hb1⟩; obtain ⟨ad1, rfl, hcl0⟩ := rds_first hr1; replace hc1 := Aside0.mk hc1; replace hr1 := Aside0.mk hr1; replace hc2 := Aside0.mk hc2; replace hr2 := Aside0.mk hr2; have kb1 := Aside0.mk (blk_below kb.out hb1); have kr1 := Aside0.mk (blk_below kr.out hb1); have kn1 := Aside0.mk (blk_below kn.out hb1); replace hb1 := Aside0.mk hb1))
              | (go_at_call 47; ((with_reducible refine (split_calls2 (ofL f) _ HFS.out (mz_below HM.out hb1.out) _ HP.out).mono ?_); rintro e w2 ⟨g2, c3, rfl, hg2, hr3, hb2⟩; have hp3 := rds_three hr3; obtain ⟨hp0, hp1, hp2⟩ := hp3; replace hg2 := Aside0.mk hg2; replace hr3 := Aside0.mk hr3; have kr2 := Aside0.mk (blk_below kr1.out hb2); have kn2 := Aside0.mk (blk_below kn1.out hb2); have kb2 := Aside0.mk (blk_below kb1.out hb2); have hb12 := Aside0.mk hb2; replace hb2 := Aside0.mk (bt' hb1.out hb2)))
              | (go_at_call 49; ((with_reducible refine (htoken_L m _ HMS.out _ HTK.out).mono ?_); rintro e w3 ⟨rfl, ⟨n3, rfl⟩⟩))
              | (go_at_call 50; ((with_reducible refine (htarget_L t _ HTS.out _ HTG.out).mono ?_); rintro e w4 ⟨rfl, ⟨n4, rfl⟩⟩))
              | (go_at_call 48; ((with_reducible refine (hmust_no _ _).mono ?_); rintro e w' ⟨rfl, rfl⟩)))
            exact ⟨rfl, req1_err HF2.out (Grw2.of_below (below_of_drawn hb2.out _))⟩
    · have h3p' : ((P.length : Int) == 3) = false := beq_eq_false_iff_ne.2 (by omega)
      have HF2 : Aside0 (reqS l = .error 95) := ⟨by
        rw [HF.out, HLS.out]
        match P, h3p with
        | [], _ => rfl
        | [_], _ => rfl
        | [_, _], _ => rfl
        | [_, _, _], h => exact (h rfl).elim
        | _ :: _ :: _ :: _ :: _, _ => rfl⟩
      clear h3p
      go_enter Tryd.func45, Tryd.ntmps45
      go_wp2_with (first
        | (go_at_call 46; ((with_reducible refine (lines_okC A c l _ (HR.out _ (Grw2.refl _ _ _)) HC.out HL.out HM.out (f :: L) at_ HHD.out rest HREST.out).mono ?_); rintro e w1 ⟨A1, c1, A2, c2, rfl, hc1, hr1, hc2, hr2, hb1⟩; obtain ⟨ad1, rfl, hcl0⟩ := rds_first hr1; replace hc1 := Aside0.mk hc1; replace hr1 := Aside0.mk hr1; replace hc2 := Aside0.mk hc2; replace hr2 := Aside0.mk hr2; have kb1 := Aside0.mk (blk_below kb.out hb1); have kr1 := Aside0.mk (blk_below kr.out hb1); have kn1 := Aside0.mk (blk_below kn.out hb1); replace hb1 := Aside0.mk hb1))
        | (go_at_call 47; ((with_reducible refine (split_calls2 (ofL f) _ HFS.out (mz_below HM.out hb1.out) _ HP.out).mono ?_); rintro e w2 ⟨g2, c3, rfl, hg2, hr3, hb2⟩; skip; replace hg2 := Aside0.mk hg2; replace hr3 := Aside0.mk hr3; have kr2 := Aside0.mk (blk_below kr1.out hb2); have kn2 := Aside0.mk (blk_below kn1.out hb2); have kb2 := Aside0.mk (blk_below kb1.out hb2); have hb12 := Aside0.mk hb2; replace hb2 := Aside0.mk (bt' hb1.out hb2)))
        | (go_at_call 48; ((with_reducible refine (hmust_no _ _).mono ?_); rintro e w' ⟨rfl, rfl⟩)))
      exact ⟨rfl, req1_err HF2.out (Grw2.of_below hb2.out)⟩
end Go.Proofs.YtibgcbngnfaaiaaDoor.H

namespace Go.Proofs.YtibgcbngnfaaiaaDoor.H
open Go.RowKit Go.Proofs.YtibgcbngnfaaiaaDoorW.PrintWords Go.Proofs.YtibgcbngnfaaiaaDoorW.PrintLast Go.Proofs.YtibgcbngnfaaiaaDoorW.PrintMore Go.Proofs.YtibgcbngnfaaiaaDoor.PA
set_option linter.unusedVariables false
set_option linter.unusedSimpArgs false

theorem numL_err : ∀ (l : List UInt8) (m x : Int), numL l m = .error x → x ≠ 0
  | [], m, x, h => by rw [numL] at h; cases h
  | c :: r, m, x, h => by
    rw [numL] at h
    split at h
    · exact numL_err r _ x h
    · cases h; omega
theorem toldS_err (l : List ByteArray) (x : Int) (h : toldS l = .error x) : x ≠ 0 := by
  cases l with
  | nil => cases h
  | cons t r =>
    rw [toldS] at h
    split at h
    · unfold numF at h
      split at h
      · cases h; omega
      · exact numL_err _ _ _ h
    · cases h; omega
theorem framedS_err (fs : List S103) (rest : List UInt8) (x : Int) (h : framedS fs rest = .error x) : x ≠ 0 := by
  unfold framedS framedT at h
  split at h
  · split at h
    · rename_i h1; cases h; exact toldS_err _ _ h1
    · unfold plainB at h
      split at h
      · cases h; omega
      · split at h
        · cases h; omega
        · cases h
  · split at h
    · split at h
      · rename_i h1
        cases h
        unfold openU at h1
        split at h1
        split at h1
        · cases h1
        · rename_i h3; cases h1; exact h3
      · cases h
    · cases h; omega
  · cases h; omega
theorem headS_err (l : List UInt8) (x : Int) (h : headS l = .error x) : x ≠ 0 := by
  unfold headS at h
  split at h
  · split at h <;> (cases h; omega)
  · split at h
    · cases h
    · cases h; omega
theorem reqS_err (l : List UInt8) (x : Int) (h : reqS l = .error x) : x ≠ 0 := by
  unfold reqS at h
  split at h
  · rename_i h1; cases h; exact headS_err _ _ h1
  · unfold behindS at h
    split at h
    · cases h; omega
    · unfold restS at h
      split at h
      split at h
      · split at h
        · split at h
          · rename_i h1; cases h; exact framedS_err _ _ _ h1
          · cases h
        · cases h; omega
      · rename_i h1; cases h; exact h1
theorem Grw2.setFar {a b : Nat} {w w1 : World} (h : Grw2 a b w w1) {p : Addr} (hp : w.heap.size ≤ p.block) (v : Value) : Grw2 a b w (w1.setCell p v) :=
  ⟨h.os, h.tape, h.output, by simp; exact h.size, fun k hk ha hb => (Below.heap_setCell w1 p v k (by omega)).trans (h.block k hk ha hb)⟩
def ReqTryPost (l : List UInt8) (Br Bn : Nat) (w : World) (e : Ending) (w' : World) : Prop :=
  match reqS l with
  | .ok (m, t, fs, b, n) => e = .returned (.int .i64 0) ∧ Req1Ok Br Bn m t fs b n w w'
  | .error x => e = .returned (.int .i64 x) ∧ Grw2 Br Bn w w'
set_option maxRecDepth 100000 in
theorem callK (caps : Array Value) (W : World) : (callFunc 45 caps).run Tryd.prog W = .ok (.enter 45 caps) W := by
  have h := Tryd.func45
  simp [callFunc, go_sem, h, Tryd.f45]
set_option maxHeartbeats 4000000 in
theorem reqtry_calls (Bb Br Bn : Nat) (A : Option Addr) (c : Nat) (l : List UInt8) (w : World) (hr : ∀ W, Grw2 Br Bn w W → ReadsInt W .u8 A l.length (iL l)) (hc : l.length ≤ c) (hl : l.length ≤ 1000000000) (hm : Mz w)
    (hb : w.heap[Bb]? = some (.cells #[.slice A l.length c] 22 (0, 0))) (hbr : w.heap[Br]? = some (.cells #[.string ⟨#[]⟩, .string ⟨#[]⟩, .slice none 0 0, .slice none 0 0] 41 (0, 0))) (hbn : w.heap[Bn]? = some (.cells #[.int .i64 0] 3 (0, 0)))
    (h1 : Bb ≠ Br) (h2 : Bb ≠ Bn) (h3 : Br ≠ Bn) :
    Calls Tryd.prog 44 #[.func (.func 45) #[] #[.pointer (some ⟨Bb, 0, none⟩), .pointer (some ⟨Br, 0, none⟩), .pointer (some ⟨Bn, 0, none⟩)]] w (ReqTryPost l Br Bn w) := by
  have hba : Grw2 Br Bn w (w.alloc (.cells #[.int .i64 0] 25)) := Grw2.of_below (below_alloc (Below.refl _ _) _)
  have hcl := req1_calls Bb Br Bn A c l (w.alloc (.cells #[.int .i64 0] 25)) (fun W h => hr W (hba.trans h)) hc hl (mz_below hm (below_alloc (Below.refl _ _) _)) (blk_alloc hb _) (blk_alloc hbr _) (blk_alloc hbn _) h1 h2 h3
  have hlr := blk_lt hbr
  have hln := blk_lt hbn
  have hkk : ∀ w', Grw2 Br Bn (w.alloc (.cells #[.int .i64 0] 25)) w' → w'.heap[w.heap.size]? = some (.cells #[.int .i64 0] 25 (0, 0)) := fun w' h => by
    rw [h.block w.heap.size (by simp) (by omega) (by omega)]
    exact blk_new w _
  cases h : reqS l with
  | error x =>
    have hcl2 : Calls Tryd.prog 45 #[.pointer (some ⟨Bb, 0, none⟩), .pointer (some ⟨Br, 0, none⟩), .pointer (some ⟨Bn, 0, none⟩)] (w.alloc (.cells #[.int .i64 0] 25)) fun e w' => e = .panicked (stopH x) ∧ Grw2 Br Bn (w.alloc (.cells #[.int .i64 0] 25)) w' := hcl.mono fun e w' hq => by
      unfold Req1Post at hq; rw [h] at hq; exact hq
    refine (try_no _ _ (callK _) x w _ hcl2 hkk).mono ?_
    rintro e w' ⟨rfl, w1, hw1, rfl⟩
    unfold ReqTryPost
    rw [h]
    exact ⟨rfl, ((hba.trans hw1).setFar (p := ⟨w.heap.size, 0, none⟩) (Nat.le_refl _) _).trans (Grw2.of_below (below_alloc (Below.refl _ _) _))⟩
  | ok r =>
    obtain ⟨m, t, fs, b, n⟩ := r
    have hcl2 : Calls Tryd.prog 45 #[.pointer (some ⟨Bb, 0, none⟩), .pointer (some ⟨Br, 0, none⟩), .pointer (some ⟨Bn, 0, none⟩)] (w.alloc (.cells #[.int .i64 0] 25)) fun e w' => e = .returned (.tuple #[]) ∧ Req1Ok Br Bn m t fs b n (w.alloc (.cells #[.int .i64 0] 25)) w' := hcl.mono fun e w' hq => by
      unfold Req1Post at hq; rw [h] at hq; exact hq
    refine (try_ok _ _ (callK _) w _ hcl2 (fun w' hq => by obtain ⟨A1, c1, A2, c2, k1, k2, k3, k4, k5⟩ := hq; exact hkk w' k5)).mono ?_
    rintro e w' ⟨rfl, w1, ⟨A1, c1, A2, c2, k1, k2, k3, k4, k5⟩, rfl⟩
    unfold ReqTryPost
    rw [h]
    have hsz : w.heap.size < (w.alloc (.cells #[.int .i64 0] 25)).heap.size := by simp
    exact ⟨rfl, A1, c1, A2, c2, blk_at k1 (p := ⟨w.heap.size, 0, none⟩) (by simp; omega) _, blk_at k2 (p := ⟨w.heap.size, 0, none⟩) (by simp; omega) _,
      OwnF.lower (k3.set (p := ⟨w.heap.size, 0, none⟩) hsz _) (Nat.le_of_lt hsz), OwnB.lower (k4.set (p := ⟨w.heap.size, 0, none⟩) hsz _) (Nat.le_of_lt hsz), (hba.trans k5).setFar (p := ⟨w.heap.size, 0, none⟩) (Nat.le_refl _) _⟩
def RequestPost (l : List UInt8) (w : World) (e : Ending) (w' : World) : Prop :=
  match reqS l with
  | .ok (m, t, fs, b, n) => ∃ A1 c1 A2 c2, e = .returned (.tuple #[.agg #[.string (ofL m), .string (ofL t), .slice A1 fs.length c1, .slice A2 b.length c2], .int .i64 n, .int .i64 0]) ∧ OwnF w' w.heap.size A1 c1 fs ∧ OwnB w' w.heap.size A2 c2 b ∧ Below w.heap.size w w'
  | .error x => e = .returned (.tuple #[.agg #[.string ⟨#[]⟩, .string ⟨#[]⟩, .slice none 0 0, .slice none 0 0], .int .i64 0, .int .i64 x]) ∧ Below w.heap.size w w'
set_option maxHeartbeats 8000000 in
set_option maxRecDepth 100000 in
theorem request_calls (A : Option Addr) (c : Nat) (l : List UInt8) (w : World) (hr : ReadsInt w .u8 A l.length (iL l)) (hc : l.length ≤ c) (hl : l.length ≤ 1000000000) (hm : Mz w) :
    Calls Tryd.prog 24 #[.slice A l.length c] w (RequestPost l w) := by
  have hmf : ∀ (fn : Fn) (first cap : Array Value) (w : World), (Instr.makeFunc fn first cap).run Tryd.prog w = .ok (.func fn first cap) w := fun _ _ _ _ => rfl
  have HR := Aside0.mk hr
  have HC := Aside0.mk hc
  have HL := Aside0.mk hl
  have HM := Aside0.mk hm
  clear hr hc hl hm
  go_enter Tryd.func24, Tryd.ntmps24
  go_wp2_with fail
  obtain ⟨Wt, hWt⟩ : ∃ Wt, ((((w.alloc (.cells #[.slice A l.length c] 22)).alloc (.cells #[.string ⟨#[]⟩, .string ⟨#[]⟩, .slice none 0 0, .slice none 0 0] 41)).alloc (.cells #[.string ⟨#[]⟩, .string ⟨#[]⟩, .slice none 0 0, .slice none 0 0] 41)).alloc (.cells #[.int .i64 0] 3)) = Wt := ⟨_, rfl⟩
  have hbel : Below w.heap.size w Wt := by rw [← hWt]; exact below_alloc (below_alloc (below_alloc (below_alloc (Below.refl _ _) _) _) _) _
  have hsz : Wt.heap.size = w.heap.size + 4 := by rw [← hWt]; simp
  have hB0 : Wt.heap[w.heap.size]? = some (.cells #[.slice A l.length c] 22 (0, 0)) := by rw [← hWt]; exact blk_alloc (blk_alloc (blk_alloc (blk_new w _) _) _) _
  have hB1 : Wt.heap[w.heap.size + 1]? = some (.cells #[.string ⟨#[]⟩, .string ⟨#[]⟩, .slice none 0 0, .slice none 0 0] 41 (0, 0)) := by rw [← hWt]; exact blk_alloc (blk_alloc (by simpa using blk_new (w.alloc (.cells #[.slice A l.length c] 22)) (.cells #[.string ⟨#[]⟩, .string ⟨#[]⟩, .slice none 0 0, .slice none 0 0] 41)) _) _
  have hB2 : Wt.heap[w.heap.size + 1 + 1]? = some (.cells #[.string ⟨#[]⟩, .string ⟨#[]⟩, .slice none 0 0, .slice none 0 0] 41 (0, 0)) := by rw [← hWt]; exact blk_alloc (by simpa using blk_new ((w.alloc (.cells #[.slice A l.length c] 22)).alloc (.cells #[.string ⟨#[]⟩, .string ⟨#[]⟩, .slice none 0 0, .slice none 0 0] 41)) (.cells #[.string ⟨#[]⟩, .string ⟨#[]⟩, .slice none 0 0, .slice none 0 0] 41)) _
  have hB3 : Wt.heap[w.heap.size + 1 + 1 + 1]? = some (.cells #[.int .i64 0] 3 (0, 0)) := by rw [← hWt]; simpa using blk_new (((w.alloc (.cells #[.slice A l.length c] 22)).alloc (.cells #[.string ⟨#[]⟩, .string ⟨#[]⟩, .slice none 0 0, .slice none 0 0] 41)).alloc (.cells #[.string ⟨#[]⟩, .string ⟨#[]⟩, .slice none 0 0, .slice none 0 0] 41)) (.cells #[.int .i64 0] 3)
  rw [hWt]
  clear hWt
  have hgb : ∀ W, Grw2 (w.heap.size + 1 + 1) (w.heap.size + 1 + 1 + 1) Wt W → Below w.heap.size w W := fun W h => Grw2.below hbel h (by omega) (by omega) (by omega)
  refine (reqtry_calls w.heap.size (w.heap.size + 1 + 1) (w.heap.size + 1 + 1 + 1) A c l Wt (fun W h => HR.out.below (hgb W h)) HC.out HL.out (mz_below HM.out hbel) hB0 hB2 hB3 (by omega) (by omega) (by omega)).mono fun e w2 hq => ?_
  unfold ReqTryPost at hq
  have k0 : ∀ W, Grw2 (w.heap.size + 1 + 1) (w.heap.size + 1 + 1 + 1) Wt W → W.heap[w.heap.size + 1]? = some (.cells #[.string ⟨#[]⟩, .string ⟨#[]⟩, .slice none 0 0, .slice none 0 0] 41 (0, 0)) := fun W h => by
    rw [h.block _ (by omega) (by omega) (by omega)]; exact hB1
  cases h : reqS l with
  | error x =>
    rw [h] at hq
    obtain ⟨rfl, hg⟩ := hq
    have hx := reqS_err l x h
    have k1 := k0 _ hg
    have d0 : w2.cell? ⟨w.heap.size + 1, 0, none⟩ = some (.string ⟨#[]⟩) := blk_cell k1 0
    have d1 : w2.cell? ⟨w.heap.size + 1, 1, none⟩ = some (.string ⟨#[]⟩) := blk_cell k1 1
    have d2 : w2.cell? ⟨w.heap.size + 1, 2, none⟩ = some (.slice none 0 0) := blk_cell k1 2
    have d3 : w2.cell? ⟨w.heap.size + 1, 3, none⟩ = some (.slice none 0 0) := blk_cell k1 3
    have K1 := Aside0.mk k1
    have e0 : w2.frozen? ⟨w.heap.size + 1, 0, none⟩ = false := blk_frozen k1 0
    have e1 : w2.frozen? ⟨w.heap.size + 1, 1, none⟩ = false := blk_frozen k1 1
    have e2 : w2.frozen? ⟨w.heap.size + 1, 2, none⟩ = false := blk_frozen k1 2
    have e3 : w2.frozen? ⟨w.heap.size + 1, 3, none⟩ = false := blk_frozen k1 3
    have hx' : (x == 0) = false := beq_eq_false_iff_ne.2 hx
    have hxn : (x != 0) = true := by simp [hx]
    have H := Aside0.mk h
    have HG := Aside0.mk hg
    clear hB0 hB1 hB2 hB3 k0 h hg k1
    go_wp2
    have kk := blk_put (blk_put (blk_put (blk_put K1.out 0 (.string ⟨#[]⟩) rfl) 1 (.string ⟨#[]⟩) rfl) 2 (.slice none 0 0) rfl) 3 (.slice none 0 0) rfl
    have hb2 := hgb _ (HG.out)
    have hbw : Below w.heap.size w ((((w2.setCell ⟨w.heap.size + 1, 0, none⟩ (.string ⟨#[]⟩)).setCell ⟨w.heap.size + 1, 1, none⟩ (.string ⟨#[]⟩)).setCell ⟨w.heap.size + 1, 2, none⟩ (.slice none 0 0)).setCell ⟨w.heap.size + 1, 3, none⟩ (.slice none 0 0)) :=
      Below.setCell (Below.setCell (Below.setCell (Below.setCell hb2 (by simp) _) (by simp) _) (by simp) _) (by simp) _
    generalize ((((w2.setCell ⟨w.heap.size + 1, 0, none⟩ (.string ⟨#[]⟩)).setCell ⟨w.heap.size + 1, 1, none⟩ (.string ⟨#[]⟩)).setCell ⟨w.heap.size + 1, 2, none⟩ (.slice none 0 0)).setCell ⟨w.heap.size + 1, 3, none⟩ (.slice none 0 0)) = w3 at kk hbw ⊢
    have q0 := blk_cell kk 0
    have q1 := blk_cell kk 1
    have q2 := blk_cell kk 2
    have q3 := blk_cell kk 3
    refine ⟨rfl, .tuple #[.agg #[.string ⟨#[]⟩, .string ⟨#[]⟩, .slice none 0 0, .slice none 0 0], .int .i64 0, .int .i64 x], ?_, ?_⟩
    · simp [results, Tryd.results24, go_sem, q0, q1, q2, q3]
    · unfold RequestPost
      rw [H.out]
      exact ⟨rfl, hbw⟩
  | ok r =>
    obtain ⟨m, t, fs, b, n⟩ := r
    rw [h] at hq
    obtain ⟨rfl, A1, c1, A2, c2, g1, g2, g3, g4, hg⟩ := hq
    have k1 := k0 _ hg
    have r0 : w2.cell? ⟨w.heap.size + 1 + 1, 0, none⟩ = some (.string (ofL m)) := blk_cell g1 0
    have r1 : w2.cell? ⟨w.heap.size + 1 + 1, 1, none⟩ = some (.string (ofL t)) := blk_cell g1 1
    have r2 : w2.cell? ⟨w.heap.size + 1 + 1, 2, none⟩ = some (.slice A1 fs.length c1) := blk_cell g1 2
    have r3 : w2.cell? ⟨w.heap.size + 1 + 1, 3, none⟩ = some (.slice A2 b.length c2) := blk_cell g1 3
    have r4 : w2.cell? ⟨w.heap.size + 1 + 1 + 1, 0, none⟩ = some (.int .i64 n) := blk_cell g2 0
    have d0 : w2.cell? ⟨w.heap.size + 1, 0, none⟩ = some (.string ⟨#[]⟩) := blk_cell k1 0
    have d1 : w2.cell? ⟨w.heap.size + 1, 1, none⟩ = some (.string ⟨#[]⟩) := blk_cell k1 1
    have d2 : w2.cell? ⟨w.heap.size + 1, 2, none⟩ = some (.slice none 0 0) := blk_cell k1 2
    have d3 : w2.cell? ⟨w.heap.size + 1, 3, none⟩ = some (.slice none 0 0) := blk_cell k1 3
    have e0 : w2.frozen? ⟨w.heap.size + 1, 0, none⟩ = false := blk_frozen k1 0
    have e1 : w2.frozen? ⟨w.heap.size + 1, 1, none⟩ = false := blk_frozen k1 1
    have e2 : w2.frozen? ⟨w.heap.size + 1, 2, none⟩ = false := blk_frozen k1 2
    have e3 : w2.frozen? ⟨w.heap.size + 1, 3, none⟩ = false := blk_frozen k1 3
    have H := Aside0.mk h
    have HG := Aside0.mk hg
    have G3 := Aside0.mk g3
    have G4 := Aside0.mk g4
    have K1 := Aside0.mk k1
    clear hB0 hB1 hB2 hB3 k0 h hg g1 g2 g3 g4 k1
    go_wp2
    go_region
    go_wp2
    have kk := blk_drew (blk_put (blk_put (blk_put (blk_put K1.out 0 (.string (ofL m)) rfl) 1 (.string (ofL t)) rfl) 2 (.slice A1 fs.length c1) rfl) 3 (.slice A2 b.length c2) rfl)
    have hb2 := hgb _ (HG.out)
    have hlt : w.heap.size + 1 < Wt.heap.size := by omega
    have hle : w.heap.size ≤ Wt.heap.size := by omega
    have hres : Below w.heap.size w ((((w2.setCell ⟨w.heap.size + 1, 0, none⟩ (.string (ofL m))).setCell ⟨w.heap.size + 1, 1, none⟩ (.string (ofL t))).setCell ⟨w.heap.size + 1, 2, none⟩ (.slice A1 fs.length c1)).setCell ⟨w.heap.size + 1, 3, none⟩ (.slice A2 b.length c2)).drew ∧
        OwnF ((((w2.setCell ⟨w.heap.size + 1, 0, none⟩ (.string (ofL m))).setCell ⟨w.heap.size + 1, 1, none⟩ (.string (ofL t))).setCell ⟨w.heap.size + 1, 2, none⟩ (.slice A1 fs.length c1)).setCell ⟨w.heap.size + 1, 3, none⟩ (.slice A2 b.length c2)).drew w.heap.size A1 c1 fs ∧
        OwnB ((((w2.setCell ⟨w.heap.size + 1, 0, none⟩ (.string (ofL m))).setCell ⟨w.heap.size + 1, 1, none⟩ (.string (ofL t))).setCell ⟨w.heap.size + 1, 2, none⟩ (.slice A1 fs.length c1)).setCell ⟨w.heap.size + 1, 3, none⟩ (.slice A2 b.length c2)).drew w.heap.size A2 c2 b :=
      ⟨below_drew (Below.setCell (Below.setCell (Below.setCell (Below.setCell hb2 (by simp) _) (by simp) _) (by simp) _) (by simp) _),
       OwnF.lower (OwnF.below ((((G3.out.set (p := ⟨w.heap.size + 1, 0, none⟩) hlt _).set (p := ⟨w.heap.size + 1, 1, none⟩) hlt _).set (p := ⟨w.heap.size + 1, 2, none⟩) hlt _).set (p := ⟨w.heap.size + 1, 3, none⟩) hlt _) (below_drew (Below.refl _ _))) hle,
       OwnB.lower (OwnB.below ((((G4.out.set (p := ⟨w.heap.size + 1, 0, none⟩) hlt _).set (p := ⟨w.heap.size + 1, 1, none⟩) hlt _).set (p := ⟨w.heap.size + 1, 2, none⟩) hlt _).set (p := ⟨w.heap.size + 1, 3, none⟩) hlt _) (below_drew (Below.refl _ _))) hle⟩
    generalize ((((w2.setCell ⟨w.heap.size + 1, 0, none⟩ (.string (ofL m))).setCell ⟨w.heap.size + 1, 1, none⟩ (.string (ofL t))).setCell ⟨w.heap.size + 1, 2, none⟩ (.slice A1 fs.length c1)).setCell ⟨w.heap.size + 1, 3, none⟩ (.slice A2 b.length c2)).drew = w3 at kk hres ⊢
    have q0 := blk_cell kk 0
    have q1 := blk_cell kk 1
    have q2 := blk_cell kk 2
    have q3 := blk_cell kk 3
    refine ⟨rfl, .tuple #[.agg #[.string (ofL m), .string (ofL t), .slice A1 fs.length c1, .slice A2 b.length c2], .int .i64 n, .int .i64 0], ?_, ?_⟩
    · simp [results, Tryd.results24, go_sem, q0, q1, q2, q3]
    · unfold RequestPost
      rw [H.out]
      exact ⟨A1, c1, A2, c2, rfl, hres.2.1, hres.2.2, hres.1⟩
end Go.Proofs.YtibgcbngnfaaiaaDoor.H

namespace Go.Proofs.YtibgcbngnfaaiaaDoor.H
open Go.RowKit Go.Proofs.YtibgcbngnfaaiaaDoorW.PrintWords Go.Proofs.YtibgcbngnfaaiaaDoorW.PrintLast Go.Proofs.YtibgcbngnfaaiaaDoorW.PrintMore Go.Proofs.YtibgcbngnfaaiaaDoor.PA
set_option linter.unusedVariables false
set_option linter.unusedSimpArgs false

def bodilessB (n : Int) (m : ByteArray) : Bool := toL m == [72, 69, 65, 68] || n == 204 || n == 304 || decide (n < 200)
def bodyS (n : Int) (m : ByteArray) (fs : List S103) (rest : List UInt8) : Except Int (List Int) :=
  if bodilessB n m = true then .ok [] else
    match framedS fs rest with
    | .error x => .error x
    | .ok (b, _, told) => if told = true then .ok b else if rest.length ≤ 65536 then .ok (iL rest) else .error 93
def withBody (n : Int) (r : List UInt8) (fs : List S103) (o : Except Int (List Int)) : Except Int (Int × List UInt8 × List S103 × List Int) :=
  match o with | .error x => .error x | .ok b => .ok (n, r, fs, b)
def behindR (n : Int) (r : List UInt8) (p : List S103 × Int) (rest : List UInt8) (m : ByteArray) : Except Int (Int × List UInt8 × List S103 × List Int) :=
  if p.2 = 0 then withBody n r p.1 (bodyS n m p.1 rest) else .error p.2
def withStatus (o : Except Int (Int × List UInt8)) (L : List (List UInt8)) (rest : List UInt8) (m : ByteArray) : Except Int (Int × List UInt8 × List S103 × List Int) :=
  match o with | .error x => .error x | .ok (n, r) => behindR n r (parseS (L.map ofL)) rest m
/-- A response, read. -/
def respS (l : List UInt8) (m : ByteArray) : Except Int (Int × List UInt8 × List S103 × List Int) :=
  match headS l with | .error x => .error x | .ok (L, at_) => withStatus (statusS (L.headD [])) L.tail (l.drop at_) m
def Resp1Ok (Br : Nat) (n : Int) (r : List UInt8) (fs : List S103) (b : List Int) (w w' : World) : Prop :=
  ∃ A1 c1 A2 c2, w'.heap[Br]? = some (.cells #[.int .i64 n, .string (ofL r), .slice A1 fs.length c1, .slice A2 b.length c2] 47 (0, 0)) ∧ OwnF w' w.heap.size A1 c1 fs ∧ OwnB w' w.heap.size A2 c2 b ∧ Grw2 Br Br w w'
def Resp1Post (l : List UInt8) (m : ByteArray) (Br : Nat) (w : World) (e : Ending) (w' : World) : Prop :=
  match respS l m with
  | .ok (n, r, fs, b) => e = .returned (.tuple #[]) ∧ Resp1Ok Br n r fs b w w'
  | .error x => e = .panicked (stopH x) ∧ Grw2 Br Br w w'
theorem resp1_err {l : List UInt8} {m : ByteArray} {Br : Nat} {w w' : World} {x : Int} (h : respS l m = .error x) (hb : Grw2 Br Br w w') : Resp1Post l m Br w (.panicked (stopH x)) w' := by unfold Resp1Post; rw [h]; exact ⟨rfl, hb⟩
theorem resp1_ok {l : List UInt8} {m : ByteArray} {Br : Nat} {n : Int} {r : List UInt8} {fs : List S103} {b : List Int} {w w' : World} (h : respS l m = .ok (n, r, fs, b)) (hq : Resp1Ok Br n r fs b w w') : Resp1Post l m Br w (.returned (.tuple #[])) w' := by unfold Resp1Post; rw [h]; exact ⟨rfl, hq⟩
theorem status_okC (l : List UInt8) (w : World) (hl : l.length ≤ 1000000000) (n : Int) (r : List UInt8) (h : statusS l = .ok (n, r)) : Calls Tryd.prog 59 #[.string (ofL l)] w fun e w' => e = .returned (.tuple #[.int .i64 n, .string (ofL r)]) ∧ Below w.heap.size w w' := by
  refine (hstatus_calls l w hl).mono fun e w' hq => ?_
  unfold StatusPost at hq; rw [h] at hq
  exact ⟨hq.1, hq.2.below⟩
theorem status_noC (l : List UInt8) (w : World) (hl : l.length ≤ 1000000000) (x : Int) (h : statusS l = .error x) : Calls Tryd.prog 59 #[.string (ofL l)] w fun e w' => e = .panicked (stopH x) ∧ Below w.heap.size w w' := by
  refine (hstatus_calls l w hl).mono fun e w' hq => ?_
  unfold StatusPost at hq; rw [h] at hq
  exact ⟨hq.1, hq.2.below⟩
theorem bodiless_C (n : Int) (m : ByteArray) (w : World) (b : Bool) (h : bodilessB n m = b) : Calls Tryd.prog 31 #[.int .i64 n, .string m] w fun e w' => e = .returned (.bool b) ∧ Below w.heap.size w w' := by
  subst h
  exact (bodiless_calls n m w).mono fun e w' hq => ⟨hq.1, hq.2.below⟩
set_option maxHeartbeats 8000000 in
set_option maxRecDepth 100000 in
theorem resp1_calls (Bb Br Bm : Nat) (A : Option Addr) (c : Nat) (l : List UInt8) (me : ByteArray) (w : World) (hr : ∀ W, Grw2 Br Br w W → ReadsInt W .u8 A l.length (iL l)) (hc : l.length ≤ c) (hl : l.length ≤ 1000000000) (hm : Mz w)
    (hb : w.heap[Bb]? = some (.cells #[.slice A l.length c] 22 (0, 0))) (hbr : w.heap[Br]? = some (.cells #[.int .i64 0, .string ⟨#[]⟩, .slice none 0 0, .slice none 0 0] 47 (0, 0))) (hbm : w.heap[Bm]? = some (.cells #[.string me] 9 (0, 0)))
    (h1 : Bb ≠ Br) (h2 : Bm ≠ Br) :
    Calls Tryd.prog 58 #[.pointer (some ⟨Bb, 0, none⟩), .pointer (some ⟨Br, 0, none⟩), .pointer (some ⟨Bm, 0, none⟩)] w (Resp1Post l me Br w) := by
  have HR := Aside0.mk hr
  have HC := Aside0.mk hc
  have HL := Aside0.mk hl
  have HM := Aside0.mk hm
  have kb := Aside0.mk hb
  have kr := Aside0.mk hbr
  have km := Aside0.mk hbm
  have hcb : w.cell? ⟨Bb, 0, none⟩ = some (.slice A l.length c) := blk_cell hb 0
  clear hr hm hb hbr hbm
  cases hhd : headS l with
  | error x =>
    have HHD := Aside0.mk hhd
    have HF : Aside0 (respS l me = .error x) := ⟨by unfold respS; rw [hhd]⟩
    clear hhd
    go_enter Tryd.func58, Tryd.ntmps58
    go_wp2_with (first
      | (go_at_call 46; ((with_reducible refine (lines_noC A c l _ (HR.out _ (Grw2.refl _ _ _)) HC.out HL.out HM.out x HHD.out).mono ?_); rintro e w1 ⟨rfl, hb1⟩; replace hb1 := Aside0.mk hb1)))
    exact ⟨rfl, resp1_err HF.out (Grw2.of_below hb1.out)⟩
  | ok La =>
    obtain ⟨L0, at_⟩ := La
    have hne := headS_ne l L0 at_ hhd
    obtain ⟨f, L, rfl⟩ : ∃ f L, L0 = f :: L := by
      cases L0 with
      | nil => exact (hne rfl).elim
      | cons f L => exact ⟨f, L, rfl⟩
    have HHD := Aside0.mk hhd
    have hlim := headS_lim l _ at_ hhd
    obtain ⟨rest, hrest⟩ : ∃ rest, l.drop at_ = rest := ⟨_, rfl⟩
    have HREST := Aside0.mk hrest
    have HRL : Aside0 (rest.length ≤ 1000000000) := ⟨by rw [← hrest, List.length_drop]; omega⟩
    have HF : Aside0 (respS l me = withStatus (statusS f) L rest me) := ⟨by unfold respS; rw [hhd]; simp only [List.headD_cons, List.tail_cons]; rw [hrest]⟩
    have HF8 : Aside0 (f.length ≤ 1000000000) := ⟨by have := hlim.2 f (by simp); omega⟩
    have HLS2 : Aside0 (∀ s ∈ L.map ofL, s.size ≤ 8192) := ⟨fun s hs => by
      rw [List.mem_map] at hs
      obtain ⟨q, hq, rfl⟩ := hs
      rw [ofL_size]
      exact hlim.2 q (by simp [hq])⟩
    clear hhd hne hrest hlim
    cases hst : statusS f with
    | error x =>
      have HST := Aside0.mk hst
      have HF2 : Aside0 (respS l me = .error x) := ⟨by rw [HF.out, hst]; rfl⟩
      clear hst
      go_enter Tryd.func58, Tryd.ntmps58
      go_wp2_with (first
        | (go_at_call 46; ((with_reducible refine (lines_okC2 A c l _ (HR.out _ (Grw2.refl _ _ _)) HC.out HL.out HM.out (f :: L) at_ HHD.out rest HREST.out).mono ?_); rintro e w1 ⟨A1, c1, A2, c2, rfl, ⟨hc1, hg1⟩, hr1, hc2, hr2, hb1⟩; obtain ⟨ad1, rfl, hcl0⟩ := rds_first hr1; replace hc1 := Aside0.mk hc1; replace hg1 := Aside0.mk (hg1 _ rfl); replace hr1 := Aside0.mk hr1; replace hc2 := Aside0.mk hc2; replace hr2 := Aside0.mk hr2; have kb1 := Aside0.mk (blk_below kb.out hb1); have kr1 := Aside0.mk (blk_below kr.out hb1); have km1 := Aside0.mk (blk_below km.out hb1); replace hb1 := Aside0.mk hb1))
        | (go_at_call 59; ((with_reducible refine (status_noC f _ HF8.out x HST.out).mono ?_); rintro e w2 ⟨rfl, hb2⟩; replace hb2 := Aside0.mk (bt' hb1.out hb2))))
      exact ⟨rfl, resp1_err HF2.out (Grw2.of_below hb2.out)⟩
    | ok nr =>
      obtain ⟨n, r⟩ := nr
      have HST := Aside0.mk hst
      have HF2 : Aside0 (respS l me = behindR n r (parseS (L.map ofL)) rest me) := ⟨by rw [HF.out, hst]; rfl⟩
      clear hst
      go_enter Tryd.func58, Tryd.ntmps58
      go_wp2_with (first
        | (go_at_call 46; ((with_reducible refine (lines_okC2 A c l _ (HR.out _ (Grw2.refl _ _ _)) HC.out HL.out HM.out (f :: L) at_ HHD.out rest HREST.out).mono ?_); rintro e w1 ⟨A1, c1, A2, c2, rfl, ⟨hc1, hg1⟩, hr1, hc2, hr2, hb1⟩; obtain ⟨ad1, rfl, hcl0⟩ := rds_first hr1; obtain ⟨A6, c6, hcut, hc6, hrd6⟩ := cut_tail (some ad1) c1 f L hc1; replace hc6 := Aside0.mk hc6; replace hrd6 := Aside0.mk hrd6; replace hc1 := Aside0.mk hc1; replace hg1 := Aside0.mk (hg1 _ rfl); replace hr1 := Aside0.mk hr1; replace hc2 := Aside0.mk hc2; replace hr2 := Aside0.mk hr2; have kb1 := Aside0.mk (blk_below kb.out hb1); have kr1 := Aside0.mk (blk_below kr.out hb1); have km1 := Aside0.mk (blk_below km.out hb1); replace hb1 := Aside0.mk hb1))
        | (go_at_call 59; ((with_reducible refine (status_okC f _ HF8.out n r HST.out).mono ?_); rintro e w2 ⟨rfl, hb2⟩; have kr2 := blk_below kr1.out hb2; have b20 : w2.cell? ⟨Br, 0, none⟩ = some (.int .i64 0) := blk_cell kr2 0; have b21 : w2.cell? ⟨Br, 1, none⟩ = some (.string ⟨#[]⟩) := blk_cell kr2 1; have f20 : w2.frozen? ⟨Br, 0, none⟩ = false := blk_frozen kr2 0; have f21 : w2.frozen? ⟨Br, 1, none⟩ = false := blk_frozen kr2 1; replace kr2 := Aside0.mk kr2; have hb12 := Aside0.mk hb2; replace hb2 := Aside0.mk (bt' hb1.out hb2))))
      have hwb : Br < w.heap.size := blk_lt kr.out
      have hne1 : Br ≠ ad1.block := by have := hg1.out; omega
      obtain ⟨w3, hw3, kr3, kb3, km3, HR3, HG3⟩ : ∃ w3, (w2.setCell ⟨Br, 0, none⟩ (.int .i64 n)).setCell ⟨Br, 1, none⟩ (.string (ofL r)) = w3 ∧ Aside0 (w3.heap[Br]? = some (.cells #[.int .i64 n, .string (ofL r), .slice none 0 0, .slice none 0 0] 47 (0, 0))) ∧ Aside0 (w3.heap[Bb]? = some (.cells #[.slice A l.length c] 22 (0, 0))) ∧ Aside0 (w3.heap[Bm]? = some (.cells #[.string me] 9 (0, 0))) ∧ Aside0 (RdS w3 A6 (L.map ofL)) ∧ Aside0 (Grw2 Br Br w w3) :=
        ⟨_, rfl, ⟨blk_put (blk_put kr2.out 0 _ rfl) 1 _ rfl⟩, ⟨blk_at (blk_at (blk_below kb1.out hb12.out) (p := ⟨Br, 0, none⟩) h1 _) (p := ⟨Br, 1, none⟩) h1 _⟩, ⟨blk_at (blk_at (blk_below km1.out hb12.out) (p := ⟨Br, 0, none⟩) h2 _) (p := ⟨Br, 1, none⟩) h2 _⟩,
          ⟨hrd6.out _ (RdS.far (RdS.far (RdS.below hr1.out hb12.out) (p := ⟨Br, 0, none⟩) hne1 _) (p := ⟨Br, 1, none⟩) hne1 _)⟩, ⟨((Grw2.of_below hb2.out).setA 0 _).setA 1 _⟩⟩
      rw [hw3]
      clear hw3 b20 b21 f20 f21
      have HWB : Aside0 (Br < w3.heap.size) := ⟨blk_lt kr3.out⟩
      cases hps : parseS (L.map ofL) with
      | mk fs x =>
        have hfz := parseS_sizes (L.map ofL) HLS2.out
        rw [hps] at hfz
        have HFSZ := Aside0.mk hfz
        have HPS := Aside0.mk hps
        clear hfz
        by_cases hx : x = 0
        · subst hx
          have HF3 : Aside0 (respS l me = withBody n r fs (bodyS n me fs rest)) := ⟨by rw [HF2.out, hps]; rfl⟩
          clear hps
          go_wp2_with (first
            | (go_at_call 51; ((with_reducible refine (fields_okL A6 c6 L _ HR3.out hc6.out HLS2.out fs HPS.out).mono ?_); rintro e w4 ⟨A7, c7, rfl, ho7, hb4⟩; have kr4 := blk_below kr3.out hb4; have b40 : w4.cell? ⟨Br, 0, none⟩ = some (.int .i64 n) := blk_cell kr4 0; have b42 : w4.cell? ⟨Br, 2, none⟩ = some (.slice none 0 0) := blk_cell kr4 2; have f42 : w4.frozen? ⟨Br, 2, none⟩ = false := blk_frozen kr4 2; have m40 : w4.cell? ⟨Bm, 0, none⟩ = some (.string me) := blk_cell (blk_below km3.out hb4) 0; replace kr4 := Aside0.mk kr4; replace ho7 := Aside0.mk ho7; replace hb4 := Aside0.mk hb4)))
          obtain ⟨w5, hw5, kr5, ho5, HG5, HS5⟩ : ∃ w5, w4.setCell ⟨Br, 2, none⟩ (.slice A7 fs.length c7) = w5 ∧ Aside0 (w5.heap[Br]? = some (.cells #[.int .i64 n, .string (ofL r), .slice A7 fs.length c7, .slice none 0 0] 47 (0, 0))) ∧ Aside0 (OwnF w5 w3.heap.size A7 c7 fs) ∧ Aside0 (Grw2 Br Br w w5) ∧ Aside0 (w3.heap.size ≤ w5.heap.size) :=
            ⟨_, rfl, ⟨blk_put kr4.out 2 _ rfl⟩, ⟨ho7.out.set (p := ⟨Br, 2, none⟩) HWB.out _⟩, ⟨(HG3.out.trans (Grw2.of_below hb4.out)).setA 2 _⟩, ⟨by simp; exact hb4.out.size⟩⟩
          rw [hw5]
          clear hw5 b40 b42 f42 m40
          cases hbo : bodilessB n me with
          | true =>
            have HBO := Aside0.mk hbo
            have HF4 : Aside0 (respS l me = .ok (n, r, fs, [])) := ⟨by rw [HF3.out]; unfold bodyS; rw [if_pos hbo]; rfl⟩
            clear hbo
            go_wp2_with (first
              | (go_at_call 31; ((with_reducible refine (bodiless_C n me _ _ HBO.out).mono ?_); rintro e w6 ⟨rfl, hb6⟩; replace hb6 := Aside0.mk hb6)))
            refine ⟨rfl, _, results_none rfl _ _ _, resp1_ok HF4.out ⟨A7, c7, none, 0, blk_below kr5.out hb6.out, OwnF.lower (OwnF.below ho5.out hb6.out) HG3.out.size, ?_, HG5.out.trans (Grw2.of_below hb6.out)⟩⟩
            exact own_nil _ _ _ _
          | false =>
            have HBO := Aside0.mk hbo
            have HF4 : Aside0 (respS l me = withBody n r fs (match framedS fs rest with | .error x => .error x | .ok (b, _, told) => if told = true then .ok b else if rest.length ≤ 65536 then .ok (iL rest) else .error 93)) := ⟨by rw [HF3.out]; unfold bodyS; rw [hbo]; rfl⟩
            clear hbo
            go_wp2_with (first
              | (go_at_call 31; ((with_reducible refine (bodiless_C n me _ _ HBO.out).mono ?_); rintro e w6 ⟨rfl, hb6⟩; have kr6 := blk_below kr5.out hb6; have b62 : w6.cell? ⟨Br, 2, none⟩ = some (.slice A7 fs.length c7) := blk_cell kr6 2; replace kr6 := Aside0.mk kr6; have ho6 := Aside0.mk (OwnF.below ho5.out hb6); have HG6 := Aside0.mk (HG5.out.trans (Grw2.of_below hb6)); replace hb6 := Aside0.mk hb6)))
            cases hfr : framedS fs rest with
            | error x =>
              have HFR := Aside0.mk hfr
              have HF5 : Aside0 (respS l me = .error x) := ⟨by rw [HF4.out, hfr]; rfl⟩
              clear hfr
              go_wp2_with (first
                | (go_at_call 53; ((with_reducible refine (framed_noC A7 c7 fs A2 c2 rest _ (OwnF.reads ho6.out).2 (OwnF.reads ho6.out).1 (hr2.out _ (HR.out _ HG6.out)) hc2.out HRL.out HFSZ.out x HFR.out).mono ?_); rintro e w7 ⟨rfl, hb7⟩; replace hb7 := Aside0.mk hb7)))
              exact ⟨rfl, resp1_err HF5.out (HG6.out.trans (Grw2.of_below hb7.out))⟩
            | ok bnt =>
              obtain ⟨b, n7, told⟩ := bnt
              have HFR := Aside0.mk hfr
              cases told with
              | true =>
                have HF5 : Aside0 (respS l me = .ok (n, r, fs, b)) := ⟨by rw [HF4.out, hfr]; rfl⟩
                clear hfr
                go_wp2_with (first
                  | (go_at_call 53; ((with_reducible refine (framed_okC A7 c7 fs A2 c2 rest _ (OwnF.reads ho6.out).2 (OwnF.reads ho6.out).1 (hr2.out _ (HR.out _ HG6.out)) hc2.out HRL.out HFSZ.out b n7 _ HFR.out).mono ?_); rintro e w7 ⟨A8, c8, rfl, ho8, hb7⟩; have kr7 := blk_below kr6.out hb7; have b73 : w7.cell? ⟨Br, 3, none⟩ = some (.slice none 0 0) := blk_cell kr7 3; have f73 : w7.frozen? ⟨Br, 3, none⟩ = false := blk_frozen kr7 3; replace kr7 := Aside0.mk kr7; replace ho8 := Aside0.mk ho8; have HS6 := Aside0.mk (Nat.le_trans HS5.out hb6.out.size); replace hb7 := Aside0.mk hb7)))
                refine ⟨rfl, _, results_none rfl _ _ _, resp1_ok HF5.out ⟨A7, c7, A8, c8, blk_put kr7.out 3 _ rfl, OwnF.lower ((OwnF.below ho6.out hb7.out).set (p := ⟨Br, 3, none⟩) HWB.out _) HG3.out.size, OwnB.lower (ho8.out.set (p := ⟨Br, 3, none⟩) (Nat.lt_of_lt_of_le HWB.out HS6.out) _) (Nat.le_trans HG3.out.size HS6.out), (HG6.out.trans (Grw2.of_below hb7.out)).setA 3 _⟩⟩
              | false =>
                by_cases hlen : rest.length ≤ 65536
                · have HF5 : Aside0 (respS l me = .ok (n, r, fs, iL rest)) := ⟨by rw [HF4.out, hfr]; simp only [Bool.false_eq_true, if_false, if_pos hlen]; rfl⟩
                  have hlen' : decide ((rest.length : Int) ≤ 65536) = true := decide_eq_true (by omega)
                  clear hfr
                  go_wp2_with (first
                    | (go_at_call 53; ((with_reducible refine (framed_okC A7 c7 fs A2 c2 rest _ (OwnF.reads ho6.out).2 (OwnF.reads ho6.out).1 (hr2.out _ (HR.out _ HG6.out)) hc2.out HRL.out HFSZ.out b n7 _ HFR.out).mono ?_); rintro e w7 ⟨A8, c8, rfl, ho8, hb7⟩; have kr7 := blk_below kr6.out hb7; have b73 : w7.cell? ⟨Br, 3, none⟩ = some (.slice none 0 0) := blk_cell kr7 3; have f73 : w7.frozen? ⟨Br, 3, none⟩ = false := blk_frozen kr7 3; replace kr7 := Aside0.mk kr7; replace ho8 := Aside0.mk ho8; have HS6 := Aside0.mk (Nat.le_trans HS5.out hb6.out.size); replace hb7 := Aside0.mk hb7))
                    | (go_at_call 48; ((with_reducible refine (hmust_ok _ _).mono ?_); rintro e w' ⟨rfl, rfl⟩))
                    | (go_at_call 60; ((with_reducible refine (cloneH_calls A2 c2 rest _ (hr2.out _ (HR.out _ (HG6.out.trans (Grw2.of_below hb7.out)))) hc2.out HRL.out).mono ?_); rintro e w9 ⟨A9, c9, rfl, ho9, hb9⟩; have kr9 := blk_below kr7.out hb9; have b93 : w9.cell? ⟨Br, 3, none⟩ = some (.slice none 0 0) := blk_cell kr9 3; have f93 : w9.frozen? ⟨Br, 3, none⟩ = false := blk_frozen kr9 3; replace kr9 := Aside0.mk kr9; replace ho9 := Aside0.mk ho9; have HS9 := Aside0.mk (Nat.le_trans HS6.out hb7.out.size); replace hb9 := Aside0.mk hb9)))
                  have hlr : rest.length = (iL rest).length := (iL_length rest).symm
                  refine ⟨rfl, _, results_none rfl _ _ _, resp1_ok HF5.out ⟨A7, c7, A9, c9, ?_, OwnF.lower ((OwnF.below (OwnF.below ho6.out hb7.out) hb9.out).set (p := ⟨Br, 3, none⟩) HWB.out _) HG3.out.size, OwnB.lower (ho9.out.set (p := ⟨Br, 3, none⟩) (Nat.lt_of_lt_of_le HWB.out HS9.out) _) (Nat.le_trans HG3.out.size HS9.out), ((HG6.out.trans (Grw2.of_below hb7.out)).trans (Grw2.of_below hb9.out)).setA 3 _⟩⟩
                  rw [← hlr]
                  exact blk_put kr9.out 3 _ rfl
                · have HF5 : Aside0 (respS l me = .error 93) := ⟨by rw [HF4.out, hfr]; simp only [Bool.false_eq_true, if_false, if_neg hlen]; rfl⟩
                  have hlen' : decide ((rest.length : Int) ≤ 65536) = false := decide_eq_false (by omega)
                  clear hfr
                  go_wp2_with (first
                    | (go_at_call 53; ((with_reducible refine (framed_okC A7 c7 fs A2 c2 rest _ (OwnF.reads ho6.out).2 (OwnF.reads ho6.out).1 (hr2.out _ (HR.out _ HG6.out)) hc2.out HRL.out HFSZ.out b n7 _ HFR.out).mono ?_); rintro e w7 ⟨A8, c8, rfl, ho8, hb7⟩; have kr7 := blk_below kr6.out hb7; have b73 : w7.cell? ⟨Br, 3, none⟩ = some (.slice none 0 0) := blk_cell kr7 3; have f73 : w7.frozen? ⟨Br, 3, none⟩ = false := blk_frozen kr7 3; replace kr7 := Aside0.mk kr7; replace ho8 := Aside0.mk ho8; have HS6 := Aside0.mk (Nat.le_trans HS5.out hb6.out.size); replace hb7 := Aside0.mk hb7))
                    | (go_at_call 48; ((with_reducible refine (hmust_no _ _).mono ?_); rintro e w' ⟨rfl, rfl⟩)))
                  exact ⟨rfl, resp1_err HF5.out (HG6.out.trans (Grw2.of_below hb7.out))⟩
        · have HX := Aside0.mk hx
          have HF3 : Aside0 (respS l me = .error x) := ⟨by rw [HF2.out, hps]; exact if_neg hx⟩
          clear hx hps
          go_wp2_with (first
            | (go_at_call 51; ((with_reducible refine (fields_noL A6 c6 L _ HR3.out hc6.out HLS2.out fs x HX.out HPS.out).mono ?_); rintro e w4 ⟨rfl, hb4⟩; replace hb4 := Aside0.mk hb4)))
          exact ⟨rfl, resp1_err HF3.out (HG3.out.trans (Grw2.of_below hb4.out))⟩
end Go.Proofs.YtibgcbngnfaaiaaDoor.H

namespace Go.Proofs.YtibgcbngnfaaiaaDoor.H
open Go.RowKit Go.Proofs.YtibgcbngnfaaiaaDoorW.PrintWords Go.Proofs.YtibgcbngnfaaiaaDoorW.PrintLast Go.Proofs.YtibgcbngnfaaiaaDoorW.PrintMore Go.Proofs.YtibgcbngnfaaiaaDoor.PA
set_option linter.unusedVariables false
set_option linter.unusedSimpArgs false

theorem statusS_err (l : List UInt8) (x : Int) (h : statusS l = .error x) : x ≠ 0 := by
  unfold statusS at h
  split at h
  · split at h
    · cases h; omega
    · split at h
      · unfold tailS at h
        split at h
        · cases h
        · split at h
          · cases h
          · cases h; omega
      · cases h; omega
  · cases h; omega
theorem bodyS_err (n : Int) (m : ByteArray) (fs : List S103) (rest : List UInt8) (x : Int) (h : bodyS n m fs rest = .error x) : x ≠ 0 := by
  unfold bodyS at h
  split at h
  · cases h
  · split at h
    · rename_i h1; cases h; exact framedS_err _ _ _ h1
    · split at h
      · cases h
      · split at h
        · cases h
        · cases h; omega
theorem respS_err (l : List UInt8) (m : ByteArray) (x : Int) (h : respS l m = .error x) : x ≠ 0 := by
  unfold respS at h
  split at h
  · rename_i h1; cases h; exact headS_err _ _ h1
  · unfold withStatus at h
    split at h
    · rename_i h1; cases h; exact statusS_err _ _ h1
    · unfold behindR at h
      split at h
      · unfold withBody at h
        split at h
        · rename_i h1; cases h; exact bodyS_err _ _ _ _ _ h1
        · cases h
      · rename_i h1; cases h; exact h1
def RespTryPost (l : List UInt8) (me : ByteArray) (Br : Nat) (w : World) (e : Ending) (w' : World) : Prop :=
  match respS l me with
  | .ok (n, r, fs, b) => e = .returned (.int .i64 0) ∧ Resp1Ok Br n r fs b w w'
  | .error x => e = .returned (.int .i64 x) ∧ Grw2 Br Br w w'
set_option maxRecDepth 100000 in
theorem callR (caps : Array Value) (W : World) : (callFunc 58 caps).run Tryd.prog W = .ok (.enter 58 caps) W := by
  have h := Tryd.func58
  simp [callFunc, go_sem, h, Tryd.f58]
set_option maxHeartbeats 4000000 in
theorem resptry_calls (Bb Br Bm : Nat) (A : Option Addr) (c : Nat) (l : List UInt8) (me : ByteArray) (w : World) (hr : ∀ W, Grw2 Br Br w W → ReadsInt W .u8 A l.length (iL l)) (hc : l.length ≤ c) (hl : l.length ≤ 1000000000) (hm : Mz w)
    (hb : w.heap[Bb]? = some (.cells #[.slice A l.length c] 22 (0, 0))) (hbr : w.heap[Br]? = some (.cells #[.int .i64 0, .string ⟨#[]⟩, .slice none 0 0, .slice none 0 0] 47 (0, 0))) (hbm : w.heap[Bm]? = some (.cells #[.string me] 9 (0, 0)))
    (h1 : Bb ≠ Br) (h2 : Bm ≠ Br) :
    Calls Tryd.prog 44 #[.func (.func 58) #[] #[.pointer (some ⟨Bb, 0, none⟩), .pointer (some ⟨Br, 0, none⟩), .pointer (some ⟨Bm, 0, none⟩)]] w (RespTryPost l me Br w) := by
  have hba : Grw2 Br Br w (w.alloc (.cells #[.int .i64 0] 25)) := Grw2.of_below (below_alloc (Below.refl _ _) _)
  have hcl := resp1_calls Bb Br Bm A c l me (w.alloc (.cells #[.int .i64 0] 25)) (fun W h => hr W (hba.trans h)) hc hl (mz_below hm (below_alloc (Below.refl _ _) _)) (blk_alloc hb _) (blk_alloc hbr _) (blk_alloc hbm _) h1 h2
  have hlr := blk_lt hbr
  have hkk : ∀ w', Grw2 Br Br (w.alloc (.cells #[.int .i64 0] 25)) w' → w'.heap[w.heap.size]? = some (.cells #[.int .i64 0] 25 (0, 0)) := fun w' h => by
    rw [h.block w.heap.size (by simp) (by omega) (by omega)]
    exact blk_new w _
  cases h : respS l me with
  | error x =>
    have hcl2 : Calls Tryd.prog 58 #[.pointer (some ⟨Bb, 0, none⟩), .pointer (some ⟨Br, 0, none⟩), .pointer (some ⟨Bm, 0, none⟩)] (w.alloc (.cells #[.int .i64 0] 25)) fun e w' => e = .panicked (stopH x) ∧ Grw2 Br Br (w.alloc (.cells #[.int .i64 0] 25)) w' := hcl.mono fun e w' hq => by
      unfold Resp1Post at hq; rw [h] at hq; exact hq
    refine (try_no _ _ (callR _) x w _ hcl2 hkk).mono ?_
    rintro e w' ⟨rfl, w1, hw1, rfl⟩
    unfold RespTryPost
    rw [h]
    exact ⟨rfl, ((hba.trans hw1).setFar (p := ⟨w.heap.size, 0, none⟩) (Nat.le_refl _) _).trans (Grw2.of_below (below_alloc (Below.refl _ _) _))⟩
  | ok r =>
    obtain ⟨n, r, fs, b⟩ := r
    have hcl2 : Calls Tryd.prog 58 #[.pointer (some ⟨Bb, 0, none⟩), .pointer (some ⟨Br, 0, none⟩), .pointer (some ⟨Bm, 0, none⟩)] (w.alloc (.cells #[.int .i64 0] 25)) fun e w' => e = .returned (.tuple #[]) ∧ Resp1Ok Br n r fs b (w.alloc (.cells #[.int .i64 0] 25)) w' := hcl.mono fun e w' hq => by
      unfold Resp1Post at hq; rw [h] at hq; exact hq
    refine (try_ok _ _ (callR _) w _ hcl2 (fun w' hq => by obtain ⟨A1, c1, A2, c2, k1, k3, k4, k5⟩ := hq; exact hkk w' k5)).mono ?_
    rintro e w' ⟨rfl, w1, ⟨A1, c1, A2, c2, k1, k3, k4, k5⟩, rfl⟩
    unfold RespTryPost
    rw [h]
    have hsz : w.heap.size < (w.alloc (.cells #[.int .i64 0] 25)).heap.size := by simp
    exact ⟨rfl, A1, c1, A2, c2, blk_at k1 (p := ⟨w.heap.size, 0, none⟩) (by simp; omega) _,
      OwnF.lower (k3.set (p := ⟨w.heap.size, 0, none⟩) hsz _) (Nat.le_of_lt hsz), OwnB.lower (k4.set (p := ⟨w.heap.size, 0, none⟩) hsz _) (Nat.le_of_lt hsz), (hba.trans k5).setFar (p := ⟨w.heap.size, 0, none⟩) (Nat.le_refl _) _⟩
def ResponsePost (l : List UInt8) (me : ByteArray) (w : World) (e : Ending) (w' : World) : Prop :=
  match respS l me with
  | .ok (n, r, fs, b) => ∃ A1 c1 A2 c2, e = .returned (.tuple #[.agg #[.int .i64 n, .string (ofL r), .slice A1 fs.length c1, .slice A2 b.length c2], .int .i64 0]) ∧ OwnF w' w.heap.size A1 c1 fs ∧ OwnB w' w.heap.size A2 c2 b ∧ Below w.heap.size w w'
  | .error x => e = .returned (.tuple #[.agg #[.int .i64 0, .string ⟨#[]⟩, .slice none 0 0, .slice none 0 0], .int .i64 x]) ∧ Below w.heap.size w w'
set_option maxHeartbeats 8000000 in
set_option maxRecDepth 100000 in
theorem response_calls (A : Option Addr) (c : Nat) (l : List UInt8) (me : ByteArray) (w : World) (hr : ReadsInt w .u8 A l.length (iL l)) (hc : l.length ≤ c) (hl : l.length ≤ 1000000000) (hm : Mz w) :
    Calls Tryd.prog 26 #[.slice A l.length c, .string me] w (ResponsePost l me w) := by
  have hmf : ∀ (fn : Fn) (first cap : Array Value) (w : World), (Instr.makeFunc fn first cap).run Tryd.prog w = .ok (.func fn first cap) w := fun _ _ _ _ => rfl
  have HR := Aside0.mk hr
  have HC := Aside0.mk hc
  have HL := Aside0.mk hl
  have HM := Aside0.mk hm
  clear hr hc hl hm
  go_enter Tryd.func26, Tryd.ntmps26
  go_wp2_with fail
  obtain ⟨Wt, hWt⟩ : ∃ Wt, ((((w.alloc (.cells #[.slice A l.length c] 22)).alloc (.cells #[.string me] 9)).alloc (.cells #[.int .i64 0, .string ⟨#[]⟩, .slice none 0 0, .slice none 0 0] 47)).alloc (.cells #[.int .i64 0, .string ⟨#[]⟩, .slice none 0 0, .slice none 0 0] 47)) = Wt := ⟨_, rfl⟩
  have hbel : Below w.heap.size w Wt := by rw [← hWt]; exact below_alloc (below_alloc (below_alloc (below_alloc (Below.refl _ _) _) _) _) _
  have hsz : Wt.heap.size = w.heap.size + 4 := by rw [← hWt]; simp
  have hB0 : Wt.heap[w.heap.size]? = some (.cells #[.slice A l.length c] 22 (0, 0)) := by rw [← hWt]; exact blk_alloc (blk_alloc (blk_alloc (blk_new w _) _) _) _
  have hB1 : Wt.heap[w.heap.size + 1]? = some (.cells #[.string me] 9 (0, 0)) := by rw [← hWt]; exact blk_alloc (blk_alloc (by simpa using blk_new (w.alloc (.cells #[.slice A l.length c] 22)) (.cells #[.string me] 9)) _) _
  have hB2 : Wt.heap[w.heap.size + 1 + 1]? = some (.cells #[.int .i64 0, .string ⟨#[]⟩, .slice none 0 0, .slice none 0 0] 47 (0, 0)) := by rw [← hWt]; exact blk_alloc (by simpa using blk_new ((w.alloc (.cells #[.slice A l.length c] 22)).alloc (.cells #[.string me] 9)) (.cells #[.int .i64 0, .string ⟨#[]⟩, .slice none 0 0, .slice none 0 0] 47)) _
  have hB3 : Wt.heap[w.heap.size + 1 + 1 + 1]? = some (.cells #[.int .i64 0, .string ⟨#[]⟩, .slice none 0 0, .slice none 0 0] 47 (0, 0)) := by rw [← hWt]; simpa using blk_new (((w.alloc (.cells #[.slice A l.length c] 22)).alloc (.cells #[.string me] 9)).alloc (.cells #[.int .i64 0, .string ⟨#[]⟩, .slice none 0 0, .slice none 0 0] 47)) (.cells #[.int .i64 0, .string ⟨#[]⟩, .slice none 0 0, .slice none 0 0] 47)
  rw [hWt]
  clear hWt
  have hgb : ∀ W, Grw2 (w.heap.size + 1 + 1 + 1) (w.heap.size + 1 + 1 + 1) Wt W → Below w.heap.size w W := fun W h => Grw2.below hbel h (by omega) (by omega) (by omega)
  refine (resptry_calls w.heap.size (w.heap.size + 1 + 1 + 1) (w.heap.size + 1) A c l me Wt (fun W h => HR.out.below (hgb W h)) HC.out HL.out (mz_below HM.out hbel) hB0 hB3 hB1 (by omega) (by omega)).mono fun e w2 hq => ?_
  unfold RespTryPost at hq
  have k0 : ∀ W, Grw2 (w.heap.size + 1 + 1 + 1) (w.heap.size + 1 + 1 + 1) Wt W → W.heap[w.heap.size + 1 + 1]? = some (.cells #[.int .i64 0, .string ⟨#[]⟩, .slice none 0 0, .slice none 0 0] 47 (0, 0)) := fun W h => by
    rw [h.block _ (by omega) (by omega) (by omega)]; exact hB2
  cases h : respS l me with
  | error x =>
    rw [h] at hq
    obtain ⟨rfl, hg⟩ := hq
    have hx := respS_err l me x h
    have k1 := k0 _ hg
    have d0 : w2.cell? ⟨w.heap.size + 1 + 1, 0, none⟩ = some (.int .i64 0) := blk_cell k1 0
    have d1 : w2.cell? ⟨w.heap.size + 1 + 1, 1, none⟩ = some (.string ⟨#[]⟩) := blk_cell k1 1
    have d2 : w2.cell? ⟨w.heap.size + 1 + 1, 2, none⟩ = some (.slice none 0 0) := blk_cell k1 2
    have d3 : w2.cell? ⟨w.heap.size + 1 + 1, 3, none⟩ = some (.slice none 0 0) := blk_cell k1 3
    have K1 := Aside0.mk k1
    have e0 : w2.frozen? ⟨w.heap.size + 1 + 1, 0, none⟩ = false := blk_frozen k1 0
    have e1 : w2.frozen? ⟨w.heap.size + 1 + 1, 1, none⟩ = false := blk_frozen k1 1
    have e2 : w2.frozen? ⟨w.heap.size + 1 + 1, 2, none⟩ = false := blk_frozen k1 2
    have e3 : w2.frozen? ⟨w.heap.size + 1 + 1, 3, none⟩ = false := blk_frozen k1 3
    have hx' : (x == 0) = false := beq_eq_false_iff_ne.2 hx
    have hxn : (x != 0) = true := by simp [hx]
    have H := Aside0.mk h
    have HG := Aside0.mk hg
    clear hB0 hB1 hB2 hB3 k0 h hg k1
    go_wp2
    have kk := blk_put (blk_put (blk_put (blk_put K1.out 0 (.int .i64 0) rfl) 1 (.string ⟨#[]⟩) rfl) 2 (.slice none 0 0) rfl) 3 (.slice none 0 0) rfl
    have hb2 := hgb _ (HG.out)
    have hbw : Below w.heap.size w ((((w2.setCell ⟨w.heap.size + 1 + 1, 0, none⟩ (.int .i64 0)).setCell ⟨w.heap.size + 1 + 1, 1, none⟩ (.string ⟨#[]⟩)).setCell ⟨w.heap.size + 1 + 1, 2, none⟩ (.slice none 0 0)).setCell ⟨w.heap.size + 1 + 1, 3, none⟩ (.slice none 0 0)) :=
      Below.setCell (Below.setCell (Below.setCell (Below.setCell hb2 (by simp; omega) _) (by simp; omega) _) (by simp; omega) _) (by simp; omega) _
    generalize ((((w2.setCell ⟨w.heap.size + 1 + 1, 0, none⟩ (.int .i64 0)).setCell ⟨w.heap.size + 1 + 1, 1, none⟩ (.string ⟨#[]⟩)).setCell ⟨w.heap.size + 1 + 1, 2, none⟩ (.slice none 0 0)).setCell ⟨w.heap.size + 1 + 1, 3, none⟩ (.slice none 0 0)) = w3 at kk hbw ⊢
    have q0 := blk_cell kk 0
    have q1 := blk_cell kk 1
    have q2 := blk_cell kk 2
    have q3 := blk_cell kk 3
    refine ⟨rfl, .tuple #[.agg #[.int .i64 0, .string ⟨#[]⟩, .slice none 0 0, .slice none 0 0], .int .i64 x], ?_, ?_⟩
    · simp [results, Tryd.results26, go_sem, q0, q1, q2, q3]
    · unfold ResponsePost
      rw [H.out]
      exact ⟨rfl, hbw⟩
  | ok r =>
    obtain ⟨n, r, fs, b⟩ := r
    rw [h] at hq
    obtain ⟨rfl, A1, c1, A2, c2, g1, g3, g4, hg⟩ := hq
    have k1 := k0 _ hg
    have r0 : w2.cell? ⟨w.heap.size + 1 + 1 + 1, 0, none⟩ = some (.int .i64 n) := blk_cell g1 0
    have r1 : w2.cell? ⟨w.heap.size + 1 + 1 + 1, 1, none⟩ = some (.string (ofL r)) := blk_cell g1 1
    have r2 : w2.cell? ⟨w.heap.size + 1 + 1 + 1, 2, none⟩ = some (.slice A1 fs.length c1) := blk_cell g1 2
    have r3 : w2.cell? ⟨w.heap.size + 1 + 1 + 1, 3, none⟩ = some (.slice A2 b.length c2) := blk_cell g1 3
    have d0 : w2.cell? ⟨w.heap.size + 1 + 1, 0, none⟩ = some (.int .i64 0) := blk_cell k1 0
    have d1 : w2.cell? ⟨w.heap.size + 1 + 1, 1, none⟩ = some (.string ⟨#[]⟩) := blk_cell k1 1
    have d2 : w2.cell? ⟨w.heap.size + 1 + 1, 2, none⟩ = some (.slice none 0 0) := blk_cell k1 2
    have d3 : w2.cell? ⟨w.heap.size + 1 + 1, 3, none⟩ = some (.slice none 0 0) := blk_cell k1 3
    have e0 : w2.frozen? ⟨w.heap.size + 1 + 1, 0, none⟩ = false := blk_frozen k1 0
    have e1 : w2.frozen? ⟨w.heap.size + 1 + 1, 1, none⟩ = false := blk_frozen k1 1
    have e2 : w2.frozen? ⟨w.heap.size + 1 + 1, 2, none⟩ = false := blk_frozen k1 2
    have e3 : w2.frozen? ⟨w.heap.size + 1 + 1, 3, none⟩ = false := blk_frozen k1 3
    have H := Aside0.mk h
    have HG := Aside0.mk hg
    have G3 := Aside0.mk g3
    have G4 := Aside0.mk g4
    have K1 := Aside0.mk k1
    clear hB0 hB1 hB2 hB3 k0 h hg g1 g3 g4 k1
    go_wp2
    have kk := blk_put (blk_put (blk_put (blk_put K1.out 0 (.int .i64 n) rfl) 1 (.string (ofL r)) rfl) 2 (.slice A1 fs.length c1) rfl) 3 (.slice A2 b.length c2) rfl
    have hb2 := hgb _ (HG.out)
    have hlt : w.heap.size + 1 + 1 < Wt.heap.size := by omega
    have hle : w.heap.size ≤ Wt.heap.size := by omega
    have hres : Below w.heap.size w ((((w2.setCell ⟨w.heap.size + 1 + 1, 0, none⟩ (.int .i64 n)).setCell ⟨w.heap.size + 1 + 1, 1, none⟩ (.string (ofL r))).setCell ⟨w.heap.size + 1 + 1, 2, none⟩ (.slice A1 fs.length c1)).setCell ⟨w.heap.size + 1 + 1, 3, none⟩ (.slice A2 b.length c2)) ∧
        OwnF ((((w2.setCell ⟨w.heap.size + 1 + 1, 0, none⟩ (.int .i64 n)).setCell ⟨w.heap.size + 1 + 1, 1, none⟩ (.string (ofL r))).setCell ⟨w.heap.size + 1 + 1, 2, none⟩ (.slice A1 fs.length c1)).setCell ⟨w.heap.size + 1 + 1, 3, none⟩ (.slice A2 b.length c2)) w.heap.size A1 c1 fs ∧
        OwnB ((((w2.setCell ⟨w.heap.size + 1 + 1, 0, none⟩ (.int .i64 n)).setCell ⟨w.heap.size + 1 + 1, 1, none⟩ (.string (ofL r))).setCell ⟨w.heap.size + 1 + 1, 2, none⟩ (.slice A1 fs.length c1)).setCell ⟨w.heap.size + 1 + 1, 3, none⟩ (.slice A2 b.length c2)) w.heap.size A2 c2 b :=
      ⟨(Below.setCell (Below.setCell (Below.setCell (Below.setCell hb2 (by simp; omega) _) (by simp; omega) _) (by simp; omega) _) (by simp; omega) _),
       OwnF.lower ((((G3.out.set (p := ⟨w.heap.size + 1 + 1, 0, none⟩) hlt _).set (p := ⟨w.heap.size + 1 + 1, 1, none⟩) hlt _).set (p := ⟨w.heap.size + 1 + 1, 2, none⟩) hlt _).set (p := ⟨w.heap.size + 1 + 1, 3, none⟩) hlt _) hle,
       OwnB.lower ((((G4.out.set (p := ⟨w.heap.size + 1 + 1, 0, none⟩) hlt _).set (p := ⟨w.heap.size + 1 + 1, 1, none⟩) hlt _).set (p := ⟨w.heap.size + 1 + 1, 2, none⟩) hlt _).set (p := ⟨w.heap.size + 1 + 1, 3, none⟩) hlt _) hle⟩
    generalize ((((w2.setCell ⟨w.heap.size + 1 + 1, 0, none⟩ (.int .i64 n)).setCell ⟨w.heap.size + 1 + 1, 1, none⟩ (.string (ofL r))).setCell ⟨w.heap.size + 1 + 1, 2, none⟩ (.slice A1 fs.length c1)).setCell ⟨w.heap.size + 1 + 1, 3, none⟩ (.slice A2 b.length c2)) = w3 at kk hres ⊢
    have q0 := blk_cell kk 0
    have q1 := blk_cell kk 1
    have q2 := blk_cell kk 2
    have q3 := blk_cell kk 3
    refine ⟨rfl, .tuple #[.agg #[.int .i64 n, .string (ofL r), .slice A1 fs.length c1, .slice A2 b.length c2], .int .i64 0], ?_, ?_⟩
    · simp [results, Tryd.results26, go_sem, q0, q1, q2, q3]
    · unfold ResponsePost
      rw [H.out]
      exact ⟨A1, c1, A2, c2, rfl, hres.2.1, hres.2.2, hres.1⟩
end Go.Proofs.YtibgcbngnfaaiaaDoor.H
