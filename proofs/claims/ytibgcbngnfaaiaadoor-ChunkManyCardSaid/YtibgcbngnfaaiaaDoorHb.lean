/- (*chunk.reader).line walked. -/
import Derived.Test.YtibgcbngnfaaiaaDoorHa
import Derived.Test.YtibgcbngnfaaiaaDoorHp
namespace Go.Proofs.YtibgcbngnfaaiaaDoor.H
open Go.RowKit Go.Proofs.YtibgcbngnfaaiaaDoorW.PrintWords Go.Proofs.YtibgcbngnfaaiaaDoorW.PrintLast Go.Proofs.YtibgcbngnfaaiaaDoorW.PrintMore
set_option linter.unusedVariables false
set_option linter.unusedSimpArgs false

/-- chunk's own panic. -/
def stopC (e : Int) : List PanicEntry := [{ v := .iface 64 (.agg #[.int .i64 e]), recovered := false }]

/-- What a line comes to. -/
def LinePost (l : List Int) (at_ g : Nat) (w : World) (e : Ending) (w' : World) : Prop :=
  match lineL 0 (l.drop at_) with
  | .ok (s, r) => e = .returned (.string (strOfNums s)) ∧ ∃ q, w' = (w.drewN q).setCell ⟨g, 1, none⟩ (.int .i64 (l.length - r.length : Nat))
  | .error x => e = .panicked (stopC x) ∧ w = w'

theorem add_succ (ad : Addr) (k : Nat) : ad.add (k + 1) = ⟨ad.block, ad.off + (k + 1), none⟩ := by unfold Addr.add; simp

/-- xs[a:b] under names of its own. -/
theorem mid_reads {P : Program} {t e : TypeId} {i : TypeInfo} (ht : P.underlying t = some (.slice e)) (hi : P.info? e = some i) (hsz : i.size = 1) {w : World} {A : Option Addr} {l : List Int} {c : Nat}
    (hr : ReadsInt w .u8 A l.length l) (hc : l.length ≤ c) (a b : Nat) (h1 : a ≤ b) (h2 : b ≤ l.length) :
    ∃ A' n' c', (∀ W : World, (Instr.slice t (.slice A l.length c) (some (.int .i64 (a : Int))) (some (.int .i64 (b : Int))) none).run P W = .ok (.slice A' n' c') W) ∧ n' = b - a ∧ n' ≤ c' ∧
      (∀ W : World, ReadsInt W .u8 A l.length l → ReadsInt W .u8 A' n' ((l.take b).drop a)) := by
  obtain ⟨A', h3, h4, h5⟩ := print_mid_of (P := P) (Value.int .u8) 0 t e .i64 .i64 ht hi hsz A c l a b (by omega) (by omega) (by omega) hc
  simp only [Int.toNat_natCast] at h3 h4 h5
  exact ⟨A', _, _, h3, by simp; omega, h5, fun W h => h4 W h⟩

theorem i5 : (Tryd.prog.info? 5).map (fun i => (i.zero, i.size, i.bytes)) = some (some (.int .u8 0), 1, 1) := by kernel_rfl

theorem post_err {l : List Int} {at_ g : Nat} {w : World} {x : Int} (h : lineL 0 (l.drop at_) = .error x) : LinePost l at_ g w (.panicked (stopC x)) w := by
  unfold LinePost; rw [h]; exact ⟨rfl, rfl⟩
theorem post_ok {l : List Int} {at_ g : Nat} {w : World} {s r : List Int} {t : ByteArray} {nx : Int} (h : lineL 0 (l.drop at_) = .ok (s, r)) (ht : t = strOfNums s) (hn : nx = (l.length - r.length : Nat)) (q : Nat) :
    LinePost l at_ g w (.returned (.string t)) ((w.drewN q).setCell ⟨g, 1, none⟩ (.int .i64 nx)) := by
  unfold LinePost; rw [h]; exact ⟨by rw [ht], q, by rw [hn]⟩

set_option maxHeartbeats 4000000 in
set_option maxRecDepth 100000 in
theorem line_calls (g : Nat) (A : Option Addr) (c : Nat) (l : List Int) (at_ : Nat) (w : World) (hg : w.heap[g]? = some (.cells #[.slice A l.length c, .int .i64 at_] 68 (0, 0)))
    (hr : ReadsInt w .u8 A l.length l) (hc : l.length ≤ c) (hat : at_ ≤ l.length) :
    Calls Tryd.prog 68 #[.pointer (some ⟨g, 0, none⟩)] w (LinePost l at_ g w) := by
  have hb0 : w.cell? ⟨g, 0, none⟩ = some (.slice A l.length c) := blk_cell hg 0
  have hb1 : w.cell? ⟨g, 1, none⟩ = some (.int .i64 at_) := blk_cell hg 1
  have hf1 : w.frozen? ⟨g, 1, none⟩ = false := blk_frozen hg 1
  have hn : l.length ≤ 9223372036854775807 := hr.2.1
  have HR := Aside0.mk hr
  have HC := Aside0.mk hc
  clear hr hc hg
  go_enter Tryd.func68, Tryd.ntmps68
  go_wp2
  go_loop [3] (fun i => ∃ k : Nat, at_ ≤ k ∧ k ≤ l.length ∧ i = .int .i64 k ∧ Aside0 (lineL 0 (l.drop at_) = onto ((l.drop at_).take (k - at_)) (lineL (k - at_) (l.drop k)))) (fun i => l.length - (intOf i).toNat)
  case atStart => exact ⟨at_, Nat.le_refl _, hat, rfl, ⟨by simp [onto_nil]⟩⟩
  case round =>
    obtain ⟨k, hk0, hk, rfl, HL⟩ := hrel
    by_cases hlt : k < l.length
    · obtain ⟨ad, hA, hx⟩ := HR.out.at_ (k : Int) (by omega) (by omega)
      subst hA
      rw [Int.toNat_natCast] at hx
      have hC := HC
      have e0 := drop_rd l k hlt
      have hlt' : decide ((k : Int) < (l.length : Int)) = true := by simp; omega
      have p0 : 0 ≤ (k : Int) := by omega
      by_cases h13 : rd l (k : Int) = 13
      · have h13' : (rd l (k : Int) == 13) = true := beq_iff_eq.mpr h13
        have E0 := Aside0.mk e0
        have H13 := Aside0.mk h13
        clear e0 h13
        by_cases hnx : k + 1 < l.length
        · have hnx' : decide ((k : Int) + 1 < (l.length : Int)) = true := by simp; omega
          obtain ⟨ad2, hA2, hx2⟩ := HR.out.at_ ((k : Int) + 1) (by omega) (by omega)
          obtain rfl : ad = ad2 := by injection hA2
          rw [show ((k : Int) + 1).toNat = k + 1 from by omega, add_succ] at hx2
          have e1 := drop_rd l (k + 1) hnx
          have p1 : 0 ≤ (k : Int) + 1 := by omega
          rw [show ((k + 1 : Nat) : Int) = (k : Int) + 1 from by omega] at e1
          have E1 := Aside0.mk e1
          clear e1
          by_cases h10 : rd l ((k : Int) + 1) = 10
          · have h10' : (rd l ((k : Int) + 1) == 10) = true := beq_iff_eq.mpr h10
            have HF : Aside0 (lineL 0 (l.drop at_) = .ok ((l.drop at_).take (k - at_), l.drop (k + 1 + 1))) := ⟨by rw [HL.out, E0.out, H13.out, E1.out, h10, line_crlf, onto_ok]; simp⟩
            clear h10
            obtain ⟨i0, hi0, _, hsz, _⟩ := info_parts i5
            obtain ⟨A14, n14, c14, hcut, hn14, hc14, hrd⟩ := mid_reads (P := Tryd.prog) Tryd.underlying22 hi0 hsz HR.out HC.out at_ k hk0 (by omega)
            have hcv := fun q => string_of_reads (dst := 9) Tryd.underlying22 Tryd.underlying5 Tryd.underlying9 (c := c14) ((hrd w HR.out).below (Drawn0.below ⟨q, rfl⟩))
            clear hn14 hc14 hrd hi0 hsz
            go_wp2_with (go_at_call 70; ((with_reducible refine (must_ok _ _).mono ?_); rintro e w' ⟨rfl, rfl⟩))
            go_quiet (fail)
            go_wp2
            go_ret
            exact post_ok HF.out (by rw [List.drop_take]) (by simp; omega) _
          · have h10' : (rd l ((k : Int) + 1) == 10) = false := beq_eq_false_iff_ne.mpr h10
            have HF : Aside0 (lineL 0 (l.drop at_) = .error 94) := ⟨by rw [HL.out, E0.out, H13.out, E1.out, line_crx _ _ _ h10]; rfl⟩
            clear h10
            go_wp2_with (first | (go_at_call 70; ((with_reducible refine (must_ok _ _).mono ?_); rintro e w' ⟨rfl, rfl⟩)) | (go_at_call 70; ((with_reducible refine (must_no _ _).mono ?_); rintro e w' ⟨rfl, rfl⟩)))
            exact ⟨rfl, post_err HF.out⟩
        · have hnx' : decide ((k : Int) + 1 < (l.length : Int)) = false := by simp; omega
          have HF : Aside0 (lineL 0 (l.drop at_) = .error 92) := ⟨by rw [HL.out, E0.out, H13.out, show l.drop (k + 1) = [] from List.drop_eq_nil_of_le (by omega), line_cr]; rfl⟩
          go_wp2_with (go_at_call 70; ((with_reducible refine (must_no _ _).mono ?_); rintro e w' ⟨rfl, rfl⟩))
          exact ⟨rfl, post_err HF.out⟩
      · have h13' : (rd l (k : Int) == 13) = false := beq_eq_false_iff_ne.mpr h13
        by_cases hbad : rd l (k : Int) = 10 ∨ 1024 ≤ k - at_
        · have HF : Aside0 (lineL 0 (l.drop at_) = .error 94) := ⟨by rw [HL.out, e0, line_bad _ _ _ h13 hbad]; rfl⟩
          clear e0 h13
          have hpost := Aside0.mk (post_err (g := g) (w := w) HF.out)
          clear HF
          by_cases h10 : rd l (k : Int) = 10
          · have h10' : (rd l (k : Int) != 10) = false := bne_eq_false_iff_eq.mpr h10
            clear h10 hbad
            go_wp2_with (go_at_call 70; ((with_reducible refine (must_no _ _).mono ?_); rintro e w' ⟨rfl, rfl⟩))
            exact ⟨rfl, hpost.out⟩
          · have h10' : (rd l (k : Int) != 10) = true := bne_iff_ne.mpr h10
            have hb24 : 1024 ≤ k - at_ := hbad.resolve_left h10
            have h24' : decide ((k : Int) - (at_ : Int) < 1024) = false := by simp; omega
            clear h10 hbad
            go_wp2_with (go_at_call 70; ((with_reducible refine (must_no _ _).mono ?_); rintro e w' ⟨rfl, rfl⟩))
            exact ⟨rfl, hpost.out⟩
        · have HF : Aside0 (lineL 0 (l.drop at_) = onto ((l.drop at_).take (k + 1 - at_)) (lineL (k + 1 - at_) (l.drop (k + 1)))) := ⟨by
            rw [HL.out, e0, line_on _ _ _ h13 hbad, onto_map, show k + 1 - at_ = k - at_ + 1 from by omega, take_rd _ _ (by simp; omega)]
            simp [rd, List.getD_eq_getElem?_getD, show at_ + (k - at_) = k from by omega]⟩
          have hb10 : ¬ rd l (k : Int) = 10 := fun h => hbad (.inl h)
          have hb24 : k - at_ < 1024 := Nat.lt_of_not_le fun h => hbad (.inr h)
          clear e0 h13 hbad
          have h10' : (rd l (k : Int) != 10) = true := bne_iff_ne.mpr hb10
          have h24' : decide ((k : Int) - (at_ : Int) < 1024) = true := by simp; omega
          clear hb10
          go_wp2_with (go_at_call 70; ((with_reducible refine (must_ok _ _).mono ?_); rintro e w' ⟨rfl, rfl⟩))
          go_round
          case rel => exact ⟨k + 1, by omega, by omega, by go_num, HF⟩
          case measure => simp [intOf]; omega
    · have hlt' : decide ((k : Int) < (l.length : Int)) = false := by simp; omega
      have HF : Aside0 (lineL 0 (l.drop at_) = .error 92) := ⟨by rw [HL.out, show l.drop k = [] from List.drop_eq_nil_of_le (by omega), line_nil]; rfl⟩
      go_wp2
      exact ⟨rfl, post_err HF.out⟩
end Go.Proofs.YtibgcbngnfaaiaaDoor.H
