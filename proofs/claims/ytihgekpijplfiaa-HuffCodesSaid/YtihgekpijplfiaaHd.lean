/- HuffCodes is true for all numbers. Conditions: ints of 64 digits. -/
import Derived.Test.YtihgekpijplfiaaHf
import Derived.Test.YtihgekpijplfiaaHl
import Derived.Test.YtihgekpijplfiaaHk
namespace Go.Proofs.Ytihgekpijplfiaa.Hl
set_option linter.unusedVariables false
open Go.RowKit Go.Maps Go.Proofs.YtihgekpijplfiaaW.PrintWords Go.Proofs.YtihgekpijplfiaaW.PrintLast Go.Proofs.YtihgekpijplfiaaW.PrintMore Go.Proofs.Ytihgekpijplfiaa.Hp Go.Proofs.Ytihgekpijplfiaa.Rm Go.Proofs.Ytihgekpijplfiaa.Mp Go.Proofs.Ytihgekpijplfiaa.Fr Go.Proofs.Ytihgekpijplfiaa.Rf Go.Proofs.Ytihgekpijplfiaa.Kit Go.Proofs.Ytihgekpijplfiaa.Hn
def In64 (x : Int) : Prop := -9223372036854775808 ≤ x ∧ x ≤ 9223372036854775807
set_option maxHeartbeats 16000000 in
set_option maxRecDepth 100000 in
theorem HuffCodes_walk (A0 A1 : Option Addr) (c0 c1 : Nat) (s g : List Int) (at_ n how sign : Int) (w : World) (hr0 : Kd.C (Kd.int .i64) w A0 s.length s) (hc0 : s.length ≤ c0) (hr1 : Kd.C (Kd.int .i64) w A1 g.length g) (hc1 : g.length ≤ c1)
    (hs64 : ∀ x ∈ s, In64 x) (hg : ∀ x ∈ g, In64 x) (hl : g.length ≤ 17592186044416) (b2 : In64 at_) (b3 : In64 n) (b4 : In64 how) (b5 : In64 sign) :
    Calls Try.prog 4 #[.slice A0 s.length c0, .slice A1 g.length c1, .int .i64 at_, .int .i64 n, .int .i64 how, .int .i64 sign] w fun e w' => e = .returned (.bool true) ∧ Below w.heap.size w w' := by
  have HL := Aside0.mk (lengths_calls A0 A1 c0 c1 s g at_ n how w hr0 hc0 hr1 hc1 hs64 hg hl b2 b3 b4)
  have HB5 := Aside0.mk b5
  clear hr0 hr1 hc0 hc1 hs64 hg hl b2 b3 b4 b5
  go_enter Try.func4, Try.ntmps4
  go_wp2_with fail
  refine HL.out.mono ?_
  clear HL
  rintro e w1 ⟨v, ls, rfl, hll, hR, hB⟩
  obtain ⟨Al, cl, rfl⟩ := Kd.R_slice hR
  have HR := Aside0.mk (Kd.R_reads' hR)
  have HB := Aside0.mk hB
  clear hR hB
  cases hok : okS ls with
  | false =>
    have HN := Aside0.mk (New_bad Al cl ls w1 HR.out.2.2 HR.out.2.1 (by omega) hok)
    go_wp2_with fail
    refine HN.out.mono ?_
    clear HN
    rintro e w2 ⟨rfl, m, rfl⟩
    have HK := Aside0.mk (Codes_calls Al cl ls (w1.drewN m) (Kd.C_below HR.out.2.2 (pw_below_drewN (Below.refl _ _) m)) HR.out.2.1)
    rw [codesR_no hok] at HK
    go_wp2_with fail
    refine HK.out.mono ?_
    clear HK
    rintro e w3 ⟨v, rfl, hR, hB⟩
    have HB3 := Aside0.mk (below_step (pw_below_drewN HB.out m) hB)
    clear hR hB
    go_wp2_with fail
    refine (wakes3 _).mono ?_
    rintro e w11 ⟨rfl, hw⟩
    go_wp2_with fail
    go_ret
    exact ⟨rfl, below_step HB3.out hw⟩
  | true =>
    have hlen := (okS_inR hok).2
    have hleni : (ls.length : Int) ≤ 320 := by omega
    have HN := Aside0.mk (New_ok Al cl ls w1 HR.out.2.2 HR.out.2.1 hok)
    go_wp2_with fail
    refine HN.out.mono ?_
    clear HN
    rintro e w2 ⟨p, rfl, hT, hB⟩
    have HT := Aside0.mk hT
    have HC := Aside0.mk (Kd.C_below HR.out.2.2 hB)
    replace HB := Aside0.mk (below_step HB.out hB)
    clear hT hB
    have HK := Aside0.mk (Codes_calls Al cl ls w2 HC.out HR.out.2.1)
    rw [codesR_yes hok] at HK
    go_wp2_with fail
    refine HK.out.mono ?_
    clear HK
    rintro e w3 ⟨v, rfl, hR, hB⟩
    obtain ⟨Ak, ck, rfl⟩ := Kd.R_slice hR
    have HRK := Aside0.mk (Kd.R_reads' hR).2.2
    replace HT := Aside0.mk (HT.out.fr (Fr.of_below hB No) (fun _ _ _ e => e))
    replace HC := Aside0.mk (Kd.C_below HC.out hB)
    replace HB := Aside0.mk (below_step HB.out hB)
    have hkl : (codesL ls).length = ls.length := cf_length ls 15 0
    rw [hkl] at HRK ⊢
    clear hR hB HR hll
    by_cases h5 : sign.tmod 5 = 4
    · have hb5 : (sign.tmod 5 == 4) = true := beq_iff_eq.mpr h5
      have hn5 : (sign.tmod 5 != 4) = false := by rw [bne, hb5]; rfl
      clear h5
      go_wp2_with fail
      obtain ⟨x, hx⟩ : ∃ x, x = sign := ⟨_, rfl⟩
      rw [← hx]
      clear hx hb5 hn5
      obtain ⟨w4, hw4⟩ : ∃ w4, w4 = w3 := ⟨_, rfl⟩
      rw [← hw4] at HT HC HB HRK ⊢
      clear hw4
      obtain ⟨xs, hxs⟩ : ∃ xs : List Int, xs = [x, 0, (ls.length : Int) - 1] := ⟨_, rfl⟩
      have hxl : xs.length = 3 := by rw [hxs]; rfl
      obtain ⟨w5, hw5⟩ : ∃ w5, w5 = w4.alloc (.cells #[.int .i64 x, .int .i64 0, .int .i64 ((ls.length : Int) - 1)] 3) := ⟨_, rfl⟩
      obtain ⟨g5, hg5⟩ : ∃ g5, g5 = w4.heap.size := ⟨_, rfl⟩
      have HX := Aside0.mk (show Kd.C (Kd.int .i64) w5 (some ⟨g5, 0, none⟩) 3 xs by rw [hw5, hg5, hxs]; exact C_ints w4 [x, 0, (ls.length : Int) - 1] (0, 0) (by show 3 ≤ _; decide))
      replace HT := Aside0.mk (show IsT _ _ w5 p ls by rw [hw5]; exact HT.out.fr ((Fr.refl _ No).alloc _) (fun _ _ _ e => e))
      have h45 : Below w4.heap.size w4 w5 := by rw [hw5]; exact below_alloc (Below.refl _ _) _
      replace HC := Aside0.mk (Kd.C_below HC.out h45)
      replace HRK := Aside0.mk (Kd.C_below HRK.out h45)
      replace HB := Aside0.mk (below_step HB.out h45)
      rw [← hw5, ← hg5]
      clear hw5 hg5 hxs h45 HB5
      have HBW := Aside0.mk (Below.refl w5.heap.size w5)
      go_loopg [75] 3 (fun gk v75 w' => ∃ i : Nat, v75 = .int .i64 (i : Int) ∧ Aside0 (i + gk = 3) ∧ Aside0 (Below w5.heap.size w5 w'))
      case atStart => exact ⟨0, rfl, ⟨rfl⟩, HBW⟩
      case round =>
        clear HBW
        obtain ⟨i, rfl, HK, HBW⟩ := hrel
        obtain ⟨wo, rfl⟩ : ∃ wo : World, wo = wr := ⟨_, rfl⟩
        by_cases hi : i < 3
        · have hi1 : (i : Int) < 3 := by omega
          have hi0 : (0 : Int) ≤ (i : Int) := by omega
          have hx := C_at0 (Kd.C_below HX.out HBW.out) i hi
          have HTo := Aside0.mk (HT.out.fr (Fr.of_below HBW.out No) (fun _ _ _ e => e))
          generalize rd xs (i : Int) = y at *
          cases hh : hasB ls y with
          | true =>
            have hh' := of_decide_eq_true hh
            obtain ⟨k, rfl⟩ := Int.eq_ofNat_of_zero_le hh'.1
            obtain ⟨hk0, hk1, hk2⟩ := hh'
            rw [Int.toNat_natCast] at hk2
            have hkn : k < ls.length := by omega
            have HY := Aside0.mk (Code_yes _ _ p ls k hkn hk2 (okS_inR hok).1 hlen wo HTo.out)
            obtain ⟨ad0, ea0, hx0⟩ := Kd.at_int (Kd.C_below HC.out HBW.out) (k : Int) hk0 hk1
            obtain ⟨ad1, ea1, hx1⟩ := Kd.at_int (Kd.C_below HRK.out HBW.out) (k : Int) hk0 hk1
            rw [Int.toNat_natCast] at hx0 hx1
            rw [codesL_get ls (okS_inR hok).1 k hkn, if_pos hk2] at hx1
            rw [rd_getD] at hx0
            subst ea0 ea1
            generalize ((codeOf ls k : Nat) : Int) = cv at *
            generalize ls.getD k 0 = lv at *
            go_wp2_with fail
            refine HY.out.mono ?_
            rintro e w6 ⟨rfl, m, rfl⟩
            go_wp2_with fail
            clear hx hx0 hx1
            obtain ⟨g', rfl⟩ : ∃ g', gk = g' + 1 := ⟨gk - 1, by have := HK.out; omega⟩
            go_roundg g'
            case measure => omega
            case rel => exact ⟨i + 1, by go_num, ⟨by have := HK.out; omega⟩, ⟨pw_below_drewN HBW.out m⟩⟩
          | false =>
            have hh' := of_decide_eq_false hh
            have HN := Aside0.mk (Code_no _ _ p ls y hh (okS_inR hok).1 hlen wo HTo.out)
            by_cases y0 : 0 ≤ y
            · by_cases y1 : y < (ls.length : Int)
              · obtain ⟨k, rfl⟩ := Int.eq_ofNat_of_zero_le y0
                obtain ⟨ad0, ea0, hx0⟩ := Kd.at_int (Kd.C_below HC.out HBW.out) (k : Int) y0 y1
                rw [Int.toNat_natCast] at hx0 hh'
                rw [rd_getD] at hx0
                have hk2 : ¬ 0 < ls.getD k 0 := fun h => hh' ⟨y0, y1, h⟩
                subst ea0
                generalize ls.getD k 0 = lv at *
                go_wp2_with fail
                refine HN.out.mono ?_
                rintro e w6 ⟨rfl, m, rfl⟩
                go_wp2_with fail
                clear hx hx0
                obtain ⟨g', rfl⟩ : ∃ g', gk = g' + 1 := ⟨gk - 1, by have := HK.out; omega⟩
                go_roundg g'
                case measure => omega
                case rel => exact ⟨i + 1, by go_num, ⟨by have := HK.out; omega⟩, ⟨pw_below_drewN HBW.out m⟩⟩
              · go_wp2_with fail
                refine HN.out.mono ?_
                rintro e w6 ⟨rfl, m, rfl⟩
                go_wp2_with fail
                clear hx
                obtain ⟨g', rfl⟩ : ∃ g', gk = g' + 1 := ⟨gk - 1, by have := HK.out; omega⟩
                go_roundg g'
                case measure => omega
                case rel => exact ⟨i + 1, by go_num, ⟨by have := HK.out; omega⟩, ⟨pw_below_drewN HBW.out m⟩⟩
            · go_wp2_with fail
              refine HN.out.mono ?_
              rintro e w6 ⟨rfl, m, rfl⟩
              go_wp2_with fail
              clear hx
              obtain ⟨g', rfl⟩ : ∃ g', gk = g' + 1 := ⟨gk - 1, by have := HK.out; omega⟩
              go_roundg g'
              case measure => omega
              case rel => exact ⟨i + 1, by go_num, ⟨by have := HK.out; omega⟩, ⟨pw_below_drewN HBW.out m⟩⟩
        · obtain rfl : i = 3 := by have := HK.out; omega
          clear HK
          replace HB := Aside0.mk (below_step HB.out HBW.out)
          go_wp2_with fail
          refine (wakes3 _).mono ?_
          rintro e w11 ⟨rfl, hw⟩
          go_wp2_with fail
          go_ret
          exact ⟨rfl, below_step HB.out hw⟩
    · have hb5 : (sign.tmod 5 == 4) = false := beq_eq_false_iff_ne.mpr h5
      have hn5 : (sign.tmod 5 != 4) = true := by rw [bne, hb5]; rfl
      clear h5
      go_wp2_with fail
      have hw := within_nat sign (ls.length + 3) HB5.out.1 HB5.out.2 (by omega) (by omega) w3
      rw [show ((ls.length + 3 : Nat) : Int) = (ls.length : Int) + 3 from by omega] at hw
      refine hw.mono ?_
      clear hw
      rintro e w4 ⟨r, hr1, hr2, rfl, m4, hw4⟩
      have hr3 : (r : Int) ≤ 400 := by omega
      clear hr1 hr2
      replace HT := Aside0.mk (show IsT _ _ w4 p ls by rw [hw4]; exact HT.out.fr ((Fr.refl _ No).drewN m4) (fun _ _ _ e => e))
      replace HC := Aside0.mk (show Kd.C (Kd.int .i64) w4 Al ls.length ls by rw [hw4]; exact Kd.C_below HC.out (pw_below_drewN (Below.refl _ _) m4))
      replace HRK := Aside0.mk (show Kd.C (Kd.int .i64) w4 Ak ls.length (codesL ls) by rw [hw4]; exact Kd.C_below HRK.out (pw_below_drewN (Below.refl _ _) m4))
      replace HB := Aside0.mk (show Below w.heap.size w w4 by rw [hw4]; exact pw_below_drewN HB.out m4)
      clear hw4
      obtain ⟨x, hx⟩ : ∃ x, (r : Int) - 1 = x := ⟨_, rfl⟩
      go_wp2_with fail
      clear hx hb5 hn5
      obtain ⟨xs, hxs⟩ : ∃ xs : List Int, xs = [x, 0, (ls.length : Int) - 1] := ⟨_, rfl⟩
      have hxl : xs.length = 3 := by rw [hxs]; rfl
      obtain ⟨w5, hw5⟩ : ∃ w5, w5 = w4.alloc (.cells #[.int .i64 x, .int .i64 0, .int .i64 ((ls.length : Int) - 1)] 3) := ⟨_, rfl⟩
      obtain ⟨g5, hg5⟩ : ∃ g5, g5 = w4.heap.size := ⟨_, rfl⟩
      have HX := Aside0.mk (show Kd.C (Kd.int .i64) w5 (some ⟨g5, 0, none⟩) 3 xs by rw [hw5, hg5, hxs]; exact C_ints w4 [x, 0, (ls.length : Int) - 1] (0, 0) (by show 3 ≤ _; decide))
      replace HT := Aside0.mk (show IsT _ _ w5 p ls by rw [hw5]; exact HT.out.fr ((Fr.refl _ No).alloc _) (fun _ _ _ e => e))
      have h45 : Below w4.heap.size w4 w5 := by rw [hw5]; exact below_alloc (Below.refl _ _) _
      replace HC := Aside0.mk (Kd.C_below HC.out h45)
      replace HRK := Aside0.mk (Kd.C_below HRK.out h45)
      replace HB := Aside0.mk (below_step HB.out h45)
      rw [← hw5, ← hg5]
      clear hw5 hg5 hxs h45 HB5
      have HBW := Aside0.mk (Below.refl w5.heap.size w5)
      go_loopg [75] 3 (fun gk v75 w' => ∃ i : Nat, v75 = .int .i64 (i : Int) ∧ Aside0 (i + gk = 3) ∧ Aside0 (Below w5.heap.size w5 w'))
      case atStart => exact ⟨0, rfl, ⟨rfl⟩, HBW⟩
      case round =>
        clear HBW
        obtain ⟨i, rfl, HK, HBW⟩ := hrel
        obtain ⟨wo, rfl⟩ : ∃ wo : World, wo = wr := ⟨_, rfl⟩
        by_cases hi : i < 3
        · have hi1 : (i : Int) < 3 := by omega
          have hi0 : (0 : Int) ≤ (i : Int) := by omega
          have hx := C_at0 (Kd.C_below HX.out HBW.out) i hi
          have HTo := Aside0.mk (HT.out.fr (Fr.of_below HBW.out No) (fun _ _ _ e => e))
          generalize rd xs (i : Int) = y at *
          cases hh : hasB ls y with
          | true =>
            have hh' := of_decide_eq_true hh
            obtain ⟨k, rfl⟩ := Int.eq_ofNat_of_zero_le hh'.1
            obtain ⟨hk0, hk1, hk2⟩ := hh'
            rw [Int.toNat_natCast] at hk2
            have hkn : k < ls.length := by omega
            have HY := Aside0.mk (Code_yes _ _ p ls k hkn hk2 (okS_inR hok).1 hlen wo HTo.out)
            obtain ⟨ad0, ea0, hx0⟩ := Kd.at_int (Kd.C_below HC.out HBW.out) (k : Int) hk0 hk1
            obtain ⟨ad1, ea1, hx1⟩ := Kd.at_int (Kd.C_below HRK.out HBW.out) (k : Int) hk0 hk1
            rw [Int.toNat_natCast] at hx0 hx1
            rw [codesL_get ls (okS_inR hok).1 k hkn, if_pos hk2] at hx1
            rw [rd_getD] at hx0
            subst ea0 ea1
            generalize ((codeOf ls k : Nat) : Int) = cv at *
            generalize ls.getD k 0 = lv at *
            go_wp2_with fail
            refine HY.out.mono ?_
            rintro e w6 ⟨rfl, m, rfl⟩
            go_wp2_with fail
            clear hx hx0 hx1
            obtain ⟨g', rfl⟩ : ∃ g', gk = g' + 1 := ⟨gk - 1, by have := HK.out; omega⟩
            go_roundg g'
            case measure => omega
            case rel => exact ⟨i + 1, by go_num, ⟨by have := HK.out; omega⟩, ⟨pw_below_drewN HBW.out m⟩⟩
          | false =>
            have hh' := of_decide_eq_false hh
            have HN := Aside0.mk (Code_no _ _ p ls y hh (okS_inR hok).1 hlen wo HTo.out)
            by_cases y0 : 0 ≤ y
            · by_cases y1 : y < (ls.length : Int)
              · obtain ⟨k, rfl⟩ := Int.eq_ofNat_of_zero_le y0
                obtain ⟨ad0, ea0, hx0⟩ := Kd.at_int (Kd.C_below HC.out HBW.out) (k : Int) y0 y1
                rw [Int.toNat_natCast] at hx0 hh'
                rw [rd_getD] at hx0
                have hk2 : ¬ 0 < ls.getD k 0 := fun h => hh' ⟨y0, y1, h⟩
                subst ea0
                generalize ls.getD k 0 = lv at *
                go_wp2_with fail
                refine HN.out.mono ?_
                rintro e w6 ⟨rfl, m, rfl⟩
                go_wp2_with fail
                clear hx hx0
                obtain ⟨g', rfl⟩ : ∃ g', gk = g' + 1 := ⟨gk - 1, by have := HK.out; omega⟩
                go_roundg g'
                case measure => omega
                case rel => exact ⟨i + 1, by go_num, ⟨by have := HK.out; omega⟩, ⟨pw_below_drewN HBW.out m⟩⟩
              · go_wp2_with fail
                refine HN.out.mono ?_
                rintro e w6 ⟨rfl, m, rfl⟩
                go_wp2_with fail
                clear hx
                obtain ⟨g', rfl⟩ : ∃ g', gk = g' + 1 := ⟨gk - 1, by have := HK.out; omega⟩
                go_roundg g'
                case measure => omega
                case rel => exact ⟨i + 1, by go_num, ⟨by have := HK.out; omega⟩, ⟨pw_below_drewN HBW.out m⟩⟩
            · go_wp2_with fail
              refine HN.out.mono ?_
              rintro e w6 ⟨rfl, m, rfl⟩
              go_wp2_with fail
              clear hx
              obtain ⟨g', rfl⟩ : ∃ g', gk = g' + 1 := ⟨gk - 1, by have := HK.out; omega⟩
              go_roundg g'
              case measure => omega
              case rel => exact ⟨i + 1, by go_num, ⟨by have := HK.out; omega⟩, ⟨pw_below_drewN HBW.out m⟩⟩
        · obtain rfl : i = 3 := by have := HK.out; omega
          clear HK
          replace HB := Aside0.mk (below_step HB.out HBW.out)
          go_wp2_with fail
          refine (wakes3 _).mono ?_
          rintro e w11 ⟨rfl, hw⟩
          go_wp2_with fail
          go_ret
          exact ⟨rfl, below_step HB.out hw⟩
theorem HuffCodes_row (w : World) (A0 : Option Addr) (c0 : Nat) (l0 : List Int) (hr0 : Kd.C (Kd.int .i64) w A0 l0.length l0) (hc0 : l0.length ≤ c0) (hw0 : ∀ x ∈ l0, (Lit.int .i64 x).wf = true) (hb0 : l0.length * 8 ≤ 140737488351232)
    (A1 : Option Addr) (c1 : Nat) (l1 : List Int) (hr1 : Kd.C (Kd.int .i64) w A1 l1.length l1) (hc1 : l1.length ≤ c1) (hw1 : ∀ x ∈ l1, (Lit.int .i64 x).wf = true) (hb1 : l1.length * 8 ≤ 140737488351232)
    (a2 : Int) (w2 : (Lit.int .i64 a2).wf = true) (a3 : Int) (w3 : (Lit.int .i64 a3).wf = true) (a4 : Int) (w4 : (Lit.int .i64 a4).wf = true) (a5 : Int) (w5 : (Lit.int .i64 a5).wf = true) :
    Calls Try.prog 4 #[.slice A0 l0.length c0, .slice A1 l1.length c1, .int .i64 a2, .int .i64 a3, .int .i64 a4, .int .i64 a5] w fun e w' => e = .returned (.bool true) ∧ Below w.heap.size w w' :=
  HuffCodes_walk A0 A1 c0 c1 l0 l1 a2 a3 a4 a5 w hr0 hc0 hr1 hc1 (fun x hx => i64_wf (hw0 x hx)) (fun x hx => i64_wf (hw1 x hx)) (by omega) (i64_wf w2) (i64_wf w3) (i64_wf w4) (i64_wf w5)
end Go.Proofs.Ytihgekpijplfiaa.Hl
