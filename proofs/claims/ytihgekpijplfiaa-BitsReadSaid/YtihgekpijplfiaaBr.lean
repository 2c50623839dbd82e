/- BitsRead is true for any bytes and any counts. Conditions: the slices read as numbers. -/
import Derived.Test.YtihgekpijplfiaaGs
import Derived.Test.YtihgekpijplfiaaLn
import Derived.Test.YtihgekpijplfiaaBb
import Derived.Deep.RegionHeld3
namespace Go.Proofs.Ytihgekpijplfiaa.Br
set_option linter.unusedVariables false
open Go.RowKit Go.Proofs.YtihgekpijplfiaaW.PrintWords Go.Proofs.YtihgekpijplfiaaW.PrintLast Go.Proofs.YtihgekpijplfiaaW.PrintMore Go.Proofs.Ytihgekpijplfiaa.Wr Go.Proofs.Ytihgekpijplfiaa.Rd Go.Proofs.Ytihgekpijplfiaa.Fr Go.Proofs.Ytihgekpijplfiaa.Rf Go.Proofs.Ytihgekpijplfiaa.Xf Go.Proofs.Ytihgekpijplfiaa.Gs Go.Proofs.Ytihgekpijplfiaa.Ln
theorem tmod5 (x : Int) : -4 ≤ x.tmod 5 ∧ x.tmod 5 ≤ 4 := by
  have h1 := Int.tmod_lt_of_pos x (show (0 : Int) < 5 by decide)
  have h2 := Int.tmod_lt_of_pos (-x) (show (0 : Int) < 5 by decide)
  rw [Int.neg_tmod] at h2
  omega
set_option maxHeartbeats 16000000 in
set_option maxRecDepth 100000 in
theorem BitsRead_walk (A0 A1 : Option Addr) (c0 c1 : Nat) (bs cs : List Int) (w : World) (hr0 : Kd.C (Kd.int .u8) w A0 bs.length bs) (hc0 : bs.length ≤ c0) (hr1 : Kd.C (Kd.int .i64) w A1 cs.length cs) (hw1 : I64s cs) (hl : bs.length ≤ 140737488351232) :
    Calls Try.prog 7 #[.slice A0 bs.length c0, .slice A1 cs.length c1] w fun e w' => e = .returned (.bool true) ∧ Below w.heap.size w w' := by
  have hu48 := Try.underlying48
  have H0 := Aside0.mk hr0
  have H1 := Aside0.mk hr1
  have HW := Aside0.mk hw1
  have hl1 := hr1.2.1
  have HLEND := Aside0.mk (Lend_calls A0 c0 bs w hr0 hl)
  clear hr0 hr1 hw1 hc0
  go_enter Try.func7, Try.ntmps7
  go_wp2_with fail
  refine HLEND.out.mono ?_
  clear HLEND
  rintro e w1 ⟨rfl, hL, hB⟩
  obtain ⟨gl, hgl⟩ : ∃ gl, gl = w.heap.size := ⟨_, rfl⟩
  rw [← hgl] at hL ⊢
  have HL := Aside0.mk hL
  have HB := Aside0.mk hB
  have HGL := Aside0.mk (show gl < w1.heap.size from blk_lt hL)
  have HGL0 := Aside0.mk hgl
  clear hgl
  have HN := Aside0.mk (NewR_fr (some ⟨gl, 0, none⟩) (bs.length + 3) bs w1 (hL.C (by omega)) (fun e => by cases e) (by omega))
  clear hL hB
  go_wp2_with fail
  refine HN.out.mono ?_
  clear HN
  rintro e w2 ⟨gr, rfl, hI, hB, hsz⟩
  have HI := Aside0.mk hI
  replace HL := Aside0.mk (HL.out.fr (Fr.of_below hB No) (fun e => e))
  replace HB := Aside0.mk (below_step HB.out hB)
  have HGR := Aside0.mk (show w1.heap.size ≤ gr ∧ gr < w2.heap.size from ⟨hI.ge.1, by omega⟩)
  clear hI hB hsz
  have HCP := Aside0.mk (Copy_calls A0 c0 bs w2 (Kd.C_below H0.out HB.out) (by omega))
  go_wp2_with fail
  refine HCP.out.mono ?_
  clear HCP
  rintro e w3 ⟨v, rfl, hR, hB⟩
  obtain ⟨Ax, cx, ev⟩ := Kd.R_slice hR
  subst ev
  have HR := Aside0.mk hR
  replace HI := Aside0.mk (HI.out.below hB)
  replace HL := Aside0.mk (HL.out.fr (Fr.of_below hB No) (fun e => e))
  have HGR2 := Aside0.mk (show gr < w3.heap.size from Nat.lt_of_lt_of_le HGR.out.2 hB.size)
  replace HB := Aside0.mk (below_step HB.out hB)
  have HS3 := Aside0.mk hB.size
  clear hR hB
  go_wp2_with fail
  obtain ⟨w4, hw4⟩ : ∃ w4, w4 = w3.alloc (.cells #[.slice Ax bs.length cx, .int .i64 0, .bool false] 48) := ⟨_, rfl⟩
  obtain ⟨gx, hgx⟩ : ∃ gx, gx = w3.heap.size := ⟨_, rfl⟩
  have HX := Aside0.mk (show IsX w2.heap.size w4 gx bs 0 false by
    rw [hw4, hgx]
    exact ⟨Ax, cx, heap_alloc_new w3 _, HS3.out, fun k hk => Kd.R_lt HR.out k hk, Kd.R_alloc HR.out _⟩)
  replace HI := Aside0.mk (show IsR w1.heap.size w4 gr bs 0 false by rw [hw4]; exact HI.out.below (below_alloc (Below.refl _ _) _))
  replace HL := Aside0.mk (show Lent w4 gl bs by rw [hw4]; exact HL.out.fr ((Fr.refl _ _).alloc _) (fun (e : No gl) => e))
  replace HB := Aside0.mk (show Below w.heap.size w w4 by rw [hw4]; exact below_alloc HB.out _)
  have HLO := Aside0.mk (show gl < w1.heap.size ∧ w1.heap.size ≤ gr ∧ gr < w2.heap.size ∧ w2.heap.size ≤ gx ∧ w.heap.size ≤ w1.heap.size from ⟨HGL.out, HGR.out.1, HGR.out.2, by rw [hgx]; exact HS3.out, by have := HGL.out; have := HGL0.out; omega⟩)
  rw [← hw4, ← hgx]
  clear hw4 hgx HR HS3 HGR2 HGR HGL HGL0
  have HF := Aside0.mk (Fr.refl w4 (fun k => k = gr ∨ k = gx))
  have HXR := Aside0.mk (fun (j : Nat) (hj : j < cs.length) (W : World) (hF : Fr w4 W (fun k => k = gr ∨ k = gx)) => Kd.at_int (Kd.C_below H1.out (Fr.below HB.out hF (fun k hk => by have := HLO.out; rcases hk with rfl | rfl <;> omega) HB.out.size)) (j : Int) (by omega) (by omega))
  have hz1 : 0 ≤ 8 * bs.length := by omega
  go_loopg [8] cs.length (fun gk v8 w' => ∃ (i n : Nat) (bad : Bool), v8 = .int .i64 (i : Int) ∧ Aside0 (i + gk = cs.length ∧ n ≤ 8 * bs.length) ∧ Aside0 (IsR w1.heap.size w' gr bs n bad) ∧ Aside0 (IsX w2.heap.size w' gx bs n bad) ∧ Aside0 (Fr w4 w' (fun k => k = gr ∨ k = gx)))
  case atStart => exact ⟨0, 0, false, rfl, ⟨by omega, by omega⟩, HI, HX, HF⟩
  case round =>
    clear HI HX HF
    obtain ⟨i, n, bad, rfl, HK, HI, HX, HF⟩ := hrel
    obtain ⟨wo, rfl⟩ : ∃ wo : World, wo = wr := ⟨_, rfl⟩
    by_cases hi : i < cs.length ∧ i < 30
    · obtain ⟨hi1, hi2⟩ := hi
      have hi3 : (i : Int) < (cs.length : Int) := by omega
      have hi4 : (i : Int) < 30 := by omega
      have d1 : decide ((i : Int) < (cs.length : Int)) = true := decide_eq_true (by omega)
      have d2 : decide (i < cs.length) = true := decide_eq_true (by omega)
      obtain ⟨ad1, ea1, hx1⟩ := HXR.out i hi1 wo HF.out
      rw [Int.toNat_natCast] at hx1
      have r1 := I64s_rd HW.out i hi1
      generalize hxv : rd cs (i : Int) = x1 at hx1 r1
      have HXV := Aside0.mk hxv
      clear hi1 hi2 hxv
      have HXA := Aside0.mk (fun (W : World) (hF : Fr w4 W (fun k => k = gr ∨ k = gx)) => (show W.cell? (ad1.add i) = some (.int .i64 x1) by
        obtain ⟨ad', ea', hx'⟩ := HXR.out i (by omega) W hF
        rw [ea1] at ea'
        injection ea' with ea'
        subst ea'
        rwa [Int.toNat_natCast, HXV.out] at hx'))
      subst ea1
      go_wp2_with fail
      have hw := within_nat x1 24 r1.1 r1.2 (by omega) (by omega) wo
      rw [show ((24 : Nat) : Int) = 24 from rfl] at hw
      refine hw.mono ?_
      clear hw
      rintro e w5 ⟨k, hk1, hk2, rfl, m5, rfl⟩
      clear hk1 hx1
      replace HI := Aside0.mk (HI.out.drewN m5)
      replace HX := Aside0.mk (show IsX w2.heap.size (wo.drewN m5) gx bs n bad from HX.out)
      replace HF := Aside0.mk (HF.out.drewN m5)
      have HK2 := Aside0.mk hk2
      clear hk2
      obtain ⟨w5, hw5⟩ : ∃ w5, w5 = wo.drewN m5 := ⟨_, rfl⟩
      rw [← hw5] at HI HX HF ⊢
      clear hw5
      by_cases q1 : (k : Int) < 17
      · clear HXA
        have HGR := Aside0.mk (Gs.Get_R w1.heap.size gr bs n bad (k : Int) (HK.out.2) (by omega) _ HI.out)
        have HGX := Aside0.mk (fun (W : World) (hI : IsX w2.heap.size W gx bs n bad) => Gs.Get_X w2.heap.size gx bs n bad (k : Int) HK.out.2 (by omega) W hI)
        have hsl := getS_le bs n bad (k : Int) HK.out.2
        obtain ⟨s, hs⟩ : ∃ s, s = getS bs n bad (k : Int) := ⟨_, rfl⟩
        rw [← hs] at HGR HGX hsl
        clear hs
        obtain ⟨v, n', bad'⟩ := s
        have HSL := Aside0.mk (show n' ≤ 8 * bs.length from hsl)
        clear hsl
        go_wp2_with fail
        refine HGR.out.mono ?_
        clear HGR
        rintro e w6 ⟨rfl, h1, h2⟩
        have HI6 := Aside0.mk (show IsR w1.heap.size w6 gr bs n' bad' from h1)
        have HX6 := Aside0.mk (HX.out.fr h2 (fun j hj => by have := HLO.out; omega))
        have HF6 := Aside0.mk (HF.out.then_ (h2.mono (fun j hj => Or.inl hj)))
        clear h1 h2
        go_wp2_with fail
        refine (HGX.out _ HX6.out).mono ?_
        clear HGX
        rintro e w7 ⟨rfl, h1, h2⟩
        have HX7 := Aside0.mk (show IsX w2.heap.size w7 gx bs n' bad' from h1)
        have HI7 := Aside0.mk (HI6.out.fr h2 (fun j hj => by have := HLO.out; omega))
        have HF7 := Aside0.mk (HF6.out.then_ (h2.mono (fun j hj => Or.inr hj)))
        clear h1 h2 HX6 HI6 HF6
        obtain ⟨Ar, cr, a0, a1, a2, a3, a4, a5⟩ := HX7.out.cells
        clear a0 a1 a3 a4 a5
        have HL7 := Aside0.mk (fun (W : World) (hI : IsR w1.heap.size W gr bs n' bad') => Rf.Left_fr w1.heap.size gr bs n' bad' HSL.out (by omega) W hI)
        have HM7 := Aside0.mk (fun (W : World) (hI : IsX w2.heap.size W gx bs n' bad') => Xf.Left_fr w2.heap.size gx bs n' bad' HSL.out (by omega) W hI)
        have hbb : (bad' != bad') = false := by simp
        go_wp2_with fail
        go_region_held3 (fun w' => w'.cell? ⟨gx, 2, none⟩ = some (.bool bad')) (go_keep) (first | (go_at_call 25; refine (HL7.out _ (by exact HI7.out)).mono ?_; rintro e w' ⟨rfl, m8, rfl⟩) | (go_at_call 35; refine (HM7.out _ (by exact HX7.out)).mono ?_; rintro e w' ⟨rfl, m9, rfl⟩) | (go_at_call 26; refine (Rf.Bad_fr w1.heap.size gr bs n' bad' _ (by exact HI7.out)).mono ?_; rintro e _ ⟨rfl, rfl⟩))
        all_goals
          go_wp2_with fail
          obtain ⟨g', rfl⟩ : ∃ g', gk = g' + 1 := ⟨gk - 1, by have := HK.out; omega⟩
          go_roundg g'
          case measure => omega
          case rel => exact ⟨i + 1, n', bad', by go_num, ⟨by have := HK.out; omega, HSL.out⟩, ⟨HI7.out⟩, ⟨HX7.out⟩, ⟨HF7.out.drewN _⟩⟩
      · by_cases q2 : (k : Int) < 20
        · clear HXA
          have HGR := Aside0.mk (Gs.Bit_R w1.heap.size gr bs n bad (HK.out.2) (by omega) _ HI.out)
          have HGX := Aside0.mk (fun (W : World) (hI : IsX w2.heap.size W gx bs n bad) => Gs.Get_X w2.heap.size gx bs n bad 1 HK.out.2 (by omega) W hI)
          have hsl := getS_le bs n bad 1 HK.out.2
          obtain ⟨s, hs⟩ : ∃ s, s = getS bs n bad 1 := ⟨_, rfl⟩
          rw [← hs] at HGR HGX hsl
          clear hs
          obtain ⟨v, n', bad'⟩ := s
          have HSL := Aside0.mk (show n' ≤ 8 * bs.length from hsl)
          clear hsl
          go_wp2_with fail
          refine HGR.out.mono ?_
          clear HGR
          rintro e w6 ⟨rfl, h1, h2⟩
          have HI6 := Aside0.mk (show IsR w1.heap.size w6 gr bs n' bad' from h1)
          have HX6 := Aside0.mk (HX.out.fr h2 (fun j hj => by have := HLO.out; omega))
          have HF6 := Aside0.mk (HF.out.then_ (h2.mono (fun j hj => Or.inl hj)))
          clear h1 h2
          go_wp2_with fail
          refine (HGX.out _ HX6.out).mono ?_
          clear HGX
          rintro e w7 ⟨rfl, h1, h2⟩
          have HX7 := Aside0.mk (show IsX w2.heap.size w7 gx bs n' bad' from h1)
          have HI7 := Aside0.mk (HI6.out.fr h2 (fun j hj => by have := HLO.out; omega))
          have HF7 := Aside0.mk (HF6.out.then_ (h2.mono (fun j hj => Or.inr hj)))
          clear h1 h2 HX6 HI6 HF6
          obtain ⟨Ar, cr, a0, a1, a2, a3, a4, a5⟩ := HX7.out.cells
          clear a0 a1 a3 a4 a5
          have HL7 := Aside0.mk (fun (W : World) (hI : IsR w1.heap.size W gr bs n' bad') => Rf.Left_fr w1.heap.size gr bs n' bad' HSL.out (by omega) W hI)
          have HM7 := Aside0.mk (fun (W : World) (hI : IsX w2.heap.size W gx bs n' bad') => Xf.Left_fr w2.heap.size gx bs n' bad' HSL.out (by omega) W hI)
          have hbb : (bad' != bad') = false := by simp
          go_wp2_with fail
          go_region_held3 (fun w' => w'.cell? ⟨gx, 2, none⟩ = some (.bool bad')) (go_keep) (first | (go_at_call 25; refine (HL7.out _ (by exact HI7.out)).mono ?_; rintro e w' ⟨rfl, m8, rfl⟩) | (go_at_call 35; refine (HM7.out _ (by exact HX7.out)).mono ?_; rintro e w' ⟨rfl, m9, rfl⟩) | (go_at_call 26; refine (Rf.Bad_fr w1.heap.size gr bs n' bad' _ (by exact HI7.out)).mono ?_; rintro e _ ⟨rfl, rfl⟩))
          all_goals
            go_wp2_with fail
            obtain ⟨g', rfl⟩ : ∃ g', gk = g' + 1 := ⟨gk - 1, by have := HK.out; omega⟩
            go_roundg g'
            case measure => omega
            case rel => exact ⟨i + 1, n', bad', by go_num, ⟨by have := HK.out; omega, HSL.out⟩, ⟨HI7.out⟩, ⟨HX7.out⟩, ⟨HF7.out.drewN _⟩⟩
        · by_cases q3 : (k : Int) < 22
          · clear HXA
            obtain ⟨Ar, cr, a0, a1, a2, a3, a4, a5⟩ := HX.out.cells
            clear a0 a1 a3 a4 a5
            have hbb : bad = true ∨ bad = false := by cases bad <;> simp
            rcases hbb with rfl | rfl
            · go_wp2_with fail
              obtain ⟨g', rfl⟩ : ∃ g', gk = g' + 1 := ⟨gk - 1, by have := HK.out; omega⟩
              go_roundg g'
              case measure => omega
              case rel => exact ⟨i + 1, n, true, by go_num, ⟨by have := HK.out; omega, HK.out.2⟩, HI, HX, HF⟩
            · have HGR := Aside0.mk (Rf.Align_fr w1.heap.size gr bs n HK.out.2 (by omega) _ HI.out)
              have HGX := Aside0.mk (fun (W : World) (hI : IsX w2.heap.size W gx bs n false) => Xf.Align_fr w2.heap.size gx bs n HK.out.2 (by omega) W hI)
              obtain ⟨n', hn'⟩ : ∃ n', n' = (n + 7) / 8 * 8 := ⟨_, rfl⟩
              rw [← hn'] at HGR HGX
              have HSL := Aside0.mk (show n' ≤ 8 * bs.length by have := HK.out.2; omega)
              obtain ⟨bad', hbad⟩ : ∃ b, b = false := ⟨_, rfl⟩
              clear hn'
              go_wp2_with fail
              refine HGR.out.mono ?_
              clear HGR
              rintro e w6 ⟨rfl, h1, h2⟩
              have HI6 := Aside0.mk (show IsR w1.heap.size w6 gr bs n' bad' by rw [hbad]; exact h1)
              have HX6 := Aside0.mk (HX.out.fr h2 (fun j hj => by have := HLO.out; omega))
              have HF6 := Aside0.mk (HF.out.then_ (h2.mono (fun j hj => Or.inl hj)))
              clear h1 h2 a2
              go_wp2_with fail
              refine (HGX.out _ HX6.out).mono ?_
              clear HGX
              rintro e w7 ⟨rfl, h1, h2⟩
              have HX7 := Aside0.mk (show IsX w2.heap.size w7 gx bs n' bad' by rw [hbad]; exact h1)
              have HI7 := Aside0.mk (HI6.out.fr h2 (fun j hj => by have := HLO.out; omega))
              have HF7 := Aside0.mk (HF6.out.then_ (h2.mono (fun j hj => Or.inr hj)))
              clear h1 h2 HX6 HI6 HF6 hbad
              obtain ⟨Ar, cr, a0, a1, a2, a3, a4, a5⟩ := HX7.out.cells
              clear a0 a1 a3 a4 a5
              have HL7 := Aside0.mk (fun (W : World) (hI : IsR w1.heap.size W gr bs n' bad') => Rf.Left_fr w1.heap.size gr bs n' bad' HSL.out (by omega) W hI)
              have HM7 := Aside0.mk (fun (W : World) (hI : IsX w2.heap.size W gx bs n' bad') => Xf.Left_fr w2.heap.size gx bs n' bad' HSL.out (by omega) W hI)
              have hbb : (bad' != bad') = false := by simp
              go_wp2_with fail
              go_region_held3 (fun w' => w'.cell? ⟨gx, 2, none⟩ = some (.bool bad')) (go_keep) (first | (go_at_call 25; refine (HL7.out _ (by exact HI7.out)).mono ?_; rintro e w' ⟨rfl, m8, rfl⟩) | (go_at_call 35; refine (HM7.out _ (by exact HX7.out)).mono ?_; rintro e w' ⟨rfl, m9, rfl⟩) | (go_at_call 26; refine (Rf.Bad_fr w1.heap.size gr bs n' bad' _ (by exact HI7.out)).mono ?_; rintro e _ ⟨rfl, rfl⟩))
              all_goals
                go_wp2_with fail
                obtain ⟨g', rfl⟩ : ∃ g', gk = g' + 1 := ⟨gk - 1, by have := HK.out; omega⟩
                go_roundg g'
                case measure => omega
                case rel => exact ⟨i + 1, n', bad', by go_num, ⟨by have := HK.out; omega, HSL.out⟩, ⟨HI7.out⟩, ⟨HX7.out⟩, ⟨HF7.out.drewN _⟩⟩
          · have hx1 := HXA.out w5 HF.out
            obtain ⟨y, hy⟩ : ∃ y, x1.tmod 5 = y := ⟨_, rfl⟩
            have hy5 := tmod5 x1
            rw [hy] at hy5
            obtain ⟨hy6, hy7⟩ := hy5
            by_cases h3 : x1.tmod 3 = 0
            · obtain ⟨z, hz⟩ : ∃ z, 17 + y = z := ⟨_, rfl⟩
              have hzz : IntKind.i64.wrap (17 + y) = z := by rw [IntKind.wrap_i64]; omega
              have HGR := Aside0.mk (Gs.Get_R w1.heap.size gr bs n bad z (HK.out.2) (by omega) _ HI.out)
              have HGX := Aside0.mk (fun (W : World) (hI : IsX w2.heap.size W gx bs n bad) => Gs.Get_X w2.heap.size gx bs n bad z HK.out.2 (by omega) W hI)
              have hsl := getS_le bs n bad z HK.out.2
              obtain ⟨s, hs⟩ : ∃ s, s = getS bs n bad z := ⟨_, rfl⟩
              rw [← hs] at HGR HGX hsl
              clear hs
              obtain ⟨v, n', bad'⟩ := s
              have HSL := Aside0.mk (show n' ≤ 8 * bs.length from hsl)
              clear hsl
              go_wp2_with fail
              refine HGR.out.mono ?_
              clear HGR
              rintro e w6 ⟨rfl, h1, h2⟩
              have HI6 := Aside0.mk (show IsR w1.heap.size w6 gr bs n' bad' from h1)
              have HX6 := Aside0.mk (HX.out.fr h2 (fun j hj => by have := HLO.out; omega))
              have HF6 := Aside0.mk (HF.out.then_ (h2.mono (fun j hj => Or.inl hj)))
              clear h1 h2
              go_wp2_with fail
              refine (HGX.out _ HX6.out).mono ?_
              clear HGX
              rintro e w7 ⟨rfl, h1, h2⟩
              have HX7 := Aside0.mk (show IsX w2.heap.size w7 gx bs n' bad' from h1)
              have HI7 := Aside0.mk (HI6.out.fr h2 (fun j hj => by have := HLO.out; omega))
              have HF7 := Aside0.mk (HF6.out.then_ (h2.mono (fun j hj => Or.inr hj)))
              clear h1 h2 HX6 HI6 HF6
              obtain ⟨Ar, cr, a0, a1, a2, a3, a4, a5⟩ := HX7.out.cells
              clear a0 a1 a3 a4 a5
              have HL7 := Aside0.mk (fun (W : World) (hI : IsR w1.heap.size W gr bs n' bad') => Rf.Left_fr w1.heap.size gr bs n' bad' HSL.out (by omega) W hI)
              have HM7 := Aside0.mk (fun (W : World) (hI : IsX w2.heap.size W gx bs n' bad') => Xf.Left_fr w2.heap.size gx bs n' bad' HSL.out (by omega) W hI)
              have hbb : (bad' != bad') = false := by simp
              go_wp2_with fail
              go_region_held3 (fun w' => w'.cell? ⟨gx, 2, none⟩ = some (.bool bad')) (go_keep) (first | (go_at_call 25; refine (HL7.out _ (by exact HI7.out)).mono ?_; rintro e w' ⟨rfl, m8, rfl⟩) | (go_at_call 35; refine (HM7.out _ (by exact HX7.out)).mono ?_; rintro e w' ⟨rfl, m9, rfl⟩) | (go_at_call 26; refine (Rf.Bad_fr w1.heap.size gr bs n' bad' _ (by exact HI7.out)).mono ?_; rintro e _ ⟨rfl, rfl⟩))
              all_goals
                go_wp2_with fail
                obtain ⟨g', rfl⟩ : ∃ g', gk = g' + 1 := ⟨gk - 1, by have := HK.out; omega⟩
                go_roundg g'
                case measure => omega
                case rel => exact ⟨i + 1, n', bad', by go_num, ⟨by have := HK.out; omega, HSL.out⟩, ⟨HI7.out⟩, ⟨HX7.out⟩, ⟨HF7.out.drewN _⟩⟩
            · have h4 : (x1.tmod 3 != 0) = true := by simp [h3]
              go_wp2_with fail
              obtain ⟨g', rfl⟩ : ∃ g', gk = g' + 1 := ⟨gk - 1, by have := HK.out; omega⟩
              go_roundg g'
              case measure => omega
              case rel => exact ⟨i + 1, n, bad, by go_num, ⟨by have := HK.out; omega, HK.out.2⟩, HI, HX, HF⟩
    · have hEND : (i : Int) < (cs.length : Int) ∧ ¬ (i : Int) < 30 ∨ ¬ (i : Int) < (cs.length : Int) := by omega
      have HINT := Aside0.mk (fun (m : Nat) => Intact_calls gl A0 c0 bs wo (HL.out.fr HF.out (fun h => by have := HLO.out; omega)) (Kd.C_below H0.out (Fr.below HB.out HF.out (fun k hk => by have := HLO.out; rcases hk with rfl | rfl <;> omega) HB.out.size)) (by omega))
      rcases hEND with ⟨d1, d2⟩ | d1
      · go_wp2_with fail
        refine (HINT.out 0).mono ?_
        rintro e w6 ⟨rfl, m6, rfl⟩
        go_wp2_with fail
        refine (wakes_calls _).mono ?_
        rintro e w7 ⟨rfl, hw⟩
        go_wp2_with fail
        go_ret
        exact ⟨rfl, below_step (Fr.below HB.out (HF.out.drewN m6) (fun k hk => by have := HLO.out; rcases hk with rfl | rfl <;> omega) HB.out.size) hw⟩
      · go_wp2_with fail
        refine (HINT.out 0).mono ?_
        rintro e w6 ⟨rfl, m6, rfl⟩
        go_wp2_with fail
        refine (wakes_calls _).mono ?_
        rintro e w7 ⟨rfl, hw⟩
        go_wp2_with fail
        go_ret
        exact ⟨rfl, below_step (Fr.below HB.out (HF.out.drewN m6) (fun k hk => by have := HLO.out; rcases hk with rfl | rfl <;> omega) HB.out.size) hw⟩
theorem BitsRead_row (w : World) (A0 : Option Addr) (c0 : Nat) (l0 : List Int) (hr0 : Kd.C (Kd.int .u8) w A0 l0.length l0) (hc0 : l0.length ≤ c0) (hw0 : ∀ x ∈ l0, (Lit.int .u8 x).wf = true) (hb0 : l0.length * 1 ≤ 140737488351232)
    (A1 : Option Addr) (c1 : Nat) (l1 : List Int) (hr1 : Kd.C (Kd.int .i64) w A1 l1.length l1) (hc1 : l1.length ≤ c1) (hw1 : ∀ x ∈ l1, (Lit.int .i64 x).wf = true) (hb1 : l1.length * 8 ≤ 140737488351232) :
    Calls Try.prog 7 #[.slice A0 l0.length c0, .slice A1 l1.length c1] w fun e w' => e = .returned (.bool true) ∧ Below w.heap.size w w' :=
  BitsRead_walk A0 A1 c0 c1 l0 l1 w hr0 hc0 hr1 (i64s_wf hw1) (by omega)
end Go.Proofs.Ytihgekpijplfiaa.Br
