/- BitsEnds is true for any bytes and any number. Conditions: the slice reads as numbers. -/
import Derived.Test.YtihgekpijplfiaaRg
import Derived.Test.YtihgekpijplfiaaCp
import Derived.Deep.RegionHeld3
namespace Go.Proofs.Ytihgekpijplfiaa.Rf
set_option linter.unusedVariables false
open Go.RowKit Go.Proofs.YtihgekpijplfiaaW.PrintWords Go.Proofs.YtihgekpijplfiaaW.PrintLast Go.Proofs.YtihgekpijplfiaaW.PrintMore Go.Proofs.Ytihgekpijplfiaa.PBitsRead Go.Proofs.Ytihgekpijplfiaa.Pack Go.Proofs.Ytihgekpijplfiaa.Wr Go.Proofs.Ytihgekpijplfiaa.Rd Go.Proofs.Ytihgekpijplfiaa.Fr
theorem within_ok (a m : Int) (h0 : -9223372036854775808 ≤ a) (h1 : a ≤ 9223372036854775807) (hm0 : 1 ≤ m) (hm1 : m ≤ 9223372036854775807) : florilegiumkeep_Within.f a m = some (a % m) := by
  simp only [florilegiumkeep_Within.f]
  rw [if_neg (by omega), if_neg (by omega)]
  have hp := Int.emod_nonneg a (show m ≠ 0 by omega)
  have hq := Int.emod_lt_of_pos a (show 0 < m by omega)
  by_cases h : 0 ≤ a
  · rw [Int.tmod_eq_emod_of_nonneg h, if_neg (by omega)]
  · by_cases hd : m ∣ a
    · have e1 : Int.tmod a m = a % m := by rw [Int.tmod_eq_emod, if_pos (Or.inr hd)]; omega
      rw [e1, if_neg (by omega)]
    · have e1 : Int.tmod a m = a % m - m := by
        rw [Int.tmod_eq_emod, if_neg (by intro h9; rcases h9 with h9 | h9; exact h h9; exact hd h9)]
        omega
      have e2 : wrap64 (a % m - m + m) = a % m := by unfold wrap64; omega
      rw [e1, if_pos (by omega), e2]
/-- Within, as a natural number. -/
theorem within_nat (a : Int) (m : Nat) (h0 : -9223372036854775808 ≤ a) (h1 : a ≤ 9223372036854775807) (hm0 : 1 ≤ m) (hm1 : m ≤ 1000000000000) (w : World) :
    Calls Try.prog 19 #[.int .i64 a, .int .i64 (m : Int)] w fun e w' => ∃ r : Nat, (r : Int) = a % (m : Int) ∧ r < m ∧ e = .returned (.int .i64 (r : Int)) ∧ ∃ k, w' = w.drewN k := by
  have hp := Int.emod_nonneg a (show (m : Int) ≠ 0 by omega)
  have hq := Int.emod_lt_of_pos a (show 0 < (m : Int) by omega)
  refine (florilegiumkeep_Within.calls a m (a % m) w (within_ok a m h0 h1 (by omega) (by omega))).mono ?_
  rintro e w' ⟨rfl, k, rfl⟩
  obtain ⟨r, hr⟩ := Int.eq_ofNat_of_zero_le hp
  exact ⟨r, hr.symm, by omega, by rw [hr], k, rfl⟩
set_option maxHeartbeats 8000000 in
set_option maxRecDepth 100000 in
theorem BitsEnds_walk (A : Option Addr) (c : Nat) (bs : List Int) (a : Int) (w : World) (hC : Kd.C (Kd.int .u8) w A bs.length bs) (hc : bs.length ≤ c) (hl : bs.length ≤ 140737488351232) (a0 : -9223372036854775808 ≤ a) (a1 : a ≤ 9223372036854775807) :
    Calls Try.prog 5 #[.slice A bs.length c, .int .i64 a] w fun e w' => e = .returned (.bool true) ∧ Below w.heap.size w w' := by
  have HS := Aside0.mk (Cut_calls A c 6 bs w hC hc (by omega) (by decide))
  clear hC hc hl
  go_enter Try.func5, Try.ntmps5
  go_wp2_with fail
  refine HS.out.mono ?_
  clear HS
  rintro e w1 ⟨v, rfl, hR, hB⟩
  have hlen : (bs.take (min bs.length 6)).length ≤ 6 := by rw [List.length_take]; omega
  generalize bs.take (min bs.length 6) = b at *
  obtain ⟨Ab, cb, ev⟩ := Kd.R_slice hR
  subst ev
  have HO := Aside0.mk hR
  have HB := Aside0.mk hB
  have HN := Aside0.mk (NewR_fr Ab cb b w1 (Kd.R_reads' hR).2.2 (fun e => by subst e; exact R_none hR) (by omega))
  have hb6 : (b.length : Int) ≤ 6 := by omega
  clear hR hB
  go_wp2_with fail
  refine HN.out.mono ?_
  clear HN
  rintro e w2 ⟨g, rfl, hI, hB, hsz⟩
  have HI := Aside0.mk hI
  have HLT := Aside0.mk (show ∀ k, (Value.slice Ab b.length cb).ownBlock = some k → k < g from fun k hk => Nat.lt_of_lt_of_le (Kd.R_lt HO.out k hk) hI.ge.1)
  replace HO := Aside0.mk (Kd.R_below HO.out hB)
  have HG := Aside0.mk (show w.heap.size ≤ g from Nat.le_trans HB.out.size hI.ge.1)
  replace HB := Aside0.mk (below_step HB.out hB)
  clear hI hB hsz
  go_wp2_with fail
  refine (Left_fr _ g b 0 false (by omega) (by omega) _ HI.out).mono ?_
  rintro e w3 ⟨rfl, m3, rfl⟩
  rw [show (8 * (b.length : Int) - ((0 : Nat) : Int)) = 8 * (b.length : Int) from by omega]
  go_wp2_with fail
  refine (Bad_fr _ g b 0 false _ (HI.out.drewN m3)).mono ?_
  rintro e _ ⟨rfl, rfl⟩
  go_wp2_with fail
  have hw := within_nat a (8 * b.length + 1) a0 a1 (by omega) (by omega) (w2.drewN m3)
  rw [show ((8 * b.length + 1 : Nat) : Int) = 8 * (b.length : Int) + 1 from by omega] at hw
  refine hw.mono ?_
  clear hw
  rintro e w4 ⟨n, hn1, hn2, rfl, m4, rfl⟩
  clear hn1
  have hn48 : (n : Int) ≤ 48 := by omega
  have HN := Aside0.mk hn2
  clear hn2
  go_wp2_with fail
  have HF := Aside0.mk ((Fr.refl w2 (fun i => i = g)).drewN (m3 + m4))
  have HI4 := Aside0.mk (HI.out.drewN (m3 + m4))
  go_loopg [6] n (fun gk v6 w' => ∃ i : Nat, v6 = .int .i64 (i : Int) ∧ Aside0 (i + gk = n) ∧ Aside0 (IsR w1.heap.size w' g b i false) ∧ Aside0 (Fr w2 w' (fun j => j = g)))
  case atStart => exact ⟨0, rfl, ⟨by omega⟩, HI4, HF⟩
  case round =>
    clear HI4 HF
    obtain ⟨i, rfl, HK, HI4, HF⟩ := hrel
    obtain ⟨wo, rfl⟩ : ∃ wo : World, wo = wr := ⟨_, rfl⟩
    by_cases hi : i < n
    · have hi1 : (i : Int) < (n : Int) := by omega
      obtain ⟨q, hq⟩ : ∃ q : Nat, q = i / 8 := ⟨_, rfl⟩
      obtain ⟨r, hr8⟩ : ∃ r : Nat, r = i % 8 := ⟨_, rfl⟩
      have q1 : (q : Int) < (b.length : Int) := by have := HN.out; omega
      have q0 : (0 : Int) ≤ (q : Int) := by omega
      obtain ⟨ad, ea, hx⟩ := Kd.at_int (Kd.R_reads' (R_fr HO.out rfl HF.out (fun k hk e => absurd (HLT.out k hk) (by omega)))).2.2 (q : Int) q0 q1
      rw [Int.toNat_natCast] at hx
      subst ea
      have z2 : IntKind.i64.wrap ((i : Int).tdiv 8) = (q : Int) := by rw [hq, Int.tdiv_eq_ediv_of_nonneg (by omega), IntKind.wrap_i64]; omega
      have z3 : (i : Int).tmod 8 = (r : Int) := by rw [hr8, Int.tmod_eq_emod_of_nonneg (by omega)]; omega
      have z5 : IntKind.i64.wrap ((i : Int) / 8) = (q : Int) := by rw [hq, IntKind.wrap_i64]; omega
      have z6 : (i : Int) % 8 = (r : Int) := by rw [hr8]; omega
      have z4 : 0 ≤ (r : Int) := by omega
      have z7 : (r : Int) ≤ 7 := by omega
      have z8 : IntKind.u64.wrap (r : Int) = (r : Int) := by rw [IntKind.wrap_u64]; omega
      have HQ := Aside0.mk (And.intro hq hr8)
      generalize hold : rd b (q : Int) = old at hx
      have e1 : (bitAt b i != IntKind.i64.wrap (bits BinOp.and IntKind.u8 (old / 2 ^ r) 1)) = false := by
        have h := rd_bit b i
        rw [← hq, ← hr8, hold] at h
        rw [and_u8, h]
        exact Kit.bne_f ((i64_w _).trans (wrap_bit _ (bit01 b i))).symm
      have hadg : ¬ (ad.add q).block = g := R_add_ne HO.out (fun k hk => Nat.ne_of_lt (HLT.out k hk))
      have HBIT := Aside0.mk (fun (w' : World) (hI : IsR w1.heap.size w' g b i false) => Bit_fr w1.heap.size g b i (by have := HN.out; omega) (by omega) w' hI)
      clear hq hr8 hold
      go_wp2_with fail
      go_region_held3 (fun w' => w'.cell? (ad.add q) = some (.int .u8 old)) (go_keep) ((go_at_call 27; refine (HBIT.out _ HI4.out.drew).mono ?_; rintro e w' ⟨rfl, hI, hF⟩; have hx' := hF.cell hx hadg))
      clear z2 z3 z4 z5 z6 z8 hx
      go_wp2_with fail
      obtain ⟨g', rfl⟩ : ∃ g', gk = g' + 1 := ⟨gk - 1, by have := HK.out; omega⟩
      go_roundg g'
      case measure => omega
      case rel => exact ⟨i + 1, by go_num, ⟨by have := HK.out; omega⟩, ⟨hI⟩, ⟨HF.out.drew.then_ hF⟩⟩
    · obtain rfl : i = n := by have := HK.out; omega
      clear HK
      have HL := Aside0.mk (Left_fr _ g b i false (by have := HN.out; omega) (by omega) _ HI4.out)
      go_wp2_with fail
      refine HL.out.mono ?_
      rintro e w5 ⟨rfl, m5, rfl⟩
      have HI5 := Aside0.mk (HI4.out.drewN m5)
      replace HF := Aside0.mk (HF.out.drewN m5)
      clear HI4 HL
      go_wp2_with fail
      refine (Bad_fr _ g b i false _ HI5.out).mono ?_
      rintro e _ ⟨rfl, rfl⟩
      have hle := HN.out
      by_cases h16 : 8 * (b.length : Int) - (i : Int) < 16
      · have HG1 := Aside0.mk (fun (bad : Bool) (c : Int) (h : bad = true ∨ c < 0 ∨ 16 < c ∨ 8 * (b.length : Int) - i < c) (W : World) => Get_bad_fr w1.heap.size g b i bad c h (by omega) (by omega) W)
        have HL := Aside0.mk (fun (bad : Bool) (W : World) => Left_fr w1.heap.size g b i bad (by omega) (by omega) W)
        have HBT := Aside0.mk (fun (W : World) => Bit_bad_fr w1.heap.size g b i true (.inl rfl) (by omega) (by omega) W)
        have hle2 : (0 : Int) ≤ 8 * (b.length : Int) - (i : Int) := by omega
        clear hle hi
        go_wp2_with fail
        refine (HG1.out false (8 * (b.length : Int) - (i : Int) + 1) (.inr (.inr (.inr (by omega)))) _ HI5.out).mono ?_
        rintro e w6 ⟨rfl, h1, h2⟩
        replace HI5 := Aside0.mk h1
        replace HF := Aside0.mk (HF.out.then_ h2)
        clear h1 h2
        go_wp2_with fail
        refine (Bad_fr _ g b i true _ HI5.out).mono ?_
        rintro e _ ⟨rfl, rfl⟩
        go_wp2_with fail
        refine (HL.out true _ HI5.out).mono ?_
        rintro e w7 ⟨rfl, m7, rfl⟩
        go_wp2_with fail
        refine (HG1.out true 0 (.inl rfl) _ (HI5.out.drewN m7)).mono ?_
        rintro e w8 ⟨rfl, h1, h2⟩
        replace HI5 := Aside0.mk h1
        replace HF := Aside0.mk ((HF.out.drewN m7).then_ h2)
        clear h1 h2
        go_wp2_with fail
        refine (HBT.out _ HI5.out).mono ?_
        rintro e w9 ⟨rfl, h1, h2⟩
        replace HI5 := Aside0.mk h1
        replace HF := Aside0.mk (HF.out.then_ h2)
        clear h1 h2
        go_wp2_with fail
        refine (HL.out true _ HI5.out).mono ?_
        rintro e w10 ⟨rfl, m10, rfl⟩
        replace HF := Aside0.mk (HF.out.drewN m10)
        go_wp2_with fail
        refine (wakes_calls _).mono ?_
        rintro e w11 ⟨rfl, hw⟩
        go_wp2_with fail
        go_ret
        exact ⟨rfl, below_step (Fr.below HB.out HF.out (fun k hk => by have : k = g := hk; have := HG.out; omega) HB.out.size) hw⟩
      · have HG1 := Aside0.mk (fun (bad : Bool) (c : Int) (h : bad = true ∨ c < 0 ∨ 16 < c ∨ 8 * (b.length : Int) - i < c) (W : World) => Get_bad_fr w1.heap.size g b i bad c h (by omega) (by omega) W)
        have HL := Aside0.mk (fun (bad : Bool) (W : World) => Left_fr w1.heap.size g b i bad (by omega) (by omega) W)
        have hle2 : (0 : Int) ≤ 8 * (b.length : Int) - (i : Int) := by omega
        clear hle hi
        go_wp2_with fail
        refine (HG1.out false 17 (.inr (.inr (.inl (by decide)))) _ HI5.out).mono ?_
        rintro e w6 ⟨rfl, h1, h2⟩
        replace HI5 := Aside0.mk h1
        replace HF := Aside0.mk (HF.out.then_ h2)
        clear h1 h2
        go_wp2_with fail
        refine (Bad_fr _ g b i true _ HI5.out).mono ?_
        rintro e _ ⟨rfl, rfl⟩
        go_wp2_with fail
        refine (HL.out true _ HI5.out).mono ?_
        rintro e w7 ⟨rfl, m7, rfl⟩
        replace HF := Aside0.mk (HF.out.drewN m7)
        go_wp2_with fail
        refine (wakes_calls _).mono ?_
        rintro e w11 ⟨rfl, hw⟩
        go_wp2_with fail
        go_ret
        exact ⟨rfl, below_step (Fr.below HB.out HF.out (fun k hk => by have : k = g := hk; have := HG.out; omega) HB.out.size) hw⟩
theorem i64_wf {x : Int} (h : (Lit.int .i64 x).wf = true) : -9223372036854775808 ≤ x ∧ x ≤ 9223372036854775807 := by
  simp [Lit.wf, IntKind.min, IntKind.max, IntKind.signed, IntKind.bits] at h
  omega
theorem BitsEnds_row (w : World) (A0 : Option Addr) (c0 : Nat) (l0 : List Int) (hr0 : Kd.C (Kd.int .u8) w A0 l0.length l0) (hc0 : l0.length ≤ c0) (hw0 : ∀ x ∈ l0, (Lit.int .u8 x).wf = true) (hb0 : l0.length * 1 ≤ 140737488351232) (a1 : Int) (w1 : (Lit.int .i64 a1).wf = true) :
    Calls Try.prog 5 #[.slice A0 l0.length c0, .int .i64 a1] w fun e w' => e = .returned (.bool true) ∧ Below w.heap.size w w' :=
  BitsEnds_walk A0 c0 l0 a1 w hr0 hc0 (by omega) (i64_wf w1).1 (i64_wf w1).2
end Go.Proofs.Ytihgekpijplfiaa.Rf
