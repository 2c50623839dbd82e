/- bits.Reader.Get where there are so many digits; Bit. Conditions: as in Rf. -/
import Derived.Test.YtihgekpijplfiaaRf
namespace Go.Proofs.Ytihgekpijplfiaa.Rf
set_option linter.unusedVariables false
open Go.RowKit Go.Proofs.YtihgekpijplfiaaW.PrintWords Go.Proofs.YtihgekpijplfiaaW.PrintLast Go.Proofs.YtihgekpijplfiaaW.PrintMore Go.Proofs.Ytihgekpijplfiaa.Pack Go.Proofs.Ytihgekpijplfiaa.Wr Go.Proofs.Ytihgekpijplfiaa.Rd Go.Proofs.Ytihgekpijplfiaa.Fr
theorem rd_bit (bs : List Int) (m : Nat) : rd bs ((m / 8 : Nat) : Int) / 2 ^ (m % 8) % 2 = bitAt bs m := by
  unfold rd bitAt
  rw [Int.toNat_natCast]
theorem wrap_shift (b : Int) (i : Nat) (hi : i < 16) (h : b = 0 ∨ b = 1) : wrap64 (b * 2 ^ i) = b * 2 ^ i := by
  have p := two_le i hi
  have p0 : 0 ≤ (2 : Int) ^ i := Int.pow_nonneg (by decide)
  rcases h with rfl | rfl
  · rw [Int.zero_mul]; unfold wrap64; omega
  · rw [Int.one_mul]; generalize (2 : Int) ^ i = x at *; unfold wrap64; omega
theorem val_step (bs : List Int) (n i mm : Nat) (hm : mm = n + i) (hi : i < 16) : bits BinOp.or IntKind.i64 (valAt bs n i) (wrap64 (wrap64 (bits BinOp.and IntKind.u8 (rd bs ((mm / 8 : Nat) : Int) / 2 ^ (mm % 8)) 1) * 2 ^ i)) = valAt bs n (i + 1) := by
  rw [and_u8, rd_bit, wrap_bit _ (bit01 bs mm), wrap_shift _ i hi (bit01 bs mm), i64_or_high _ _ i hi (val_range bs n i).1 (val_range bs n i).2 (bit01 bs mm), hm]
  rfl
set_option maxHeartbeats 4000000 in
set_option maxRecDepth 100000 in
theorem Get_fr (lo g : Nat) (bs : List Int) (n c : Nat) (hc : c ≤ 16) (hn : n + c ≤ 8 * bs.length) (hl : bs.length ≤ 140737488355328) (w : World) (hI : IsR lo w g bs n false) :
    Calls Try.prog 28 #[.pointer (some ⟨g, 0, none⟩), .int .i64 (c : Int)] w fun e w' => e = .returned (.int .i64 (valAt bs n c)) ∧ IsR lo w' g bs (n + c) false ∧ Fr w w' (fun i => i = g) := by
  have HI := Aside0.mk hI
  have HL := Aside0.mk (Left_fr lo g bs n false (by omega) hl w hI)
  have HN := Aside0.mk (And.intro hn hl)
  obtain ⟨A, cc, x0, x1, x2, f1, f2, hC⟩ := hI.cells
  have c0 : (0 : Int) ≤ (c : Int) := by omega
  have c1 : (c : Int) ≤ 16 := by omega
  have hd : decide (8 * (bs.length : Int) - (n : Int) < (c : Int)) = false := decide_eq_false (by omega)
  clear hC hl hn hI
  go_enter Try.func28, Try.ntmps28
  go_wp2_with fail
  refine HL.out.mono ?_
  rintro e w5 ⟨rfl, m, rfl⟩
  have HI5 := Aside0.mk (HI.out.drewN m)
  have HF5 := Aside0.mk ((Fr.refl w (fun i => i = g)).drewN m)
  clear x0 x1 x2 f1 f2 HL HI
  go_wp2_with fail
  clear hd
  go_loopg [5, 29] c (fun gk v5 v29 w' => ∃ i : Nat, v29 = .int .i64 (i : Int) ∧ v5 = .int .i64 (valAt bs n i) ∧ Aside0 (i + gk = c) ∧ Aside0 (IsR lo w' g bs (n + i) false) ∧ Aside0 (Fr w w' (fun j => j = g)))
  case atStart => exact ⟨0, rfl, rfl, ⟨by omega⟩, HI5, HF5⟩
  case round =>
    clear HI5 HF5
    obtain ⟨i, rfl, rfl, HG, HI, HF⟩ := hrel
    obtain ⟨wo, rfl⟩ : ∃ wo : World, wo = wr := ⟨_, rfl⟩
    by_cases hi : i < c
    · have hi1 : (i : Int) < (c : Int) := by omega
      have hi2 : (i : Int) ≤ 16 := by omega
      obtain ⟨mm, hm⟩ : ∃ mm, mm = n + i := ⟨_, rfl⟩
      have hm1 : mm < 8 * bs.length := by have := HN.out.1; omega
      have hm2 : mm ≤ 1125899906842624 := by have := HN.out.2; omega
      have HV := Aside0.mk (val_step bs n i mm hm (by omega))
      have hm3 : (mm : Int) ≤ 1125899906842624 := by omega
      have HII := HI.out
      rw [← hm] at HII
      obtain ⟨A, cc, x0, x1, x2, f1, f2, hC⟩ := HII.cells
      obtain ⟨q, hq⟩ : ∃ q : Nat, q = mm / 8 := ⟨_, rfl⟩
      obtain ⟨r, hr8⟩ : ∃ r : Nat, r = mm % 8 := ⟨_, rfl⟩
      have q1 : (q : Int) < (bs.length : Int) := by omega
      have q0 : (0 : Int) ≤ (q : Int) := by omega
      obtain ⟨ad, ea, hx⟩ := Kd.at_int hC (q : Int) q0 q1
      rw [Int.toNat_natCast] at hx
      subst ea
      have z2 : IntKind.i64.wrap ((mm : Int).tdiv 8) = (q : Int) := by rw [hq, Int.tdiv_eq_ediv_of_nonneg (by omega), IntKind.wrap_i64]; omega
      have z3 : (mm : Int).tmod 8 = (r : Int) := by rw [hr8, Int.tmod_eq_emod_of_nonneg (by omega)]; omega
      have z5 : IntKind.i64.wrap ((mm : Int) / 8) = (q : Int) := by rw [hq, IntKind.wrap_i64]; omega
      have z6 : (mm : Int) % 8 = (r : Int) := by rw [hr8]; omega
      have z4 : 0 ≤ (r : Int) := by omega
      have z7 : 0 ≤ (i : Int) := by omega
      have HQ := Aside0.mk (And.intro hq hr8)
      generalize hold : rd bs (q : Int) = old at hx
      have HOLD := Aside0.mk hold
      have HII' := Aside0.mk HII
      have HM := Aside0.mk hm
      have HH1 := Aside0.mk (And.intro hm1 hm2)
      clear hold hq hr8 HII hm hC hm1 hm2
      go_wp2_with fail
      go_quiet (fail)
      clear z2 z3 z4 z5 z6
      go_wp2_with fail
      have hval := HV.out
      rw [← HQ.out.1, ← HQ.out.2, HOLD.out] at hval
      obtain ⟨g', rfl⟩ : ∃ g', gk = g' + 1 := ⟨gk - 1, by have := HG.out; omega⟩
      go_roundg g'
      case measure => omega
      case rel =>
        refine ⟨i + 1, by go_num, by rw [← hval], ⟨by have := HG.out; omega⟩, ⟨?_⟩, ⟨(HF.out.drewN nq).setg 1 _⟩⟩
        have h9 := (HII'.out.drewN nq).count (mm + 1)
        rw [show n + (i + 1) = mm + 1 by have := HM.out; omega]
        exact h9
    · obtain rfl : i = c := by have := HG.out; omega
      clear HG
      go_wp2_with fail
      go_ret
      exact ⟨rfl, HI.out, HF.out⟩
theorem Bit_fr (lo g : Nat) (bs : List Int) (n : Nat) (hn : n + 1 ≤ 8 * bs.length) (hl : bs.length ≤ 140737488355328) (w : World) (hI : IsR lo w g bs n false) :
    Calls Try.prog 27 #[.pointer (some ⟨g, 0, none⟩)] w fun e w' => e = .returned (.int .i64 (bitAt bs n)) ∧ IsR lo w' g bs (n + 1) false ∧ Fr w w' (fun i => i = g) := by
  have HG := Aside0.mk (Get_fr lo g bs n 1 (by decide) hn hl w hI)
  have hv : valAt bs n 1 = bitAt bs n := by simp [valAt]
  rw [hv] at HG
  clear hv hI hn hl
  go_enter Try.func27, Try.ntmps27
  go_wp2_with fail
  refine HG.out.mono ?_
  rintro e w5 ⟨rfl, h1, h2⟩
  go_wp2_with fail
  go_ret
  exact ⟨rfl, h1, h2⟩
theorem Bit_bad_fr (lo g : Nat) (bs : List Int) (n : Nat) (bad : Bool) (h : bad = true ∨ 8 * (bs.length : Int) - n < 1) (hn : n ≤ 8 * bs.length) (hl : bs.length ≤ 140737488355328) (w : World) (hI : IsR lo w g bs n bad) :
    Calls Try.prog 27 #[.pointer (some ⟨g, 0, none⟩)] w fun e w' => e = .returned (.int .i64 0) ∧ IsR lo w' g bs n true ∧ Fr w w' (fun i => i = g) := by
  have HG := Aside0.mk (Get_bad_fr lo g bs n bad 1 (h.imp_right (fun e => .inr (.inr e))) hn hl w hI)
  clear hI hn hl h
  go_enter Try.func27, Try.ntmps27
  go_wp2_with fail
  refine HG.out.mono ?_
  rintro e w5 ⟨rfl, h1, h2⟩
  go_wp2_with fail
  go_ret
  exact ⟨rfl, h1, h2⟩
set_option maxHeartbeats 8000000 in
set_option maxRecDepth 100000 in
theorem NewR_fr (A : Option Addr) (c : Nat) (bs : List Int) (w : World) (hr : Kd.C (Kd.int .u8) w A bs.length bs) (hA : A = none → bs = [] ∧ c = 0) (hl : bs.length ≤ 140737488355328) :
    Calls Try.prog 24 #[.slice A bs.length c] w fun e w' => ∃ g : Nat, e = .returned (.pointer (some ⟨g, 0, none⟩)) ∧ IsR w.heap.size w' g bs 0 false ∧ Below w.heap.size w w' ∧ g + 1 = w'.heap.size := by
  have hu := Try.underlying97
  have HCL := Aside0.mk (Clone_calls A c bs w hr hA hl)
  clear hr hA hl
  go_enter Try.func24, Try.ntmps24
  go_wp2_with fail
  refine HCL.out.mono ?_
  rintro e w1 ⟨v, rfl, h1, h2⟩
  obtain ⟨A1, c1, e1⟩ := Kd.R_slice h1
  subst e1
  have H1 := Aside0.mk h1
  have H2 := Aside0.mk h2
  clear h1 h2
  go_wp2_with fail
  go_ret
  refine ⟨_, rfl, ⟨A1, c1, heap_alloc_new w1 _, H2.out.size, fun k hk => Kd.R_lt H1.out k hk, Kd.R_alloc H1.out _⟩, below_alloc H2.out _, (World.size_alloc w1 _).symm⟩
end Go.Proofs.Ytihgekpijplfiaa.Rf
