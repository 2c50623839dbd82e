/- huff.Table.Get: the sign whose code is next. Conditions: a table of lengths that fit, and a reader. -/
import Derived.Test.YtihgekpijplfiaaHc
import Derived.Test.YtihgekpijplfiaaGs
import Derived.Deep.RegionWith
import Derived.Deep.RegionLaw
import Derived.Deep.DrawnRows
namespace Go.Proofs.Ytihgekpijplfiaa.Hn
set_option linter.unusedVariables false
open Go.RowKit Go.Maps Go.Proofs.YtihgekpijplfiaaW.PrintWords Go.Proofs.YtihgekpijplfiaaW.PrintLast Go.Proofs.YtihgekpijplfiaaW.PrintMore Go.Proofs.Ytihgekpijplfiaa.Hp Go.Proofs.Ytihgekpijplfiaa.Rm Go.Proofs.Ytihgekpijplfiaa.Mp Go.Proofs.Ytihgekpijplfiaa.Fr Go.Proofs.Ytihgekpijplfiaa.Rf Go.Proofs.Ytihgekpijplfiaa.Gs Go.Proofs.Ytihgekpijplfiaa.Rd
/-- The sign that is read: d digits may still come; x is what was read so far. -/
def decS (ls bs : List Int) : Nat → Int → Nat → Bool → (Int × Bool) × Nat × Bool
  | 0, _, pos, bad => ((0, false), pos, bad)
  | d + 1, x, pos, bad =>
    if (getS bs pos bad 1).2.2 = true then ((0, false), (getS bs pos bad 1).2.1, true)
    else match lookS ls (2 * x + (getS bs pos bad 1).1) (15 - d) with
      | some t => (((t : Int), true), (getS bs pos bad 1).2.1, false)
      | none => decS ls bs d (2 * x + (getS bs pos bad 1).1) (getS bs pos bad 1).2.1 false
theorem look_run {W : World} {gm : Nat} {ls : List Int} (h : IsM W gm (ents ls 15)) (x : Int) (n : Nat) (hn : 0 < n) (hn2 : n ≤ 15) (hk : okKey (x, (n : Int))) :
    (Instr.lookup 91 (.map (some gm)) (.agg #[.int .i64 x, .int .i64 (n : Int)]) true).run Try.prog W = .ok (.tuple #[.int .i64 (match lookS ls x n with | some t => (t : Int) | none => 0), .bool (lookS ls x n).isSome]) W := by
  cases h1 : lookS ls x n with
  | none =>
    refine lookup_miss h (x, (n : Int)) hk (fun y hy e => ?_)
    obtain ⟨m, i, a1, a2, a3, a4, rfl⟩ := mem_ents.1 hy
    injection e with e1 e2
    have : m = n := by omega
    subst this
    have := lookS_of (c := x) hn a3 a4 e1
    rw [this] at h1
    cases h1
  | some t =>
    obtain ⟨b1, b2, b3⟩ := lookS_some h1
    refine lookup_hit h (x, (n : Int)) (t : Int) hk (mem_ents.2 ⟨n, t, hn, hn2, b1, b2, by rw [b3]⟩) (fun y hy e => ?_)
    obtain ⟨m, i, a1, a2, a3, a4, rfl⟩ := mem_ents.1 hy
    injection e with e1 e2
    have : m = n := by omega
    subst this
    have := codeOf_inj ls i t a3 b1 (by omega) (by rw [a4, b2]) (by omega)
    show (i : Int) = (t : Int)
    rw [this]
theorem getS_1 (bs : List Int) (pos : Nat) (bad : Bool) : 0 ≤ (getS bs pos bad 1).1 ∧ (getS bs pos bad 1).1 ≤ 1 := by
  by_cases h : bad = true ∨ (1 : Int) < 0 ∨ (16 : Int) < 1 ∨ 8 * (bs.length : Int) - pos < 1
  · rw [getS_bad h]; exact ⟨Int.le_refl 0, show (0 : Int) ≤ 1 by decide⟩
  · rw [getS_ok h]
    have hv := val_range bs pos 1
    have h2 : (2 : Int) ^ 1 = 2 := rfl
    rw [h2] at hv
    show 0 ≤ valAt bs pos (1 : Int).toNat ∧ valAt bs pos (1 : Int).toNat ≤ 1
    rw [show (1 : Int).toNat = 1 from rfl]
    omega
attribute [local go_sem ↓] Go.wp_at_zero Go.wp_at_succ
set_option maxHeartbeats 8000000 in
set_option maxRecDepth 100000 in
theorem Get_T (lo hi p rlo g : Nat) (ls bs : List Int) (pos : Nat) (bad : Bool) (hpos : pos ≤ 8 * bs.length) (hl : bs.length ≤ 140737488355328) (hok : okS ls = true) (w : World) (hT : IsT lo hi w p ls) (hI : IsR rlo w g bs pos bad) (hap : g < lo ∨ hi ≤ g) (hhi : hi ≤ w.heap.size) :
    Calls Try.prog 57 #[.pointer (some ⟨p, 0, none⟩), .pointer (some ⟨g, 0, none⟩)] w fun e w' => e = .returned (.tuple #[.int .i64 (decS ls bs 15 0 pos bad).1.1, .bool (decS ls bs 15 0 pos bad).1.2]) ∧ IsR rlo w' g bs (decS ls bs 15 0 pos bad).2.1 (decS ls bs 15 0 pos bad).2.2 ∧ Fr w w' (fun i => i = g) := by
  have HT := Aside0.mk hT
  have HI := Aside0.mk hI
  have HA := Aside0.mk (And.intro hap hhi)
  have HP := Aside0.mk (And.intro hpos hl)
  have HG := Aside0.mk hI.ge
  obtain ⟨D, hD⟩ : ∃ D, D = decS ls bs 15 0 pos bad := ⟨_, rfl⟩
  rw [← hD]
  have HD := Aside0.mk hD
  clear hT hI hap hhi hpos hl hok hD
  go_enter Try.func57, Try.ntmps57
  go_wp2_with fail
  obtain ⟨q, hq⟩ : ∃ q, q = w.heap.size := ⟨_, rfl⟩
  have HQ := Aside0.mk hq
  have HB0 := Aside0.mk (show (w.alloc (.cells #[.int .i64 0, .int .i64 0] 95)).heap[q]? = some (.cells #[.int .i64 0, .int .i64 ((0 : Nat) : Int)] 95 (0, 0)) by rw [hq]; exact heap_alloc_new w _)
  rw [← hq]
  clear hq
  have HI0 := Aside0.mk (HI.out.below (below_alloc (Below.refl _ _) (.cells #[.int .i64 0, .int .i64 0] 95)))
  have HF0 := Aside0.mk ((Fr.refl w (fun i => i = g)).alloc (.cells #[.int .i64 0, .int .i64 0] 95))
  go_loopg [4, 5, 7, 8] 15 (fun gk v4 v5 v7 v8 w' => ∃ (n : Nat) (x : Int) (pos : Nat) (bad : Bool), v4 = .int .i64 0 ∧ v5 = .bool false ∧ Aside0 (n + gk = 15 ∧ 0 ≤ x ∧ x < 2 ^ n ∧ pos ≤ 8 * bs.length ∧ D = decS ls bs gk x pos bad) ∧ Aside0 (w'.heap[q]? = some (.cells #[.int .i64 x, .int .i64 (n : Int)] 95 (0, 0))) ∧ Aside0 (IsR rlo w' g bs pos bad) ∧ Aside0 (Fr w w' (fun i => i = g)))
  case atStart => exact ⟨0, 0, pos, bad, rfl, rfl, ⟨rfl, Int.le_refl 0, by decide, HP.out.1, HD.out⟩, HB0, HI0, HF0⟩
  case round =>
    clear HI HI0 HF0 HB0
    obtain ⟨n, x, pos, bad, rfl, rfl, HK, HB, HI, HF⟩ := hrel
    obtain ⟨wo, rfl⟩ : ∃ wo : World, wo = wr := ⟨_, rfl⟩
    have c0 : wo.cell? ⟨q, 0, none⟩ = some (.int .i64 x) := (blk_cell HB.out 0).trans rfl
    have c1 : wo.cell? ⟨q, 1, none⟩ = some (.int .i64 (n : Int)) := (blk_cell HB.out 1).trans rfl
    by_cases hn : n < 15
    · obtain ⟨d, rfl⟩ : ∃ d, gk = d + 1 := ⟨gk - 1, by have := HK.out.1; omega⟩
      have hn1 : (n : Int) < 15 := by omega
      have hx : 0 ≤ x ∧ x ≤ 32768 := by
        have h := HK.out
        have h3 : ∀ n < 15, (2 : Int) ^ n ≤ 32768 := by decide +kernel
        have := h3 n hn
        omega
      obtain ⟨hx0, hx1⟩ := hx
      have hqg : ¬ q = g := by have := HQ.out; have := HG.out; omega
      have hs1 := getS_1 bs pos bad
      have hsl := getS_le bs pos bad 1 HK.out.2.2.2.1
      have HBIT := Aside0.mk (fun (W : World) (hI : IsR rlo W g bs pos bad) => Bit_R rlo g bs pos bad HK.out.2.2.2.1 HP.out.2 W hI)
      have HDD := HK.out.2.2.2.2
      rw [decS] at HDD
      generalize getS bs pos bad 1 = s at *
      obtain ⟨b, pos', bad'⟩ := s
      obtain ⟨hs2, hs3⟩ := hs1
      have HDE := Aside0.mk HDD
      have HSL := Aside0.mk hsl
      have hs2' : 0 ≤ b := hs2
      have hs3' : b ≤ 1 := hs3
      obtain ⟨y, hy⟩ : ∃ y, y = 2 * x + b := ⟨_, rfl⟩
      rw [← hy] at HDE
      have HY := Aside0.mk hy
      have z1 : IntKind.i64.wrap (2 * x) = 2 * x := IntWalk.i64_in _ (by omega)
      have z2 : IntKind.i64.wrap (2 * x + b) = y := by rw [hy]; exact IntWalk.i64_in _ (by omega)
      have z3 : IntKind.i64.wrap ((n : Int) + 1) = (n : Int) + 1 := IntWalk.i64_in _ (by omega)
      have HWF := Aside0.mk (show okKey (y, ((n + 1 : Nat) : Int)) from ⟨WalkArith.wf_i64 (by omega), WalkArith.wf_i64 (by omega)⟩)
      clear HDD hsl hs2 hs3 hn hy
      go_wp2_with fail
      go_region_with ((go_at_call 27; refine (HBIT.out _ (by exact HI.out)).mono ?_; rintro e w' ⟨rfl, hI, hF⟩; have hb' := (hF.blk q (blk_lt HB.out) hqg).trans HB.out; have c0' := hF.cell c0 hqg; have c1' := hF.cell c1 hqg; have f0' := blk_frozen hb' 0; have f1' := blk_frozen hb' 1))
      all_goals
        have H1 := Aside0.mk hI
        have H2 := Aside0.mk hF
        have H3 := Aside0.mk hb'
        clear z1 z2 z3 c0 c1 c0' c1' f0' f1' hI hF hb'
        obtain ⟨W2, hW2⟩ : ∃ W2, W2 = (w'.setCell ⟨q, 0, none⟩ (.int .i64 y)).setCell ⟨q, 1, none⟩ (.int .i64 ((n : Int) + 1)) := ⟨_, rfl⟩
        rw [← hW2]
        have hqq := show ¬ q = g from hqg
        have HF2 := Aside0.mk (show Fr w' W2 (fun i => i = q) by rw [hW2]; exact ((Fr.refl _ _).setg _ _).setg _ _)
        have HB2 := Aside0.mk (show W2.heap[q]? = some (.cells #[.int .i64 y, .int .i64 ((n + 1 : Nat) : Int)] 95 (0, 0)) by
          rw [hW2]
          exact (blk_set (blk_set H3.out 0 _) 1 _).trans rfl)
        have HI2 := Aside0.mk (show IsR rlo W2 g bs pos' bad' from H1.out.fr HF2.out (fun i hi => by have := HQ.out; have := HG.out; omega))
        have HF3 := Aside0.mk (show Fr w W2 (fun i => i = g) from (HF.out.drew.then_ H2.out).trans HF2.out (fun i hi => by have := HQ.out; omega))
        have HT2 := Aside0.mk (HT.out.fr HF3.out (fun i h1 h2 h3 => by have := HA.out.1; have h3 : i = g := h3; omega))
        clear hW2 H1 H2 H3
        go_wp2_with fail
        refine (Bad_fr rlo g bs pos' bad' _ HI2.out).mono ?_
        rintro e W2 ⟨rfl, rfl⟩
        have hbb : bad' = true ∨ bad' = false := by cases bad' <;> simp
        rcases hbb with rfl | rfl
        · go_wp2_with fail
          go_ret2
          have := HDE.out
          first | rw [if_pos rfl] at this | rw [if_pos trivial] at this
          rw [this]
          exact ⟨rfl, HI2.out, HF3.out⟩
        · have hDD := HDE.out
          first | rw [if_neg Bool.false_ne_true] at hDD | rw [if_neg not_false] at hDD
          rw [show 15 - d = n + 1 from by have := HK.out.1; omega] at hDD
          obtain ⟨gc, gm, a1, a2, a3, a4, a5, a6, t1, t2, t3⟩ := HT2.out
          have hlk := fun m => look_run (W := W2.drewN m) t3 y (n + 1) (by omega) (by have := HK.out.1; omega) HWF.out
          have hlk0 := look_run (W := W2) t3 y (n + 1) (by omega) (by have := HK.out.1; omega) HWF.out
          have hlk1 := look_run (W := W2.drew) t3 y (n + 1) (by omega) (by have := HK.out.1; omega) HWF.out
          rw [show ((n + 1 : Nat) : Int) = (n : Int) + 1 from rfl] at hlk0 hlk1
          simp only [show ((n + 1 : Nat) : Int) = (n : Int) + 1 from rfl] at hlk
          have b1 : W2.cell? ⟨p, 1, none⟩ = some (.map (some gm)) := (blk_cell t1 1).trans rfl
          have c0 : W2.cell? ⟨q, 0, none⟩ = some (.int .i64 y) := (blk_cell HB2.out 0).trans rfl
          have c1 : W2.cell? ⟨q, 1, none⟩ = some (.int .i64 ((n : Int) + 1)) := (blk_cell HB2.out 1).trans rfl
          cases hL : lookS ls y (n + 1) with
          | some t =>
            rw [hL] at hDD hlk0 hlk1
            simp only [hL] at hlk
            have HDF := Aside0.mk hDD
            simp only [Option.isSome_some] at hlk hlk0 hlk1
            clear hDD a1 a2 a3 a4 a5 a6 t1 t2 t3 hL
            go_wp2_with fail
            go_quiet (fail)
            go_wp2_with fail
            go_ret2
            rw [HDF.out]
            exact ⟨rfl, HI2.out, HF3.out.drewN _⟩
          | none =>
            rw [hL] at hDD hlk0 hlk1
            simp only [hL] at hlk
            have HDF := Aside0.mk hDD
            simp only [Option.isSome_none] at hlk hlk0 hlk1
            clear hDD a1 a2 a3 a4 a5 a6 t1 t2 t3 hL
            go_wp2_with fail
            go_quiet (fail)
            clear b1 c0 c1 hlk hlk0 hlk1
            go_wp2_with fail
            go_roundg d
            case measure => omega
            case rel =>
              refine ⟨n + 1, y, pos', false, rfl, rfl, ⟨by have := HK.out.1; omega, ?_, ?_, HSL.out, HDF.out⟩, HB2, HI2, ⟨HF3.out.drewN _⟩⟩
              · have := HY.out; omega
              · have h1 := HK.out.2.2.1
                have h2 := HY.out
                rw [Int.pow_succ]
                generalize (2 : Int) ^ n = P at *
                omega
    · obtain rfl : n = 15 := by have := HK.out.1; omega
      obtain rfl : gk = 0 := by have := HK.out.1; omega
      go_wp2_with fail
      go_ret2
      rw [HK.out.2.2.2.2]
      exact ⟨rfl, HI.out, HF.out⟩
end Go.Proofs.Ytihgekpijplfiaa.Hn
