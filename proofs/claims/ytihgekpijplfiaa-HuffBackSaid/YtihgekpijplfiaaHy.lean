/- Merged out of Xf, Gs, Hg, Hb, Hl, Hz (wip/tools/merge.py): a claim holds at most 60 files. -/
import Derived.Test.YtihgekpijplfiaaRg
import Derived.Test.YtihgekpijplfiaaHc
import Derived.Deep.RegionWith
import Derived.Deep.RegionLaw
import Derived.Deep.DrawnRows
import Derived.Test.YtihgekpijplfiaaDig
import Derived.Test.YtihgekpijplfiaaBe
import Derived.Test.YtihgekpijplfiaaPHuffCodesx3
import Derived.Test.YtihgekpijplfiaaHf
import Derived.Test.YtihgekpijplfiaaPHuffBackx3
namespace Go.Proofs.Ytihgekpijplfiaa.Xf
set_option linter.unusedVariables false
open Go.RowKit Go.Proofs.YtihgekpijplfiaaW.PrintWords Go.Proofs.YtihgekpijplfiaaW.PrintLast Go.Proofs.YtihgekpijplfiaaW.PrintMore Go.Proofs.Ytihgekpijplfiaa.Pack Go.Proofs.Ytihgekpijplfiaa.Wr Go.Proofs.Ytihgekpijplfiaa.Rd Go.Proofs.Ytihgekpijplfiaa.Fr Go.Proofs.Ytihgekpijplfiaa.Rf
/-- A reader: its blocks are those from lo to g. -/
def IsX (lo : Nat) (W : World) (g : Nat) (bs : List Int) (n : Nat) (bad : Bool) : Prop :=
  ∃ A c, W.heap[g]? = some (.cells #[.slice A bs.length c, .int .i64 (n : Int), .bool bad] 48 (0, 0)) ∧ lo ≤ g ∧ (∀ k, (Value.slice A bs.length c).ownBlock = some k → k < g) ∧ Kd.R (Kd.int .u8) 5 W lo (fun _ => True) (.slice A bs.length c) bs
theorem IsX.ge {lo g n : Nat} {W : World} {bs : List Int} {bad : Bool} (h : IsX lo W g bs n bad) : lo ≤ g ∧ g < W.heap.size := by
  obtain ⟨A, c, h1, h2, h3, h4⟩ := h
  exact ⟨h2, blk_lt h1⟩
theorem IsX.move {lo g n : Nat} {W W1 : World} {bs : List Int} {bad : Bool} (h : IsX lo W g bs n bad) (hm : ∀ k, lo ≤ k → k ≤ g → W1.heap[k]? = W.heap[k]?) : IsX lo W1 g bs n bad := by
  obtain ⟨A, c, h1, h2, h3, h4⟩ := h
  refine ⟨A, c, (hm g h2 (Nat.le_refl _)).trans h1, h2, h3, ?_⟩
  exact Kd.R_mono (Kd.R_move (Kd.R_tight rfl h4) (fun k hk => hm k (Kd.R_base h4 k hk.symm) (Nat.le_of_lt (h3 k hk.symm)))) (fun _ _ => trivial)
theorem IsX.fr {lo g n : Nat} {W W1 : World} {S : Nat → Prop} {bs : List Int} {bad : Bool} (h : IsX lo W g bs n bad) (k : Fr W W1 S) (hs : ∀ i, S i → i < lo ∨ g < i) : IsX lo W1 g bs n bad :=
  h.move (fun i h1 h2 => k.blk i (Nat.lt_of_le_of_lt h2 h.ge.2) (fun e => by have := hs i e; omega))
theorem IsX.below {lo g n : Nat} {W W1 : World} {bs : List Int} {bad : Bool} (h : IsX lo W g bs n bad) (k : Below W.heap.size W W1) : IsX lo W1 g bs n bad := h.fr (Fr.of_below k No) (fun _ e => e.elim)
theorem IsX.drewN {lo g n : Nat} {W : World} {bs : List Int} {bad : Bool} (h : IsX lo W g bs n bad) (m : Nat) : IsX lo (W.drewN m) g bs n bad := h
theorem IsX.drew {lo g n : Nat} {W : World} {bs : List Int} {bad : Bool} (h : IsX lo W g bs n bad) : IsX lo W.drew g bs n bad := h
/-- The count, and the mark, stored. -/
theorem IsX.count {lo g n : Nat} {W : World} {bs : List Int} {bad : Bool} (h : IsX lo W g bs n bad) (m : Nat) : IsX lo (W.setCell ⟨g, 1, none⟩ (.int .i64 (m : Int))) g bs m bad := by
  obtain ⟨A, c, h1, h2, h3, h4⟩ := h
  refine ⟨A, c, (blk_set h1 1 _).trans rfl, h2, h3, ?_⟩
  exact Kd.R_set h4 h1 (by decide) 1 _
theorem IsX.mark {lo g n : Nat} {W : World} {bs : List Int} {bad : Bool} (h : IsX lo W g bs n bad) (b : Bool) : IsX lo (W.setCell ⟨g, 2, none⟩ (.bool b)) g bs n b := by
  obtain ⟨A, c, h1, h2, h3, h4⟩ := h
  refine ⟨A, c, (blk_set h1 2 _).trans rfl, h2, h3, ?_⟩
  exact Kd.R_set h4 h1 (by decide) 2 _
theorem IsX.cells {lo g n : Nat} {W : World} {bs : List Int} {bad : Bool} (h : IsX lo W g bs n bad) : ∃ A c, W.cell? ⟨g, 0, none⟩ = some (.slice A bs.length c) ∧ W.cell? ⟨g, 1, none⟩ = some (.int .i64 (n : Int)) ∧ W.cell? ⟨g, 2, none⟩ = some (.bool bad) ∧ W.frozen? ⟨g, 1, none⟩ = false ∧ W.frozen? ⟨g, 2, none⟩ = false ∧ Kd.C (Kd.int .u8) W A bs.length bs := by
  obtain ⟨A, c, h1, h2, h3, h4⟩ := h
  exact ⟨A, c, (blk_cell h1 0).trans rfl, (blk_cell h1 1).trans rfl, (blk_cell h1 2).trans rfl, blk_frozen h1 1, blk_frozen h1 2, (Kd.R_reads' h4).2.2⟩
set_option maxHeartbeats 1000000 in
theorem Left_fr (lo g : Nat) (bs : List Int) (n : Nat) (bad : Bool) (hn : n ≤ 8 * bs.length) (hl : bs.length ≤ 140737488355328) (w : World) (hI : IsX lo w g bs n bad) :
    Calls Try.prog 35 #[.pointer (some ⟨g, 0, none⟩)] w fun e w' => e = .returned (.int .i64 (8 * (bs.length : Int) - (n : Int))) ∧ ∃ m, w' = w.drewN m := by
  obtain ⟨A, c, x0, x1, x2, f1, f2, hC⟩ := hI.cells
  have z1 : IntKind.i64.wrap (8 * (bs.length : Int)) = 8 * (bs.length : Int) := IntWalk.i64_in _ (by omega)
  have z2 : IntKind.i64.wrap (8 * (bs.length : Int) - (n : Int)) = 8 * (bs.length : Int) - (n : Int) := IntWalk.i64_in _ (by omega)
  clear hn hl hC
  go_enter Try.func35, Try.ntmps35
  go_wp2_with fail
  go_quiet (fail)
  go_wp2_with fail
  go_ret
  exact ⟨rfl, _, rfl⟩
theorem Align_fr (lo g : Nat) (bs : List Int) (n : Nat) (hn : n ≤ 8 * bs.length) (hl : bs.length ≤ 140737488355328) (w : World) (hI : IsX lo w g bs n false) :
    Calls Try.prog 34 #[.pointer (some ⟨g, 0, none⟩)] w fun e w' => e = .returned (.tuple #[]) ∧ IsX lo w' g bs ((n + 7) / 8 * 8) false ∧ Fr w w' (fun i => i = g) := by
  obtain ⟨A, c, x0, x1, x2, f1, f2, hC⟩ := hI.cells
  have HI := Aside0.mk hI
  have hnn : (n : Int) ≤ 1125899906842624 := by omega
  clear hC hn hl hI
  go_enter Try.func34, Try.ntmps34
  go_wp2_with fail
  go_end0
  have e : ((n : Int) + 7) / 8 * 8 = (((n + 7) / 8 * 8 : Nat) : Int) := by omega
  rw [e]
  exact ⟨rfl, HI.out.count _, (Fr.refl _ _).setg _ _⟩
theorem Align_bad (lo g : Nat) (bs : List Int) (n : Nat) (w : World) (hI : IsX lo w g bs n true) :
    Calls Try.prog 34 #[.pointer (some ⟨g, 0, none⟩)] w fun e w' => e = .returned (.tuple #[]) ∧ w' = w := by
  obtain ⟨A, c, x0, x1, x2, f1, f2, hC⟩ := hI.cells
  clear hC
  go_enter Try.func34, Try.ntmps34
  go_wp2_with fail
  go_end0
  exact ⟨rfl, rfl⟩
set_option maxHeartbeats 4000000 in
theorem Get_bad_fr (lo g : Nat) (bs : List Int) (n : Nat) (bad : Bool) (c : Int) (h : bad = true ∨ c < 0 ∨ 16 < c ∨ 8 * (bs.length : Int) - n < c) (hn : n ≤ 8 * bs.length) (hl : bs.length ≤ 140737488355328) (w : World) (hI : IsX lo w g bs n bad) :
    Calls Try.prog 33 #[.pointer (some ⟨g, 0, none⟩), .int .i64 c] w fun e w' => e = .returned (.int .i64 0) ∧ IsX lo w' g bs n true ∧ Fr w w' (fun i => i = g) := by
  obtain ⟨A, cc, x0, x1, x2, f1, f2, hC⟩ := hI.cells
  have HI := Aside0.mk hI
  have HL := Aside0.mk (Left_fr lo g bs n bad hn hl w hI)
  clear hC hl hn hI
  have hb : bad = true ∨ bad = false := by cases bad <;> simp
  rcases hb with rfl | rfl
  · clear h
    go_enter Try.func33, Try.ntmps33
    go_wp2_with fail
    go_ret
    exact ⟨rfl, HI.out.mark true, (Fr.refl _ _).setg _ _⟩
  · by_cases h1 : c < 0
    · clear h
      go_enter Try.func33, Try.ntmps33
      go_wp2_with fail
      go_ret
      exact ⟨rfl, HI.out.mark true, (Fr.refl _ _).setg _ _⟩
    · by_cases h2 : 16 < c
      · clear h
        go_enter Try.func33, Try.ntmps33
        go_wp2_with fail
        go_ret
        exact ⟨rfl, HI.out.mark true, (Fr.refl _ _).setg _ _⟩
      · have h3 : 8 * (bs.length : Int) - n < c := by rcases h with h | h | h | h; cases h; exact absurd h h1; exact absurd h h2; exact h
        clear h
        go_enter Try.func33, Try.ntmps33
        go_wp2_with fail
        refine HL.out.mono ?_
        rintro e w5 ⟨rfl, m, rfl⟩
        go_wp2_with fail
        go_ret
        exact ⟨rfl, (HI.out.drewN m).mark true, ((Fr.refl _ _).drewN m).setg _ _⟩
set_option maxHeartbeats 4000000 in
set_option maxRecDepth 100000 in
theorem Get_fr (lo g : Nat) (bs : List Int) (n c : Nat) (hc : c ≤ 16) (hn : n + c ≤ 8 * bs.length) (hl : bs.length ≤ 140737488355328) (w : World) (hI : IsX lo w g bs n false) :
    Calls Try.prog 33 #[.pointer (some ⟨g, 0, none⟩), .int .i64 (c : Int)] w fun e w' => e = .returned (.int .i64 (valAt bs n c)) ∧ IsX lo w' g bs (n + c) false ∧ Fr w w' (fun i => i = g) := by
  have HI := Aside0.mk hI
  have HL := Aside0.mk (Left_fr lo g bs n false (by omega) hl w hI)
  have HN := Aside0.mk (And.intro hn hl)
  obtain ⟨A, cc, x0, x1, x2, f1, f2, hC⟩ := hI.cells
  have c0 : (0 : Int) ≤ (c : Int) := by omega
  have c1 : (c : Int) ≤ 16 := by omega
  have hd : decide (8 * (bs.length : Int) - (n : Int) < (c : Int)) = false := decide_eq_false (by omega)
  clear hC hl hn hI
  go_enter Try.func33, Try.ntmps33
  go_wp2_with fail
  refine HL.out.mono ?_
  rintro e w5 ⟨rfl, m, rfl⟩
  have HI5 := Aside0.mk (HI.out.drewN m)
  have HF5 := Aside0.mk ((Fr.refl w (fun i => i = g)).drewN m)
  clear x0 x1 x2 f1 f2 HL HI
  go_wp2_with fail
  clear hd
  go_loopg [5, 6] c (fun gk v5 v6 w' => ∃ i : Nat, v6 = .int .i64 (i : Int) ∧ v5 = .int .i64 (valAt bs n i) ∧ Aside0 (i + gk = c) ∧ Aside0 (IsX lo w' g bs (n + i) false) ∧ Aside0 (Fr w w' (fun j => j = g)))
  case atStart => exact ⟨0, rfl, rfl, ⟨by omega⟩, HI5, HF5⟩
  case round =>
    clear HI5 HF5
    obtain ⟨i, rfl, rfl, HG, HI, HF⟩ := hrel
    obtain ⟨wo, rfl⟩ : ∃ wo : World, wo = wr := ⟨_, rfl⟩
    by_cases hi : i < c
    · have hi1 : (i : Int) < (c : Int) := by omega
      have hi2 : (i : Int) ≤ 16 := by omega
      obtain ⟨mm, hm⟩ : ∃ mm, mm = n + i := ⟨_, rfl⟩
      have hm1 : mm < 8 * bs.length := by have := HN.out.1; omega
      have hm2 : mm ≤ 1125899906842624 := by have := HN.out.2; omega
      have HV := Aside0.mk (val_step bs n i mm hm (by omega))
      have hm3 : (mm : Int) ≤ 1125899906842624 := by omega
      have HII := HI.out
      rw [← hm] at HII
      obtain ⟨A, cc, x0, x1, x2, f1, f2, hC⟩ := HII.cells
      obtain ⟨q, hq⟩ : ∃ q : Nat, q = mm / 8 := ⟨_, rfl⟩
      obtain ⟨r, hr8⟩ : ∃ r : Nat, r = mm % 8 := ⟨_, rfl⟩
      have q1 : (q : Int) < (bs.length : Int) := by omega
      have q0 : (0 : Int) ≤ (q : Int) := by omega
      obtain ⟨ad, ea, hx⟩ := Kd.at_int hC (q : Int) q0 q1
      rw [Int.toNat_natCast] at hx
      subst ea
      have z2 : IntKind.i64.wrap ((mm : Int).tdiv 8) = (q : Int) := by rw [hq, Int.tdiv_eq_ediv_of_nonneg (by omega), IntKind.wrap_i64]; omega
      have z3 : (mm : Int).tmod 8 = (r : Int) := by rw [hr8, Int.tmod_eq_emod_of_nonneg (by omega)]; omega
      have z5 : IntKind.i64.wrap ((mm : Int) / 8) = (q : Int) := by rw [hq, IntKind.wrap_i64]; omega
      have z6 : (mm : Int) % 8 = (r : Int) := by rw [hr8]; omega
      have z4 : 0 ≤ (r : Int) := by omega
      have z7 : 0 ≤ (i : Int) := by omega
      have z9 : (r : Int) ≤ 7 := by omega
      have z8 : IntKind.u64.wrap (r : Int) = (r : Int) := by rw [IntKind.wrap_u64]; omega
      have z10 : IntKind.u64.wrap (i : Int) = (i : Int) := by rw [IntKind.wrap_u64]; omega
      have HQ := Aside0.mk (And.intro hq hr8)
      generalize hold : rd bs (q : Int) = old at hx
      have HOLD := Aside0.mk hold
      have HII' := Aside0.mk HII
      have HM := Aside0.mk hm
      have HH1 := Aside0.mk (And.intro hm1 hm2)
      clear hold hq hr8 HII hm hC hm1 hm2
      go_wp2_with fail
      go_quiet (fail)
      clear z2 z3 z4 z5 z6 z8 z10
      go_wp2_with fail
      have hval := HV.out
      rw [← HQ.out.1, ← HQ.out.2, HOLD.out] at hval
      obtain ⟨g', rfl⟩ : ∃ g', gk = g' + 1 := ⟨gk - 1, by have := HG.out; omega⟩
      go_roundg g'
      case measure => omega
      case rel =>
        refine ⟨i + 1, by go_num, by rw [← hval], ⟨by have := HG.out; omega⟩, ⟨?_⟩, ⟨(HF.out.drewN nq).setg 1 _⟩⟩
        have h9 := (HII'.out.drewN nq).count (mm + 1)
        rw [show n + (i + 1) = mm + 1 by have := HM.out; omega]
        exact h9
    · obtain rfl : i = c := by have := HG.out; omega
      clear HG
      go_wp2_with fail
      go_ret
      exact ⟨rfl, HI.out, HF.out⟩
end Go.Proofs.Ytihgekpijplfiaa.Xf
namespace Go.Proofs.Ytihgekpijplfiaa.Gs
set_option linter.unusedVariables false
open Go.RowKit Go.Proofs.YtihgekpijplfiaaW.PrintWords Go.Proofs.Ytihgekpijplfiaa.Rd Go.Proofs.Ytihgekpijplfiaa.Fr Go.Proofs.Ytihgekpijplfiaa.Rf Go.Proofs.Ytihgekpijplfiaa.Xf
/-- What is got, and the state behind it. -/
def getS (bs : List Int) (n : Nat) (bad : Bool) (c : Int) : Int × Nat × Bool :=
  if bad = true ∨ c < 0 ∨ 16 < c ∨ 8 * (bs.length : Int) - n < c then (0, n, true) else (valAt bs n c.toNat, n + c.toNat, false)
theorem getS_bad {bs : List Int} {n : Nat} {bad : Bool} {c : Int} (h : bad = true ∨ c < 0 ∨ 16 < c ∨ 8 * (bs.length : Int) - n < c) : getS bs n bad c = (0, n, true) := if_pos h
theorem getS_ok {bs : List Int} {n : Nat} {bad : Bool} {c : Int} (h : ¬ (bad = true ∨ c < 0 ∨ 16 < c ∨ 8 * (bs.length : Int) - n < c)) : getS bs n bad c = (valAt bs n c.toNat, n + c.toNat, false) := if_neg h
theorem getS_le (bs : List Int) (n : Nat) (bad : Bool) (c : Int) (hn : n ≤ 8 * bs.length) : (getS bs n bad c).2.1 ≤ 8 * bs.length := by
  by_cases h : bad = true ∨ c < 0 ∨ 16 < c ∨ 8 * (bs.length : Int) - n < c
  · rw [getS_bad h]; exact hn
  · rw [getS_ok h]
    show n + c.toNat ≤ _
    omega
theorem Get_R (lo g : Nat) (bs : List Int) (n : Nat) (bad : Bool) (c : Int) (hn : n ≤ 8 * bs.length) (hl : bs.length ≤ 140737488355328) (w : World) (hI : IsR lo w g bs n bad) :
    Calls Try.prog 28 #[.pointer (some ⟨g, 0, none⟩), .int .i64 c] w fun e w' => e = .returned (.int .i64 (getS bs n bad c).1) ∧ IsR lo w' g bs (getS bs n bad c).2.1 (getS bs n bad c).2.2 ∧ Fr w w' (fun i => i = g) := by
  by_cases h : bad = true ∨ c < 0 ∨ 16 < c ∨ 8 * (bs.length : Int) - n < c
  · rw [getS_bad h]
    exact Rf.Get_bad_fr lo g bs n bad c h hn hl w hI
  · rw [getS_ok h]
    have hb : bad = false := by cases bad <;> simp_all
    subst hb
    have h0 : 0 ≤ c := by omega
    obtain ⟨k, rfl⟩ := Int.eq_ofNat_of_zero_le h0
    exact Rf.Get_fr lo g bs n k (by omega) (by omega) hl w hI
theorem Get_X (lo g : Nat) (bs : List Int) (n : Nat) (bad : Bool) (c : Int) (hn : n ≤ 8 * bs.length) (hl : bs.length ≤ 140737488355328) (w : World) (hI : IsX lo w g bs n bad) :
    Calls Try.prog 33 #[.pointer (some ⟨g, 0, none⟩), .int .i64 c] w fun e w' => e = .returned (.int .i64 (getS bs n bad c).1) ∧ IsX lo w' g bs (getS bs n bad c).2.1 (getS bs n bad c).2.2 ∧ Fr w w' (fun i => i = g) := by
  by_cases h : bad = true ∨ c < 0 ∨ 16 < c ∨ 8 * (bs.length : Int) - n < c
  · rw [getS_bad h]
    exact Xf.Get_bad_fr lo g bs n bad c h hn hl w hI
  · rw [getS_ok h]
    have hb : bad = false := by cases bad <;> simp_all
    subst hb
    have h0 : 0 ≤ c := by omega
    obtain ⟨k, rfl⟩ := Int.eq_ofNat_of_zero_le h0
    exact Xf.Get_fr lo g bs n k (by omega) (by omega) hl w hI
theorem Bit_R (lo g : Nat) (bs : List Int) (n : Nat) (bad : Bool) (hn : n ≤ 8 * bs.length) (hl : bs.length ≤ 140737488355328) (w : World) (hI : IsR lo w g bs n bad) :
    Calls Try.prog 27 #[.pointer (some ⟨g, 0, none⟩)] w fun e w' => e = .returned (.int .i64 (getS bs n bad 1).1) ∧ IsR lo w' g bs (getS bs n bad 1).2.1 (getS bs n bad 1).2.2 ∧ Fr w w' (fun i => i = g) := by
  have HG := Aside0.mk (Get_R lo g bs n bad 1 hn hl w hI)
  clear hI hn hl
  generalize getS bs n bad 1 = s at *
  go_enter Try.func27, Try.ntmps27
  go_wp2_with fail
  refine HG.out.mono ?_
  rintro e w5 ⟨rfl, h1, h2⟩
  go_wp2_with fail
  go_ret
  exact ⟨rfl, h1, h2⟩
end Go.Proofs.Ytihgekpijplfiaa.Gs
namespace Go.Proofs.Ytihgekpijplfiaa.Hn
set_option linter.unusedVariables false
open Go.RowKit Go.Maps Go.Proofs.YtihgekpijplfiaaW.PrintWords Go.Proofs.YtihgekpijplfiaaW.PrintLast Go.Proofs.YtihgekpijplfiaaW.PrintMore Go.Proofs.Ytihgekpijplfiaa.Hp Go.Proofs.Ytihgekpijplfiaa.Rm Go.Proofs.Ytihgekpijplfiaa.Mp Go.Proofs.Ytihgekpijplfiaa.Fr Go.Proofs.Ytihgekpijplfiaa.Rf Go.Proofs.Ytihgekpijplfiaa.Gs Go.Proofs.Ytihgekpijplfiaa.Rd
/-- The sign that is read: d digits may still come; x is what was read so far. -/
def decS (ls bs : List Int) : Nat → Int → Nat → Bool → (Int × Bool) × Nat × Bool
  | 0, _, pos, bad => ((0, false), pos, bad)
  | d + 1, x, pos, bad =>
    if (getS bs pos bad 1).2.2 = true then ((0, false), (getS bs pos bad 1).2.1, true)
    else match lookS ls (2 * x + (getS bs pos bad 1).1) (15 - d) with
      | some t => (((t : Int), true), (getS bs pos bad 1).2.1, false)
      | none => decS ls bs d (2 * x + (getS bs pos bad 1).1) (getS bs pos bad 1).2.1 false
theorem look_run {W : World} {gm : Nat} {ls : List Int} (h : IsM W gm (ents ls 15)) (x : Int) (n : Nat) (hn : 0 < n) (hn2 : n ≤ 15) (hk : okKey (x, (n : Int))) :
    (Instr.lookup 91 (.map (some gm)) (.agg #[.int .i64 x, .int .i64 (n : Int)]) true).run Try.prog W = .ok (.tuple #[.int .i64 (match lookS ls x n with | some t => (t : Int) | none => 0), .bool (lookS ls x n).isSome]) W := by
  cases h1 : lookS ls x n with
  | none =>
    refine lookup_miss h (x, (n : Int)) hk (fun y hy e => ?_)
    obtain ⟨m, i, a1, a2, a3, a4, rfl⟩ := mem_ents.1 hy
    injection e with e1 e2
    have : m = n := by omega
    subst this
    have := lookS_of (c := x) hn a3 a4 e1
    rw [this] at h1
    cases h1
  | some t =>
    obtain ⟨b1, b2, b3⟩ := lookS_some h1
    refine lookup_hit h (x, (n : Int)) (t : Int) hk (mem_ents.2 ⟨n, t, hn, hn2, b1, b2, by rw [b3]⟩) (fun y hy e => ?_)
    obtain ⟨m, i, a1, a2, a3, a4, rfl⟩ := mem_ents.1 hy
    injection e with e1 e2
    have : m = n := by omega
    subst this
    have := codeOf_inj ls i t a3 b1 (by omega) (by rw [a4, b2]) (by omega)
    show (i : Int) = (t : Int)
    rw [this]
theorem getS_1 (bs : List Int) (pos : Nat) (bad : Bool) : 0 ≤ (getS bs pos bad 1).1 ∧ (getS bs pos bad 1).1 ≤ 1 := by
  by_cases h : bad = true ∨ (1 : Int) < 0 ∨ (16 : Int) < 1 ∨ 8 * (bs.length : Int) - pos < 1
  · rw [getS_bad h]; exact ⟨Int.le_refl 0, show (0 : Int) ≤ 1 by decide⟩
  · rw [getS_ok h]
    have hv := val_range bs pos 1
    have h2 : (2 : Int) ^ 1 = 2 := rfl
    rw [h2] at hv
    show 0 ≤ valAt bs pos (1 : Int).toNat ∧ valAt bs pos (1 : Int).toNat ≤ 1
    rw [show (1 : Int).toNat = 1 from rfl]
    omega
attribute [local go_sem ↓] Go.wp_at_zero Go.wp_at_succ
set_option maxHeartbeats 8000000 in
set_option maxRecDepth 100000 in
theorem Get_T (lo hi p rlo g : Nat) (ls bs : List Int) (pos : Nat) (bad : Bool) (hpos : pos ≤ 8 * bs.length) (hl : bs.length ≤ 140737488355328) (hok : okS ls = true) (w : World) (hT : IsT lo hi w p ls) (hI : IsR rlo w g bs pos bad) (hap : g < lo ∨ hi ≤ g) (hhi : hi ≤ w.heap.size) :
    Calls Try.prog 57 #[.pointer (some ⟨p, 0, none⟩), .pointer (some ⟨g, 0, none⟩)] w fun e w' => e = .returned (.tuple #[.int .i64 (decS ls bs 15 0 pos bad).1.1, .bool (decS ls bs 15 0 pos bad).1.2]) ∧ IsR rlo w' g bs (decS ls bs 15 0 pos bad).2.1 (decS ls bs 15 0 pos bad).2.2 ∧ Fr w w' (fun i => i = g) := by
  have HT := Aside0.mk hT
  have HI := Aside0.mk hI
  have HA := Aside0.mk (And.intro hap hhi)
  have HP := Aside0.mk (And.intro hpos hl)
  have HG := Aside0.mk hI.ge
  obtain ⟨D, hD⟩ : ∃ D, D = decS ls bs 15 0 pos bad := ⟨_, rfl⟩
  rw [← hD]
  have HD := Aside0.mk hD
  clear hT hI hap hhi hpos hl hok hD
  go_enter Try.func57, Try.ntmps57
  go_wp2_with fail
  obtain ⟨q, hq⟩ : ∃ q, q = w.heap.size := ⟨_, rfl⟩
  have HQ := Aside0.mk hq
  have HB0 := Aside0.mk (show (w.alloc (.cells #[.int .i64 0, .int .i64 0] 95)).heap[q]? = some (.cells #[.int .i64 0, .int .i64 ((0 : Nat) : Int)] 95 (0, 0)) by rw [hq]; exact heap_alloc_new w _)
  rw [← hq]
  clear hq
  have HI0 := Aside0.mk (HI.out.below (below_alloc (Below.refl _ _) (.cells #[.int .i64 0, .int .i64 0] 95)))
  have HF0 := Aside0.mk ((Fr.refl w (fun i => i = g)).alloc (.cells #[.int .i64 0, .int .i64 0] 95))
  go_loopg [4, 5, 7, 8] 15 (fun gk v4 v5 v7 v8 w' => ∃ (n : Nat) (x : Int) (pos : Nat) (bad : Bool), v4 = .int .i64 0 ∧ v5 = .bool false ∧ Aside0 (n + gk = 15 ∧ 0 ≤ x ∧ x < 2 ^ n ∧ pos ≤ 8 * bs.length ∧ D = decS ls bs gk x pos bad) ∧ Aside0 (w'.heap[q]? = some (.cells #[.int .i64 x, .int .i64 (n : Int)] 95 (0, 0))) ∧ Aside0 (IsR rlo w' g bs pos bad) ∧ Aside0 (Fr w w' (fun i => i = g)))
  case atStart => exact ⟨0, 0, pos, bad, rfl, rfl, ⟨rfl, Int.le_refl 0, by decide, HP.out.1, HD.out⟩, HB0, HI0, HF0⟩
  case round =>
    clear HI HI0 HF0 HB0
    obtain ⟨n, x, pos, bad, rfl, rfl, HK, HB, HI, HF⟩ := hrel
    obtain ⟨wo, rfl⟩ : ∃ wo : World, wo = wr := ⟨_, rfl⟩
    have c0 : wo.cell? ⟨q, 0, none⟩ = some (.int .i64 x) := (blk_cell HB.out 0).trans rfl
    have c1 : wo.cell? ⟨q, 1, none⟩ = some (.int .i64 (n : Int)) := (blk_cell HB.out 1).trans rfl
    by_cases hn : n < 15
    · obtain ⟨d, rfl⟩ : ∃ d, gk = d + 1 := ⟨gk - 1, by have := HK.out.1; omega⟩
      have hn1 : (n : Int) < 15 := by omega
      have hx : 0 ≤ x ∧ x ≤ 32768 := by
        have h := HK.out
        have h3 : ∀ n < 15, (2 : Int) ^ n ≤ 32768 := by decide +kernel
        have := h3 n hn
        omega
      obtain ⟨hx0, hx1⟩ := hx
      have hqg : ¬ q = g := by have := HQ.out; have := HG.out; omega
      have hs1 := getS_1 bs pos bad
      have hsl := getS_le bs pos bad 1 HK.out.2.2.2.1
      have HBIT := Aside0.mk (fun (W : World) (hI : IsR rlo W g bs pos bad) => Bit_R rlo g bs pos bad HK.out.2.2.2.1 HP.out.2 W hI)
      have HDD := HK.out.2.2.2.2
      rw [decS] at HDD
      generalize getS bs pos bad 1 = s at *
      obtain ⟨b, pos', bad'⟩ := s
      obtain ⟨hs2, hs3⟩ := hs1
      have HDE := Aside0.mk HDD
      have HSL := Aside0.mk hsl
      have hs2' : 0 ≤ b := hs2
      have hs3' : b ≤ 1 := hs3
      obtain ⟨y, hy⟩ : ∃ y, y = 2 * x + b := ⟨_, rfl⟩
      rw [← hy] at HDE
      have HY := Aside0.mk hy
      have z1 : IntKind.i64.wrap (2 * x) = 2 * x := IntWalk.i64_in _ (by omega)
      have z2 : IntKind.i64.wrap (2 * x + b) = y := by rw [hy]; exact IntWalk.i64_in _ (by omega)
      have z3 : IntKind.i64.wrap ((n : Int) + 1) = (n : Int) + 1 := IntWalk.i64_in _ (by omega)
      have HWF := Aside0.mk (show okKey (y, ((n + 1 : Nat) : Int)) from ⟨WalkArith.wf_i64 (by omega), WalkArith.wf_i64 (by omega)⟩)
      clear HDD hsl hs2 hs3 hn hy
      go_wp2_with fail
      go_region_with ((go_at_call 27; refine (HBIT.out _ (by exact HI.out)).mono ?_; rintro e w' ⟨rfl, hI, hF⟩; have hb' := (hF.blk q (blk_lt HB.out) hqg).trans HB.out; have c0' := hF.cell c0 hqg; have c1' := hF.cell c1 hqg; have f0' := blk_frozen hb' 0; have f1' := blk_frozen hb' 1))
      all_goals
        have H1 := Aside0.mk hI
        have H2 := Aside0.mk hF
        have H3 := Aside0.mk hb'
        clear z1 z2 z3 c0 c1 c0' c1' f0' f1' hI hF hb'
        obtain ⟨W2, hW2⟩ : ∃ W2, W2 = (w'.setCell ⟨q, 0, none⟩ (.int .i64 y)).setCell ⟨q, 1, none⟩ (.int .i64 ((n : Int) + 1)) := ⟨_, rfl⟩
        rw [← hW2]
        have hqq := show ¬ q = g from hqg
        have HF2 := Aside0.mk (show Fr w' W2 (fun i => i = q) by rw [hW2]; exact ((Fr.refl _ _).setg _ _).setg _ _)
        have HB2 := Aside0.mk (show W2.heap[q]? = some (.cells #[.int .i64 y, .int .i64 ((n + 1 : Nat) : Int)] 95 (0, 0)) by
          rw [hW2]
          exact (blk_set (blk_set H3.out 0 _) 1 _).trans rfl)
        have HI2 := Aside0.mk (show IsR rlo W2 g bs pos' bad' from H1.out.fr HF2.out (fun i hi => by have := HQ.out; have := HG.out; omega))
        have HF3 := Aside0.mk (show Fr w W2 (fun i => i = g) from (HF.out.drew.then_ H2.out).trans HF2.out (fun i hi => by have := HQ.out; omega))
        have HT2 := Aside0.mk (HT.out.fr HF3.out (fun i h1 h2 h3 => by have := HA.out.1; have h3 : i = g := h3; omega))
        clear hW2 H1 H2 H3
        go_wp2_with fail
        refine (Bad_fr rlo g bs pos' bad' _ HI2.out).mono ?_
        rintro e W2 ⟨rfl, rfl⟩
        have hbb : bad' = true ∨ bad' = false := by cases bad' <;> simp
        rcases hbb with rfl | rfl
        · go_wp2_with fail
          go_ret2
          have := HDE.out
          first | rw [if_pos rfl] at this | rw [if_pos trivial] at this
          rw [this]
          exact ⟨rfl, HI2.out, HF3.out⟩
        · have hDD := HDE.out
          first | rw [if_neg Bool.false_ne_true] at hDD | rw [if_neg not_false] at hDD
          rw [show 15 - d = n + 1 from by have := HK.out.1; omega] at hDD
          obtain ⟨gc, gm, a1, a2, a3, a4, a5, a6, t1, t2, t3⟩ := HT2.out
          have hlk := fun m => look_run (W := W2.drewN m) t3 y (n + 1) (by omega) (by have := HK.out.1; omega) HWF.out
          have hlk0 := look_run (W := W2) t3 y (n + 1) (by omega) (by have := HK.out.1; omega) HWF.out
          have hlk1 := look_run (W := W2.drew) t3 y (n + 1) (by omega) (by have := HK.out.1; omega) HWF.out
          rw [show ((n + 1 : Nat) : Int) = (n : Int) + 1 from rfl] at hlk0 hlk1
          simp only [show ((n + 1 : Nat) : Int) = (n : Int) + 1 from rfl] at hlk
          have b1 : W2.cell? ⟨p, 1, none⟩ = some (.map (some gm)) := (blk_cell t1 1).trans rfl
          have c0 : W2.cell? ⟨q, 0, none⟩ = some (.int .i64 y) := (blk_cell HB2.out 0).trans rfl
          have c1 : W2.cell? ⟨q, 1, none⟩ = some (.int .i64 ((n : Int) + 1)) := (blk_cell HB2.out 1).trans rfl
          cases hL : lookS ls y (n + 1) with
          | some t =>
            rw [hL] at hDD hlk0 hlk1
            simp only [hL] at hlk
            have HDF := Aside0.mk hDD
            simp only [Option.isSome_some] at hlk hlk0 hlk1
            clear hDD a1 a2 a3 a4 a5 a6 t1 t2 t3 hL
            go_wp2_with fail
            go_quiet (fail)
            go_wp2_with fail
            go_ret2
            rw [HDF.out]
            exact ⟨rfl, HI2.out, HF3.out.drewN _⟩
          | none =>
            rw [hL] at hDD hlk0 hlk1
            simp only [hL] at hlk
            have HDF := Aside0.mk hDD
            simp only [Option.isSome_none] at hlk hlk0 hlk1
            clear hDD a1 a2 a3 a4 a5 a6 t1 t2 t3 hL
            go_wp2_with fail
            go_quiet (fail)
            clear b1 c0 c1 hlk hlk0 hlk1
            go_wp2_with fail
            go_roundg d
            case measure => omega
            case rel =>
              refine ⟨n + 1, y, pos', false, rfl, rfl, ⟨by have := HK.out.1; omega, ?_, ?_, HSL.out, HDF.out⟩, HB2, HI2, ⟨HF3.out.drewN _⟩⟩
              · have := HY.out; omega
              · have h1 := HK.out.2.2.1
                have h2 := HY.out
                rw [Int.pow_succ]
                generalize (2 : Int) ^ n = P at *
                omega
    · obtain rfl : n = 15 := by have := HK.out.1; omega
      obtain rfl : gk = 0 := by have := HK.out.1; omega
      go_wp2_with fail
      go_ret2
      rw [HK.out.2.2.2.2]
      exact ⟨rfl, HI.out, HF.out⟩
end Go.Proofs.Ytihgekpijplfiaa.Hn
namespace Go.Proofs.Ytihgekpijplfiaa.Hb
set_option linter.unusedVariables false
open Go.RowKit Go.Proofs.YtihgekpijplfiaaW.PrintWords Go.Proofs.Ytihgekpijplfiaa.Hp Go.Proofs.Ytihgekpijplfiaa.Rm Go.Proofs.Ytihgekpijplfiaa.Rf Go.Proofs.Ytihgekpijplfiaa.Rd Go.Proofs.Ytihgekpijplfiaa.Wr Go.Proofs.Ytihgekpijplfiaa.Pack Go.Proofs.Ytihgekpijplfiaa.Gs Go.Proofs.Ytihgekpijplfiaa.Hn Go.Proofs.Ytihgekpijplfiaa.Dig
/-- The digits of signs. -/
def dsOf (ls : List Int) (ps : List Nat) : List Int := ps.flatMap (fun s => highD (codeOf ls s : Int) (lenOf ls s))
theorem dsOf_snoc (ls : List Int) (ps : List Nat) (s : Nat) : dsOf ls (ps ++ [s]) = dsOf ls ps ++ highD (codeOf ls s : Int) (lenOf ls s) := by simp [dsOf]
theorem dsOf_01 (ls : List Int) : ∀ ps : List Nat, Bits01 (dsOf ls ps)
  | [] => fun d hd => by simp [dsOf] at hd
  | s :: ps => by
    have h : dsOf ls (s :: ps) = highD (codeOf ls s : Int) (lenOf ls s) ++ dsOf ls ps := by simp [dsOf]
    rw [h]
    exact (highD_01 _ _).app (dsOf_01 ls ps)
theorem dsOf_at (ls : List Int) (ps : List Nat) (i : Nat) (hi : i < ps.length) :
    dsOf ls ps = dsOf ls (ps.take i) ++ (highD (codeOf ls ps[i] : Int) (lenOf ls ps[i]) ++ dsOf ls (ps.drop (i + 1))) := by
  have h1 : ps = ps.take i ++ (ps[i] :: ps.drop (i + 1)) := by
    rw [← List.drop_eq_getElem_cons hi, List.take_append_drop]
  have h2 : dsOf ls (ps.take i ++ (ps[i] :: ps.drop (i + 1))) = dsOf ls (ps.take i) ++ (highD (codeOf ls ps[i] : Int) (lenOf ls ps[i]) ++ dsOf ls (ps.drop (i + 1))) := by
    unfold dsOf
    rw [List.flatMap_append, List.flatMap_cons]
  rw [← h1] at h2
  exact h2
theorem dsOf_get (ls : List Int) (ps : List Nat) (i j : Nat) (hi : i < ps.length) (hj : j < lenOf ls ps[i]) :
    (dsOf ls ps).getD ((dsOf ls (ps.take i)).length + j) 0 = (codeOf ls ps[i] : Int) / 2 ^ (lenOf ls ps[i] - 1 - j) % 2 := by
  rw [dsOf_at ls ps i hi, List.getD_eq_getElem?_getD, List.getElem?_append_right (by omega), Nat.add_sub_cancel_left, List.getElem?_append_left (by rw [highD_length]; exact hj)]
  simp [highD, hj]
theorem dsOf_len (ls : List Int) (ps : List Nat) (i : Nat) (hi : i < ps.length) : (dsOf ls (ps.take (i + 1))).length = (dsOf ls (ps.take i)).length + lenOf ls ps[i] := by
  rw [List.take_succ_eq_append_getElem hi, dsOf_snoc, List.length_append, highD_length]
theorem dsOf_le (ls : List Int) (ps : List Nat) (i : Nat) (hi : i ≤ ps.length) : (dsOf ls (ps.take i)).length ≤ (dsOf ls ps).length := by
  have h : dsOf ls (ps.take i ++ ps.drop i) = dsOf ls (ps.take i) ++ dsOf ls (ps.drop i) := by
    unfold dsOf
    rw [List.flatMap_append]
  rw [List.take_append_drop] at h
  rw [h, List.length_append]
  omega
theorem dec_go (ls bs : List Int) (hok : okS ls = true) (s : Nat) (hs : s < ls.length) (hl : 0 < ls.getD s 0) (pos : Nat)
    (hg : ∀ j, j < lenOf ls s → getS bs (pos + j) false 1 = ((codeOf ls s : Int) / 2 ^ (lenOf ls s - 1 - j) % 2, pos + j + 1, false)) :
    ∀ e j, j + (e + 1) = lenOf ls s → decS ls bs (15 - j) ((codeOf ls s : Int) / 2 ^ (lenOf ls s - j)) (pos + j) false = (((s : Int), true), pos + lenOf ls s, false) := by
  have hin := okS_inR hok
  have hr := inR_get hin.1 s hs
  have he : ls.getD s 0 = ((lenOf ls s : Nat) : Int) := by unfold lenOf; omega
  have h15 : lenOf ls s ≤ 15 := by omega
  have hstep : ∀ j, j < lenOf ls s → 2 * ((codeOf ls s : Int) / 2 ^ (lenOf ls s - j)) + (codeOf ls s : Int) / 2 ^ (lenOf ls s - 1 - j) % 2 = (codeOf ls s : Int) / 2 ^ (lenOf ls s - (j + 1)) := by
    intro j hj
    have e1 : lenOf ls s - j = (lenOf ls s - (j + 1)) + 1 := by omega
    have e2 : lenOf ls s - 1 - j = lenOf ls s - (j + 1) := by omega
    rw [e2, e1, Int.pow_succ, ← Int.ediv_ediv_of_nonneg (Int.le_of_lt (Int.pow_pos (by decide)))]
    generalize (codeOf ls s : Int) / 2 ^ (lenOf ls s - (j + 1)) = q
    omega
  intro e
  induction e with
  | zero =>
    intro j h
    rw [show 15 - j = (14 - j) + 1 by omega, decS, hg j (by omega)]
    simp only
    rw [if_neg Bool.false_ne_true, hstep j (by omega), show lenOf ls s - (j + 1) = 0 by omega, show 15 - (14 - j) = j + 1 by omega]
    rw [show (codeOf ls s : Int) / 2 ^ 0 = (codeOf ls s : Int) by simp]
    have h9 := lookS_of (ls := ls) (c := (codeOf ls s : Int)) (n := j + 1) (s := s) (by omega) hs (by rw [he]; omega) rfl
    rw [h9]
    simp only
    rw [show pos + j + 1 = pos + lenOf ls s by omega]
  | succ e ih =>
    intro j h
    rw [show 15 - j = (14 - j) + 1 by omega, decS, hg j (by omega)]
    simp only
    rw [if_neg Bool.false_ne_true, hstep j (by omega), show 15 - (14 - j) = j + 1 by omega]
    have hn : lookS ls ((codeOf ls s : Int) / 2 ^ (lenOf ls s - (j + 1))) (j + 1) = none := by
      apply lookS_none
      intro t ht h1 h2
      have hlt : lenOf ls t = j + 1 := by unfold lenOf; omega
      have c1 := codeOf_lt ls t ht (by omega)
      have c2 := prefix_free ls s (j + 1) (by omega)
      rw [hlt] at c1
      have e3 : (codeOf ls s : Int) / 2 ^ (lenOf ls s - (j + 1)) = ((codeOf ls s / 2 ^ (lenOf ls s - (j + 1)) : Nat) : Int) := by
        rw [Int.natCast_ediv, Int.natCast_pow]
        rfl
      rw [e3] at h2
      omega
    rw [hn]
    simp only
    rw [show 14 - j = 15 - (j + 1) by omega, show pos + j + 1 = pos + (j + 1) by omega]
    exact ih (j + 1) (by omega)
/-- A sign is read as it was written. -/
theorem dec_back (ls : List Int) (hok : okS ls = true) (ps : List Nat) (hps : ∀ s ∈ ps, s < ls.length ∧ 0 < ls.getD s 0) (i : Nat) (hi : i < ps.length) (hlen : (dsOf ls ps).length ≤ 1000000) :
    decS ls (packB (dsOf ls ps)) 15 0 (dsOf ls (ps.take i)).length false = (((ps[i] : Int), true), (dsOf ls (ps.take (i + 1))).length, false) := by
  have hm := hps _ (List.getElem_mem hi)
  have hin := okS_inR hok
  have hr := inR_get hin.1 _ hm.1
  have hl1 : 1 ≤ lenOf ls ps[i] := by unfold lenOf; omega
  have hle := dsOf_le ls ps (i + 1) (by omega)
  rw [dsOf_len ls ps i hi] at hle ⊢
  have h := dec_go ls (packB (dsOf ls ps)) hok ps[i] hm.1 hm.2 (dsOf ls (ps.take i)).length (fun j hj => by
    have hpl := packB_length (dsOf ls ps)
    rw [getS_ok (by
      rintro (h | h | h | h)
      · cases h
      · omega
      · omega
      · rw [hpl] at h; omega)]
    have e : valAt (packB (dsOf ls ps)) ((dsOf ls (ps.take i)).length + j) (1 : Int).toNat = bitAt (packB (dsOf ls ps)) ((dsOf ls (ps.take i)).length + j) := by
      show valAt _ _ 1 = _
      rw [val_bits]
      simp [pk]
    rw [e, bit_pack _ (dsOf_01 ls ps), dsOf_get ls ps i j hi hj]
    rfl) (lenOf ls ps[i] - 1) 0 (by omega)
  rw [Nat.sub_zero, Nat.sub_zero, Nat.add_zero] at h
  have e0 : (codeOf ls ps[i] : Int) / 2 ^ (lenOf ls ps[i]) = 0 := by
    apply Int.ediv_eq_zero_of_lt (by omega)
    have c1 := codeOf_lt ls ps[i] hm.1 hm.2
    have hk : krf ls 15 ≤ 32768 := by
      unfold okS at hok
      simp only [Bool.and_eq_true, Bool.or_eq_true, decide_eq_true_eq] at hok
      rcases hok.2 with (h | h) | h
      · have := krf_nz ls 15 h; omega
      · omega
      · omega
    have c2 := nxt_le ls (lenOf ls ps[i]) (by unfold lenOf; omega) hk
    have : ((2 : Int) ^ (lenOf ls ps[i])) = ((2 ^ (lenOf ls ps[i]) : Nat) : Int) := by rw [Int.natCast_pow]; rfl
    omega
  rw [e0] at h
  exact h
end Go.Proofs.Ytihgekpijplfiaa.Hb
namespace Go.Proofs.Ytihgekpijplfiaa.Hl
set_option linter.unusedVariables false
open Go.RowKit Go.Proofs.YtihgekpijplfiaaW.PrintWords Go.Proofs.YtihgekpijplfiaaW.PrintLast Go.Proofs.YtihgekpijplfiaaW.PrintMore Go.Proofs.Ytihgekpijplfiaa.PHuffCodes Go.Proofs.Ytihgekpijplfiaa.Hp Go.Proofs.Ytihgekpijplfiaa.Rm Go.Proofs.Ytihgekpijplfiaa.Rf Go.Proofs.Ytihgekpijplfiaa.Hn
theorem withinC (a m : Int) (h0 : -9223372036854775808 ≤ a) (h1 : a ≤ 9223372036854775807) (hm0 : 1 ≤ m) (hm1 : m ≤ 9223372036854775807) : PHuffCodes.florilegiumkeep_Within.f a m = some (a % m) := within_ok a m h0 h1 hm0 hm1
def pw (l : Int) : Nat := 2 ^ (15 - l.toNat)
def sm (xs : List Int) : Nat := (xs.map pw).sum
theorem sm_cons (l : Int) (xs : List Int) : sm (l :: xs) = pw l + sm xs := by simp [sm]
theorem sm_app (xs ys : List Int) : sm (xs ++ ys) = sm xs + sm ys := by simp [sm]
theorem sm_set : ∀ (xs : List Int) (j : Nat) (a : Int), j < xs.length → sm (xs.set j a) + pw (xs.getD j 0) = sm xs + pw a
  | [], _, _, h => by simp at h
  | x :: xs, 0, a, _ => by
    rw [List.set_cons_zero, sm_cons, sm_cons]
    simp only [List.getD_cons_zero]
    omega
  | x :: xs, j + 1, a, h => by
    have ih := sm_set xs j a (by simpa using h)
    rw [List.set_cons_succ, sm_cons, sm_cons, List.getD_cons_succ]
    omega
theorem pw_pos (l : Int) : 1 ≤ pw l := Nat.one_le_two_pow
theorem pw_half (l : Int) (h0 : 0 ≤ l) (h1 : l < 15) : pw (l + 1) + pw (l + 1) = pw l := by
  unfold pw
  have e : 15 - l.toNat = (15 - (l + 1).toNat) + 1 := by omega
  rw [e, Nat.pow_succ]
  omega
theorem sm_len : ∀ xs : List Int, xs.length ≤ sm xs
  | [] => Nat.zero_le _
  | l :: xs => by
    have := sm_len xs
    have := pw_pos l
    rw [sm_cons, List.length_cons]
    omega
theorem sm_mem : ∀ (xs : List Int) (l : Int), l ∈ xs → pw l + xs.length ≤ sm xs + 1
  | [], _, h => by simp at h
  | x :: xs, l, h => by
    rw [sm_cons, List.length_cons]
    rcases List.mem_cons.1 h with rfl | h
    · have := sm_len xs; omega
    · have := sm_mem xs l h
      have := pw_pos x
      omega
theorem gK_pw (l : Int) (h0 : 1 ≤ l) (h1 : l ≤ 15) : gK 15 l = pw l := by
  unfold gK
  rw [if_pos ⟨h0, h1⟩]
  rfl
theorem gK_0 : gK 15 0 = 0 := by kernel_rfl
theorem krf_sm : ∀ xs : List Int, (∀ l ∈ xs, 1 ≤ l ∧ l ≤ 15) → krf xs 15 = sm xs
  | [], _ => rfl
  | x :: xs, h => by
    have hx := h x List.mem_cons_self
    rw [krf_cons, sm_cons, gK_pw x hx.1 hx.2, krf_sm xs (fun l hl => h l (List.mem_cons_of_mem _ hl))]
theorem inR_app (a b : List Int) : inR (a ++ b) = (inR a && inR b) := by simp [inR]
theorem rd_mem (xs : List Int) (i : Nat) (hi : i < xs.length) : rd xs (i : Int) ∈ xs := by
  rw [rd_getD, List.getD_eq_getElem?_getD, List.getElem?_eq_getElem hi]
  exact List.getElem_mem hi
/-- What the rows are set with: the signs' lengths, and none between. -/
def Q (x8 xs r : List Int) : Prop := krf r 15 = krf x8 15 + krf xs 15 ∧ nz r = nz x8 + nz xs ∧ (inR x8 = true → inR xs = true → inR r = true) ∧ r.length ≤ x8.length + 2 * xs.length ∧ x8.length + xs.length ≤ r.length
theorem Q_step {x8 : List Int} {x : Int} {xs r z : List Int} (hz : z = [] ∨ z = [0]) (h : Q (x8 ++ z ++ [x]) xs r) : Q x8 (x :: xs) r := by
  obtain ⟨h1, h2, h3, h4, h5⟩ := h
  have e1 : krf (x8 ++ z ++ [x]) 15 = krf x8 15 + gK 15 x := by
    rw [krf_snoc]
    rcases hz with rfl | rfl
    · rw [List.append_nil]
    · rw [krf_snoc, gK_0]; omega
  have e2 : nz (x8 ++ z ++ [x]) = nz x8 + (if 0 < x then 1 else 0) := by
    rw [nz_snoc]
    rcases hz with rfl | rfl
    · rw [List.append_nil]
    · rw [nz_snoc]; rfl
  have e3 : (x8 ++ z ++ [x]).length ≤ x8.length + 2 ∧ x8.length + 1 ≤ (x8 ++ z ++ [x]).length := by
    rcases hz with rfl | rfl
    · simp
    · simp
  refine ⟨by rw [h1, e1, krf_cons]; omega, by rw [h2, e2, nz_cons]; omega, fun a b => h3 ?_ ?_, by rw [List.length_cons]; omega, by rw [List.length_cons]; omega⟩
  · have hx : inR [x] = true := by
      have : inR (x :: xs) = (inR [x] && inR xs) := inR_app [x] xs
      rw [this, Bool.and_eq_true] at b
      exact b.1
    rw [inR_app, hx, inR_app, a]
    rcases hz with rfl | rfl <;> rfl
  · have : inR (x :: xs) = (inR [x] && inR xs) := inR_app [x] xs
    rw [this, Bool.and_eq_true] at b
    exact b.2
theorem drop_rd (xs : List Int) (i : Nat) (hi : i < xs.length) : xs.drop i = rd xs (i : Int) :: xs.drop (i + 1) := by
  rw [List.drop_eq_getElem_cons hi, rd_getD, List.getD_eq_getElem?_getD, List.getElem?_eq_getElem hi]
  rfl
theorem full_l1 (g xs : List Int) (hg : ∀ x ∈ g, -9223372036854775808 ≤ x ∧ x ≤ 9223372036854775807) (hl : xs.length ≤ 41) : ∀ d i x8, i + d = xs.length → x8.length ≤ 2 * i →
    ∃ r, Ev (fun k => florilegiumlaw03_Full.l1 k g x8 xs (xs.length : Int) (i : Int)) r ∧ Q x8 (xs.drop i) r
  | 0, i, x8, h, h8 => by
    obtain rfl : i = xs.length := by omega
    refine ⟨x8, Ev.step (f := fun _ => some x8) (fun k => ?_) (Ev.now _), ?_⟩
    · simp only [florilegiumlaw03_Full.l1]
      rw [if_neg (by omega)]
    · rw [List.drop_length]
      exact ⟨by simp [krf], by simp [nz], fun a _ => a, by simp, by simp⟩
  | d + 1, i, x8, h, h8 => by
    have hi : i < xs.length := by omega
    have t1 : wrap64 ((i : Int) + 1) = ((i + 1 : Nat) : Int) := by unfold wrap64; omega
    rw [drop_rd xs i hi]
    by_cases hgi : i < g.length
    · have hb := hg _ (rd_mem g i hgi)
      have hm0 := Int.emod_nonneg (rd g (i : Int)) (show (4 : Int) ≠ 0 by decide)
      have hm1 := Int.emod_lt_of_pos (rd g (i : Int)) (show (0 : Int) < 4 by decide)
      by_cases h3 : rd g (i : Int) % 4 > 2
      · obtain ⟨r, hr, hq⟩ := full_l1 g xs hg hl d (i + 1) (x8 ++ [0] ++ [rd xs (i : Int)]) (by omega) (by simp; omega)
        refine ⟨r, ?_, Q_step (Or.inr rfl) hq⟩
        refine Ev.step (f := fun k => florilegiumlaw03_Full.l2 k g x8 (rd xs (i : Int)) (rd g (i : Int) % 4) xs (xs.length : Int) (i : Int)) (fun k => ?_) ?_
        · simp only [florilegiumlaw03_Full.l1]
          rw [if_pos (by omega), if_pos (by omega), if_pos (by omega), if_pos (by omega), withinC _ _ hb.1 hb.2 (by decide) (by decide)]
          rfl
        · refine Ev.step (f := fun k => florilegiumlaw03_Full.l2 k g (x8 ++ [0]) (rd xs (i : Int)) (wrap64 (rd g (i : Int) % 4 - 1)) xs (xs.length : Int) (i : Int)) (fun k => ?_) ?_
          · simp only [florilegiumlaw03_Full.l2]
            rw [if_pos h3, if_pos (by omega)]
          · refine Ev.step (fun k => ?_) hr
            simp only [florilegiumlaw03_Full.l2]
            have t3 : ¬ wrap64 (rd g (i : Int) % 4 - 1) > 2 := by unfold wrap64; omega
            rw [if_neg t3, if_pos (by simp; omega), t1]
      · obtain ⟨r, hr, hq⟩ := full_l1 g xs hg hl d (i + 1) (x8 ++ [] ++ [rd xs (i : Int)]) (by omega) (by simp; omega)
        refine ⟨r, ?_, Q_step (Or.inl rfl) hq⟩
        rw [List.append_nil] at hr
        refine Ev.step (f := fun k => florilegiumlaw03_Full.l2 k g x8 (rd xs (i : Int)) (rd g (i : Int) % 4) xs (xs.length : Int) (i : Int)) (fun k => ?_) ?_
        · simp only [florilegiumlaw03_Full.l1]
          rw [if_pos (by omega), if_pos (by omega), if_pos (by omega), if_pos (by omega), withinC _ _ hb.1 hb.2 (by decide) (by decide)]
          rfl
        · refine Ev.step (fun k => ?_) hr
          simp only [florilegiumlaw03_Full.l2]
          rw [if_neg h3, if_pos (by omega), t1]
    · obtain ⟨r, hr, hq⟩ := full_l1 g xs hg hl d (i + 1) (x8 ++ [] ++ [rd xs (i : Int)]) (by omega) (by simp; omega)
      refine ⟨r, ?_, Q_step (Or.inl rfl) hq⟩
      rw [List.append_nil] at hr
      refine Ev.step (fun k => ?_) hr
      simp only [florilegiumlaw03_Full.l1]
      rw [if_pos (by omega), if_pos (by omega), if_pos (by omega), if_neg (by omega), if_pos (by omega), t1]
/-- What Full answers. -/
def FullP (r : List Int) : Prop := okS r = true ∧ 1 ≤ r.length ∧ r.length ≤ 82
theorem full_j2 (g xs : List Int) (hg : ∀ x ∈ g, -9223372036854775808 ≤ x ∧ x ≤ 9223372036854775807) (hl : xs.length ≤ 41) (h1 : 1 ≤ xs.length) (hr : ∀ l ∈ xs, 1 ≤ l ∧ l ≤ 15) (hs : xs = [1] ∨ sm xs = 32768) :
    ∃ r, Ev (fun k => florilegiumlaw03_Full.j2 k g xs) r ∧ FullP r := by
  obtain ⟨r, hr1, q1, q2, q3, q4, q5⟩ := full_l1 g xs hg hl xs.length 0 [] (by omega) (by simp)
  rw [List.drop_zero] at q1 q2 q3 q4 q5
  refine ⟨r, Ev.step (fun k => ?_) hr1, ?_, by simp at q5; omega, by simp at q4; omega⟩
  · simp only [florilegiumlaw03_Full.j2]
    rfl
  · have hin : inR r = true := q3 rfl (by
      unfold inR
      rw [List.all_eq_true]
      intro l hl
      have := hr l hl
      exact decide_eq_true ⟨by omega, this.2⟩)
    have e0 : krf ([] : List Int) 15 = 0 := rfl
    have e1 : nz ([] : List Int) = 0 := rfl
    rw [krf_sm xs hr, e0] at q1
    rw [e1] at q2
    have h320 : decide (r.length ≤ 320) = true := decide_eq_true (by simp at q4; omega)
    unfold okS
    rw [hin, h320]
    rcases hs with rfl | hs
    · have e2 : sm [1] = 16384 := rfl
      have e3 : nz [1] = 1 := rfl
      rw [q1, q2, e2, e3]
      rfl
    · rw [q1, hs]
      simp
theorem full_end (s g x5 : List Int) (i : Int) (hg : ∀ x ∈ g, -9223372036854775808 ≤ x ∧ x ≤ 9223372036854775807) (hl : x5.length ≤ 41) (h1 : 1 ≤ x5.length) (hr : ∀ l ∈ x5, 0 ≤ l ∧ l ≤ 15) (hs : sm x5 = 32768) :
    ∃ r, Ev (fun k => florilegiumlaw03_Full.j1 k s g x5 i false) r ∧ FullP r := by
  by_cases h : x5.length = 1
  · obtain ⟨r, hr1, hp⟩ := full_j2 g [1] hg (by simp) (by simp) (by simp) (Or.inl rfl)
    refine ⟨r, Ev.step (fun k => ?_) hr1, hp⟩
    simp only [florilegiumlaw03_Full.j1]
    rw [if_neg Bool.false_ne_true, if_pos (by omega), if_pos (by omega)]
    obtain ⟨a, rfl⟩ := List.length_eq_one_iff.1 h
    rfl
  · obtain ⟨r, hr1, hp⟩ := full_j2 g x5 hg hl h1 (fun l hm => by
      have := hr l hm
      have h2 := sm_mem x5 l hm
      refine ⟨?_, this.2⟩
      rcases (show l = 0 ∨ 1 ≤ l by omega) with rfl | h3
      · have e : pw 0 = 32768 := rfl
        omega
      · exact h3) (Or.inr hs)
    refine ⟨r, Ev.step (fun k => ?_) hr1, hp⟩
    simp only [florilegiumlaw03_Full.j1]
    rw [if_neg Bool.false_ne_true, if_neg (by omega)]
theorem getD_memD (xs : List Int) (i : Nat) (hi : i < xs.length) : xs.getD i 0 ∈ xs := by
  rw [← rd_getD]
  exact rd_mem xs i hi
theorem full_l0 (s g : List Int) (hs64 : ∀ x ∈ s, -9223372036854775808 ≤ x ∧ x ≤ 9223372036854775807) (hg : ∀ x ∈ g, -9223372036854775808 ≤ x ∧ x ≤ 9223372036854775807) : ∀ (d i : Nat) (x5 : List Int), i + d = 40 → x5.length ≤ i + 1 → 1 ≤ x5.length → (∀ l ∈ x5, 0 ≤ l ∧ l ≤ 15) → sm x5 = 32768 →
    ∃ r, Ev (fun k => florilegiumlaw03_Full.l0 k s g x5 (i : Int)) r ∧ FullP r
  | 0, i, x5, h, hl, h1, hr, hs => by
    obtain ⟨r, hr1, hp⟩ := full_end s g x5 (i : Int) hg (by omega) h1 hr hs
    refine ⟨r, Ev.step (fun k => ?_) hr1, hp⟩
    simp only [florilegiumlaw03_Full.l0]
    rw [show decide ((i : Int) < 40) = false from decide_eq_false (by omega)]
    by_cases c : (i : Int) < (s.length : Int)
    · rw [if_pos c]
    · rw [if_neg c]
  | d + 1, i, x5, h, hl, h1, hr, hs => by
    by_cases c : (i : Int) < (s.length : Int)
    · have hb := hs64 _ (rd_mem s i (by omega))
      have hm0 := Int.emod_nonneg (rd s (i : Int)) (show ((x5.length : Int)) ≠ 0 by omega)
      have hm1 := Int.emod_lt_of_pos (rd s (i : Int)) (show (0 : Int) < (x5.length : Int) by omega)
      obtain ⟨t, ht⟩ := Int.eq_ofNat_of_zero_le hm0
      have htl : t < x5.length := by omega
      have t1 : wrap64 ((i : Int) + 1) = ((i + 1 : Nat) : Int) := by unfold wrap64; omega
      have hx := hr _ (getD_memD x5 t htl)
      by_cases h15 : x5.getD t 0 < 15
      · have e1 : wrap64 (x5.getD t 0 + 1) = x5.getD t 0 + 1 := by unfold wrap64; omega
        have e2 : rd (x5.set t (x5.getD t 0 + 1)) (t : Int) = x5.getD t 0 + 1 := by
          rw [rd_getD, List.getD_eq_getElem?_getD, List.getElem?_set_self (by omega)]
          rfl
        have hsm := sm_set x5 t (x5.getD t 0 + 1) htl
        have hph := pw_half _ hx.1 h15
        obtain ⟨r, hr1, hp⟩ := full_l0 s g hs64 hg d (i + 1) (x5.set t (x5.getD t 0 + 1) ++ [x5.getD t 0 + 1]) (by omega) (by simp; omega) (by simp) (by
          intro l hl
          rcases List.mem_append.1 hl with hl | hl
          · rcases List.mem_or_eq_of_mem_set hl with hl | rfl
            · exact hr l hl
            · omega
          · rw [List.mem_singleton] at hl
            omega) (by
          rw [sm_app]
          have : sm [x5.getD t 0 + 1] = pw (x5.getD t 0 + 1) := by simp [sm]
          omega)
        refine ⟨r, ?_, hp⟩
        refine Ev.step (f := fun k => florilegiumlaw03_Full.j1 k s g x5 (i : Int) true) (fun k => ?_) ?_
        · simp only [florilegiumlaw03_Full.l0]
          rw [if_pos c, show decide ((i : Int) < 40) = true from decide_eq_true (by omega)]
        · refine Ev.step (fun k => ?_) hr1
          simp only [florilegiumlaw03_Full.j1]
          rw [if_pos trivial, if_pos (by omega), if_pos c, withinC _ _ hb.1 hb.2 (by omega) (by omega), ht]
          simp only [Option.bind_some]
          rw [if_pos (by omega), if_pos (by omega), rd_getD, if_pos h15, Int.toNat_natCast, e1, if_pos (by rw [List.length_set]; omega), e2, t1]
      · obtain ⟨r, hr1, hp⟩ := full_l0 s g hs64 hg d (i + 1) x5 (by omega) (by omega) h1 hr hs
        refine ⟨r, ?_, hp⟩
        refine Ev.step (f := fun k => florilegiumlaw03_Full.j1 k s g x5 (i : Int) true) (fun k => ?_) ?_
        · simp only [florilegiumlaw03_Full.l0]
          rw [if_pos c, show decide ((i : Int) < 40) = true from decide_eq_true (by omega)]
        · refine Ev.step (fun k => ?_) hr1
          simp only [florilegiumlaw03_Full.j1]
          rw [if_pos trivial, if_pos (by omega), if_pos c, withinC _ _ hb.1 hb.2 (by omega) (by omega), ht]
          simp only [Option.bind_some]
          rw [if_pos (by omega), if_pos (by omega), rd_getD, if_neg h15, t1]
    · obtain ⟨r, hr1, hp⟩ := full_end s g x5 (i : Int) hg (by omega) h1 hr hs
      refine ⟨r, Ev.step (fun k => ?_) hr1, hp⟩
      simp only [florilegiumlaw03_Full.l0]
      rw [if_neg c]
theorem Full_ev (s g : List Int) (hs64 : ∀ x ∈ s, -9223372036854775808 ≤ x ∧ x ≤ 9223372036854775807) (hg : ∀ x ∈ g, -9223372036854775808 ≤ x ∧ x ≤ 9223372036854775807) :
    ∃ r, Ev (fun k => florilegiumlaw03_Full.f k s g) r ∧ FullP r := full_l0 s g hs64 hg 40 0 [0] rfl (by simp) (by simp) (by simp) rfl
theorem Full_calls (A0 A1 : Option Addr) (c0 c1 : Nat) (s g : List Int) (w : World) (hr0 : Kd.C (Kd.int .i64) w A0 s.length s) (hc0 : s.length ≤ c0) (hr1 : Kd.C (Kd.int .i64) w A1 g.length g) (hc1 : g.length ≤ c1)
    (hs64 : ∀ x ∈ s, -9223372036854775808 ≤ x ∧ x ≤ 9223372036854775807) (hg : ∀ x ∈ g, -9223372036854775808 ≤ x ∧ x ≤ 9223372036854775807) :
    Calls Try.prog 59 #[.slice A0 s.length c0, .slice A1 g.length c1] w fun e w' => ∃ v r, e = .returned v ∧ FullP r ∧ Kd.R (Kd.int .i64) 3 w' w.heap.size (fun _ => True) v r ∧ Below w.heap.size w w' := by
  obtain ⟨r, hr, hp⟩ := Full_ev s g hs64 hg
  obtain ⟨k, hk⟩ := hr.rounds
  refine (florilegiumlaw03_Full.calls k A0 c0 s A1 c1 g r w hr0 hc0 hr1 hc1 hk).mono ?_
  rintro e w' ⟨v, rfl, hR, hB⟩
  exact ⟨v, r, rfl, hp, hR, hB⟩
theorem lens_l0 (g : List Int) (hg : ∀ x ∈ g, -9223372036854775808 ≤ x ∧ x ≤ 9223372036854775807) (hl : g.length ≤ 17592186044416) : ∀ (d i : Nat) (x : List Int), i + d = g.length → x.length ≤ i →
    ∃ r, Ev (fun k => florilegiumlaw03_lengths.l0 k g x (i : Int)) r ∧ r.length ≤ g.length
  | 0, i, x, h, hx => by
    refine ⟨x, Ev.step (f := fun _ => some x) (fun k => ?_) (Ev.now _), by omega⟩
    simp only [florilegiumlaw03_lengths.l0]
    rw [if_neg (by omega)]
  | d + 1, i, x, h, hx => by
    have hb := hg _ (rd_mem g i (by omega))
    have t1 : wrap64 ((i : Int) + 1) = ((i + 1 : Nat) : Int) := by unfold wrap64; omega
    obtain ⟨r, hr, hlr⟩ := lens_l0 g hg hl d (i + 1) (x ++ [rd g (i : Int) % 5]) (by omega) (by simp; omega)
    refine ⟨r, Ev.step (fun k => ?_) hr, hlr⟩
    simp only [florilegiumlaw03_lengths.l0]
    rw [if_pos (by omega), if_pos (by omega), withinC _ _ hb.1 hb.2 (by decide) (by decide)]
    simp only [Option.bind_some]
    rw [if_pos (by omega), t1]
theorem lengths_ev (s g : List Int) (a2 a3 a4 : Int) (hs64 : ∀ x ∈ s, -9223372036854775808 ≤ x ∧ x ≤ 9223372036854775807) (hg : ∀ x ∈ g, -9223372036854775808 ≤ x ∧ x ≤ 9223372036854775807) (hl : g.length ≤ 17592186044416)
    (b2 : -9223372036854775808 ≤ a2 ∧ a2 ≤ 9223372036854775807) (b3 : -9223372036854775808 ≤ a3 ∧ a3 ≤ 9223372036854775807) (b4 : -9223372036854775808 ≤ a4 ∧ a4 ≤ 9223372036854775807) :
    ∃ r, Ev (fun k => florilegiumlaw03_lengths.f k s g a2 a3 a4) r ∧ r.length ≤ 17592186044416 := by
  obtain ⟨f, hf, hok, h1, h82⟩ := Full_ev s g hs64 hg
  suffices h : ∃ r, Ev (fun k => ((PHuffCodes.florilegiumkeep_Within.f a4 6).bind fun t133 => (if t133 = 0 then ((PHuffCodes.florilegiumkeep_Within.f a2 (f.length : Int)).bind fun t134 => ((PHuffCodes.florilegiumkeep_Within.f a3 18).bind fun t135 => (if 0 ≤ t134 then (if t134 < (f.length : Int) then (some (f.set (t134 : Int).toNat (wrap64 (t135 - 1)))) else (none)) else (none)))) else (if t133 = 1 then (florilegiumlaw03_lengths.l0 k g ([] : List Int) 0) else (if t133 = 2 then ((PHuffCodes.florilegiumkeep_Within.f a3 330).bind fun t142 => (if 0 ≤ t142 then (if f.length + (t142 : Int).toNat < 17592186044416 then (some (f ++ List.replicate (t142 : Int).toNat 0)) else (none)) else (none))) else (some f)))))) r ∧ r.length ≤ 17592186044416 by
    obtain ⟨r, hr, hlr⟩ := h
    refine ⟨r, ?_, hlr⟩
    unfold florilegiumlaw03_lengths.f
    exact Ev.bind hf hr
  rw [withinC a4 6 b4.1 b4.2 (by decide) (by decide)]
  simp only [Option.bind_some]
  by_cases c0 : a4 % 6 = 0
  · simp only [if_pos c0]
    rw [withinC a2 _ b2.1 b2.2 (by omega) (by omega), withinC a3 18 b3.1 b3.2 (by decide) (by decide)]
    simp only [Option.bind_some]
    have h0 := Int.emod_nonneg a2 (show (f.length : Int) ≠ 0 by omega)
    have h1 := Int.emod_lt_of_pos a2 (show (0 : Int) < (f.length : Int) by omega)
    rw [if_pos h0, if_pos h1]
    exact ⟨_, Ev.now _, by rw [List.length_set]; omega⟩
  · simp only [if_neg c0]
    by_cases c1 : a4 % 6 = 1
    · simp only [if_pos c1]
      obtain ⟨r, hr, hlr⟩ := lens_l0 g hg hl g.length 0 [] (by omega) (by simp)
      exact ⟨r, hr, by omega⟩
    · simp only [if_neg c1]
      by_cases c2 : a4 % 6 = 2
      · simp only [if_pos c2]
        rw [withinC a3 330 b3.1 b3.2 (by decide) (by decide)]
        simp only [Option.bind_some]
        have h0 := Int.emod_nonneg a3 (show (330 : Int) ≠ 0 by decide)
        have h1 := Int.emod_lt_of_pos a3 (show (0 : Int) < 330 by decide)
        rw [if_pos h0, if_pos (by omega)]
        exact ⟨_, Ev.now _, by rw [List.length_append, List.length_replicate]; omega⟩
      · simp only [if_neg c2]
        exact ⟨f, Ev.now _, by omega⟩
theorem lengths_calls (A0 A1 : Option Addr) (c0 c1 : Nat) (s g : List Int) (a2 a3 a4 : Int) (w : World) (hr0 : Kd.C (Kd.int .i64) w A0 s.length s) (hc0 : s.length ≤ c0) (hr1 : Kd.C (Kd.int .i64) w A1 g.length g) (hc1 : g.length ≤ c1)
    (hs64 : ∀ x ∈ s, -9223372036854775808 ≤ x ∧ x ≤ 9223372036854775807) (hg : ∀ x ∈ g, -9223372036854775808 ≤ x ∧ x ≤ 9223372036854775807) (hl : g.length ≤ 17592186044416)
    (b2 : -9223372036854775808 ≤ a2 ∧ a2 ≤ 9223372036854775807) (b3 : -9223372036854775808 ≤ a3 ∧ a3 ≤ 9223372036854775807) (b4 : -9223372036854775808 ≤ a4 ∧ a4 ≤ 9223372036854775807) :
    Calls Try.prog 21 #[.slice A0 s.length c0, .slice A1 g.length c1, .int .i64 a2, .int .i64 a3, .int .i64 a4] w fun e w' => ∃ v r, e = .returned v ∧ r.length ≤ 17592186044416 ∧ Kd.R (Kd.int .i64) 3 w' w.heap.size (fun _ => True) v r ∧ Below w.heap.size w w' := by
  obtain ⟨r, hr, hp⟩ := lengths_ev s g a2 a3 a4 hs64 hg hl b2 b3 b4
  obtain ⟨k, hk⟩ := hr.rounds
  refine (florilegiumlaw03_lengths.calls k A0 c0 s A1 c1 g a2 a3 a4 r w hr0 hc0 hr1 hc1 hk).mono ?_
  rintro e w' ⟨v, rfl, hR, hB⟩
  exact ⟨v, r, rfl, hp, hR, hB⟩
end Go.Proofs.Ytihgekpijplfiaa.Hl
namespace Go.Proofs.Ytihgekpijplfiaa.Hb
set_option linter.unusedVariables false
open Go.RowKit Go.Maps Go.Proofs.YtihgekpijplfiaaW.PrintWords Go.Proofs.YtihgekpijplfiaaW.PrintLast Go.Proofs.YtihgekpijplfiaaW.PrintMore Go.Proofs.Ytihgekpijplfiaa.Hp Go.Proofs.Ytihgekpijplfiaa.Rm Go.Proofs.Ytihgekpijplfiaa.Mp Go.Proofs.Ytihgekpijplfiaa.Fr Go.Proofs.Ytihgekpijplfiaa.Rf Go.Proofs.Ytihgekpijplfiaa.Kit Go.Proofs.Ytihgekpijplfiaa.Hn Go.Proofs.Ytihgekpijplfiaa.Hl Go.Proofs.Ytihgekpijplfiaa.Wr Go.Proofs.Ytihgekpijplfiaa.Rd Go.Proofs.Ytihgekpijplfiaa.Pack Go.Proofs.Ytihgekpijplfiaa.Gs
def In64 (x : Int) : Prop := -9223372036854775808 ≤ x ∧ x ≤ 9223372036854775807
theorem app_step {α : Type} {P : Program} {ops : Array Oper} {o : Oper} {a : Act} {Q : Exit → Act → World → Prop} {Kc : Act → World → Prop} {E : Prop} (d : Kd α) {w0 W : World} (base : Nat) (hw : Region.wanted o (yielded ops a.tmps) = true) (s x : Operand) (t e : TypeId) (z : Value) (bytes : Nat)
    (ho : o.op = .call { callee := .builtin .append, args := #[s, x], argTypes := #[t, t] })
    (ht : P.underlying t = some (.slice e)) (hinfo : (P.info? e).map (fun i => (i.zero, i.size, i.bytes)) = some (some z, d.sz, bytes)) (hz : z.cells.size = d.sz) (hs0 : 0 < d.sz) (hb0 : 0 < bytes)
    (v : Value) (xs : List α) (p : α) (cs : List Value) (ok okp : Nat → Prop) (hs : a.eval s = v) (hx : a.eval x = .slice (some ⟨W.heap.size, 0, none⟩) 1 1) (hp : d.M W base okp p cs) (hokp : ∀ k, okp k → ok k ∧ some k ≠ v.ownBlock) (hfresh : ∀ k, W.heap.size ≤ k → ok k)
    (HO : d.R e W base ok v xs) (HB : Below base w0 W) (hbase : base ≤ W.heap.size) (hl : (xs.length + 1) * bytes ≤ 140737488355328) (V : World) (hV : V = W.alloc (.cells cs.toArray e))
    (h : ∀ v1 w1, d.R e w1 base ok v1 (xs ++ [p]) → Below base w0 w1 → W.grownBy w1 v.ownBlock → (v1.ownBlock = v.ownBlock ∨ ∃ b, v1.ownBlock = some b ∧ W.heap.size ≤ b) → Kc (a.put o.dst v1) w1) :
    if Region.wanted o (yielded ops a.tmps) = true then Oper.wp P o a V Kc Q else E := by
  rw [if_pos hw, hV]
  have h9 := Kd.R_append_step (Q := Q) d base hw s x t e z bytes ho ht hinfo hz hs0 hb0 v xs p cs ok okp hs hx hp hokp hfresh HO HB hbase hl h
  rwa [if_pos hw] at h9
def lits : List Int := List.replicate 144 8 ++ List.replicate 112 9 ++ List.replicate 24 7 ++ List.replicate 8 8
def dists : List Int := List.replicate 32 5
theorem fixed_ok : PHuffBack.huff_Fixed.f 400 = some (lits, dists) := by kernel_rfl
theorem okLits : okS lits = true := by kernel_rfl
theorem okDists : okS dists = true := by kernel_rfl
theorem code256 : codeOf lits 256 = 0 := by kernel_rfl
theorem code144 : codeOf lits 144 = 400 := by kernel_rfl
theorem len256 : lits.getD 256 0 = 7 := by kernel_rfl
theorem len144 : lits.getD 144 0 = 9 := by kernel_rfl
theorem lenL : lits.length = 288 := by kernel_rfl
theorem lenD : dists.length = 32 := by kernel_rfl
theorem own_lt {base : Nat} {W : World} {g : Nat} {bs : List Int} {n : Int} (h : IsW base W g bs n) (k : Nat) (hk : WOwn W g k) : k < W.heap.size := by
  obtain ⟨v, h1, h2, h3⟩ := h
  rcases (WOwn_iff h1 k).1 hk with rfl | h5
  · exact blk_lt h1
  · exact Kd.R_lt h3 k h5
theorem own_congr {W W1 : World} {g : Nat} (h : W1.heap[g]? = W.heap[g]?) (k : Nat) : WOwn W1 g k ↔ WOwn W g k := by
  unfold WOwn
  rw [h]
theorem dsOf_le15 (ls : List Int) (hok : okS ls = true) : ∀ ps : List Nat, (∀ s ∈ ps, s < ls.length ∧ 0 < ls.getD s 0) → (dsOf ls ps).length ≤ 15 * ps.length
  | [], _ => Nat.le_refl _
  | s :: ps, h => by
    have ih := dsOf_le15 ls hok ps (fun t ht => h t (List.mem_cons_of_mem _ ht))
    have hm := h s List.mem_cons_self
    have hr := inR_get (okS_inR hok).1 s hm.1
    have e : dsOf ls (s :: ps) = highD (codeOf ls s : Int) (lenOf ls s) ++ dsOf ls ps := by simp [dsOf]
    rw [e, List.length_append, Dig.highD_length, List.length_cons]
    unfold lenOf
    omega
set_option maxHeartbeats 16000000 in
set_option maxRecDepth 100000 in
theorem HuffBack_walk (A0 A1 A2 : Option Addr) (c0 c1 c2 : Nat) (s g sg : List Int) (w : World) (hr0 : Kd.C (Kd.int .i64) w A0 s.length s) (hc0 : s.length ≤ c0) (hr1 : Kd.C (Kd.int .i64) w A1 g.length g) (hc1 : g.length ≤ c1) (hr2 : Kd.C (Kd.int .i64) w A2 sg.length sg)
    (hs64 : ∀ x ∈ s, In64 x) (hg : ∀ x ∈ g, In64 x) (hsg : ∀ x ∈ sg, In64 x) :
    Calls Try.prog 12 #[.slice A0 s.length c0, .slice A1 g.length c1, .slice A2 sg.length c2] w fun e w' => e = .returned (.bool true) ∧ Below w.heap.size w w' := by
  have HL := Aside0.mk (Full_calls A0 A1 c0 c1 s g w hr0 hc0 hr1 hc1 hs64 hg)
  have HSG := Aside0.mk (And.intro hr2 hsg)
  clear hr0 hr1 hc0 hc1 hs64 hg hr2 hsg
  go_enter Try.func12, Try.ntmps12
  go_wp2_with fail
  refine HL.out.mono ?_
  clear HL
  rintro e w1 ⟨v, ls, rfl, ⟨hok, hl1, hl2⟩, hR, hB⟩
  obtain ⟨Al, cl, rfl⟩ := Kd.R_slice hR
  have HR := Aside0.mk (Kd.R_reads' hR)
  have HB := Aside0.mk hB
  clear hR hB
  have hleni : (ls.length : Int) ≤ 82 := by omega
  have hlen1 : (1 : Int) ≤ (ls.length : Int) := by omega
  have HN := Aside0.mk (New_ok Al cl ls w1 HR.out.2.2 HR.out.2.1 hok)
  go_wp2_with fail
  refine HN.out.mono ?_
  clear HN
  rintro e w2 ⟨p, rfl, hT, hB⟩
  have HT := Aside0.mk hT
  have HC := Aside0.mk (Kd.C_below HR.out.2.2 hB)
  replace HB := Aside0.mk (below_step HB.out hB)
  clear hT hB HR
  go_wp2_with fail
  refine (NewW_calls _).mono ?_
  rintro e w3 ⟨gw, rfl, hw, hB⟩
  have HW := Aside0.mk hw
  have HBW := Aside0.mk hB
  clear hw hB
  go_wp2_with fail
  have HR0 := Aside0.mk (show Kd.R (Kd.int .i64) 3 w3 w2.heap.size (fun _ => True) (.slice none 0 0) ((([] : List Nat)).map (fun (n : Nat) => (n : Int))) from Kd.R_nil _ _ _ _ _)
  have HD0 := Aside0.mk (show ∀ j, (Value.slice none 0 0).ownBlock = some j → ¬ WOwn w3 gw j from fun j h => by cases h)
  go_loopg [11, 12, 13] 40 (fun gk v11 v12 v13 w' => ∃ (i : Nat) (ps : List Nat) (A : Option Addr) (c : Nat), v13 = .int .i64 (i : Int) ∧ v12 = .int .i64 ((dsOf ls ps).length : Int) ∧ v11 = .slice A ps.length c ∧ Aside0 (i + gk = 40) ∧ Aside0 (ps.length ≤ i) ∧ Aside0 (∀ s ∈ ps, s < ls.length ∧ 0 < ls.getD s 0) ∧ Aside0 (IsWr w2.heap.size w' gw (dsOf ls ps)) ∧ Aside0 (Kd.R (Kd.int .i64) 3 w' w2.heap.size (fun _ => True) v11 (ps.map (fun (n : Nat) => (n : Int)))) ∧ Aside0 (∀ j, v11.ownBlock = some j → ¬ WOwn w' gw j) ∧ Aside0 (Below w2.heap.size w2 w'))
  case atStart => exact ⟨0, [], none, 0, rfl, rfl, rfl, ⟨rfl⟩, ⟨Nat.le_refl _⟩, ⟨fun s h => by cases h⟩, HW, HR0, HD0, HBW⟩
  case round =>
    clear HW HR0 HD0 HBW
    obtain ⟨i, ps, A, c, rfl, rfl, rfl, HK, HPL, HPS, HW, HR, HD, HBW⟩ := hrel
    obtain ⟨wo, rfl⟩ : ∃ wo : World, wo = wr := ⟨_, rfl⟩
    have HDL := Aside0.mk (dsOf_le15 ls hok ps HPS.out)
    by_cases hs1 : i < sg.length
    · have hi1 : (i : Int) < (sg.length : Int) := by omega
      by_cases hs2 : i < 40
      · have hi2 : (i : Int) < 40 := by omega
        have hi0 : (0 : Int) ≤ (i : Int) := by omega
        obtain ⟨ad2, ea2, hx2⟩ := Kd.at_int (Kd.C_below (Kd.C_below HSG.out.1 HB.out) HBW.out) (i : Int) hi0 hi1
        have hx64 := HSG.out.2 _ (Hl.rd_mem sg i hs1)
        rw [Int.toNat_natCast] at hx2
        subst ea2
        generalize rd sg (i : Int) = y at *
        have hdl : ((dsOf ls ps).length : Int) ≤ 600 := by have := HDL.out; have := HPL.out; omega
        go_wp2_with fail
        have hw := within_nat y ls.length hx64.1 hx64.2 hl1 (by omega) wo
        refine hw.mono ?_
        clear hw hx2
        rintro e w4 ⟨k, hk1, hk2, rfl, m4, rfl⟩
        clear hk1
        have hk3 : (k : Int) < (ls.length : Int) := by omega
        have hk0 : (0 : Int) ≤ (k : Int) := by omega
        obtain ⟨ad, ea, hx0⟩ := Kd.at_int HC.out (k : Int) hk0 hk3
        clear hx0
        subst ea
        have HX := Aside0.mk (fun (W : World) (hB : Below w2.heap.size w2 W) => C_at (Kd.C_below HC.out hB) k hk2)
        simp only [rd_getD] at HX
        have HXL := Aside0.mk (World.block_lt_of_cell? w2 _ (HX.out w2 (Below.refl _ _)))
        obtain ⟨w5, hw5⟩ : ∃ w5, w5 = wo.drewN m4 := ⟨_, rfl⟩
        replace HW := Aside0.mk (show IsWr w2.heap.size w5 gw (dsOf ls ps) by rw [hw5]; exact HW.out)
        replace HR := Aside0.mk (show Kd.R (Kd.int .i64) 3 w5 w2.heap.size (fun _ => True) (.slice A ps.length c) (ps.map (fun (n : Nat) => (n : Int))) by rw [hw5]; exact Kd.R_drewN HR.out m4)
        replace HD := Aside0.mk (show ∀ j, (Value.slice A ps.length c).ownBlock = some j → ¬ WOwn w5 gw j by rw [hw5]; exact HD.out)
        replace HBW := Aside0.mk (show Below w2.heap.size w2 w5 by rw [hw5]; exact pw_below_drewN HBW.out m4)
        rw [← hw5]
        clear hw5
        have hx := HX.out w5 HBW.out
        have HTo := Aside0.mk (HT.out.fr (Fr.of_below HBW.out No) (fun _ _ _ e => e))
        obtain ⟨lv, hlv⟩ : ∃ lv, lv = ls.getD k 0 := ⟨_, rfl⟩
        rw [← hlv] at HX hx
        have hrng := inR_get (okS_inR hok).1 k hk2
        rw [← hlv] at hrng
        have HLV := Aside0.mk hlv
        by_cases hpos : 0 < lv
        · have HP := Aside0.mk (fun (W : World) (h1 : IsT w1.heap.size w2.heap.size W p ls) (h2 : IsWr w2.heap.size W gw (dsOf ls ps)) => Put_yes w1.heap.size w2.heap.size p w2.heap.size gw ls (dsOf ls ps) k hk2 (by rw [← hlv]; exact hpos) hok (by have := HDL.out; have := HPL.out; omega) W h1 h2)
          clear hlv
          go_wp2_with fail
          go_region_held3 (fun w' => w'.cell? (ad.add k) = some (.int .i64 lv)) (go_keep) (first | (go_at_call 58; refine (HP.out _ (by exact HTo.out) (by exact HW.out)).mono ?_; rintro e w' ⟨rfl, hw, hF, hown⟩; have hx' := hF.cell hx (fun h => by have := HW.out.1.own_ge _ h; have := HXL.out; omega)))
          have HW6 := Aside0.mk hw
          have HF6 := Aside0.mk hF.undrew
          have HR6 := Aside0.mk (R_fr HR.out rfl HF6.out (fun j hj => HD.out j hj))
          have HD6 := Aside0.mk (show ∀ j, (Value.slice A ps.length c).ownBlock = some j → ¬ WOwn w' gw j from fun j hj h => by
            rcases hown j h with h | h
            · exact HD.out j hj h
            · have h1 := Kd.R_lt HR.out j hj
              have h2 : w5.heap.size ≤ j := h
              omega)
          have HB6 := Aside0.mk (Fr.below HBW.out HF6.out (fun j hj => HW.out.1.own_ge j hj) HBW.out.size)
          clear hw hF hown HW HR HD HBW HP HF6 hx HTo HSG
          go_wp2_with fail
          go_region_held3 (fun W => W.cell? (ad.add k) = some (.int .i64 lv)) (first | go_keep | (rw [hg9.cell_far _ (Nat.lt_of_lt_of_le HXL.out HB6.out.size) (fun e => by have := Kd.R_base HR6.out _ e.symm; have := HXL.out; omega)]; exact hx')) ((refine app_step (Kd.int .i64) (w0 := w2) (W := w'.drew) w2.heap.size (by rfl) (.tmp 83) (.tmp 85) 26 3 (.int .i64 0) 8 rfl Try.underlying26 info3 rfl (by decide) (by decide) (.slice A ps.length c) (ps.map (fun (n : Nat) => (n : Int))) (k : Int) [.int .i64 (k : Int)] (fun _ => True) (fun _ => False) (by rfl) (by rfl) ?aP (fun _ hk => hk.elim) (fun _ _ => trivial) (Kd.R_drew HR6.out) ?aB ?aS ?aL _ ?aV ?_; (case aP => rfl); (case aV => rfl); (case aB => exact Fr.below HB6.out ((Fr.refl w' No).drew) (fun _ e => e.elim) HB6.out.size); (case aS => exact HB6.out.size); (case aL => rw [List.length_map]; have := HPL.out; omega); intro v9 w9 ho hb hg9 hat))
          have ho' : Kd.R (Kd.int .i64) 3 w9 w2.heap.size (fun _ => True) v9 ((ps ++ [k]).map (fun (n : Nat) => (n : Int))) := by rw [List.map_append]; exact ho
          obtain ⟨A9, c9, e9⟩ := Kd.R_slice ho'
          rw [List.length_map] at e9
          subst e9
          have hgw : w9.heap[gw]? = w'.heap[gw]? := hg9.block gw HW6.out.1.lt.2 (fun e => HD6.out gw e.symm (.inl rfl))
          have HW9 := Aside0.mk (show IsWr w2.heap.size w9 gw (dsOf ls (ps ++ [k])) by
            rw [dsOf_snoc]
            exact ⟨HW6.out.1.move (fun j hj => hg9.block j (own_lt HW6.out.1 j hj) (fun e => HD6.out j e.symm hj)), HW6.out.2⟩)
          have HR9 := Aside0.mk ho'
          have HD9 := Aside0.mk (show ∀ j, (Value.slice A9 (ps ++ [k]).length c9).ownBlock = some j → ¬ WOwn w9 gw j from fun j hj h => by
            have h' := (own_congr hgw j).1 h
            rcases hat with e | ⟨b, e, hb2⟩
            · exact HD6.out j (e.symm.trans hj) h'
            · have h1 := own_lt HW6.out.1 j h'
              have h2 : w'.heap.size ≤ b := hb2
              rw [hj] at e
              injection e with e
              omega)
          have HB9 := Aside0.mk hb
          clear ho ho' hb hg9 hat hgw HW6 HR6 HD6 HB6 hx'
          have hlv9 : ((dsOf ls (ps ++ [k])).length : Int) = ((dsOf ls ps).length : Int) + lv := by
            rw [dsOf_snoc, List.length_append, Dig.highD_length]
            have := HLV.out
            unfold lenOf
            omega
          go_wp2_with fail
          obtain ⟨g', rfl⟩ : ∃ g', gk = g' + 1 := ⟨gk - 1, by have := HK.out; omega⟩
          go_roundg g'
          case measure => omega
          case rel =>
            refine ⟨i + 1, ps ++ [k], A9, c9, by go_num, by rw [hlv9, IntWalk.i64_in _ (by omega)], rfl, ⟨by have := HK.out; omega⟩, ⟨by have := HPL.out; simp; omega⟩, ⟨fun t ht => ?_⟩, HW9, HR9, HD9, HB9⟩
            rcases List.mem_append.1 ht with ht | ht
            · exact HPS.out t ht
            · rw [List.mem_singleton.1 ht, ← HLV.out]
              exact ⟨hk2, hpos⟩
        · have hnb : hasB ls (k : Int) = false := by
            unfold hasB
            apply decide_eq_false
            rintro ⟨q1, q2, q3⟩
            rw [Int.toNat_natCast] at q3
            have := HLV.out
            omega
          have HP := Aside0.mk (fun (W : World) (h1 : IsT w1.heap.size w2.heap.size W p ls) => Put_no w1.heap.size w2.heap.size p gw ls (k : Int) hnb hok W h1)
          clear hlv hnb HSG
          go_wp2_with fail
          go_region_held3 (fun w' => w'.cell? (ad.add k) = some (.int .i64 lv)) (go_keep) (first | (go_at_call 58; refine (HP.out _ (by exact HTo.out)).mono ?_; rintro e w' ⟨rfl, m7, rfl⟩))
          have HF6 := Aside0.mk ((Fr.refl w5 No).drewN (1 + m7))
          obtain ⟨w6, hw6⟩ : ∃ w6, w6 = w5.drewN (1 + m7) := ⟨_, rfl⟩
          rw [← hw6] at HF6 ⊢
          replace HW := Aside0.mk (show IsWr w2.heap.size w6 gw (dsOf ls ps) by rw [hw6]; exact HW.out)
          replace HR := Aside0.mk (R_fr HR.out rfl HF6.out (fun _ _ e => e))
          replace HD := Aside0.mk (show ∀ j, (Value.slice A ps.length c).ownBlock = some j → ¬ WOwn w6 gw j by rw [hw6]; exact HD.out)
          replace HBW := Aside0.mk (Fr.below HBW.out HF6.out (fun _ e => e.elim) HBW.out.size)
          have hx6 := HX.out w6 HBW.out
          clear hw6 HF6 HTo HP hx
          go_wp2_with fail
          obtain ⟨g', rfl⟩ : ∃ g', gk = g' + 1 := ⟨gk - 1, by have := HK.out; omega⟩
          go_roundg g'
          case measure => omega
          case rel => exact ⟨i + 1, ps, A, c, by go_num, rfl, rfl, ⟨by have := HK.out; omega⟩, ⟨by have := HPL.out; omega⟩, HPS, HW, HR, HD, HBW⟩
      · have hi2 : ¬ (i : Int) < 40 := by omega
        have HIK := Aside0.mk (show i ≤ 40 by have := HK.out; omega)
        clear HSG HK HD
        go_wp2_with fail
        refine (Bytes_calls w2.heap.size gw (dsOf ls ps) wo HW.out).mono ?_
        rintro e w6 ⟨Ab, cb, rfl, hRb, hB⟩
        have HR6 := Aside0.mk (Kd.R_below HR.out hB)
        have HB6 := Aside0.mk (below_step HBW.out hB)
        have hdl : (dsOf ls ps).length ≤ 600 := by have := HDL.out; have := HPL.out; have := HIK.out; omega
        have HPK := Aside0.mk (packB_length (dsOf ls ps))
        have HN := Aside0.mk (NewR_fr Ab cb (packB (dsOf ls ps)) w6 (Kd.R_reads' hRb).2.2 (fun e => by subst e; exact R_none hRb) (by have := HPK.out; omega))
        have hpi : (ps.length : Int) ≤ 40 := by have := HPL.out; have := HIK.out; omega
        clear hRb hB HR HBW HW HDL
        go_wp2_with fail
        refine HN.out.mono ?_
        clear HN
        rintro e w7 ⟨gr, rfl, hI, hB, hsz⟩
        have HI := Aside0.mk (show IsR w6.heap.size w7 gr (packB (dsOf ls ps)) (dsOf ls (ps.take 0)).length false from hI)
        have HB7 := Aside0.mk hB
        have HC6 := Aside0.mk (show Kd.C (Kd.int .i64) w6 A ps.length (ps.map (fun (n : Nat) => (n : Int))) from by
          have h := (Kd.R_reads' HR6.out).2.2
          rwa [List.length_map] at h)
        have HT6 := Aside0.mk (HT.out.fr (Fr.of_below HB6.out No) (fun _ _ _ e => e))
        have HGR := Aside0.mk hI.ge
        have HHL := Aside0.mk (show (w3.heap.size : Nat) = w3.heap.size from rfl)
        clear hI hB hsz HR6 HHL
        go_wp2_with fail
        have HB77 := Aside0.mk (Below.refl w7.heap.size w7)
        go_loopg [100] ps.length (fun gk v100 w' => ∃ j : Nat, v100 = .int .i64 (j : Int) ∧ Aside0 (j + gk = ps.length) ∧ Aside0 (IsR w6.heap.size w' gr (packB (dsOf ls ps)) (dsOf ls (ps.take j)).length false) ∧ Aside0 (Fr w7 w' (fun i => i = gr)))
        case atStart => exact ⟨0, rfl, ⟨by omega⟩, HI, ⟨Fr.refl _ _⟩⟩
        case round =>
          clear HI HB77
          obtain ⟨j, rfl, HK, HI, HF⟩ := hrel
          obtain ⟨wi, rfl⟩ : ∃ wi : World, wi = wr := ⟨_, rfl⟩
          have HBI := Aside0.mk (Fr.below HB7.out HF.out (fun i hi => by have h9 : i = gr := hi; rw [h9]; exact HGR.out.1) HB7.out.size)
          by_cases hj : j < ps.length
          · have hj1 : (j : Int) < (ps.length : Int) := by omega
            have hj0 : (0 : Int) ≤ (j : Int) := by omega
            obtain ⟨adp, eap, hxp⟩ := Kd.at_int (Kd.C_below HC6.out HBI.out) (j : Int) hj0 hj1
            rw [Int.toNat_natCast] at hxp
            have ep : rd (ps.map (fun (n : Nat) => (n : Int))) (j : Int) = (ps[j] : Int) := by
              rw [rd_getD, List.getD_eq_getElem?_getD, List.getElem?_map, List.getElem?_eq_getElem hj]
              rfl
            rw [ep] at hxp
            subst eap
            have HG := Aside0.mk (Get_T w1.heap.size w2.heap.size p w6.heap.size gr ls (packB (dsOf ls ps)) (dsOf ls (ps.take j)).length false (by have := dsOf_le ls ps j (by omega); have := HPK.out; omega) (by have := HPK.out; omega) hok wi (HT6.out.fr (Fr.of_below HBI.out No) (fun _ _ _ e => e)) HI.out (Or.inr (Nat.le_trans HB6.out.size HGR.out.1)) (Nat.le_trans HB6.out.size HBI.out.size))
            rw [dec_back ls hok ps HPS.out j hj (by omega)] at HG
            generalize ps[j] = sj at *
            clear HI ep
            go_wp2_with fail
            refine HG.out.mono ?_
            clear HG
            rintro e w8 ⟨rfl, hI, hF⟩
            have HI8 := Aside0.mk hI
            have HF8 := Aside0.mk (HF.out.then_ hF)
            clear hI hF hxp HF HBI
            go_wp2_with fail
            obtain ⟨g', rfl⟩ : ∃ g', gk = g' + 1 := ⟨gk - 1, by have := HK.out; omega⟩
            go_roundg g'
            case measure => omega
            case rel => exact ⟨j + 1, by go_num, ⟨by have := HK.out; omega⟩, HI8, HF8⟩
          · obtain rfl : j = ps.length := by have := HK.out; omega
            rw [List.take_length] at HI
            clear HK HF HC6 HPS
            go_wp2_with fail
            refine (PHuffBack.huff_Fixed.calls 400 lits dists wi fixed_ok).mono ?_
            rintro e w8 ⟨v0, v1, rfl, hR0, hR1, hB⟩
            obtain ⟨Aa, ca, rfl⟩ := Kd.R_slice hR0
            obtain ⟨Ab2, cb2, rfl⟩ := Kd.R_slice hR1
            have HI8 := Aside0.mk (HI.out.below hB)
            have HB8 := Aside0.mk (below_step HBI.out hB)
            have HA8 := Aside0.mk (Kd.R_reads' hR0).2
            have HD8 := Aside0.mk (Kd.R_reads' hR1).2
            rw [lenL] at HA8
            rw [lenD] at HD8
            rw [lenL, lenD]
            clear hR0 hR1 hB HI HBI
            go_wp2_with fail
            have HN1 := New_ok Aa ca lits w8 (by rw [lenL]; exact HA8.out.2) (by rw [lenL]; exact HA8.out.1) okLits
            rw [lenL] at HN1
            refine HN1.mono ?_
            clear HN1
            rintro e w9 ⟨pa, rfl, hT, hB⟩
            have HTA := Aside0.mk hT
            have HI9 := Aside0.mk (HI8.out.below hB)
            have HB9 := Aside0.mk (below_step HB8.out hB)
            have HD9 := Aside0.mk (Kd.C_below HD8.out.2 hB)
            clear hT hB HI8 HB8
            go_wp2_with fail
            have HN1 := New_ok Ab2 cb2 dists w9 (by rw [lenD]; exact HD9.out) (by rw [lenD]; exact HD8.out.1) okDists
            rw [lenD] at HN1
            refine HN1.mono ?_
            clear HN1
            rintro e w10 ⟨pb, rfl, hT, hB⟩
            have HTA10 := Aside0.mk (HTA.out.fr (Fr.of_below hB No) (fun _ _ _ e => e))
            have HI10 := Aside0.mk (HI9.out.below hB)
            have HB10 := Aside0.mk (below_step HB9.out hB)
            clear hT hB HI9 HB9 HTA HA8 HD8 HD9
            go_wp2_with fail
            have HCA := Code_yes _ _ pa lits 256 (by rw [lenL]; decide) (by rw [len256]; decide) (okS_inR okLits).1 (okS_inR okLits).2 w10 HTA10.out
            rw [code256, len256] at HCA
            refine HCA.mono ?_
            clear HCA
            rintro e w11 ⟨rfl, m11, hw11⟩
            have HTA11 := Aside0.mk (HTA10.out.fr ((Fr.refl w10 No).drewN m11) (fun _ _ _ e => e))
            rw [← hw11] at HTA11
            have HI11 := Aside0.mk (show IsR w6.heap.size w11 gr (packB (dsOf ls ps)) (dsOf ls ps).length false by rw [hw11]; exact HI10.out)
            have HB11 := Aside0.mk (show Below w6.heap.size w6 w11 by rw [hw11]; exact pw_below_drewN HB10.out m11)
            clear hw11 HI10 HB10 HTA10
            go_wp2_with fail
            have HCA := Code_yes _ _ pa lits 144 (by rw [lenL]; decide) (by rw [len144]; decide) (okS_inR okLits).1 (okS_inR okLits).2 w11 HTA11.out
            rw [code144, len144] at HCA
            refine HCA.mono ?_
            clear HCA
            rintro e w12 ⟨rfl, m12, hw12⟩
            have HI12 := Aside0.mk (show IsR w6.heap.size w12 gr (packB (dsOf ls ps)) (dsOf ls ps).length false by rw [hw12]; exact HI11.out)
            have HB12 := Aside0.mk (show Below w6.heap.size w6 w12 by rw [hw12]; exact pw_below_drewN HB11.out m12)
            clear hw12 HI11 HB11 HTA11
            have HLF := Aside0.mk (Left_fr w6.heap.size gr (packB (dsOf ls ps)) (dsOf ls ps).length false (by have := HPK.out; omega) (by have := HPK.out; omega) w12 HI12.out)
            rw [HPK.out] at HLF
            obtain ⟨T, hT⟩ : ∃ T : Nat, T = (dsOf ls ps).length := ⟨_, rfl⟩
            rw [← hT] at hdl HLF ⊢
            obtain ⟨r8, hr8⟩ : ∃ r8 : Nat, r8 = T % 8 := ⟨_, rfl⟩
            obtain ⟨q8, hq8⟩ : ∃ q8 : Nat, q8 = (8 - r8) % 8 := ⟨_, rfl⟩
            have z1 : 8 * (((T + 7) / 8 : Nat) : Int) - (T : Int) = (q8 : Int) := by omega
            have z2 : (T : Int).tmod 8 = (r8 : Int) := by rw [hr8, Int.tmod_eq_emod_of_nonneg (by omega)]; omega
            have z3 : (T : Int) % 8 = (r8 : Int) := by omega
            have z6 : (r8 : Int) ≤ 7 := by omega
            have z4 : (8 - (r8 : Int)).tmod 8 = (q8 : Int) := by rw [Int.tmod_eq_emod_of_nonneg (by omega)]; omega
            have z5 : (8 - (r8 : Int)) % 8 = (q8 : Int) := by omega
            rw [z1] at HLF
            clear z1 hq8 hr8 hdl hT
            go_wp2_with fail
            refine HLF.out.mono ?_
            clear HLF
            rintro e w13 ⟨rfl, m13, hw13⟩
            have HB13 := Aside0.mk (show Below w6.heap.size w6 w13 by rw [hw13]; exact pw_below_drewN HB12.out m13)
            clear hw13 HB12 HI12
            go_wp2_with fail
            refine (wakes3 _).mono ?_
            rintro e w14 ⟨rfl, hw⟩
            go_wp2_with fail
            go_ret
            exact ⟨rfl, below_step HB.out (below_step HB6.out (below_step HB13.out hw))⟩
    · have hi1 : ¬ (i : Int) < (sg.length : Int) := by omega
      have HIK := Aside0.mk (show i ≤ 40 by have := HK.out; omega)
      clear HSG HK HD
      go_wp2_with fail
      refine (Bytes_calls w2.heap.size gw (dsOf ls ps) wo HW.out).mono ?_
      rintro e w6 ⟨Ab, cb, rfl, hRb, hB⟩
      have HR6 := Aside0.mk (Kd.R_below HR.out hB)
      have HB6 := Aside0.mk (below_step HBW.out hB)
      have hdl : (dsOf ls ps).length ≤ 600 := by have := HDL.out; have := HPL.out; have := HIK.out; omega
      have HPK := Aside0.mk (packB_length (dsOf ls ps))
      have HN := Aside0.mk (NewR_fr Ab cb (packB (dsOf ls ps)) w6 (Kd.R_reads' hRb).2.2 (fun e => by subst e; exact R_none hRb) (by have := HPK.out; omega))
      have hpi : (ps.length : Int) ≤ 40 := by have := HPL.out; have := HIK.out; omega
      clear hRb hB HR HBW HW HDL
      go_wp2_with fail
      refine HN.out.mono ?_
      clear HN
      rintro e w7 ⟨gr, rfl, hI, hB, hsz⟩
      have HI := Aside0.mk (show IsR w6.heap.size w7 gr (packB (dsOf ls ps)) (dsOf ls (ps.take 0)).length false from hI)
      have HB7 := Aside0.mk hB
      have HC6 := Aside0.mk (show Kd.C (Kd.int .i64) w6 A ps.length (ps.map (fun (n : Nat) => (n : Int))) from by
        have h := (Kd.R_reads' HR6.out).2.2
        rwa [List.length_map] at h)
      have HT6 := Aside0.mk (HT.out.fr (Fr.of_below HB6.out No) (fun _ _ _ e => e))
      have HGR := Aside0.mk hI.ge
      have HHL := Aside0.mk (show (w3.heap.size : Nat) = w3.heap.size from rfl)
      clear hI hB hsz HR6 HHL
      go_wp2_with fail
      have HB77 := Aside0.mk (Below.refl w7.heap.size w7)
      go_loopg [100] ps.length (fun gk v100 w' => ∃ j : Nat, v100 = .int .i64 (j : Int) ∧ Aside0 (j + gk = ps.length) ∧ Aside0 (IsR w6.heap.size w' gr (packB (dsOf ls ps)) (dsOf ls (ps.take j)).length false) ∧ Aside0 (Fr w7 w' (fun i => i = gr)))
      case atStart => exact ⟨0, rfl, ⟨by omega⟩, HI, ⟨Fr.refl _ _⟩⟩
      case round =>
        clear HI HB77
        obtain ⟨j, rfl, HK, HI, HF⟩ := hrel
        obtain ⟨wi, rfl⟩ : ∃ wi : World, wi = wr := ⟨_, rfl⟩
        have HBI := Aside0.mk (Fr.below HB7.out HF.out (fun i hi => by have h9 : i = gr := hi; rw [h9]; exact HGR.out.1) HB7.out.size)
        by_cases hj : j < ps.length
        · have hj1 : (j : Int) < (ps.length : Int) := by omega
          have hj0 : (0 : Int) ≤ (j : Int) := by omega
          obtain ⟨adp, eap, hxp⟩ := Kd.at_int (Kd.C_below HC6.out HBI.out) (j : Int) hj0 hj1
          rw [Int.toNat_natCast] at hxp
          have ep : rd (ps.map (fun (n : Nat) => (n : Int))) (j : Int) = (ps[j] : Int) := by
            rw [rd_getD, List.getD_eq_getElem?_getD, List.getElem?_map, List.getElem?_eq_getElem hj]
            rfl
          rw [ep] at hxp
          subst eap
          have HG := Aside0.mk (Get_T w1.heap.size w2.heap.size p w6.heap.size gr ls (packB (dsOf ls ps)) (dsOf ls (ps.take j)).length false (by have := dsOf_le ls ps j (by omega); have := HPK.out; omega) (by have := HPK.out; omega) hok wi (HT6.out.fr (Fr.of_below HBI.out No) (fun _ _ _ e => e)) HI.out (Or.inr (Nat.le_trans HB6.out.size HGR.out.1)) (Nat.le_trans HB6.out.size HBI.out.size))
          rw [dec_back ls hok ps HPS.out j hj (by omega)] at HG
          generalize ps[j] = sj at *
          clear HI ep
          go_wp2_with fail
          refine HG.out.mono ?_
          clear HG
          rintro e w8 ⟨rfl, hI, hF⟩
          have HI8 := Aside0.mk hI
          have HF8 := Aside0.mk (HF.out.then_ hF)
          clear hI hF hxp HF HBI
          go_wp2_with fail
          obtain ⟨g', rfl⟩ : ∃ g', gk = g' + 1 := ⟨gk - 1, by have := HK.out; omega⟩
          go_roundg g'
          case measure => omega
          case rel => exact ⟨j + 1, by go_num, ⟨by have := HK.out; omega⟩, HI8, HF8⟩
        · obtain rfl : j = ps.length := by have := HK.out; omega
          rw [List.take_length] at HI
          clear HK HF HC6 HPS
          go_wp2_with fail
          refine (PHuffBack.huff_Fixed.calls 400 lits dists wi fixed_ok).mono ?_
          rintro e w8 ⟨v0, v1, rfl, hR0, hR1, hB⟩
          obtain ⟨Aa, ca, rfl⟩ := Kd.R_slice hR0
          obtain ⟨Ab2, cb2, rfl⟩ := Kd.R_slice hR1
          have HI8 := Aside0.mk (HI.out.below hB)
          have HB8 := Aside0.mk (below_step HBI.out hB)
          have HA8 := Aside0.mk (Kd.R_reads' hR0).2
          have HD8 := Aside0.mk (Kd.R_reads' hR1).2
          rw [lenL] at HA8
          rw [lenD] at HD8
          rw [lenL, lenD]
          clear hR0 hR1 hB HI HBI
          go_wp2_with fail
          have HN1 := New_ok Aa ca lits w8 (by rw [lenL]; exact HA8.out.2) (by rw [lenL]; exact HA8.out.1) okLits
          rw [lenL] at HN1
          refine HN1.mono ?_
          clear HN1
          rintro e w9 ⟨pa, rfl, hT, hB⟩
          have HTA := Aside0.mk hT
          have HI9 := Aside0.mk (HI8.out.below hB)
          have HB9 := Aside0.mk (below_step HB8.out hB)
          have HD9 := Aside0.mk (Kd.C_below HD8.out.2 hB)
          clear hT hB HI8 HB8
          go_wp2_with fail
          have HN1 := New_ok Ab2 cb2 dists w9 (by rw [lenD]; exact HD9.out) (by rw [lenD]; exact HD8.out.1) okDists
          rw [lenD] at HN1
          refine HN1.mono ?_
          clear HN1
          rintro e w10 ⟨pb, rfl, hT, hB⟩
          have HTA10 := Aside0.mk (HTA.out.fr (Fr.of_below hB No) (fun _ _ _ e => e))
          have HI10 := Aside0.mk (HI9.out.below hB)
          have HB10 := Aside0.mk (below_step HB9.out hB)
          clear hT hB HI9 HB9 HTA HA8 HD8 HD9
          go_wp2_with fail
          have HCA := Code_yes _ _ pa lits 256 (by rw [lenL]; decide) (by rw [len256]; decide) (okS_inR okLits).1 (okS_inR okLits).2 w10 HTA10.out
          rw [code256, len256] at HCA
          refine HCA.mono ?_
          clear HCA
          rintro e w11 ⟨rfl, m11, hw11⟩
          have HTA11 := Aside0.mk (HTA10.out.fr ((Fr.refl w10 No).drewN m11) (fun _ _ _ e => e))
          rw [← hw11] at HTA11
          have HI11 := Aside0.mk (show IsR w6.heap.size w11 gr (packB (dsOf ls ps)) (dsOf ls ps).length false by rw [hw11]; exact HI10.out)
          have HB11 := Aside0.mk (show Below w6.heap.size w6 w11 by rw [hw11]; exact pw_below_drewN HB10.out m11)
          clear hw11 HI10 HB10 HTA10
          go_wp2_with fail
          have HCA := Code_yes _ _ pa lits 144 (by rw [lenL]; decide) (by rw [len144]; decide) (okS_inR okLits).1 (okS_inR okLits).2 w11 HTA11.out
          rw [code144, len144] at HCA
          refine HCA.mono ?_
          clear HCA
          rintro e w12 ⟨rfl, m12, hw12⟩
          have HI12 := Aside0.mk (show IsR w6.heap.size w12 gr (packB (dsOf ls ps)) (dsOf ls ps).length false by rw [hw12]; exact HI11.out)
          have HB12 := Aside0.mk (show Below w6.heap.size w6 w12 by rw [hw12]; exact pw_below_drewN HB11.out m12)
          clear hw12 HI11 HB11 HTA11
          have HLF := Aside0.mk (Left_fr w6.heap.size gr (packB (dsOf ls ps)) (dsOf ls ps).length false (by have := HPK.out; omega) (by have := HPK.out; omega) w12 HI12.out)
          rw [HPK.out] at HLF
          obtain ⟨T, hT⟩ : ∃ T : Nat, T = (dsOf ls ps).length := ⟨_, rfl⟩
          rw [← hT] at hdl HLF ⊢
          obtain ⟨r8, hr8⟩ : ∃ r8 : Nat, r8 = T % 8 := ⟨_, rfl⟩
          obtain ⟨q8, hq8⟩ : ∃ q8 : Nat, q8 = (8 - r8) % 8 := ⟨_, rfl⟩
          have z1 : 8 * (((T + 7) / 8 : Nat) : Int) - (T : Int) = (q8 : Int) := by omega
          have z2 : (T : Int).tmod 8 = (r8 : Int) := by rw [hr8, Int.tmod_eq_emod_of_nonneg (by omega)]; omega
          have z3 : (T : Int) % 8 = (r8 : Int) := by omega
          have z6 : (r8 : Int) ≤ 7 := by omega
          have z4 : (8 - (r8 : Int)).tmod 8 = (q8 : Int) := by rw [Int.tmod_eq_emod_of_nonneg (by omega)]; omega
          have z5 : (8 - (r8 : Int)) % 8 = (q8 : Int) := by omega
          rw [z1] at HLF
          clear z1 hq8 hr8 hdl hT
          go_wp2_with fail
          refine HLF.out.mono ?_
          clear HLF
          rintro e w13 ⟨rfl, m13, hw13⟩
          have HB13 := Aside0.mk (show Below w6.heap.size w6 w13 by rw [hw13]; exact pw_below_drewN HB12.out m13)
          clear hw13 HB12 HI12
          go_wp2_with fail
          refine (wakes3 _).mono ?_
          rintro e w14 ⟨rfl, hw⟩
          go_wp2_with fail
          go_ret
          exact ⟨rfl, below_step HB.out (below_step HB6.out (below_step HB13.out hw))⟩
theorem HuffBack_row (w : World) (A0 : Option Addr) (c0 : Nat) (l0 : List Int) (hr0 : Kd.C (Kd.int .i64) w A0 l0.length l0) (hc0 : l0.length ≤ c0) (hw0 : ∀ x ∈ l0, (Lit.int .i64 x).wf = true) (hb0 : l0.length * 8 ≤ 140737488351232)
    (A1 : Option Addr) (c1 : Nat) (l1 : List Int) (hr1 : Kd.C (Kd.int .i64) w A1 l1.length l1) (hc1 : l1.length ≤ c1) (hw1 : ∀ x ∈ l1, (Lit.int .i64 x).wf = true) (hb1 : l1.length * 8 ≤ 140737488351232)
    (A2 : Option Addr) (c2 : Nat) (l2 : List Int) (hr2 : Kd.C (Kd.int .i64) w A2 l2.length l2) (hc2 : l2.length ≤ c2) (hw2 : ∀ x ∈ l2, (Lit.int .i64 x).wf = true) (hb2 : l2.length * 8 ≤ 140737488351232) :
    Calls Try.prog 12 #[.slice A0 l0.length c0, .slice A1 l1.length c1, .slice A2 l2.length c2] w fun e w' => e = .returned (.bool true) ∧ Below w.heap.size w w' :=
  HuffBack_walk A0 A1 A2 c0 c1 c2 l0 l1 l2 w hr0 hc0 hr1 hc1 hr2 (fun x hx => i64_wf (hw0 x hx)) (fun x hx => i64_wf (hw1 x hx)) (fun x hx => i64_wf (hw2 x hx))
end Go.Proofs.Ytihgekpijplfiaa.Hb
