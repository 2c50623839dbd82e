/- Merged out of Xf, Gs, Hg, Hl, Hk, Xw, Sg, Hr (wip/tools/merge.py): a claim holds at most 60 files. -/
import Derived.Test.YtihgekpijplfiaaRg
import Derived.Test.YtihgekpijplfiaaHc
import Derived.Deep.RegionWith
import Derived.Deep.RegionLaw
import Derived.Deep.DrawnRows
import Derived.Test.YtihgekpijplfiaaBe
import Derived.Test.YtihgekpijplfiaaPHuffCodesx3
import Derived.Test.YtihgekpijplfiaaPHuffCodesx4
import Derived.Test.YtihgekpijplfiaaWb
import Derived.Test.YtihgekpijplfiaaFr
import Derived.Test.YtihgekpijplfiaaBb
import Derived.Test.YtihgekpijplfiaaHf
namespace Go.Proofs.Ytihgekpijplfiaa.Xf
set_option linter.unusedVariables false
open Go.RowKit Go.Proofs.YtihgekpijplfiaaW.PrintWords Go.Proofs.YtihgekpijplfiaaW.PrintLast Go.Proofs.YtihgekpijplfiaaW.PrintMore Go.Proofs.Ytihgekpijplfiaa.Pack Go.Proofs.Ytihgekpijplfiaa.Wr Go.Proofs.Ytihgekpijplfiaa.Rd Go.Proofs.Ytihgekpijplfiaa.Fr Go.Proofs.Ytihgekpijplfiaa.Rf
/-- A reader: its blocks are those from lo to g. -/
def IsX (lo : Nat) (W : World) (g : Nat) (bs : List Int) (n : Nat) (bad : Bool) : Prop :=
  ∃ A c, W.heap[g]? = some (.cells #[.slice A bs.length c, .int .i64 (n : Int), .bool bad] 48 (0, 0)) ∧ lo ≤ g ∧ (∀ k, (Value.slice A bs.length c).ownBlock = some k → k < g) ∧ Kd.R (Kd.int .u8) 5 W lo (fun _ => True) (.slice A bs.length c) bs
theorem IsX.ge {lo g n : Nat} {W : World} {bs : List Int} {bad : Bool} (h : IsX lo W g bs n bad) : lo ≤ g ∧ g < W.heap.size := by
  obtain ⟨A, c, h1, h2, h3, h4⟩ := h
  exact ⟨h2, blk_lt h1⟩
theorem IsX.move {lo g n : Nat} {W W1 : World} {bs : List Int} {bad : Bool} (h : IsX lo W g bs n bad) (hm : ∀ k, lo ≤ k → k ≤ g → W1.heap[k]? = W.heap[k]?) : IsX lo W1 g bs n bad := by
  obtain ⟨A, c, h1, h2, h3, h4⟩ := h
  refine ⟨A, c, (hm g h2 (Nat.le_refl _)).trans h1, h2, h3, ?_⟩
  exact Kd.R_mono (Kd.R_move (Kd.R_tight rfl h4) (fun k hk => hm k (Kd.R_base h4 k hk.symm) (Nat.le_of_lt (h3 k hk.symm)))) (fun _ _ => trivial)
theorem IsX.fr {lo g n : Nat} {W W1 : World} {S : Nat → Prop} {bs : List Int} {bad : Bool} (h : IsX lo W g bs n bad) (k : Fr W W1 S) (hs : ∀ i, S i → i < lo ∨ g < i) : IsX lo W1 g bs n bad :=
  h.move (fun i h1 h2 => k.blk i (Nat.lt_of_le_of_lt h2 h.ge.2) (fun e => by have := hs i e; omega))
theorem IsX.below {lo g n : Nat} {W W1 : World} {bs : List Int} {bad : Bool} (h : IsX lo W g bs n bad) (k : Below W.heap.size W W1) : IsX lo W1 g bs n bad := h.fr (Fr.of_below k No) (fun _ e => e.elim)
theorem IsX.drewN {lo g n : Nat} {W : World} {bs : List Int} {bad : Bool} (h : IsX lo W g bs n bad) (m : Nat) : IsX lo (W.drewN m) g bs n bad := h
theorem IsX.drew {lo g n : Nat} {W : World} {bs : List Int} {bad : Bool} (h : IsX lo W g bs n bad) : IsX lo W.drew g bs n bad := h
/-- The count, and the mark, stored. -/
theorem IsX.count {lo g n : Nat} {W : World} {bs : List Int} {bad : Bool} (h : IsX lo W g bs n bad) (m : Nat) : IsX lo (W.setCell ⟨g, 1, none⟩ (.int .i64 (m : Int))) g bs m bad := by
  obtain ⟨A, c, h1, h2, h3, h4⟩ := h
  refine ⟨A, c, (blk_set h1 1 _).trans rfl, h2, h3, ?_⟩
  exact Kd.R_set h4 h1 (by decide) 1 _
theorem IsX.mark {lo g n : Nat} {W : World} {bs : List Int} {bad : Bool} (h : IsX lo W g bs n bad) (b : Bool) : IsX lo (W.setCell ⟨g, 2, none⟩ (.bool b)) g bs n b := by
  obtain ⟨A, c, h1, h2, h3, h4⟩ := h
  refine ⟨A, c, (blk_set h1 2 _).trans rfl, h2, h3, ?_⟩
  exact Kd.R_set h4 h1 (by decide) 2 _
theorem IsX.cells {lo g n : Nat} {W : World} {bs : List Int} {bad : Bool} (h : IsX lo W g bs n bad) : ∃ A c, W.cell? ⟨g, 0, none⟩ = some (.slice A bs.length c) ∧ W.cell? ⟨g, 1, none⟩ = some (.int .i64 (n : Int)) ∧ W.cell? ⟨g, 2, none⟩ = some (.bool bad) ∧ W.frozen? ⟨g, 1, none⟩ = false ∧ W.frozen? ⟨g, 2, none⟩ = false ∧ Kd.C (Kd.int .u8) W A bs.length bs := by
  obtain ⟨A, c, h1, h2, h3, h4⟩ := h
  exact ⟨A, c, (blk_cell h1 0).trans rfl, (blk_cell h1 1).trans rfl, (blk_cell h1 2).trans rfl, blk_frozen h1 1, blk_frozen h1 2, (Kd.R_reads' h4).2.2⟩
set_option maxHeartbeats 1000000 in
theorem Left_fr (lo g : Nat) (bs : List Int) (n : Nat) (bad : Bool) (hn : n ≤ 8 * bs.length) (hl : bs.length ≤ 140737488355328) (w : World) (hI : IsX lo w g bs n bad) :
    Calls Try.prog 35 #[.pointer (some ⟨g, 0, none⟩)] w fun e w' => e = .returned (.int .i64 (8 * (bs.length : Int) - (n : Int))) ∧ ∃ m, w' = w.drewN m := by
  obtain ⟨A, c, x0, x1, x2, f1, f2, hC⟩ := hI.cells
  have z1 : IntKind.i64.wrap (8 * (bs.length : Int)) = 8 * (bs.length : Int) := IntWalk.i64_in _ (by omega)
  have z2 : IntKind.i64.wrap (8 * (bs.length : Int) - (n : Int)) = 8 * (bs.length : Int) - (n : Int) := IntWalk.i64_in _ (by omega)
  clear hn hl hC
  go_enter Try.func35, Try.ntmps35
  go_wp2_with fail
  go_quiet (fail)
  go_wp2_with fail
  go_ret
  exact ⟨rfl, _, rfl⟩
theorem Align_fr (lo g : Nat) (bs : List Int) (n : Nat) (hn : n ≤ 8 * bs.length) (hl : bs.length ≤ 140737488355328) (w : World) (hI : IsX lo w g bs n false) :
    Calls Try.prog 34 #[.pointer (some ⟨g, 0, none⟩)] w fun e w' => e = .returned (.tuple #[]) ∧ IsX lo w' g bs ((n + 7) / 8 * 8) false ∧ Fr w w' (fun i => i = g) := by
  obtain ⟨A, c, x0, x1, x2, f1, f2, hC⟩ := hI.cells
  have HI := Aside0.mk hI
  have hnn : (n : Int) ≤ 1125899906842624 := by omega
  clear hC hn hl hI
  go_enter Try.func34, Try.ntmps34
  go_wp2_with fail
  go_end0
  have e : ((n : Int) + 7) / 8 * 8 = (((n + 7) / 8 * 8 : Nat) : Int) := by omega
  rw [e]
  exact ⟨rfl, HI.out.count _, (Fr.refl _ _).setg _ _⟩
theorem Align_bad (lo g : Nat) (bs : List Int) (n : Nat) (w : World) (hI : IsX lo w g bs n true) :
    Calls Try.prog 34 #[.pointer (some ⟨g, 0, none⟩)] w fun e w' => e = .returned (.tuple #[]) ∧ w' = w := by
  obtain ⟨A, c, x0, x1, x2, f1, f2, hC⟩ := hI.cells
  clear hC
  go_enter Try.func34, Try.ntmps34
  go_wp2_with fail
  go_end0
  exact ⟨rfl, rfl⟩
set_option maxHeartbeats 4000000 in
theorem Get_bad_fr (lo g : Nat) (bs : List Int) (n : Nat) (bad : Bool) (c : Int) (h : bad = true ∨ c < 0 ∨ 16 < c ∨ 8 * (bs.length : Int) - n < c) (hn : n ≤ 8 * bs.length) (hl : bs.length ≤ 140737488355328) (w : World) (hI : IsX lo w g bs n bad) :
    Calls Try.prog 33 #[.pointer (some ⟨g, 0, none⟩), .int .i64 c] w fun e w' => e = .returned (.int .i64 0) ∧ IsX lo w' g bs n true ∧ Fr w w' (fun i => i = g) := by
  obtain ⟨A, cc, x0, x1, x2, f1, f2, hC⟩ := hI.cells
  have HI := Aside0.mk hI
  have HL := Aside0.mk (Left_fr lo g bs n bad hn hl w hI)
  clear hC hl hn hI
  have hb : bad = true ∨ bad = false := by cases bad <;> simp
  rcases hb with rfl | rfl
  · clear h
    go_enter Try.func33, Try.ntmps33
    go_wp2_with fail
    go_ret
    exact ⟨rfl, HI.out.mark true, (Fr.refl _ _).setg _ _⟩
  · by_cases h1 : c < 0
    · clear h
      go_enter Try.func33, Try.ntmps33
      go_wp2_with fail
      go_ret
      exact ⟨rfl, HI.out.mark true, (Fr.refl _ _).setg _ _⟩
    · by_cases h2 : 16 < c
      · clear h
        go_enter Try.func33, Try.ntmps33
        go_wp2_with fail
        go_ret
        exact ⟨rfl, HI.out.mark true, (Fr.refl _ _).setg _ _⟩
      · have h3 : 8 * (bs.length : Int) - n < c := by rcases h with h | h | h | h; cases h; exact absurd h h1; exact absurd h h2; exact h
        clear h
        go_enter Try.func33, Try.ntmps33
        go_wp2_with fail
        refine HL.out.mono ?_
        rintro e w5 ⟨rfl, m, rfl⟩
        go_wp2_with fail
        go_ret
        exact ⟨rfl, (HI.out.drewN m).mark true, ((Fr.refl _ _).drewN m).setg _ _⟩
set_option maxHeartbeats 4000000 in
set_option maxRecDepth 100000 in
theorem Get_fr (lo g : Nat) (bs : List Int) (n c : Nat) (hc : c ≤ 16) (hn : n + c ≤ 8 * bs.length) (hl : bs.length ≤ 140737488355328) (w : World) (hI : IsX lo w g bs n false) :
    Calls Try.prog 33 #[.pointer (some ⟨g, 0, none⟩), .int .i64 (c : Int)] w fun e w' => e = .returned (.int .i64 (valAt bs n c)) ∧ IsX lo w' g bs (n + c) false ∧ Fr w w' (fun i => i = g) := by
  have HI := Aside0.mk hI
  have HL := Aside0.mk (Left_fr lo g bs n false (by omega) hl w hI)
  have HN := Aside0.mk (And.intro hn hl)
  obtain ⟨A, cc, x0, x1, x2, f1, f2, hC⟩ := hI.cells
  have c0 : (0 : Int) ≤ (c : Int) := by omega
  have c1 : (c : Int) ≤ 16 := by omega
  have hd : decide (8 * (bs.length : Int) - (n : Int) < (c : Int)) = false := decide_eq_false (by omega)
  clear hC hl hn hI
  go_enter Try.func33, Try.ntmps33
  go_wp2_with fail
  refine HL.out.mono ?_
  rintro e w5 ⟨rfl, m, rfl⟩
  have HI5 := Aside0.mk (HI.out.drewN m)
  have HF5 := Aside0.mk ((Fr.refl w (fun i => i = g)).drewN m)
  clear x0 x1 x2 f1 f2 HL HI
  go_wp2_with fail
  clear hd
  go_loopg [5, 6] c (fun gk v5 v6 w' => ∃ i : Nat, v6 = .int .i64 (i : Int) ∧ v5 = .int .i64 (valAt bs n i) ∧ Aside0 (i + gk = c) ∧ Aside0 (IsX lo w' g bs (n + i) false) ∧ Aside0 (Fr w w' (fun j => j = g)))
  case atStart => exact ⟨0, rfl, rfl, ⟨by omega⟩, HI5, HF5⟩
  case round =>
    clear HI5 HF5
    obtain ⟨i, rfl, rfl, HG, HI, HF⟩ := hrel
    obtain ⟨wo, rfl⟩ : ∃ wo : World, wo = wr := ⟨_, rfl⟩
    by_cases hi : i < c
    · have hi1 : (i : Int) < (c : Int) := by omega
      have hi2 : (i : Int) ≤ 16 := by omega
      obtain ⟨mm, hm⟩ : ∃ mm, mm = n + i := ⟨_, rfl⟩
      have hm1 : mm < 8 * bs.length := by have := HN.out.1; omega
      have hm2 : mm ≤ 1125899906842624 := by have := HN.out.2; omega
      have HV := Aside0.mk (val_step bs n i mm hm (by omega))
      have hm3 : (mm : Int) ≤ 1125899906842624 := by omega
      have HII := HI.out
      rw [← hm] at HII
      obtain ⟨A, cc, x0, x1, x2, f1, f2, hC⟩ := HII.cells
      obtain ⟨q, hq⟩ : ∃ q : Nat, q = mm / 8 := ⟨_, rfl⟩
      obtain ⟨r, hr8⟩ : ∃ r : Nat, r = mm % 8 := ⟨_, rfl⟩
      have q1 : (q : Int) < (bs.length : Int) := by omega
      have q0 : (0 : Int) ≤ (q : Int) := by omega
      obtain ⟨ad, ea, hx⟩ := Kd.at_int hC (q : Int) q0 q1
      rw [Int.toNat_natCast] at hx
      subst ea
      have z2 : IntKind.i64.wrap ((mm : Int).tdiv 8) = (q : Int) := by rw [hq, Int.tdiv_eq_ediv_of_nonneg (by omega), IntKind.wrap_i64]; omega
      have z3 : (mm : Int).tmod 8 = (r : Int) := by rw [hr8, Int.tmod_eq_emod_of_nonneg (by omega)]; omega
      have z5 : IntKind.i64.wrap ((mm : Int) / 8) = (q : Int) := by rw [hq, IntKind.wrap_i64]; omega
      have z6 : (mm : Int) % 8 = (r : Int) := by rw [hr8]; omega
      have z4 : 0 ≤ (r : Int) := by omega
      have z7 : 0 ≤ (i : Int) := by omega
      have z9 : (r : Int) ≤ 7 := by omega
      have z8 : IntKind.u64.wrap (r : Int) = (r : Int) := by rw [IntKind.wrap_u64]; omega
      have z10 : IntKind.u64.wrap (i : Int) = (i : Int) := by rw [IntKind.wrap_u64]; omega
      have HQ := Aside0.mk (And.intro hq hr8)
      generalize hold : rd bs (q : Int) = old at hx
      have HOLD := Aside0.mk hold
      have HII' := Aside0.mk HII
      have HM := Aside0.mk hm
      have HH1 := Aside0.mk (And.intro hm1 hm2)
      clear hold hq hr8 HII hm hC hm1 hm2
      go_wp2_with fail
      go_quiet (fail)
      clear z2 z3 z4 z5 z6 z8 z10
      go_wp2_with fail
      have hval := HV.out
      rw [← HQ.out.1, ← HQ.out.2, HOLD.out] at hval
      obtain ⟨g', rfl⟩ : ∃ g', gk = g' + 1 := ⟨gk - 1, by have := HG.out; omega⟩
      go_roundg g'
      case measure => omega
      case rel =>
        refine ⟨i + 1, by go_num, by rw [← hval], ⟨by have := HG.out; omega⟩, ⟨?_⟩, ⟨(HF.out.drewN nq).setg 1 _⟩⟩
        have h9 := (HII'.out.drewN nq).count (mm + 1)
        rw [show n + (i + 1) = mm + 1 by have := HM.out; omega]
        exact h9
    · obtain rfl : i = c := by have := HG.out; omega
      clear HG
      go_wp2_with fail
      go_ret
      exact ⟨rfl, HI.out, HF.out⟩
end Go.Proofs.Ytihgekpijplfiaa.Xf
namespace Go.Proofs.Ytihgekpijplfiaa.Gs
set_option linter.unusedVariables false
open Go.RowKit Go.Proofs.YtihgekpijplfiaaW.PrintWords Go.Proofs.Ytihgekpijplfiaa.Rd Go.Proofs.Ytihgekpijplfiaa.Fr Go.Proofs.Ytihgekpijplfiaa.Rf Go.Proofs.Ytihgekpijplfiaa.Xf
/-- What is got, and the state behind it. -/
def getS (bs : List Int) (n : Nat) (bad : Bool) (c : Int) : Int × Nat × Bool :=
  if bad = true ∨ c < 0 ∨ 16 < c ∨ 8 * (bs.length : Int) - n < c then (0, n, true) else (valAt bs n c.toNat, n + c.toNat, false)
theorem getS_bad {bs : List Int} {n : Nat} {bad : Bool} {c : Int} (h : bad = true ∨ c < 0 ∨ 16 < c ∨ 8 * (bs.length : Int) - n < c) : getS bs n bad c = (0, n, true) := if_pos h
theorem getS_ok {bs : List Int} {n : Nat} {bad : Bool} {c : Int} (h : ¬ (bad = true ∨ c < 0 ∨ 16 < c ∨ 8 * (bs.length : Int) - n < c)) : getS bs n bad c = (valAt bs n c.toNat, n + c.toNat, false) := if_neg h
theorem getS_le (bs : List Int) (n : Nat) (bad : Bool) (c : Int) (hn : n ≤ 8 * bs.length) : (getS bs n bad c).2.1 ≤ 8 * bs.length := by
  by_cases h : bad = true ∨ c < 0 ∨ 16 < c ∨ 8 * (bs.length : Int) - n < c
  · rw [getS_bad h]; exact hn
  · rw [getS_ok h]
    show n + c.toNat ≤ _
    omega
theorem Get_R (lo g : Nat) (bs : List Int) (n : Nat) (bad : Bool) (c : Int) (hn : n ≤ 8 * bs.length) (hl : bs.length ≤ 140737488355328) (w : World) (hI : IsR lo w g bs n bad) :
    Calls Try.prog 28 #[.pointer (some ⟨g, 0, none⟩), .int .i64 c] w fun e w' => e = .returned (.int .i64 (getS bs n bad c).1) ∧ IsR lo w' g bs (getS bs n bad c).2.1 (getS bs n bad c).2.2 ∧ Fr w w' (fun i => i = g) := by
  by_cases h : bad = true ∨ c < 0 ∨ 16 < c ∨ 8 * (bs.length : Int) - n < c
  · rw [getS_bad h]
    exact Rf.Get_bad_fr lo g bs n bad c h hn hl w hI
  · rw [getS_ok h]
    have hb : bad = false := by cases bad <;> simp_all
    subst hb
    have h0 : 0 ≤ c := by omega
    obtain ⟨k, rfl⟩ := Int.eq_ofNat_of_zero_le h0
    exact Rf.Get_fr lo g bs n k (by omega) (by omega) hl w hI
theorem Get_X (lo g : Nat) (bs : List Int) (n : Nat) (bad : Bool) (c : Int) (hn : n ≤ 8 * bs.length) (hl : bs.length ≤ 140737488355328) (w : World) (hI : IsX lo w g bs n bad) :
    Calls Try.prog 33 #[.pointer (some ⟨g, 0, none⟩), .int .i64 c] w fun e w' => e = .returned (.int .i64 (getS bs n bad c).1) ∧ IsX lo w' g bs (getS bs n bad c).2.1 (getS bs n bad c).2.2 ∧ Fr w w' (fun i => i = g) := by
  by_cases h : bad = true ∨ c < 0 ∨ 16 < c ∨ 8 * (bs.length : Int) - n < c
  · rw [getS_bad h]
    exact Xf.Get_bad_fr lo g bs n bad c h hn hl w hI
  · rw [getS_ok h]
    have hb : bad = false := by cases bad <;> simp_all
    subst hb
    have h0 : 0 ≤ c := by omega
    obtain ⟨k, rfl⟩ := Int.eq_ofNat_of_zero_le h0
    exact Xf.Get_fr lo g bs n k (by omega) (by omega) hl w hI
theorem Bit_R (lo g : Nat) (bs : List Int) (n : Nat) (bad : Bool) (hn : n ≤ 8 * bs.length) (hl : bs.length ≤ 140737488355328) (w : World) (hI : IsR lo w g bs n bad) :
    Calls Try.prog 27 #[.pointer (some ⟨g, 0, none⟩)] w fun e w' => e = .returned (.int .i64 (getS bs n bad 1).1) ∧ IsR lo w' g bs (getS bs n bad 1).2.1 (getS bs n bad 1).2.2 ∧ Fr w w' (fun i => i = g) := by
  have HG := Aside0.mk (Get_R lo g bs n bad 1 hn hl w hI)
  clear hI hn hl
  generalize getS bs n bad 1 = s at *
  go_enter Try.func27, Try.ntmps27
  go_wp2_with fail
  refine HG.out.mono ?_
  rintro e w5 ⟨rfl, h1, h2⟩
  go_wp2_with fail
  go_ret
  exact ⟨rfl, h1, h2⟩
end Go.Proofs.Ytihgekpijplfiaa.Gs
namespace Go.Proofs.Ytihgekpijplfiaa.Hn
set_option linter.unusedVariables false
open Go.RowKit Go.Maps Go.Proofs.YtihgekpijplfiaaW.PrintWords Go.Proofs.YtihgekpijplfiaaW.PrintLast Go.Proofs.YtihgekpijplfiaaW.PrintMore Go.Proofs.Ytihgekpijplfiaa.Hp Go.Proofs.Ytihgekpijplfiaa.Rm Go.Proofs.Ytihgekpijplfiaa.Mp Go.Proofs.Ytihgekpijplfiaa.Fr Go.Proofs.Ytihgekpijplfiaa.Rf Go.Proofs.Ytihgekpijplfiaa.Gs Go.Proofs.Ytihgekpijplfiaa.Rd
/-- The sign that is read: d digits may still come; x is what was read so far. -/
def decS (ls bs : List Int) : Nat → Int → Nat → Bool → (Int × Bool) × Nat × Bool
  | 0, _, pos, bad => ((0, false), pos, bad)
  | d + 1, x, pos, bad =>
    if (getS bs pos bad 1).2.2 = true then ((0, false), (getS bs pos bad 1).2.1, true)
    else match lookS ls (2 * x + (getS bs pos bad 1).1) (15 - d) with
      | some t => (((t : Int), true), (getS bs pos bad 1).2.1, false)
      | none => decS ls bs d (2 * x + (getS bs pos bad 1).1) (getS bs pos bad 1).2.1 false
theorem look_run {W : World} {gm : Nat} {ls : List Int} (h : IsM W gm (ents ls 15)) (x : Int) (n : Nat) (hn : 0 < n) (hn2 : n ≤ 15) (hk : okKey (x, (n : Int))) :
    (Instr.lookup 91 (.map (some gm)) (.agg #[.int .i64 x, .int .i64 (n : Int)]) true).run Try.prog W = .ok (.tuple #[.int .i64 (match lookS ls x n with | some t => (t : Int) | none => 0), .bool (lookS ls x n).isSome]) W := by
  cases h1 : lookS ls x n with
  | none =>
    refine lookup_miss h (x, (n : Int)) hk (fun y hy e => ?_)
    obtain ⟨m, i, a1, a2, a3, a4, rfl⟩ := mem_ents.1 hy
    injection e with e1 e2
    have : m = n := by omega
    subst this
    have := lookS_of (c := x) hn a3 a4 e1
    rw [this] at h1
    cases h1
  | some t =>
    obtain ⟨b1, b2, b3⟩ := lookS_some h1
    refine lookup_hit h (x, (n : Int)) (t : Int) hk (mem_ents.2 ⟨n, t, hn, hn2, b1, b2, by rw [b3]⟩) (fun y hy e => ?_)
    obtain ⟨m, i, a1, a2, a3, a4, rfl⟩ := mem_ents.1 hy
    injection e with e1 e2
    have : m = n := by omega
    subst this
    have := codeOf_inj ls i t a3 b1 (by omega) (by rw [a4, b2]) (by omega)
    show (i : Int) = (t : Int)
    rw [this]
theorem getS_1 (bs : List Int) (pos : Nat) (bad : Bool) : 0 ≤ (getS bs pos bad 1).1 ∧ (getS bs pos bad 1).1 ≤ 1 := by
  by_cases h : bad = true ∨ (1 : Int) < 0 ∨ (16 : Int) < 1 ∨ 8 * (bs.length : Int) - pos < 1
  · rw [getS_bad h]; exact ⟨Int.le_refl 0, show (0 : Int) ≤ 1 by decide⟩
  · rw [getS_ok h]
    have hv := val_range bs pos 1
    have h2 : (2 : Int) ^ 1 = 2 := rfl
    rw [h2] at hv
    show 0 ≤ valAt bs pos (1 : Int).toNat ∧ valAt bs pos (1 : Int).toNat ≤ 1
    rw [show (1 : Int).toNat = 1 from rfl]
    omega
attribute [local go_sem ↓] Go.wp_at_zero Go.wp_at_succ
set_option maxHeartbeats 8000000 in
set_option maxRecDepth 100000 in
theorem Get_T (lo hi p rlo g : Nat) (ls bs : List Int) (pos : Nat) (bad : Bool) (hpos : pos ≤ 8 * bs.length) (hl : bs.length ≤ 140737488355328) (hok : okS ls = true) (w : World) (hT : IsT lo hi w p ls) (hI : IsR rlo w g bs pos bad) (hap : g < lo ∨ hi ≤ g) (hhi : hi ≤ w.heap.size) :
    Calls Try.prog 57 #[.pointer (some ⟨p, 0, none⟩), .pointer (some ⟨g, 0, none⟩)] w fun e w' => e = .returned (.tuple #[.int .i64 (decS ls bs 15 0 pos bad).1.1, .bool (decS ls bs 15 0 pos bad).1.2]) ∧ IsR rlo w' g bs (decS ls bs 15 0 pos bad).2.1 (decS ls bs 15 0 pos bad).2.2 ∧ Fr w w' (fun i => i = g) := by
  have HT := Aside0.mk hT
  have HI := Aside0.mk hI
  have HA := Aside0.mk (And.intro hap hhi)
  have HP := Aside0.mk (And.intro hpos hl)
  have HG := Aside0.mk hI.ge
  obtain ⟨D, hD⟩ : ∃ D, D = decS ls bs 15 0 pos bad := ⟨_, rfl⟩
  rw [← hD]
  have HD := Aside0.mk hD
  clear hT hI hap hhi hpos hl hok hD
  go_enter Try.func57, Try.ntmps57
  go_wp2_with fail
  obtain ⟨q, hq⟩ : ∃ q, q = w.heap.size := ⟨_, rfl⟩
  have HQ := Aside0.mk hq
  have HB0 := Aside0.mk (show (w.alloc (.cells #[.int .i64 0, .int .i64 0] 95)).heap[q]? = some (.cells #[.int .i64 0, .int .i64 ((0 : Nat) : Int)] 95 (0, 0)) by rw [hq]; exact heap_alloc_new w _)
  rw [← hq]
  clear hq
  have HI0 := Aside0.mk (HI.out.below (below_alloc (Below.refl _ _) (.cells #[.int .i64 0, .int .i64 0] 95)))
  have HF0 := Aside0.mk ((Fr.refl w (fun i => i = g)).alloc (.cells #[.int .i64 0, .int .i64 0] 95))
  go_loopg [4, 5, 7, 8] 15 (fun gk v4 v5 v7 v8 w' => ∃ (n : Nat) (x : Int) (pos : Nat) (bad : Bool), v4 = .int .i64 0 ∧ v5 = .bool false ∧ Aside0 (n + gk = 15 ∧ 0 ≤ x ∧ x < 2 ^ n ∧ pos ≤ 8 * bs.length ∧ D = decS ls bs gk x pos bad) ∧ Aside0 (w'.heap[q]? = some (.cells #[.int .i64 x, .int .i64 (n : Int)] 95 (0, 0))) ∧ Aside0 (IsR rlo w' g bs pos bad) ∧ Aside0 (Fr w w' (fun i => i = g)))
  case atStart => exact ⟨0, 0, pos, bad, rfl, rfl, ⟨rfl, Int.le_refl 0, by decide, HP.out.1, HD.out⟩, HB0, HI0, HF0⟩
  case round =>
    clear HI HI0 HF0 HB0
    obtain ⟨n, x, pos, bad, rfl, rfl, HK, HB, HI, HF⟩ := hrel
    obtain ⟨wo, rfl⟩ : ∃ wo : World, wo = wr := ⟨_, rfl⟩
    have c0 : wo.cell? ⟨q, 0, none⟩ = some (.int .i64 x) := (blk_cell HB.out 0).trans rfl
    have c1 : wo.cell? ⟨q, 1, none⟩ = some (.int .i64 (n : Int)) := (blk_cell HB.out 1).trans rfl
    by_cases hn : n < 15
    · obtain ⟨d, rfl⟩ : ∃ d, gk = d + 1 := ⟨gk - 1, by have := HK.out.1; omega⟩
      have hn1 : (n : Int) < 15 := by omega
      have hx : 0 ≤ x ∧ x ≤ 32768 := by
        have h := HK.out
        have h3 : ∀ n < 15, (2 : Int) ^ n ≤ 32768 := by decide +kernel
        have := h3 n hn
        omega
      obtain ⟨hx0, hx1⟩ := hx
      have hqg : ¬ q = g := by have := HQ.out; have := HG.out; omega
      have hs1 := getS_1 bs pos bad
      have hsl := getS_le bs pos bad 1 HK.out.2.2.2.1
      have HBIT := Aside0.mk (fun (W : World) (hI : IsR rlo W g bs pos bad) => Bit_R rlo g bs pos bad HK.out.2.2.2.1 HP.out.2 W hI)
      have HDD := HK.out.2.2.2.2
      rw [decS] at HDD
      generalize getS bs pos bad 1 = s at *
      obtain ⟨b, pos', bad'⟩ := s
      obtain ⟨hs2, hs3⟩ := hs1
      have HDE := Aside0.mk HDD
      have HSL := Aside0.mk hsl
      have hs2' : 0 ≤ b := hs2
      have hs3' : b ≤ 1 := hs3
      obtain ⟨y, hy⟩ : ∃ y, y = 2 * x + b := ⟨_, rfl⟩
      rw [← hy] at HDE
      have HY := Aside0.mk hy
      have z1 : IntKind.i64.wrap (2 * x) = 2 * x := IntWalk.i64_in _ (by omega)
      have z2 : IntKind.i64.wrap (2 * x + b) = y := by rw [hy]; exact IntWalk.i64_in _ (by omega)
      have z3 : IntKind.i64.wrap ((n : Int) + 1) = (n : Int) + 1 := IntWalk.i64_in _ (by omega)
      have HWF := Aside0.mk (show okKey (y, ((n + 1 : Nat) : Int)) from ⟨WalkArith.wf_i64 (by omega), WalkArith.wf_i64 (by omega)⟩)
      clear HDD hsl hs2 hs3 hn hy
      go_wp2_with fail
      go_region_with ((go_at_call 27; refine (HBIT.out _ (by exact HI.out)).mono ?_; rintro e w' ⟨rfl, hI, hF⟩; have hb' := (hF.blk q (blk_lt HB.out) hqg).trans HB.out; have c0' := hF.cell c0 hqg; have c1' := hF.cell c1 hqg; have f0' := blk_frozen hb' 0; have f1' := blk_frozen hb' 1))
      all_goals
        have H1 := Aside0.mk hI
        have H2 := Aside0.mk hF
        have H3 := Aside0.mk hb'
        clear z1 z2 z3 c0 c1 c0' c1' f0' f1' hI hF hb'
        obtain ⟨W2, hW2⟩ : ∃ W2, W2 = (w'.setCell ⟨q, 0, none⟩ (.int .i64 y)).setCell ⟨q, 1, none⟩ (.int .i64 ((n : Int) + 1)) := ⟨_, rfl⟩
        rw [← hW2]
        have hqq := show ¬ q = g from hqg
        have HF2 := Aside0.mk (show Fr w' W2 (fun i => i = q) by rw [hW2]; exact ((Fr.refl _ _).setg _ _).setg _ _)
        have HB2 := Aside0.mk (show W2.heap[q]? = some (.cells #[.int .i64 y, .int .i64 ((n + 1 : Nat) : Int)] 95 (0, 0)) by
          rw [hW2]
          exact (blk_set (blk_set H3.out 0 _) 1 _).trans rfl)
        have HI2 := Aside0.mk (show IsR rlo W2 g bs pos' bad' from H1.out.fr HF2.out (fun i hi => by have := HQ.out; have := HG.out; omega))
        have HF3 := Aside0.mk (show Fr w W2 (fun i => i = g) from (HF.out.drew.then_ H2.out).trans HF2.out (fun i hi => by have := HQ.out; omega))
        have HT2 := Aside0.mk (HT.out.fr HF3.out (fun i h1 h2 h3 => by have := HA.out.1; have h3 : i = g := h3; omega))
        clear hW2 H1 H2 H3
        go_wp2_with fail
        refine (Bad_fr rlo g bs pos' bad' _ HI2.out).mono ?_
        rintro e W2 ⟨rfl, rfl⟩
        have hbb : bad' = true ∨ bad' = false := by cases bad' <;> simp
        rcases hbb with rfl | rfl
        · go_wp2_with fail
          go_ret2
          have := HDE.out
          first | rw [if_pos rfl] at this | rw [if_pos trivial] at this
          rw [this]
          exact ⟨rfl, HI2.out, HF3.out⟩
        · have hDD := HDE.out
          first | rw [if_neg Bool.false_ne_true] at hDD | rw [if_neg not_false] at hDD
          rw [show 15 - d = n + 1 from by have := HK.out.1; omega] at hDD
          obtain ⟨gc, gm, a1, a2, a3, a4, a5, a6, t1, t2, t3⟩ := HT2.out
          have hlk := fun m => look_run (W := W2.drewN m) t3 y (n + 1) (by omega) (by have := HK.out.1; omega) HWF.out
          have hlk0 := look_run (W := W2) t3 y (n + 1) (by omega) (by have := HK.out.1; omega) HWF.out
          have hlk1 := look_run (W := W2.drew) t3 y (n + 1) (by omega) (by have := HK.out.1; omega) HWF.out
          rw [show ((n + 1 : Nat) : Int) = (n : Int) + 1 from rfl] at hlk0 hlk1
          simp only [show ((n + 1 : Nat) : Int) = (n : Int) + 1 from rfl] at hlk
          have b1 : W2.cell? ⟨p, 1, none⟩ = some (.map (some gm)) := (blk_cell t1 1).trans rfl
          have c0 : W2.cell? ⟨q, 0, none⟩ = some (.int .i64 y) := (blk_cell HB2.out 0).trans rfl
          have c1 : W2.cell? ⟨q, 1, none⟩ = some (.int .i64 ((n : Int) + 1)) := (blk_cell HB2.out 1).trans rfl
          cases hL : lookS ls y (n + 1) with
          | some t =>
            rw [hL] at hDD hlk0 hlk1
            simp only [hL] at hlk
            have HDF := Aside0.mk hDD
            simp only [Option.isSome_some] at hlk hlk0 hlk1
            clear hDD a1 a2 a3 a4 a5 a6 t1 t2 t3 hL
            go_wp2_with fail
            go_quiet (fail)
            go_wp2_with fail
            go_ret2
            rw [HDF.out]
            exact ⟨rfl, HI2.out, HF3.out.drewN _⟩
          | none =>
            rw [hL] at hDD hlk0 hlk1
            simp only [hL] at hlk
            have HDF := Aside0.mk hDD
            simp only [Option.isSome_none] at hlk hlk0 hlk1
            clear hDD a1 a2 a3 a4 a5 a6 t1 t2 t3 hL
            go_wp2_with fail
            go_quiet (fail)
            clear b1 c0 c1 hlk hlk0 hlk1
            go_wp2_with fail
            go_roundg d
            case measure => omega
            case rel =>
              refine ⟨n + 1, y, pos', false, rfl, rfl, ⟨by have := HK.out.1; omega, ?_, ?_, HSL.out, HDF.out⟩, HB2, HI2, ⟨HF3.out.drewN _⟩⟩
              · have := HY.out; omega
              · have h1 := HK.out.2.2.1
                have h2 := HY.out
                rw [Int.pow_succ]
                generalize (2 : Int) ^ n = P at *
                omega
    · obtain rfl : n = 15 := by have := HK.out.1; omega
      obtain rfl : gk = 0 := by have := HK.out.1; omega
      go_wp2_with fail
      go_ret2
      rw [HK.out.2.2.2.2]
      exact ⟨rfl, HI.out, HF.out⟩
end Go.Proofs.Ytihgekpijplfiaa.Hn
namespace Go.Proofs.Ytihgekpijplfiaa.Hl
set_option linter.unusedVariables false
open Go.RowKit Go.Proofs.YtihgekpijplfiaaW.PrintWords Go.Proofs.YtihgekpijplfiaaW.PrintLast Go.Proofs.YtihgekpijplfiaaW.PrintMore Go.Proofs.Ytihgekpijplfiaa.PHuffCodes Go.Proofs.Ytihgekpijplfiaa.Hp Go.Proofs.Ytihgekpijplfiaa.Rm Go.Proofs.Ytihgekpijplfiaa.Rf Go.Proofs.Ytihgekpijplfiaa.Hn
theorem withinC (a m : Int) (h0 : -9223372036854775808 ≤ a) (h1 : a ≤ 9223372036854775807) (hm0 : 1 ≤ m) (hm1 : m ≤ 9223372036854775807) : PHuffCodes.florilegiumkeep_Within.f a m = some (a % m) := within_ok a m h0 h1 hm0 hm1
def pw (l : Int) : Nat := 2 ^ (15 - l.toNat)
def sm (xs : List Int) : Nat := (xs.map pw).sum
theorem sm_cons (l : Int) (xs : List Int) : sm (l :: xs) = pw l + sm xs := by simp [sm]
theorem sm_app (xs ys : List Int) : sm (xs ++ ys) = sm xs + sm ys := by simp [sm]
theorem sm_set : ∀ (xs : List Int) (j : Nat) (a : Int), j < xs.length → sm (xs.set j a) + pw (xs.getD j 0) = sm xs + pw a
  | [], _, _, h => by simp at h
  | x :: xs, 0, a, _ => by
    rw [List.set_cons_zero, sm_cons, sm_cons]
    simp only [List.getD_cons_zero]
    omega
  | x :: xs, j + 1, a, h => by
    have ih := sm_set xs j a (by simpa using h)
    rw [List.set_cons_succ, sm_cons, sm_cons, List.getD_cons_succ]
    omega
theorem pw_pos (l : Int) : 1 ≤ pw l := Nat.one_le_two_pow
theorem pw_half (l : Int) (h0 : 0 ≤ l) (h1 : l < 15) : pw (l + 1) + pw (l + 1) = pw l := by
  unfold pw
  have e : 15 - l.toNat = (15 - (l + 1).toNat) + 1 := by omega
  rw [e, Nat.pow_succ]
  omega
theorem sm_len : ∀ xs : List Int, xs.length ≤ sm xs
  | [] => Nat.zero_le _
  | l :: xs => by
    have := sm_len xs
    have := pw_pos l
    rw [sm_cons, List.length_cons]
    omega
theorem sm_mem : ∀ (xs : List Int) (l : Int), l ∈ xs → pw l + xs.length ≤ sm xs + 1
  | [], _, h => by simp at h
  | x :: xs, l, h => by
    rw [sm_cons, List.length_cons]
    rcases List.mem_cons.1 h with rfl | h
    · have := sm_len xs; omega
    · have := sm_mem xs l h
      have := pw_pos x
      omega
theorem gK_pw (l : Int) (h0 : 1 ≤ l) (h1 : l ≤ 15) : gK 15 l = pw l := by
  unfold gK
  rw [if_pos ⟨h0, h1⟩]
  rfl
theorem gK_0 : gK 15 0 = 0 := by kernel_rfl
theorem krf_sm : ∀ xs : List Int, (∀ l ∈ xs, 1 ≤ l ∧ l ≤ 15) → krf xs 15 = sm xs
  | [], _ => rfl
  | x :: xs, h => by
    have hx := h x List.mem_cons_self
    rw [krf_cons, sm_cons, gK_pw x hx.1 hx.2, krf_sm xs (fun l hl => h l (List.mem_cons_of_mem _ hl))]
theorem inR_app (a b : List Int) : inR (a ++ b) = (inR a && inR b) := by simp [inR]
theorem rd_mem (xs : List Int) (i : Nat) (hi : i < xs.length) : rd xs (i : Int) ∈ xs := by
  rw [rd_getD, List.getD_eq_getElem?_getD, List.getElem?_eq_getElem hi]
  exact List.getElem_mem hi
/-- What the rows are set with: the signs' lengths, and none between. -/
def Q (x8 xs r : List Int) : Prop := krf r 15 = krf x8 15 + krf xs 15 ∧ nz r = nz x8 + nz xs ∧ (inR x8 = true → inR xs = true → inR r = true) ∧ r.length ≤ x8.length + 2 * xs.length ∧ x8.length + xs.length ≤ r.length
theorem Q_step {x8 : List Int} {x : Int} {xs r z : List Int} (hz : z = [] ∨ z = [0]) (h : Q (x8 ++ z ++ [x]) xs r) : Q x8 (x :: xs) r := by
  obtain ⟨h1, h2, h3, h4, h5⟩ := h
  have e1 : krf (x8 ++ z ++ [x]) 15 = krf x8 15 + gK 15 x := by
    rw [krf_snoc]
    rcases hz with rfl | rfl
    · rw [List.append_nil]
    · rw [krf_snoc, gK_0]; omega
  have e2 : nz (x8 ++ z ++ [x]) = nz x8 + (if 0 < x then 1 else 0) := by
    rw [nz_snoc]
    rcases hz with rfl | rfl
    · rw [List.append_nil]
    · rw [nz_snoc]; rfl
  have e3 : (x8 ++ z ++ [x]).length ≤ x8.length + 2 ∧ x8.length + 1 ≤ (x8 ++ z ++ [x]).length := by
    rcases hz with rfl | rfl
    · simp
    · simp
  refine ⟨by rw [h1, e1, krf_cons]; omega, by rw [h2, e2, nz_cons]; omega, fun a b => h3 ?_ ?_, by rw [List.length_cons]; omega, by rw [List.length_cons]; omega⟩
  · have hx : inR [x] = true := by
      have : inR (x :: xs) = (inR [x] && inR xs) := inR_app [x] xs
      rw [this, Bool.and_eq_true] at b
      exact b.1
    rw [inR_app, hx, inR_app, a]
    rcases hz with rfl | rfl <;> rfl
  · have : inR (x :: xs) = (inR [x] && inR xs) := inR_app [x] xs
    rw [this, Bool.and_eq_true] at b
    exact b.2
theorem drop_rd (xs : List Int) (i : Nat) (hi : i < xs.length) : xs.drop i = rd xs (i : Int) :: xs.drop (i + 1) := by
  rw [List.drop_eq_getElem_cons hi, rd_getD, List.getD_eq_getElem?_getD, List.getElem?_eq_getElem hi]
  rfl
theorem full_l1 (g xs : List Int) (hg : ∀ x ∈ g, -9223372036854775808 ≤ x ∧ x ≤ 9223372036854775807) (hl : xs.length ≤ 41) : ∀ d i x8, i + d = xs.length → x8.length ≤ 2 * i →
    ∃ r, Ev (fun k => florilegiumlaw03_Full.l1 k g x8 xs (xs.length : Int) (i : Int)) r ∧ Q x8 (xs.drop i) r
  | 0, i, x8, h, h8 => by
    obtain rfl : i = xs.length := by omega
    refine ⟨x8, Ev.step (f := fun _ => some x8) (fun k => ?_) (Ev.now _), ?_⟩
    · simp only [florilegiumlaw03_Full.l1]
      rw [if_neg (by omega)]
    · rw [List.drop_length]
      exact ⟨by simp [krf], by simp [nz], fun a _ => a, by simp, by simp⟩
  | d + 1, i, x8, h, h8 => by
    have hi : i < xs.length := by omega
    have t1 : wrap64 ((i : Int) + 1) = ((i + 1 : Nat) : Int) := by unfold wrap64; omega
    rw [drop_rd xs i hi]
    by_cases hgi : i < g.length
    · have hb := hg _ (rd_mem g i hgi)
      have hm0 := Int.emod_nonneg (rd g (i : Int)) (show (4 : Int) ≠ 0 by decide)
      have hm1 := Int.emod_lt_of_pos (rd g (i : Int)) (show (0 : Int) < 4 by decide)
      by_cases h3 : rd g (i : Int) % 4 > 2
      · obtain ⟨r, hr, hq⟩ := full_l1 g xs hg hl d (i + 1) (x8 ++ [0] ++ [rd xs (i : Int)]) (by omega) (by simp; omega)
        refine ⟨r, ?_, Q_step (Or.inr rfl) hq⟩
        refine Ev.step (f := fun k => florilegiumlaw03_Full.l2 k g x8 (rd xs (i : Int)) (rd g (i : Int) % 4) xs (xs.length : Int) (i : Int)) (fun k => ?_) ?_
        · simp only [florilegiumlaw03_Full.l1]
          rw [if_pos (by omega), if_pos (by omega), if_pos (by omega), if_pos (by omega), withinC _ _ hb.1 hb.2 (by decide) (by decide)]
          rfl
        · refine Ev.step (f := fun k => florilegiumlaw03_Full.l2 k g (x8 ++ [0]) (rd xs (i : Int)) (wrap64 (rd g (i : Int) % 4 - 1)) xs (xs.length : Int) (i : Int)) (fun k => ?_) ?_
          · simp only [florilegiumlaw03_Full.l2]
            rw [if_pos h3, if_pos (by omega)]
          · refine Ev.step (fun k => ?_) hr
            simp only [florilegiumlaw03_Full.l2]
            have t3 : ¬ wrap64 (rd g (i : Int) % 4 - 1) > 2 := by unfold wrap64; omega
            rw [if_neg t3, if_pos (by simp; omega), t1]
      · obtain ⟨r, hr, hq⟩ := full_l1 g xs hg hl d (i + 1) (x8 ++ [] ++ [rd xs (i : Int)]) (by omega) (by simp; omega)
        refine ⟨r, ?_, Q_step (Or.inl rfl) hq⟩
        rw [List.append_nil] at hr
        refine Ev.step (f := fun k => florilegiumlaw03_Full.l2 k g x8 (rd xs (i : Int)) (rd g (i : Int) % 4) xs (xs.length : Int) (i : Int)) (fun k => ?_) ?_
        · simp only [florilegiumlaw03_Full.l1]
          rw [if_pos (by omega), if_pos (by omega), if_pos (by omega), if_pos (by omega), withinC _ _ hb.1 hb.2 (by decide) (by decide)]
          rfl
        · refine Ev.step (fun k => ?_) hr
          simp only [florilegiumlaw03_Full.l2]
          rw [if_neg h3, if_pos (by omega), t1]
    · obtain ⟨r, hr, hq⟩ := full_l1 g xs hg hl d (i + 1) (x8 ++ [] ++ [rd xs (i : Int)]) (by omega) (by simp; omega)
      refine ⟨r, ?_, Q_step (Or.inl rfl) hq⟩
      rw [List.append_nil] at hr
      refine Ev.step (fun k => ?_) hr
      simp only [florilegiumlaw03_Full.l1]
      rw [if_pos (by omega), if_pos (by omega), if_pos (by omega), if_neg (by omega), if_pos (by omega), t1]
/-- What Full answers. -/
def FullP (r : List Int) : Prop := okS r = true ∧ 1 ≤ r.length ∧ r.length ≤ 82
theorem full_j2 (g xs : List Int) (hg : ∀ x ∈ g, -9223372036854775808 ≤ x ∧ x ≤ 9223372036854775807) (hl : xs.length ≤ 41) (h1 : 1 ≤ xs.length) (hr : ∀ l ∈ xs, 1 ≤ l ∧ l ≤ 15) (hs : xs = [1] ∨ sm xs = 32768) :
    ∃ r, Ev (fun k => florilegiumlaw03_Full.j2 k g xs) r ∧ FullP r := by
  obtain ⟨r, hr1, q1, q2, q3, q4, q5⟩ := full_l1 g xs hg hl xs.length 0 [] (by omega) (by simp)
  rw [List.drop_zero] at q1 q2 q3 q4 q5
  refine ⟨r, Ev.step (fun k => ?_) hr1, ?_, by simp at q5; omega, by simp at q4; omega⟩
  · simp only [florilegiumlaw03_Full.j2]
    rfl
  · have hin : inR r = true := q3 rfl (by
      unfold inR
      rw [List.all_eq_true]
      intro l hl
      have := hr l hl
      exact decide_eq_true ⟨by omega, this.2⟩)
    have e0 : krf ([] : List Int) 15 = 0 := rfl
    have e1 : nz ([] : List Int) = 0 := rfl
    rw [krf_sm xs hr, e0] at q1
    rw [e1] at q2
    have h320 : decide (r.length ≤ 320) = true := decide_eq_true (by simp at q4; omega)
    unfold okS
    rw [hin, h320]
    rcases hs with rfl | hs
    · have e2 : sm [1] = 16384 := rfl
      have e3 : nz [1] = 1 := rfl
      rw [q1, q2, e2, e3]
      rfl
    · rw [q1, hs]
      simp
theorem full_end (s g x5 : List Int) (i : Int) (hg : ∀ x ∈ g, -9223372036854775808 ≤ x ∧ x ≤ 9223372036854775807) (hl : x5.length ≤ 41) (h1 : 1 ≤ x5.length) (hr : ∀ l ∈ x5, 0 ≤ l ∧ l ≤ 15) (hs : sm x5 = 32768) :
    ∃ r, Ev (fun k => florilegiumlaw03_Full.j1 k s g x5 i false) r ∧ FullP r := by
  by_cases h : x5.length = 1
  · obtain ⟨r, hr1, hp⟩ := full_j2 g [1] hg (by simp) (by simp) (by simp) (Or.inl rfl)
    refine ⟨r, Ev.step (fun k => ?_) hr1, hp⟩
    simp only [florilegiumlaw03_Full.j1]
    rw [if_neg Bool.false_ne_true, if_pos (by omega), if_pos (by omega)]
    obtain ⟨a, rfl⟩ := List.length_eq_one_iff.1 h
    rfl
  · obtain ⟨r, hr1, hp⟩ := full_j2 g x5 hg hl h1 (fun l hm => by
      have := hr l hm
      have h2 := sm_mem x5 l hm
      refine ⟨?_, this.2⟩
      rcases (show l = 0 ∨ 1 ≤ l by omega) with rfl | h3
      · have e : pw 0 = 32768 := rfl
        omega
      · exact h3) (Or.inr hs)
    refine ⟨r, Ev.step (fun k => ?_) hr1, hp⟩
    simp only [florilegiumlaw03_Full.j1]
    rw [if_neg Bool.false_ne_true, if_neg (by omega)]
theorem getD_memD (xs : List Int) (i : Nat) (hi : i < xs.length) : xs.getD i 0 ∈ xs := by
  rw [← rd_getD]
  exact rd_mem xs i hi
theorem full_l0 (s g : List Int) (hs64 : ∀ x ∈ s, -9223372036854775808 ≤ x ∧ x ≤ 9223372036854775807) (hg : ∀ x ∈ g, -9223372036854775808 ≤ x ∧ x ≤ 9223372036854775807) : ∀ (d i : Nat) (x5 : List Int), i + d = 40 → x5.length ≤ i + 1 → 1 ≤ x5.length → (∀ l ∈ x5, 0 ≤ l ∧ l ≤ 15) → sm x5 = 32768 →
    ∃ r, Ev (fun k => florilegiumlaw03_Full.l0 k s g x5 (i : Int)) r ∧ FullP r
  | 0, i, x5, h, hl, h1, hr, hs => by
    obtain ⟨r, hr1, hp⟩ := full_end s g x5 (i : Int) hg (by omega) h1 hr hs
    refine ⟨r, Ev.step (fun k => ?_) hr1, hp⟩
    simp only [florilegiumlaw03_Full.l0]
    rw [show decide ((i : Int) < 40) = false from decide_eq_false (by omega)]
    by_cases c : (i : Int) < (s.length : Int)
    · rw [if_pos c]
    · rw [if_neg c]
  | d + 1, i, x5, h, hl, h1, hr, hs => by
    by_cases c : (i : Int) < (s.length : Int)
    · have hb := hs64 _ (rd_mem s i (by omega))
      have hm0 := Int.emod_nonneg (rd s (i : Int)) (show ((x5.length : Int)) ≠ 0 by omega)
      have hm1 := Int.emod_lt_of_pos (rd s (i : Int)) (show (0 : Int) < (x5.length : Int) by omega)
      obtain ⟨t, ht⟩ := Int.eq_ofNat_of_zero_le hm0
      have htl : t < x5.length := by omega
      have t1 : wrap64 ((i : Int) + 1) = ((i + 1 : Nat) : Int) := by unfold wrap64; omega
      have hx := hr _ (getD_memD x5 t htl)
      by_cases h15 : x5.getD t 0 < 15
      · have e1 : wrap64 (x5.getD t 0 + 1) = x5.getD t 0 + 1 := by unfold wrap64; omega
        have e2 : rd (x5.set t (x5.getD t 0 + 1)) (t : Int) = x5.getD t 0 + 1 := by
          rw [rd_getD, List.getD_eq_getElem?_getD, List.getElem?_set_self (by omega)]
          rfl
        have hsm := sm_set x5 t (x5.getD t 0 + 1) htl
        have hph := pw_half _ hx.1 h15
        obtain ⟨r, hr1, hp⟩ := full_l0 s g hs64 hg d (i + 1) (x5.set t (x5.getD t 0 + 1) ++ [x5.getD t 0 + 1]) (by omega) (by simp; omega) (by simp) (by
          intro l hl
          rcases List.mem_append.1 hl with hl | hl
          · rcases List.mem_or_eq_of_mem_set hl with hl | rfl
            · exact hr l hl
            · omega
          · rw [List.mem_singleton] at hl
            omega) (by
          rw [sm_app]
          have : sm [x5.getD t 0 + 1] = pw (x5.getD t 0 + 1) := by simp [sm]
          omega)
        refine ⟨r, ?_, hp⟩
        refine Ev.step (f := fun k => florilegiumlaw03_Full.j1 k s g x5 (i : Int) true) (fun k => ?_) ?_
        · simp only [florilegiumlaw03_Full.l0]
          rw [if_pos c, show decide ((i : Int) < 40) = true from decide_eq_true (by omega)]
        · refine Ev.step (fun k => ?_) hr1
          simp only [florilegiumlaw03_Full.j1]
          rw [if_pos trivial, if_pos (by omega), if_pos c, withinC _ _ hb.1 hb.2 (by omega) (by omega), ht]
          simp only [Option.bind_some]
          rw [if_pos (by omega), if_pos (by omega), rd_getD, if_pos h15, Int.toNat_natCast, e1, if_pos (by rw [List.length_set]; omega), e2, t1]
      · obtain ⟨r, hr1, hp⟩ := full_l0 s g hs64 hg d (i + 1) x5 (by omega) (by omega) h1 hr hs
        refine ⟨r, ?_, hp⟩
        refine Ev.step (f := fun k => florilegiumlaw03_Full.j1 k s g x5 (i : Int) true) (fun k => ?_) ?_
        · simp only [florilegiumlaw03_Full.l0]
          rw [if_pos c, show decide ((i : Int) < 40) = true from decide_eq_true (by omega)]
        · refine Ev.step (fun k => ?_) hr1
          simp only [florilegiumlaw03_Full.j1]
          rw [if_pos trivial, if_pos (by omega), if_pos c, withinC _ _ hb.1 hb.2 (by omega) (by omega), ht]
          simp only [Option.bind_some]
          rw [if_pos (by omega), if_pos (by omega), rd_getD, if_neg h15, t1]
    · obtain ⟨r, hr1, hp⟩ := full_end s g x5 (i : Int) hg (by omega) h1 hr hs
      refine ⟨r, Ev.step (fun k => ?_) hr1, hp⟩
      simp only [florilegiumlaw03_Full.l0]
      rw [if_neg c]
theorem Full_ev (s g : List Int) (hs64 : ∀ x ∈ s, -9223372036854775808 ≤ x ∧ x ≤ 9223372036854775807) (hg : ∀ x ∈ g, -9223372036854775808 ≤ x ∧ x ≤ 9223372036854775807) :
    ∃ r, Ev (fun k => florilegiumlaw03_Full.f k s g) r ∧ FullP r := full_l0 s g hs64 hg 40 0 [0] rfl (by simp) (by simp) (by simp) rfl
theorem Full_calls (A0 A1 : Option Addr) (c0 c1 : Nat) (s g : List Int) (w : World) (hr0 : Kd.C (Kd.int .i64) w A0 s.length s) (hc0 : s.length ≤ c0) (hr1 : Kd.C (Kd.int .i64) w A1 g.length g) (hc1 : g.length ≤ c1)
    (hs64 : ∀ x ∈ s, -9223372036854775808 ≤ x ∧ x ≤ 9223372036854775807) (hg : ∀ x ∈ g, -9223372036854775808 ≤ x ∧ x ≤ 9223372036854775807) :
    Calls Try.prog 59 #[.slice A0 s.length c0, .slice A1 g.length c1] w fun e w' => ∃ v r, e = .returned v ∧ FullP r ∧ Kd.R (Kd.int .i64) 3 w' w.heap.size (fun _ => True) v r ∧ Below w.heap.size w w' := by
  obtain ⟨r, hr, hp⟩ := Full_ev s g hs64 hg
  obtain ⟨k, hk⟩ := hr.rounds
  refine (florilegiumlaw03_Full.calls k A0 c0 s A1 c1 g r w hr0 hc0 hr1 hc1 hk).mono ?_
  rintro e w' ⟨v, rfl, hR, hB⟩
  exact ⟨v, r, rfl, hp, hR, hB⟩
theorem lens_l0 (g : List Int) (hg : ∀ x ∈ g, -9223372036854775808 ≤ x ∧ x ≤ 9223372036854775807) (hl : g.length ≤ 17592186044416) : ∀ (d i : Nat) (x : List Int), i + d = g.length → x.length ≤ i →
    ∃ r, Ev (fun k => florilegiumlaw03_lengths.l0 k g x (i : Int)) r ∧ r.length ≤ g.length
  | 0, i, x, h, hx => by
    refine ⟨x, Ev.step (f := fun _ => some x) (fun k => ?_) (Ev.now _), by omega⟩
    simp only [florilegiumlaw03_lengths.l0]
    rw [if_neg (by omega)]
  | d + 1, i, x, h, hx => by
    have hb := hg _ (rd_mem g i (by omega))
    have t1 : wrap64 ((i : Int) + 1) = ((i + 1 : Nat) : Int) := by unfold wrap64; omega
    obtain ⟨r, hr, hlr⟩ := lens_l0 g hg hl d (i + 1) (x ++ [rd g (i : Int) % 5]) (by omega) (by simp; omega)
    refine ⟨r, Ev.step (fun k => ?_) hr, hlr⟩
    simp only [florilegiumlaw03_lengths.l0]
    rw [if_pos (by omega), if_pos (by omega), withinC _ _ hb.1 hb.2 (by decide) (by decide)]
    simp only [Option.bind_some]
    rw [if_pos (by omega), t1]
theorem lengths_ev (s g : List Int) (a2 a3 a4 : Int) (hs64 : ∀ x ∈ s, -9223372036854775808 ≤ x ∧ x ≤ 9223372036854775807) (hg : ∀ x ∈ g, -9223372036854775808 ≤ x ∧ x ≤ 9223372036854775807) (hl : g.length ≤ 17592186044416)
    (b2 : -9223372036854775808 ≤ a2 ∧ a2 ≤ 9223372036854775807) (b3 : -9223372036854775808 ≤ a3 ∧ a3 ≤ 9223372036854775807) (b4 : -9223372036854775808 ≤ a4 ∧ a4 ≤ 9223372036854775807) :
    ∃ r, Ev (fun k => florilegiumlaw03_lengths.f k s g a2 a3 a4) r ∧ r.length ≤ 17592186044416 := by
  obtain ⟨f, hf, hok, h1, h82⟩ := Full_ev s g hs64 hg
  suffices h : ∃ r, Ev (fun k => ((PHuffCodes.florilegiumkeep_Within.f a4 6).bind fun t133 => (if t133 = 0 then ((PHuffCodes.florilegiumkeep_Within.f a2 (f.length : Int)).bind fun t134 => ((PHuffCodes.florilegiumkeep_Within.f a3 18).bind fun t135 => (if 0 ≤ t134 then (if t134 < (f.length : Int) then (some (f.set (t134 : Int).toNat (wrap64 (t135 - 1)))) else (none)) else (none)))) else (if t133 = 1 then (florilegiumlaw03_lengths.l0 k g ([] : List Int) 0) else (if t133 = 2 then ((PHuffCodes.florilegiumkeep_Within.f a3 330).bind fun t142 => (if 0 ≤ t142 then (if f.length + (t142 : Int).toNat < 17592186044416 then (some (f ++ List.replicate (t142 : Int).toNat 0)) else (none)) else (none))) else (some f)))))) r ∧ r.length ≤ 17592186044416 by
    obtain ⟨r, hr, hlr⟩ := h
    refine ⟨r, ?_, hlr⟩
    unfold florilegiumlaw03_lengths.f
    exact Ev.bind hf hr
  rw [withinC a4 6 b4.1 b4.2 (by decide) (by decide)]
  simp only [Option.bind_some]
  by_cases c0 : a4 % 6 = 0
  · simp only [if_pos c0]
    rw [withinC a2 _ b2.1 b2.2 (by omega) (by omega), withinC a3 18 b3.1 b3.2 (by decide) (by decide)]
    simp only [Option.bind_some]
    have h0 := Int.emod_nonneg a2 (show (f.length : Int) ≠ 0 by omega)
    have h1 := Int.emod_lt_of_pos a2 (show (0 : Int) < (f.length : Int) by omega)
    rw [if_pos h0, if_pos h1]
    exact ⟨_, Ev.now _, by rw [List.length_set]; omega⟩
  · simp only [if_neg c0]
    by_cases c1 : a4 % 6 = 1
    · simp only [if_pos c1]
      obtain ⟨r, hr, hlr⟩ := lens_l0 g hg hl g.length 0 [] (by omega) (by simp)
      exact ⟨r, hr, by omega⟩
    · simp only [if_neg c1]
      by_cases c2 : a4 % 6 = 2
      · simp only [if_pos c2]
        rw [withinC a3 330 b3.1 b3.2 (by decide) (by decide)]
        simp only [Option.bind_some]
        have h0 := Int.emod_nonneg a3 (show (330 : Int) ≠ 0 by decide)
        have h1 := Int.emod_lt_of_pos a3 (show (0 : Int) < 330 by decide)
        rw [if_pos h0, if_pos (by omega)]
        exact ⟨_, Ev.now _, by rw [List.length_append, List.length_replicate]; omega⟩
      · simp only [if_neg c2]
        exact ⟨f, Ev.now _, by omega⟩
theorem lengths_calls (A0 A1 : Option Addr) (c0 c1 : Nat) (s g : List Int) (a2 a3 a4 : Int) (w : World) (hr0 : Kd.C (Kd.int .i64) w A0 s.length s) (hc0 : s.length ≤ c0) (hr1 : Kd.C (Kd.int .i64) w A1 g.length g) (hc1 : g.length ≤ c1)
    (hs64 : ∀ x ∈ s, -9223372036854775808 ≤ x ∧ x ≤ 9223372036854775807) (hg : ∀ x ∈ g, -9223372036854775808 ≤ x ∧ x ≤ 9223372036854775807) (hl : g.length ≤ 17592186044416)
    (b2 : -9223372036854775808 ≤ a2 ∧ a2 ≤ 9223372036854775807) (b3 : -9223372036854775808 ≤ a3 ∧ a3 ≤ 9223372036854775807) (b4 : -9223372036854775808 ≤ a4 ∧ a4 ≤ 9223372036854775807) :
    Calls Try.prog 21 #[.slice A0 s.length c0, .slice A1 g.length c1, .int .i64 a2, .int .i64 a3, .int .i64 a4] w fun e w' => ∃ v r, e = .returned v ∧ r.length ≤ 17592186044416 ∧ Kd.R (Kd.int .i64) 3 w' w.heap.size (fun _ => True) v r ∧ Below w.heap.size w w' := by
  obtain ⟨r, hr, hp⟩ := lengths_ev s g a2 a3 a4 hs64 hg hl b2 b3 b4
  obtain ⟨k, hk⟩ := hr.rounds
  refine (florilegiumlaw03_lengths.calls k A0 c0 s A1 c1 g a2 a3 a4 r w hr0 hc0 hr1 hc1 hk).mono ?_
  rintro e w' ⟨v, rfl, hR, hB⟩
  exact ⟨v, r, rfl, hp, hR, hB⟩
end Go.Proofs.Ytihgekpijplfiaa.Hl
namespace Go.Proofs.Ytihgekpijplfiaa.Hl
set_option linter.unusedVariables false
open Go.RowKit Go.Proofs.YtihgekpijplfiaaW.PrintWords Go.Proofs.YtihgekpijplfiaaW.PrintLast Go.Proofs.YtihgekpijplfiaaW.PrintMore Go.Proofs.Ytihgekpijplfiaa.PHuffCodes Go.Proofs.Ytihgekpijplfiaa.Hp Go.Proofs.Ytihgekpijplfiaa.Rm Go.Proofs.Ytihgekpijplfiaa.Rf Go.Proofs.Ytihgekpijplfiaa.Hn
/-- The codes, level by level. -/
def cf (ls : List Int) (n k : Nat) : List Int := (cdL ls n k).map Prod.fst
theorem cf_length (ls : List Int) (n k : Nat) : (cf ls n k).length = ls.length := by simp [cf, cdL_length]
theorem cf_zero (ls : List Int) : cf ls 0 0 = List.replicate ls.length 0 := by simp [cf, cdL_zero]
def codesL (ls : List Int) : List Int := cf ls 15 0
theorem codesL_get (ls : List Int) (h : inR ls = true) (i : Nat) (hi : i < ls.length) : rd (codesL ls) (i : Int) = if 0 < ls.getD i 0 then (codeOf ls i : Int) else 0 := by
  unfold codesL cf
  rw [rd_getD, List.getD_eq_getElem?_getD, List.getElem?_map, cdL_get ls 15 0 i hi, cd_last h i hi]
  split <;> rfl
theorem cds_l2 (ls : List Int) (hin : inR ls = true) (hl : ls.length ≤ 320) (hk : krf ls 15 ≤ 32768) (n : Nat) (hn : n < 15) (R : List Int × Bool) (hR : Ev (fun k => florilegiumref01_Codes.l1 k ls (cf ls (n + 1) 0) ((2 * nxt ls (n + 1) : Nat) : Int) ((n + 1 + 1 : Nat) : Int)) R) :
    ∀ d i : Nat, i + d = ls.length → Ev (fun k => florilegiumref01_Codes.l2 k ls (cf ls n i) ((2 * nxt ls n + cnt (ls.take i) (n + 1) : Nat) : Int) ((n + 1 : Nat) : Int) ls (ls.length : Int) (i : Int)) R
  | 0, i, h => by
    obtain rfl : i = ls.length := by omega
    have h1 := nxt_le ls (n + 1) (by omega) hk
    have h2 : (2 : Nat) ^ (n + 1) ≤ 2 ^ 15 := Nat.pow_le_pow_right (by decide) (by omega)
    have h3 : (2 : Nat) ^ 15 = 32768 := rfl
    refine Ev.step (fun k => ?_) hR
    simp only [florilegiumref01_Codes.l2]
    rw [if_neg (by omega), nxt_end]
    have e1 : wrap64 (((nxt ls (n + 1) : Nat) : Int) * 2) = ((2 * nxt ls (n + 1) : Nat) : Int) := by unfold wrap64; omega
    have e2 : wrap64 (((n + 1 : Nat) : Int) + 1) = ((n + 1 + 1 : Nat) : Int) := by unfold wrap64; omega
    have e3 : cf ls n ls.length = cf ls (n + 1) 0 := by unfold cf; rw [cdL_next]
    rw [e1, e2, e3]
  | d + 1, i, h => by
    have hi : i < ls.length := by omega
    have ih := cds_l2 ls hin hl hk n hn R hR d (i + 1) (by omega)
    have t1 : wrap64 ((i : Int) + 1) = ((i + 1 : Nat) : Int) := by unfold wrap64; omega
    have h0 := nxt_mid ls n i
    have h1 := nxt_le ls (n + 1) (by omega) hk
    have h2 : (2 : Nat) ^ (n + 1) ≤ 2 ^ 15 := Nat.pow_le_pow_right (by decide) (by omega)
    have h3 : (2 : Nat) ^ 15 = 32768 := rfl
    refine Ev.step (fun k => ?_) ih
    simp only [florilegiumref01_Codes.l2]
    rw [if_pos (by omega), if_pos (by omega), if_pos (by omega), rd_getD]
    by_cases hx : ls.getD i 0 = ((n + 1 : Nat) : Int)
    · have e1 : wrap64 (((2 * nxt ls n + cnt (ls.take i) (n + 1) : Nat) : Int) + 1) = ((2 * nxt ls n + cnt (ls.take (i + 1)) (n + 1) : Nat) : Int) := by
        rw [cnt_take_succ ls (n + 1) i hi, if_pos hx]
        unfold wrap64
        omega
      have e2 : (cf ls n i).set i ((2 * nxt ls n + cnt (ls.take i) (n + 1) : Nat) : Int) = cf ls n (i + 1) := by
        unfold cf
        rw [cdL_hit ls n i hi hx, List.map_set, codeOf_eq ls n i hx]
      rw [if_pos hx, if_pos (by rw [cf_length]; omega), Int.toNat_natCast, e1, e2, t1]
    · have e1 : cnt (ls.take (i + 1)) (n + 1) = cnt (ls.take i) (n + 1) := by rw [cnt_take_succ ls (n + 1) i hi, if_neg hx]; rfl
      have e2 : cf ls n (i + 1) = cf ls n i := by unfold cf; rw [cdL_miss ls n i hx]
      rw [if_neg hx, e1, e2, t1]
theorem cds_l1 (ls : List Int) (hin : inR ls = true) (hl : ls.length ≤ 320) (hk : krf ls 15 ≤ 32768) : ∀ d n : Nat, n + d = 15 →
    Ev (fun k => florilegiumref01_Codes.l1 k ls (cf ls n 0) ((2 * nxt ls n : Nat) : Int) ((n + 1 : Nat) : Int)) (codesL ls, true)
  | 0, n, h => by
    obtain rfl : n = 15 := by omega
    refine Ev.step (f := fun _ => some (codesL ls, true)) (fun k => ?_) (Ev.now _)
    simp only [florilegiumref01_Codes.l1]
    rw [if_neg (by omega)]
    rfl
  | d + 1, n, h => by
    have ih := cds_l1 ls hin hl hk d (n + 1) (by omega)
    have h2 := cds_l2 ls hin hl hk n (by omega) _ ih ls.length 0 (by omega)
    refine Ev.step (fun k => ?_) h2
    simp only [florilegiumref01_Codes.l1]
    rw [if_pos (by omega)]
    rfl
theorem nz0 : ∀ ls : List Int, nz ls = 0 → cnt ls 1 = 0 ∧ krf ls 15 = 0
  | [], _ => ⟨rfl, rfl⟩
  | l :: ls, h => by
    rw [nz_cons] at h
    have hl : ¬ 0 < l := by intro h9; rw [if_pos h9] at h; omega
    rw [if_neg hl] at h
    obtain ⟨h1, h2⟩ := nz0 ls (by omega)
    rw [cnt_cons, krf_cons, h1, h2, if_neg (by omega)]
    refine ⟨rfl, ?_⟩
    unfold gK
    rw [if_neg (by omega)]
theorem gK_one (l : Int) (h0 : 0 < l) (h1 : l ≤ 15) : gK 15 l = 16384 ↔ l = 1 := by
  obtain ⟨m, rfl⟩ := Int.eq_ofNat_of_zero_le (show 0 ≤ l by omega)
  have h : ∀ m : Nat, m < 16 → 0 < m → (gK 15 (m : Int) = 16384 ↔ m = 1) := by decide +kernel
  rw [h m (by omega) (by omega)]
  omega
theorem nz1 : ∀ ls : List Int, inR ls = true → nz ls = 1 → (krf ls 15 = 16384 ↔ cnt ls 1 = 1)
  | [], _, h => by simp [nz] at h
  | l :: ls, hin, h => by
    have hin2 : (0 ≤ l ∧ l ≤ 15) ∧ inR ls = true := by
      unfold inR at hin ⊢
      rw [List.all_cons, Bool.and_eq_true] at hin
      exact ⟨of_decide_eq_true hin.1, hin.2⟩
    rw [nz_cons] at h
    by_cases hl : 0 < l
    · rw [if_pos hl] at h
      obtain ⟨h1, h2⟩ := nz0 ls (by omega)
      rw [cnt_cons, krf_cons, h1, h2, Nat.add_zero, gK_one l hl hin2.1.2, Nat.zero_add]
      by_cases e : l = 1
      · rw [if_pos (by rw [e]; rfl)]; exact ⟨fun _ => rfl, fun _ => e⟩
      · rw [if_neg (by omega)]; exact ⟨fun h => absurd h e, fun h => by omega⟩
    · rw [if_neg hl] at h
      have ih := nz1 ls hin2.2 (by omega)
      have e : gK 15 l = 0 := by unfold gK; rw [if_neg (by omega)]
      rw [cnt_cons, krf_cons, e, Nat.zero_add, if_neg (by omega), Nat.add_zero]
      exact ih
theorem cds_j2f (ls : List Int) (b : Bool) (hb : b = true) : Ev (fun k => florilegiumref01_Codes.j2 k ls b) ([], false) := by
  refine Ev.step (f := fun _ => some ([], false)) (fun k => ?_) (Ev.now _)
  simp only [florilegiumref01_Codes.j2]
  rw [if_pos hb]
theorem cds_j2t (ls : List Int) (b : Bool) (hb : b = false) (hin : inR ls = true) (hl : ls.length ≤ 320) (hk : krf ls 15 ≤ 32768) : Ev (fun k => florilegiumref01_Codes.j2 k ls b) (codesL ls, true) := by
  have h := cds_l1 ls hin hl hk 15 0 rfl
  refine Ev.step (fun k => ?_) h
  simp only [florilegiumref01_Codes.j2]
  rw [if_neg (by rw [hb]; decide), if_pos (by omega), if_pos (by omega), Int.toNat_natCast, cf_zero]
  rfl
def codesR (ls : List Int) : List Int × Bool := if okS ls = true then (codesL ls, true) else ([], false)
theorem ok_iff (ls : List Int) (hin : inR ls = true) (hl : ls.length ≤ 320) : okS ls = (decide (nz ls = 0) || (decide (nz ls = 1) && decide (krf ls 15 = 16384)) || decide (krf ls 15 = 32768)) := by
  unfold okS
  rw [hin, decide_eq_true hl]
  rfl
theorem ne_beq {a b : Int} (h : a ≠ b) : (a == b) = false := beq_eq_false_iff_ne.mpr h
theorem cds_end (ls : List Int) (hin : inR ls = true) (hl : ls.length ≤ 320) :
    Ev (fun k => florilegiumref01_Codes.l0 k ls ((nz ls : Nat) : Int) ((cnt ls 1 : Nat) : Int) ((krf ls 15 : Nat) : Int) ls (ls.length : Int) (ls.length : Int)) (codesR ls) := by
  have hstep : ∀ (b : Bool), (∀ k, florilegiumref01_Codes.l0 (k + 1) ls ((nz ls : Nat) : Int) ((cnt ls 1 : Nat) : Int) ((krf ls 15 : Nat) : Int) ls (ls.length : Int) (ls.length : Int) = florilegiumref01_Codes.j2 k ls b) → (b = true → okS ls = false) → (b = false → okS ls = true ∧ krf ls 15 ≤ 32768) → Ev (fun k => florilegiumref01_Codes.l0 k ls ((nz ls : Nat) : Int) ((cnt ls 1 : Nat) : Int) ((krf ls 15 : Nat) : Int) ls (ls.length : Int) (ls.length : Int)) (codesR ls) := by
    intro b h1 h2 h3
    refine Ev.step h1 ?_
    unfold codesR
    cases b with
    | true => rw [if_neg (by rw [h2 rfl]; decide)]; exact cds_j2f ls true rfl
    | false => rw [if_pos (h3 rfl).1]; exact cds_j2t ls false rfl hin hl (h3 rfl).2
  rw [ok_iff ls hin hl] at hstep
  simp only [florilegiumref01_Codes.l0, Int.lt_irrefl, if_false] at hstep
  by_cases c1 : ((krf ls 15 : Nat) : Int) > 32768
  · refine hstep true (fun k => by rw [if_pos c1]) (fun _ => ?_) (fun h => by cases h)
    have n0 : nz ls ≠ 0 := fun h => by have := (nz0 ls h).2; omega
    rw [decide_eq_false n0, decide_eq_false (show ¬ krf ls 15 = 16384 by omega), decide_eq_false (show ¬ krf ls 15 = 32768 by omega)]
    cases decide (nz ls = 1) <;> rfl
  · by_cases c2 : ((krf ls 15 : Nat) : Int) < 32768
    · by_cases c3 : ((nz ls : Nat) : Int) = 0
      · refine hstep false (fun k => by rw [if_neg c1, if_pos c2, if_pos c3]) (fun h => by cases h) (fun _ => ⟨?_, by omega⟩)
        rw [decide_eq_true (show nz ls = 0 by omega)]
        rfl
      · by_cases c4 : ((nz ls : Nat) : Int) = 1
        · have hz := nz1 ls hin (by omega)
          by_cases c5 : cnt ls 1 = 1
          · refine hstep false (fun k => by rw [if_neg c1, if_pos c2, if_neg c3, if_pos c4, c5]; rfl) (fun h => by cases h) (fun _ => ⟨?_, by omega⟩)
            rw [decide_eq_true (show nz ls = 1 by omega), decide_eq_true (hz.2 c5)]
            cases decide (nz ls = 0) <;> rfl
          · refine hstep true (fun k => by rw [if_neg c1, if_pos c2, if_neg c3, if_pos c4, ne_beq (show ((cnt ls 1 : Nat) : Int) ≠ 1 by omega)]; rfl) (fun _ => ?_) (fun h => by cases h)
            rw [decide_eq_false (show ¬ nz ls = 0 by omega), decide_eq_false (fun h => c5 (hz.1 h)), decide_eq_false (show ¬ krf ls 15 = 32768 by omega)]
            cases decide (nz ls = 1) <;> rfl
        · refine hstep true (fun k => by rw [if_neg c1, if_pos c2, if_neg c3, if_neg c4]; rfl) (fun _ => ?_) (fun h => by cases h)
          rw [decide_eq_false (show ¬ nz ls = 0 by omega), decide_eq_false (show ¬ nz ls = 1 by omega), decide_eq_false (show ¬ krf ls 15 = 32768 by omega)]
          rfl
    · refine hstep false (fun k => by rw [if_neg c1, if_neg c2]) (fun h => by cases h) (fun _ => ⟨?_, by omega⟩)
      rw [decide_eq_true (show krf ls 15 = 32768 by omega), Bool.or_true]
theorem cnt_snoc (a : List Int) (l : Int) (n : Nat) : cnt (a ++ [l]) n = cnt a n + (if l = (n : Int) then 1 else 0) := by
  unfold cnt
  rw [List.countP_append, List.countP_singleton]
  by_cases h : l = (n : Int) <;> simp [h]
theorem cnt_le (a : List Int) (n : Nat) : cnt a n ≤ a.length := List.countP_le_length
theorem cds_l0 (ls : List Int) (hl : ls.length ≤ 320) : ∀ d i : Nat, i + d = ls.length → inR (ls.take i) = true →
    Ev (fun k => florilegiumref01_Codes.l0 k ls ((nz (ls.take i) : Nat) : Int) ((cnt (ls.take i) 1 : Nat) : Int) ((krf (ls.take i) 15 : Nat) : Int) ls (ls.length : Int) (i : Int)) (codesR ls)
  | 0, i, h, hin => by
    obtain rfl : i = ls.length := by omega
    rw [List.take_length] at hin ⊢
    exact cds_end ls hin hl
  | d + 1, i, h, hin => by
    have hi : i < ls.length := by omega
    have hk1 := krf_le 15 (ls.take i)
    have hk2 := nz_le (ls.take i)
    have hk4 := cnt_le (ls.take i) 1
    have hk3 : (ls.take i).length = i := by rw [List.length_take]; omega
    have t4 : wrap64 ((i : Int) + 1) = ((i + 1 : Nat) : Int) := by unfold wrap64; omega
    by_cases hb : ls.getD i 0 < 0 ∨ 15 < ls.getD i 0
    · have hno : inR ls = false := by
        have e : ls.getD i 0 = ls[i] := by simp [List.getD_eq_getElem?_getD, hi]
        rw [e] at hb
        unfold inR
        rw [← Bool.not_eq_true, List.all_eq_true]
        intro hall
        have := hall _ (List.getElem_mem hi)
        simp at this
        omega
      have hR : codesR ls = ([], false) := by
        unfold codesR okS
        rw [hno]
        rfl
      rw [hR]
      refine Ev.step (f := fun k => florilegiumref01_Codes.j1 k ls ((nz (ls.take i) : Nat) : Int) ((cnt (ls.take i) 1 : Nat) : Int) ((krf (ls.take i) 15 : Nat) : Int) (ls.getD i 0) ls (ls.length : Int) (i : Int) true) (fun k => ?_) ?_
      · simp only [florilegiumref01_Codes.l0]
        rw [if_pos (by omega), if_pos (by omega), if_pos (by omega), rd_getD]
        by_cases h0 : ls.getD i 0 < 0
        · rw [if_pos h0]
        · rw [if_neg h0]
          congr 1
          exact decide_eq_true (by omega)
      · refine Ev.step (f := fun _ => some ([], false)) (fun k => ?_) (Ev.now _)
        simp only [florilegiumref01_Codes.j1]
        rw [if_pos trivial]
    · have h0 : 0 ≤ ls.getD i 0 := by omega
      have h15 : ls.getD i 0 ≤ 15 := by omega
      have hin' : inR (ls.take (i + 1)) = true := by
        rw [take_snoc ls i hi, inR_snoc, hin]
        simp only [Bool.true_and]
        exact decide_eq_true ⟨h0, h15⟩
      have ih := cds_l0 ls hl d (i + 1) (by omega) hin'
      refine Ev.step (f := fun k => florilegiumref01_Codes.j1 k ls ((nz (ls.take i) : Nat) : Int) ((cnt (ls.take i) 1 : Nat) : Int) ((krf (ls.take i) 15 : Nat) : Int) (ls.getD i 0) ls (ls.length : Int) (i : Int) false) (fun k => ?_) ?_
      · simp only [florilegiumref01_Codes.l0]
        rw [if_pos (by omega), if_pos (by omega), if_pos (by omega), rd_getD, if_neg (by omega)]
        congr 1
        exact decide_eq_false (by omega)
      · refine Ev.step (fun k => ?_) ih
        simp only [florilegiumref01_Codes.j1]
        rw [if_neg Bool.false_ne_true, take_snoc ls i hi, krf_snoc, nz_snoc, cnt_snoc, t4]
        have hg := gK_le 15 (ls.getD i 0)
        have e5 : wrap64 (((cnt (ls.take i) 1 : Nat) : Int) + 1) = ((cnt (ls.take i) 1 + 1 : Nat) : Int) := by unfold wrap64; omega
        by_cases hp : ls.getD i 0 > 0
        · have e1 : 0 ≤ IntKind.u64.wrap (wrap64 (15 - ls.getD i 0)) := by
            rw [IntKind.wrap_u64]
            unfold wrap64
            omega
          have e6 : IntKind.u64.wrap (wrap64 (15 - ls.getD i 0)) = wrap64 (15 - ls.getD i 0) := by
            rw [IntKind.wrap_u64]
            unfold wrap64
            omega
          rw [if_pos hp, if_pos e1, e6, shl15 _ hp h15, if_pos hp]
          have e2 : wrap64 (((krf (ls.take i) 15 : Nat) : Int) + ((gK 15 (ls.getD i 0) : Nat) : Int)) = ((krf (ls.take i) 15 + gK 15 (ls.getD i 0) : Nat) : Int) := by unfold wrap64; omega
          have e3 : wrap64 (((nz (ls.take i) : Nat) : Int) + 1) = ((nz (ls.take i) + 1 : Nat) : Int) := by unfold wrap64; omega
          rw [e2, e3, e5]
          by_cases h1 : ls.getD i 0 = 1
          · rw [if_pos h1, if_pos (by rw [h1]; rfl)]
          · rw [if_neg h1, if_neg (by omega)]
            rfl
        · rw [if_neg hp, if_neg hp]
          have e2 : gK 15 (ls.getD i 0) = 0 := by unfold gK; rw [if_neg (by omega)]
          rw [e2, if_neg (show ¬ ls.getD i 0 = 1 by omega), if_neg (show ¬ ls.getD i 0 = ((1 : Nat) : Int) by omega)]
          rfl
theorem Codes_calls (A : Option Addr) (c : Nat) (ls : List Int) (w : World) (hC : Kd.C (Kd.int .i64) w A ls.length ls) (hc : ls.length ≤ c) :
    Calls Try.prog 22 #[.slice A ls.length c] w fun e w' => ∃ v, e = .returned (.tuple #[v, .bool (codesR ls).2]) ∧ Kd.R (Kd.int .i64) 3 w' w.heap.size (fun _ => True) v (codesR ls).1 ∧ Below w.heap.size w w' := by
  have hev : Ev (fun k => florilegiumref01_Codes.f k ls) (codesR ls) := by
    unfold florilegiumref01_Codes.f
    by_cases hl : (ls.length : Int) > 320
    · simp only [if_pos hl]
      have hR : codesR ls = ([], false) := by
        unfold codesR okS
        rw [decide_eq_false (show ¬ ls.length ≤ 320 by omega)]
        cases inR ls <;> rfl
      rw [hR]
      exact Ev.now _
    · simp only [if_neg hl]
      exact cds_l0 ls (by omega) ls.length 0 (by omega) rfl
  obtain ⟨k, hk⟩ := hev.rounds
  exact florilegiumref01_Codes.calls k A c ls _ _ w hC hc hk
theorem codesR_yes {ls : List Int} (h : okS ls = true) : codesR ls = (codesL ls, true) := by unfold codesR; rw [if_pos h]
theorem codesR_no {ls : List Int} (h : okS ls = false) : codesR ls = ([], false) := by unfold codesR; rw [if_neg (by rw [h]; decide)]
end Go.Proofs.Ytihgekpijplfiaa.Hl
namespace Go.Proofs.Ytihgekpijplfiaa.Xw
set_option linter.unusedVariables false
open Go.RowKit Go.Proofs.YtihgekpijplfiaaW.PrintWords Go.Proofs.YtihgekpijplfiaaW.PrintLast Go.Proofs.YtihgekpijplfiaaW.PrintMore Go.Proofs.Ytihgekpijplfiaa.Pack Go.Proofs.Ytihgekpijplfiaa.Wr
/-- A writer of the call's own: its bytes and how many digits are filled. -/
def IsY (base : Nat) (W : World) (g : Nat) (bs : List Int) (n : Int) : Prop :=
  ∃ v, W.heap[g]? = some (.cells #[v, .int .i64 n, .bool false] 48 (0, 0)) ∧ base ≤ g ∧ Kd.R (Kd.int .u8) 5 W base (fun _ => True) v bs
/-- The blocks that are a writer's. -/
def YOwn (W : World) (g k : Nat) : Prop := k = g ∨ ∃ v n, W.heap[g]? = some (.cells #[v, n, .bool false] 48 (0, 0)) ∧ v.ownBlock = some k
/-- What a writer's method leaves: its own blocks and new ones alone are touched. -/
structure YStep (W W' : World) (g : Nat) : Prop where
  os : W'.os = W.os
  tape : W'.tape = W.tape
  output : W'.output = W.output
  kept : Kept W W' (YOwn W g)
  own : ∀ k, YOwn W' g k → YOwn W g k ∨ W.heap.size ≤ k
theorem YStep.trans {W W1 W2 : World} {g : Nat} (h : YStep W W1 g) (k : YStep W1 W2 g) : YStep W W2 g := by
  refine ⟨k.os.trans h.os, k.tape.trans h.tape, k.output.trans h.output, ⟨Nat.le_trans h.kept.1 k.kept.1, fun i hi hn => ?_⟩, fun i hi => ?_⟩
  · rw [k.kept.2 i (Nat.lt_of_lt_of_le hi h.kept.1) (fun hw => by rcases h.own i hw with h1 | h1; exact hn h1; omega), h.kept.2 i hi hn]
  · rcases k.own i hi with h1 | h1
    · exact h.own i h1
    · exact .inr (Nat.le_trans h.kept.1 h1)
theorem YStep.refl (W : World) (g : Nat) : YStep W W g := ⟨rfl, rfl, rfl, Kept.refl _ _, fun _ h => .inl h⟩
theorem YOwn_iff {W : World} {g : Nat} {v : Value} {n : Value} (h1 : W.heap[g]? = some (.cells #[v, n, .bool false] 48 (0, 0))) (k : Nat) : YOwn W g k ↔ (k = g ∨ v.ownBlock = some k) := by
  constructor
  · rintro (h | ⟨v', n', h4, h5⟩)
    · exact .inl h
    · rw [h1] at h4
      have : v = v' := by
        have h6 := Option.some.inj h4
        injection h6 with h6
        have := congrArg (fun a : Array Value => a[0]?) h6
        simpa using this
      subst this
      exact .inr h5
  · rintro (h | h)
    · exact .inl h
    · exact .inr ⟨v, n, h1, h⟩
theorem IsY.own_ge {base : Nat} {W : World} {g : Nat} {bs : List Int} {n : Int} (h : IsY base W g bs n) (k : Nat) (hk : YOwn W g k) : base ≤ k := by
  obtain ⟨v, h1, h2, h3⟩ := h
  rcases (YOwn_iff h1 k).1 hk with rfl | h5
  · exact h2
  · exact Kd.R_base h3 k h5
theorem IsY.lt {base : Nat} {W : World} {g : Nat} {bs : List Int} {n : Int} (h : IsY base W g bs n) : base ≤ g ∧ g < W.heap.size := by
  obtain ⟨v, h1, h2, h3⟩ := h
  exact ⟨h2, blk_lt h1⟩
theorem IsY.below {base : Nat} {W W' w0 : World} {g : Nat} {bs : List Int} {n : Int} (h : IsY base W g bs n) (hs : YStep W W' g) (hb : Below base w0 W) : Below base w0 W' :=
  ⟨hs.os.trans hb.os, hs.tape.trans hb.tape, hs.output.trans hb.output, Nat.le_trans hb.size hs.kept.1, fun i hi => by
    rw [hs.kept.2 i (by have := h.lt; omega) (fun hw => by have := h.own_ge i hw; omega), hb.block i hi]⟩
/-- A writer behind something else. -/
theorem IsY.move {base : Nat} {W W' : World} {g : Nat} {bs : List Int} {n : Int} (h : IsY base W g bs n) (hm : ∀ k, YOwn W g k → W'.heap[k]? = W.heap[k]?) : IsY base W' g bs n := by
  obtain ⟨v, h1, h2, h3⟩ := h
  refine ⟨v, (hm g (.inl rfl)).trans h1, h2, ?_⟩
  exact Kd.R_mono (Kd.R_move (Kd.R_tight rfl h3) (fun k hk => hm k ((YOwn_iff h1 k).2 (.inr hk.symm)))) (fun _ _ => trivial)
theorem YStep.drew {W W' : World} {g : Nat} (h : YStep W W' g) : YStep W W'.drew g := ⟨h.os, h.tape, h.output, h.kept, h.own⟩
/-- A store into the row of a writer. -/
theorem YStep.row {W : World} {g g0 q L c : Nat} {n : Value} (hb : W.heap[g]? = some (.cells #[.slice (some ⟨g0, 0, none⟩) L c, n, .bool false] 48 (0, 0))) (hne : g ≠ g0) (u : Value) : YStep W (W.setCell ⟨g0, q, none⟩ u) g := by
  refine ⟨rfl, rfl, rfl, ⟨by simp [World.setCell], fun i hi hn => ?_⟩, fun k hk => ?_⟩
  · refine Below.heap_setCell W ⟨g0, q, none⟩ u i (fun e => hn ((YOwn_iff hb i).2 (.inr ?_)))
    have e' : i = g0 := e
    rw [e']
    rfl
  · exact .inl ((YOwn_iff hb k).2 ((YOwn_iff (blk_far hb hne u) k).1 hk))
/-- A store of the count. -/
theorem YStep.count {W : World} {g : Nat} {v n : Value} (hb : W.heap[g]? = some (.cells #[v, n, .bool false] 48 (0, 0))) (u : Value) : YStep W (W.setCell ⟨g, 1, none⟩ u) g := by
  have hb' : (W.setCell ⟨g, 1, none⟩ u).heap[g]? = some (.cells #[v, u, .bool false] 48 (0, 0)) := (blk_set hb 1 u).trans rfl
  refine ⟨rfl, rfl, rfl, ⟨by simp [World.setCell], fun i hi hn => ?_⟩, fun k hk => ?_⟩
  · exact Below.heap_setCell W ⟨g, 1, none⟩ u i (fun e => hn (.inl e))
  · exact .inl ((YOwn_iff hb k).2 ((YOwn_iff hb' k).1 hk))
/-- Bytes appended, and the new row stored. -/
theorem YStep.grow {w W w9 : World} {g : Nat} {v v9 n : Value} (hb : w.heap[g]? = some (.cells #[v, n, .bool false] 48 (0, 0))) (hW : ∃ m, W = w.drewN m) (hne : some g ≠ v.ownBlock) (hg : W.grownBy w9 v.ownBlock) (hat : v9.ownBlock = v.ownBlock ∨ ∃ b, v9.ownBlock = some b ∧ W.heap.size ≤ b) : YStep w (w9.setCell ⟨g, 0, none⟩ v9) g := by
  obtain ⟨m, rfl⟩ := hW
  have hb9 : w9.heap[g]? = some (.cells #[v, n, .bool false] 48 (0, 0)) := blk_grown (blk_drewN hb m) hg hne
  have hb' : (w9.setCell ⟨g, 0, none⟩ v9).heap[g]? = some (.cells #[v9, n, .bool false] 48 (0, 0)) := (blk_set hb9 0 v9).trans rfl
  refine ⟨hg.os, hg.tape, hg.output, ⟨?_, fun i hi hn => ?_⟩, fun k hk => ?_⟩
  · have := hg.size
    simpa [World.setCell] using this
  · rw [Below.heap_setCell w9 ⟨g, 0, none⟩ v9 i (fun e => hn (.inl e))]
    exact hg.block i hi (fun e => hn ((YOwn_iff hb i).2 (.inr e.symm)))
  · rcases (YOwn_iff hb' k).1 hk with h | h
    · exact .inl (.inl h)
    · rcases hat with h2 | ⟨b, h2, h3⟩
      · exact .inl ((YOwn_iff hb k).2 (.inr (h2 ▸ h)))
      · rw [h2] at h
        injection h with h
        exact .inr (h ▸ h3)
/-- The end of 'bit'. -/
theorem bit_end {base g g0 q n L c : Nat} {w W2 : World} {b1 : List Int} {nv : Int} (hg : base ≤ g) (hb : W2.heap[g]? = some (.cells #[.slice (some ⟨g0, 0, none⟩) L c, .int .i64 (n : Int), .bool false] 48 (0, 0)))
    (hR : Kd.R (Kd.int .u8) 5 W2 base (fun _ => True) (.slice (some ⟨g0, 0, none⟩) L c) b1) (hs : YStep w W2 g) :
    IsY base ((W2.setCell ⟨g0, q, none⟩ (.int .u8 nv)).setCell ⟨g, 1, none⟩ (.int .i64 ((n : Int) + 1))).drew g (b1.set q nv) ((n + 1 : Nat) : Int) ∧ YStep w ((W2.setCell ⟨g0, q, none⟩ (.int .u8 nv)).setCell ⟨g, 1, none⟩ (.int .i64 ((n : Int) + 1))).drew g := by
  have hne : g ≠ g0 := fun e => by have := Kd.R_ne hR hb (by decide); exact this (by rw [e]; rfl)
  have hb3 := blk_far (p := ⟨g0, q, none⟩) hb hne (.int .u8 nv)
  have hb4 : ((W2.setCell ⟨g0, q, none⟩ (.int .u8 nv)).setCell ⟨g, 1, none⟩ (.int .i64 ((n : Int) + 1))).heap[g]? = some (.cells #[.slice (some ⟨g0, 0, none⟩) L c, .int .i64 ((n : Int) + 1), .bool false] 48 (0, 0)) := (blk_set hb3 1 _).trans rfl
  have hput := (Kd.R_putg hR (q : Int) nv).1
  rw [Int.toNat_natCast] at hput
  refine ⟨⟨.slice (some ⟨g0, 0, none⟩) L c, ?_, hg, ?_⟩, (hs.trans ((YStep.row hb hne _).trans (YStep.count hb3 _))).drew⟩
  · exact (blk_drew hb4).trans (by rw [show ((n + 1 : Nat) : Int) = (n : Int) + 1 from by omega])
  · exact Kd.R_drew (Kd.R_set hput hb3 (by decide) 1 _)
set_option maxHeartbeats 4000000 in
set_option maxRecDepth 100000 in
theorem bit_calls (base g : Nat) (bs : List Int) (n : Nat) (one : Int) (w : World) (hn : n ≤ 8 * bs.length) (hn2 : 8 * bs.length < n + 8) (hn3 : n ≤ 2000000000000) (hI : IsY base w g bs (n : Int)) :
    Calls Try.prog 81 #[.pointer (some ⟨g, 0, none⟩), .int .i64 one] w fun e w' => e = .returned (.tuple #[]) ∧ IsY base w' g (bitS bs n (one % 2)) ((n + 1 : Nat) : Int) ∧ YStep w w' g := by
  obtain ⟨v, hb, hg, hR⟩ := hI
  obtain ⟨A, c, ev⟩ := Kd.R_slice hR
  subst ev
  have HR := Aside0.mk hR
  have HH := Aside0.mk hb
  have x0 : w.cell? ⟨g, 0, none⟩ = some (.slice A bs.length c) := (blk_cell hb 0).trans rfl
  have x1 : w.cell? ⟨g, 1, none⟩ = some (.int .i64 (n : Int)) := (blk_cell hb 1).trans rfl
  have f0 := blk_frozen hb 0
  have f1 := blk_frozen hb 1
  clear hR hb
  by_cases hfull : n = 8 * bs.length
  · have e1 : ((n : Int) % 8 == 0) = true := by simp; omega
    have HFU := Aside0.mk hfull
    clear hfull
    go_enter Try.func81, Try.ntmps81
    go_wp2_with (at_builtin; refine Kd.R_append (Kd.int .u8) (w0 := w) base rfl (.tmp 14) (.tmp 15) 37 5 (.int .u8 0) 1 rfl Try.underlying37 info5 rfl (by decide) (by decide) (.slice A bs.length c) bs 0 [.int .u8 0] (fun _ => True) (fun _ => False) rfl rfl ?aP (fun _ hk => hk.elim) ?aF ?aO ?aB ?aS ?aL ?_; (case aP => rfl); (case aB => exact Below.refl base w); (case aF => exact (fun k_ hk => trivial)); (case aO => exact HR.out); (case aS => exact Nat.le_trans hg (Nat.le_of_lt (blk_lt HH.out))); (case aL => omega); intro v9 w9 ho hb hg9 hat; have HO := Aside0.mk ho; have HB := Aside0.mk hb; have HG9 := Aside0.mk hg9; have HAT := Aside0.mk hat; clear ho hb hg9 hat; obtain ⟨A9, c9, e9⟩ := Kd.R_slice HO.out; subst e9; have hne := Kd.R_ne HR.out HH.out (by decide); have hb9 := blk_grown HH.out HG9.out hne; have y0 : w9.cell? ⟨g, 0, none⟩ = some (.slice A bs.length c) := (blk_cell hb9 0).trans rfl; have y1 : w9.cell? ⟨g, 1, none⟩ = some (.int .i64 (n : Int)) := (blk_cell hb9 1).trans rfl; have t0 := blk_frozen hb9 0; have t1 := blk_frozen hb9 1; have HB9 := Aside0.mk hb9; clear hb9 hne x0 x1 f0 f1)
    have hb1 : (bs ++ [0] : List Int).length = bs.length + 1 := by simp
    obtain ⟨W2, hW2⟩ : ∃ W2, W2 = w9.setCell ⟨g, 0, none⟩ (.slice A9 (bs.length + 1) c9) := ⟨_, rfl⟩
    rw [← hW2]
    have HB2 := Aside0.mk (show W2.heap[g]? = some (.cells #[.slice A9 (bs.length + 1) c9, .int .i64 (n : Int), .bool false] 48 (0, 0)) by rw [hW2]; exact (blk_set HB9.out 0 _).trans rfl)
    have HR2 := Aside0.mk (show Kd.R (Kd.int .u8) 5 W2 base (fun _ => True) (.slice A9 (bs.length + 1) c9) (bs ++ [0]) by rw [hW2]; have h := Kd.R_set HO.out HB9.out (by decide) 0 (.slice A9 (bs.length + 1) c9); rw [hb1] at h; exact h)
    have HS2 : Aside0 (YStep w W2 g) := Aside0.mk (by rw [hW2]; exact YStep.grow HH.out ⟨0, rfl⟩ (Kd.R_ne HR.out HH.out (by decide)) HG9.out (by have h := HAT.out; rw [hb1] at h; exact h))
    clear y0 y1 t0 t1 HB9 HO HB HG9 HAT hW2
    obtain ⟨g0, c0, e0, gb, gl, cl, hcl⟩ := Kd.R_form HR2.out (by omega)
    injection e0 with e1 e2 e3
    subst e1
    clear e2 e3
    obtain ⟨q, hq⟩ : ∃ q : Nat, q = n / 8 := ⟨_, rfl⟩
    obtain ⟨r, hr⟩ : ∃ r : Nat, r = n % 8 := ⟨_, rfl⟩
    have q1 : (q : Int) < ((bs.length + 1 : Nat) : Int) := by have := HFU.out; omega
    have hcf := Kd.R_celln 0 HR2.out (q : Int) (by omega) q1
    rw [Int.toNat_natCast] at hcf
    obtain ⟨hx, hf⟩ := hcf
    have x0 : W2.cell? ⟨g, 0, none⟩ = some (.slice (some ⟨g0, 0, none⟩) (bs.length + 1) c9) := (blk_cell HB2.out 0).trans rfl
    have x1 : W2.cell? ⟨g, 1, none⟩ = some (.int .i64 (n : Int)) := (blk_cell HB2.out 1).trans rfl
    have f1 := blk_frozen HB2.out 1
    have z2 : IntKind.i64.wrap ((n : Int).tdiv 8) = (q : Int) := by rw [hq, Int.tdiv_eq_ediv_of_nonneg (by omega), IntKind.wrap_i64]; omega
    have z3 : (n : Int).tmod 8 = (r : Int) := by rw [hr, Int.tmod_eq_emod_of_nonneg (by omega)]; omega
    have z5 : IntKind.i64.wrap ((n : Int) / 8) = (q : Int) := by rw [hq, IntKind.wrap_i64]; omega
    have z6 : (n : Int) % 8 = (r : Int) := by rw [hr]; omega
    have z4 : 0 ≤ (r : Int) := by omega
    have q2 : (q : Int) < (bs.length : Int) + 1 := by omega
    have HQ := Aside0.mk (And.intro hq hr)
    generalize hold : rdOf 0 (bs ++ [0]) (q : Int) = old at hx
    have HOLD := Aside0.mk hold
    clear hold
    clear hq hr hcl gb gl
    go_still_tail 21, (by kernel_rfl)
    change wpList _ _ _ _ _ W2.drew
    clear x0 z2 z3 z4 z5 z6
    generalize hnv : bits BinOp.or IntKind.u8 old (IntKind.u8.wrap (IntKind.u8.wrap (bits BinOp.and IntKind.i64 one 1) * 2 ^ min (IntKind.u64.wrap (r : Int)).toNat 8)) = nv
    have HNV := Aside0.mk hnv
    clear hnv
    have hput := Kd.R_putg (Kd.R_drew HR2.out) (q : Int) nv
    rw [Int.toNat_natCast] at hput
    have HP := Aside0.mk hput
    clear hput
    have hne : g ≠ g0 := fun e => by have := Kd.R_ne HR2.out HB2.out (by decide); exact this (by rw [e]; rfl)
    go_wp2_with ((with_reducible refine gate_store (t := 5) (p := 44) rfl ?_); refine store_event (t := 5) (p := 44) (v := .tmp 43) (w1 := (W2.drew.setCell ⟨g0, q, none⟩ (.int .u8 nv))) ?hg ?ho ?hn ?hr ?_; (case ho => rfl); (case hg => rfl); (case hn => rfl); (case hr => first | (go_simp; done) | (go_simp; rfl)); intro w15 hw; have hb15 : w15.heap[g]? = some (.cells #[.slice (some ⟨g0, 0, none⟩) (bs.length + 1) c9, .int .i64 (n : Int), .bool false] 48 (0, 0)) := by (rw [hw]; exact blk_far (blk_drew HB2.out) hne _); have HB15 := Aside0.mk hb15; have y1 : w15.cell? ⟨g, 1, none⟩ = some (.int .i64 (n : Int)) := (blk_cell hb15 1).trans rfl; have t1 := blk_frozen hb15 1; have HW := Aside0.mk hw; clear hw hb15 hx hf x1 f1)
    go_end0
    refine ⟨rfl, ?_⟩
    have he := bit_end (q := q) (nv := nv) hg HB2.out HR2.out HS2.out
    have z9 : min (IntKind.u64.wrap (r : Int)).toNat 8 = r := by rw [IntKind.wrap_u64]; have := HQ.out.2; omega
    have hbs : (bs ++ [0] : List Int).set q nv = bitS bs n (one % 2) := by
      unfold bitS
      rw [if_pos HFU.out, ← HQ.out.1, ← HQ.out.2, ← HNV.out, and_one, z9, wrap_one (one % 2) (by omega) (by omega), ← HOLD.out]
      rfl
    rw [hbs] at he
    have hnv' : bits BinOp.or IntKind.u8 old (bits BinOp.and IntKind.i64 one 1 % 256 * 2 ^ min (IntKind.u64.wrap (r : Int)).toNat 8 % 256) = nv := by rw [← HNV.out, IntKind.wrap_u8, IntKind.wrap_u8]
    rw [hnv']
    exact he
  · have e1 : ((n : Int) % 8 == 0) = false := by simp; omega
    have HFU := Aside0.mk hfull
    have hpos : 0 < bs.length := by omega
    clear hfull
    go_enter Try.func81, Try.ntmps81
    go_wp2_with fail
    clear e1 x0 x1 f0 f1
    obtain ⟨W2, hW2⟩ : ∃ W2, W2 = w := ⟨_, rfl⟩
    rw [← hW2]
    have HB2 := Aside0.mk (show W2.heap[g]? = some (.cells #[.slice A bs.length c, .int .i64 (n : Int), .bool false] 48 (0, 0)) by rw [hW2]; exact HH.out)
    have HR2 := Aside0.mk (show Kd.R (Kd.int .u8) 5 W2 base (fun _ => True) (.slice A bs.length c) bs by rw [hW2]; exact HR.out)
    have HS2 : Aside0 (YStep w W2 g) := Aside0.mk (by rw [hW2]; exact ⟨rfl, rfl, rfl, ⟨Nat.le_refl _, fun _ _ _ => rfl⟩, fun _ h => .inl h⟩)
    go_wp2_with fail
    clear hW2
    obtain ⟨g0, c0, e0, gb, gl, cl, hcl⟩ := Kd.R_form HR2.out (by omega)
    injection e0 with e1 e2 e3
    subst e1
    clear e2 e3
    obtain ⟨q, hq⟩ : ∃ q : Nat, q = n / 8 := ⟨_, rfl⟩
    obtain ⟨r, hr⟩ : ∃ r : Nat, r = n % 8 := ⟨_, rfl⟩
    have q1 : (q : Int) < ((bs.length : Nat) : Int) := by have := HFU.out; omega
    have hcf := Kd.R_celln 0 HR2.out (q : Int) (by omega) q1
    rw [Int.toNat_natCast] at hcf
    obtain ⟨hx, hf⟩ := hcf
    have x0 : W2.cell? ⟨g, 0, none⟩ = some (.slice (some ⟨g0, 0, none⟩) bs.length c) := (blk_cell HB2.out 0).trans rfl
    have x1 : W2.cell? ⟨g, 1, none⟩ = some (.int .i64 (n : Int)) := (blk_cell HB2.out 1).trans rfl
    have f1 := blk_frozen HB2.out 1
    have z2 : IntKind.i64.wrap ((n : Int).tdiv 8) = (q : Int) := by rw [hq, Int.tdiv_eq_ediv_of_nonneg (by omega), IntKind.wrap_i64]; omega
    have z3 : (n : Int).tmod 8 = (r : Int) := by rw [hr, Int.tmod_eq_emod_of_nonneg (by omega)]; omega
    have z5 : IntKind.i64.wrap ((n : Int) / 8) = (q : Int) := by rw [hq, IntKind.wrap_i64]; omega
    have z6 : (n : Int) % 8 = (r : Int) := by rw [hr]; omega
    have z4 : 0 ≤ (r : Int) := by omega
    have HQ := Aside0.mk (And.intro hq hr)
    generalize hold : rdOf 0 bs (q : Int) = old at hx
    have HOLD := Aside0.mk hold
    clear hold
    clear hq hr hcl gb gl
    go_still_tail 21, (by kernel_rfl)
    change wpList _ _ _ _ _ W2.drew
    clear x0 z2 z3 z4 z5 z6
    generalize hnv : bits BinOp.or IntKind.u8 old (IntKind.u8.wrap (IntKind.u8.wrap (bits BinOp.and IntKind.i64 one 1) * 2 ^ min (IntKind.u64.wrap (r : Int)).toNat 8)) = nv
    have HNV := Aside0.mk hnv
    clear hnv
    have hput := Kd.R_putg (Kd.R_drew HR2.out) (q : Int) nv
    rw [Int.toNat_natCast] at hput
    have HP := Aside0.mk hput
    clear hput
    have hne : g ≠ g0 := fun e => by have := Kd.R_ne HR2.out HB2.out (by decide); exact this (by rw [e]; rfl)
    go_wp2_with ((with_reducible refine gate_store (t := 5) (p := 44) rfl ?_); refine store_event (t := 5) (p := 44) (v := .tmp 43) (w1 := (W2.drew.setCell ⟨g0, q, none⟩ (.int .u8 nv))) ?hg ?ho ?hn ?hr ?_; (case ho => rfl); (case hg => rfl); (case hn => rfl); (case hr => first | (go_simp; done) | (go_simp; rfl)); intro w15 hw; have hb15 : w15.heap[g]? = some (.cells #[.slice (some ⟨g0, 0, none⟩) bs.length c, .int .i64 (n : Int), .bool false] 48 (0, 0)) := by (rw [hw]; exact blk_far (blk_drew HB2.out) hne _); have HB15 := Aside0.mk hb15; have y1 : w15.cell? ⟨g, 1, none⟩ = some (.int .i64 (n : Int)) := (blk_cell hb15 1).trans rfl; have t1 := blk_frozen hb15 1; have HW := Aside0.mk hw; clear hw hb15 hx hf x1 f1)
    go_end0
    refine ⟨rfl, ?_⟩
    have he := bit_end (q := q) (nv := nv) hg HB2.out HR2.out HS2.out
    have z9 : min (IntKind.u64.wrap (r : Int)).toNat 8 = r := by rw [IntKind.wrap_u64]; have := HQ.out.2; omega
    have hbs : bs.set q nv = bitS bs n (one % 2) := by
      unfold bitS
      rw [if_neg HFU.out, ← HQ.out.1, ← HQ.out.2, ← HNV.out, and_one, z9, wrap_one (one % 2) (by omega) (by omega), ← HOLD.out]
      rfl
    rw [hbs] at he
    have hnv' : bits BinOp.or IntKind.u8 old (bits BinOp.and IntKind.i64 one 1 % 256 * 2 ^ min (IntKind.u64.wrap (r : Int)).toNat 8 % 256) = nv := by rw [← HNV.out, IntKind.wrap_u8, IntKind.wrap_u8]
    rw [hnv']
    exact he
/-- A writer with these digits in it. -/
def IsYr (base : Nat) (W : World) (g : Nat) (ds : List Int) : Prop := IsY base W g (packB ds) ((ds.length : Nat) : Int) ∧ Bits01 ds ∧ ds.length ≤ 1000000000000
theorem bit_yr (base g : Nat) (ds : List Int) (one : Int) (w : World) (hl : ds.length < 1000000000000) (hI : IsYr base w g ds) :
    Calls Try.prog 81 #[.pointer (some ⟨g, 0, none⟩), .int .i64 one] w fun e w' => e = .returned (.tuple #[]) ∧ IsYr base w' g (ds ++ [one % 2]) ∧ YStep w w' g := by
  have hp := packB_length ds
  have h1 : one % 2 = 0 ∨ one % 2 = 1 := by omega
  refine (bit_calls base g (packB ds) ds.length one w (by omega) (by omega) (by omega) hI.1).mono ?_
  rintro e w' ⟨he, hw, hs⟩
  rw [bitS_pack ds (one % 2) hI.2.1 h1] at hw
  refine ⟨he, ⟨?_, hI.2.1.app (fun d hd => by rw [List.mem_singleton.1 hd]; exact h1), by simp; omega⟩, hs⟩
  rw [List.length_append, List.length_singleton]
  exact hw
set_option maxHeartbeats 1000000 in
theorem Code_calls (base g : Nat) (ds : List Int) (n : Int) (c : Nat) (hc : c ≤ 16) (hn0 : -9223372036854775808 ≤ n) (hn1 : n ≤ 9223372036854775807) (hl : ds.length + c ≤ 1000000000000) (w : World) (hI : IsYr base w g ds) :
    Calls Try.prog 61 #[.pointer (some ⟨g, 0, none⟩), .int .i64 n, .int .i64 (c : Int)] w fun e w' => e = .returned (.tuple #[]) ∧ IsYr base w' g (ds ++ highD n c) ∧ YStep w w' g := by
  have HI := Aside0.mk hI
  have HL := Aside0.mk hl
  clear hI hl
  have c0 : (0 : Int) ≤ (c : Int) := by omega
  have c1 : (c : Int) ≤ 16 := by omega
  go_enter Try.func61, Try.ntmps61
  go_wp2_with fail
  go_loopg [6] c (fun gk v6 w' => ∃ i : Nat, v6 = .int .i64 ((c : Int) - 1 - (i : Int)) ∧ Aside0 (i + gk = c) ∧ Aside0 (IsYr base w' g (ds ++ (highD n c).take i)) ∧ Aside0 (YStep w w' g))
  case atStart => exact ⟨0, by go_num, ⟨by omega⟩, ⟨by simpa using HI.out⟩, ⟨YStep.refl _ _⟩⟩
  case round =>
    clear HI
    obtain ⟨i, rfl, HG, HI, HS⟩ := hrel
    by_cases hi : i < c
    · have hi1 : (i : Int) < (c : Int) := by omega
      have hi2 : (i : Int) ≤ 16 := by omega
      have hz : 0 ≤ (c : Int) - 1 - (i : Int) := by omega
      have hz2 : (c : Int) - 1 - (i : Int) ≤ 16 := by omega
      have hz3 : 0 < (c : Int) := by omega
      go_wp2_with fail
      have hk := HG.out
      have hlen : ((highD n c).take i).length = i := by simp [highD]; omega
      refine (bit_yr base g _ _ _ (by have := HL.out; rw [List.length_append, hlen]; omega) HI.out).mono ?_
      rintro e w5 ⟨rfl, hI, hS⟩
      rw [List.append_assoc, ← highD_take n c i hi] at hI
      replace HI := Aside0.mk hI
      replace HS := Aside0.mk (HS.out.trans hS)
      clear hI hS hlen hk
      go_wp2_with fail
      obtain ⟨g', rfl⟩ : ∃ g', gk = g' + 1 := ⟨gk - 1, by have := HG.out; omega⟩
      go_roundg g'
      case measure => omega
      case rel => exact ⟨i + 1, by go_num, ⟨by have := HG.out; omega⟩, HI, HS⟩
    · obtain rfl : i = c := by have := HG.out; omega
      clear HG
      have hm : (i : Int) - 1 - (i : Int) = -1 := by omega
      rw [hm]
      clear hm
      by_cases hz : 0 < (i : Int)
      · go_wp2_with fail
        go_end0
        refine ⟨rfl, ?_, HS.out⟩
        have := HI.out
        rwa [List.take_of_length_le (by simp [highD])] at this
      · go_wp2_with fail
        go_end0
        refine ⟨rfl, ?_, HS.out⟩
        have := HI.out
        rwa [List.take_of_length_le (by simp [highD])] at this
end Go.Proofs.Ytihgekpijplfiaa.Xw
namespace Go.Proofs.Ytihgekpijplfiaa.Sg
set_option linter.unusedVariables false
open Go.RowKit Go.Proofs.YtihgekpijplfiaaW.PrintWords Go.Proofs.YtihgekpijplfiaaW.PrintLast Go.Proofs.YtihgekpijplfiaaW.PrintMore Go.Proofs.Ytihgekpijplfiaa.Hp Go.Proofs.Ytihgekpijplfiaa.Rm Go.Proofs.Ytihgekpijplfiaa.Fr Go.Proofs.Ytihgekpijplfiaa.Rf Go.Proofs.Ytihgekpijplfiaa.Hn Go.Proofs.Ytihgekpijplfiaa.Hl Go.Proofs.Ytihgekpijplfiaa.Gs Go.Proofs.Ytihgekpijplfiaa.Rd Go.Proofs.Ytihgekpijplfiaa.Xf
set_option maxHeartbeats 8000000 in
set_option maxRecDepth 100000 in
theorem sign_calls (lo g : Nat) (bs ls : List Int) (pos : Nat) (bad : Bool) (Al Ak : Option Addr) (cl ck : Nat) (hok : okS ls = true) (hpos : pos ≤ 8 * bs.length) (hl : bs.length ≤ 140737488355328) (w : World) (hI : IsX lo w g bs pos bad)
    (hA : ∀ W, Fr w W (fun i => i = g) → Kd.C (Kd.int .i64) W Al ls.length ls) (hK : ∀ W, Fr w W (fun i => i = g) → Kd.C (Kd.int .i64) W Ak ls.length (codesL ls)) :
    Calls Try.prog 80 #[.pointer (some ⟨g, 0, none⟩), .slice Al ls.length cl, .slice Ak ls.length ck] w fun e w' => e = .returned (.int .i64 (if (decS ls bs 15 0 pos bad).1.2 = true then (decS ls bs 15 0 pos bad).1.1 else -1)) ∧ IsX lo w' g bs (decS ls bs 15 0 pos bad).2.1 (decS ls bs 15 0 pos bad).2.2 ∧ Fr w w' (fun i => i = g) := by
  have HI := Aside0.mk hI
  have HA := Aside0.mk (And.intro hA hK)
  have HP := Aside0.mk (And.intro hpos hl)
  have hlen := (okS_inR hok).2
  have hleni : (ls.length : Int) ≤ 320 := by omega
  obtain ⟨D, hD⟩ : ∃ D, D = decS ls bs 15 0 pos bad := ⟨_, rfl⟩
  rw [← hD]
  have HD := Aside0.mk hD
  obtain ⟨R, hR⟩ : ∃ R, R = (if D.1.2 = true then D.1.1 else -1) := ⟨_, rfl⟩
  rw [← hR]
  have HR := Aside0.mk hR
  have HF := Aside0.mk (Fr.refl w (fun i => i = g))
  clear hI hA hK hpos hl hD hR
  go_enter Try.func80, Try.ntmps80
  go_wp2_with fail
  go_loopg [7, 8] 15 (fun gk v7 v8 w' => ∃ (j : Nat) (x : Int) (q : Nat) (b : Bool), v7 = .int .i64 x ∧ v8 = .int .i64 ((j : Int) + 1) ∧ Aside0 (j + gk = 15) ∧ Aside0 (0 ≤ x ∧ x < 2 ^ j) ∧ Aside0 (q ≤ 8 * bs.length) ∧ Aside0 (D = decS ls bs (15 - j) x q b) ∧ Aside0 (IsX lo w' g bs q b) ∧ Aside0 (Fr w w' (fun i => i = g)))
  case atStart => exact ⟨0, 0, pos, bad, rfl, by go_num, ⟨rfl⟩, ⟨by decide⟩, ⟨HP.out.1⟩, HD, HI, HF⟩
  case round =>
    clear HD HI HF
    obtain ⟨j, x, q, b, rfl, rfl, HG, HX, HQ, HD, HI, HF⟩ := hrel
    obtain ⟨wo, rfl⟩ : ∃ wo : World, wo = wr := ⟨_, rfl⟩
    by_cases hj : j < 15
    · obtain ⟨go, rfl⟩ : ∃ go, gk = go + 1 := ⟨gk - 1, by have := HG.out; omega⟩
      have hj1 : (j : Int) ≤ 14 := by omega
      have hj2 : (j : Int) + 1 ≤ 15 := by omega
      have hx0 : 0 ≤ x := HX.out.1
      have hp : (2 : Int) ^ j ≤ 16384 := by
        have h : ∀ j < 15, (2 : Int) ^ j ≤ 16384 := by decide +kernel
        exact h j hj
      have hx1 : x ≤ 16383 := by have := HX.out.2; omega
      have hx2 : 2 * x ≤ 32766 := by omega
      have hx3 : 0 ≤ 2 * x := by omega
      have HGX := Aside0.mk (Get_X lo g bs q b 1 HQ.out HP.out.2 wo HI.out)
      have hc := getS_1 bs q b
      have hle := getS_le bs q b 1 HQ.out
      have hDD := HD.out
      rw [show 15 - j = (14 - j) + 1 by omega, decS, show 15 - (14 - j) = j + 1 by omega] at hDD
      generalize getS bs q b 1 = G at *
      obtain ⟨c, q', b'⟩ := G
      simp only at hc hle hDD
      have hGX := HGX.out
      simp only at hGX
      have HGX2 := Aside0.mk hGX
      have hc0 := hc.1
      have hc1 := hc.2
      have HLE := Aside0.mk hle
      have HDD := Aside0.mk hDD
      obtain ⟨y, hy⟩ : ∃ y, 2 * x + c = y := ⟨_, rfl⟩
      rw [hy] at HDD
      have HY := Aside0.mk (show 0 ≤ y ∧ y < 2 ^ (j + 1) by have := HX.out; rw [Int.pow_succ]; omega)
      have hy1 : y ≤ 32767 := by omega
      have hy0 : 0 ≤ y := by omega
      clear HGX hGX hDD hle hc HD HI
      go_wp2_with fail
      refine HGX2.out.mono ?_
      clear HGX2
      rintro e w5 ⟨rfl, hI, hF⟩
      have HI5 := Aside0.mk hI
      have HF5 := Aside0.mk (HF.out.then_ hF)
      obtain ⟨Ax, cx, x0, x1, x2, f1, f2, hC⟩ := hI.cells
      clear hI hF HF x0 x1 f1 f2 hC
      cases b' with
      | true =>
        go_wp2_with fail
        go_ret
        have e : D = ((0, false), q', true) := HDD.out.trans (if_pos trivial)
        have hr := HR.out
        rw [e] at hr ⊢
        rw [hr]
        exact ⟨rfl, HI5.out, HF5.out⟩
      | false =>
        replace HDD := Aside0.mk (HDD.out.trans (if_neg Bool.false_ne_true))
        go_wp2_with fail
        clear x2
        go_loopg [26] ls.length (fun gk v26 w' => ∃ i : Nat, v26 = .int .i64 (i : Int) ∧ w' = w5 ∧ Aside0 (i + gk = ls.length) ∧ Aside0 (∀ t < i, ls.getD t 0 = ((j + 1 : Nat) : Int) → (codeOf ls t : Int) ≠ y))
        case atStart => exact ⟨0, rfl, rfl, ⟨by omega⟩, ⟨fun t ht => absurd ht (Nat.not_lt_zero _)⟩⟩
        case round =>
          obtain ⟨i, rfl, rfl, HK, HN⟩ := hrel
          by_cases hi : i < ls.length
          · have hi1 : (i : Int) < (ls.length : Int) := by omega
            have hi0 : (0 : Int) ≤ (i : Int) := by omega
            obtain ⟨ad0, ea0, hx0⟩ := Kd.at_int (HA.out.1 _ HF5.out) (i : Int) hi0 hi1
            obtain ⟨ad1, ea1, hx1⟩ := Kd.at_int (HA.out.2 _ HF5.out) (i : Int) hi0 hi1
            rw [Int.toNat_natCast] at hx0 hx1
            rw [codesL_get ls (okS_inR hok).1 i hi] at hx1
            rw [rd_getD] at hx0
            subst ea0 ea1
            obtain ⟨lv, hlv⟩ : ∃ lv, lv = ls.getD i 0 := ⟨_, rfl⟩
            rw [← hlv] at hx0 hx1
            by_cases h1 : lv = (j : Int) + 1
            · rw [if_pos (by omega)] at hx1
              obtain ⟨cv, hcv⟩ : ∃ cv : Int, cv = (codeOf ls i : Int) := ⟨_, rfl⟩
              rw [← hcv] at hx1
              have HLV := Aside0.mk (And.intro hlv hcv)
              clear hlv hcv
              subst h1
              by_cases h2 : cv = y
              · subst h2
                go_wp2_with fail
                go_ret
                have hlk := lookS_of (ls := ls) (c := cv) (n := j + 1) (s := i) (by omega) hi (by have := HLV.out.1; omega) HLV.out.2.symm
                have e := HDD.out
                rw [hlk] at e
                simp only at e
                have hr := HR.out
                rw [e] at hr ⊢
                rw [hr]
                exact ⟨rfl, HI5.out, HF5.out⟩
              · go_wp2_with fail
                clear hx0 hx1
                obtain ⟨g', rfl⟩ : ∃ g', gk = g' + 1 := ⟨gk - 1, by have := HK.out; omega⟩
                go_roundg g'
                case measure => omega
                case rel =>
                  refine ⟨i + 1, by go_num, rfl, ⟨by have := HK.out; omega⟩, ⟨fun t ht h3 => ?_⟩⟩
                  rcases (show t < i ∨ t = i by omega) with h4 | rfl
                  · exact HN.out t h4 h3
                  · rw [← HLV.out.2]; exact h2
            · have HLV := Aside0.mk hlv
              generalize (if 0 < lv then (codeOf ls i : Int) else 0) = cv at hx1
              clear hlv
              go_wp2_with fail
              clear hx0 hx1
              obtain ⟨g', rfl⟩ : ∃ g', gk = g' + 1 := ⟨gk - 1, by have := HK.out; omega⟩
              go_roundg g'
              case measure => omega
              case rel =>
                refine ⟨i + 1, by go_num, rfl, ⟨by have := HK.out; omega⟩, ⟨fun t ht h3 => ?_⟩⟩
                rcases (show t < i ∨ t = i by omega) with h4 | rfl
                · exact HN.out t h4 h3
                · exact absurd (HLV.out.trans h3) (by omega)
          · obtain rfl : i = ls.length := by have := HK.out; omega
            clear HK
            go_wp2_with fail
            have hlk : lookS ls y (j + 1) = none := lookS_none (fun t ht h3 h4 => HN.out t ht h3 h4)
            have e := HDD.out
            rw [hlk] at e
            simp only at e
            have HE := Aside0.mk e
            clear e hlk
            go_roundg go
            case measure => omega
            case rel => exact ⟨j + 1, y, q', false, rfl, by go_num, ⟨by have := HG.out; omega⟩, HY, HLE, ⟨by rw [show 15 - (j + 1) = 14 - j by omega]; exact HE.out⟩, HI5, HF5⟩
    · obtain rfl : j = 15 := by have := HG.out; omega
      clear HG
      go_wp2_with fail
      go_ret
      have e := HD.out
      rw [Nat.sub_self, decS] at e
      have hr := HR.out
      rw [e] at hr ⊢
      rw [hr]
      exact ⟨rfl, HI.out, HF.out⟩
theorem dec_rng (ls bs : List Int) (hlen : ls.length ≤ 320) : ∀ (d : Nat) (x : Int) (pos : Nat) (bad : Bool), 0 ≤ (decS ls bs d x pos bad).1.1 ∧ (decS ls bs d x pos bad).1.1 ≤ 320 ∧ ((decS ls bs d x pos bad).1.2 = false → (decS ls bs d x pos bad).1.1 = 0)
  | 0, _, _, _ => ⟨Int.le_refl 0, by show (0 : Int) ≤ 320; decide, fun _ => rfl⟩
  | d + 1, x, pos, bad => by
    rw [decS]
    by_cases hb : (getS bs pos bad 1).2.2 = true
    · rw [if_pos hb]; exact ⟨Int.le_refl 0, by show (0 : Int) ≤ 320; decide, fun _ => rfl⟩
    · rw [if_neg hb]
      cases h : lookS ls (2 * x + (getS bs pos bad 1).1) (15 - d) with
      | none => exact dec_rng ls bs hlen d _ _ _
      | some t =>
        have := (lookS_some h).1
        exact ⟨by show (0 : Int) ≤ (t : Int); omega, by show (t : Int) ≤ 320; omega, fun h => by cases h⟩
set_option maxHeartbeats 2000000 in
theorem Sign_calls (lo g : Nat) (bs ls : List Int) (pos : Nat) (bad : Bool) (Al : Option Addr) (cl : Nat) (hok : okS ls = true) (hpos : pos ≤ 8 * bs.length) (hl : bs.length ≤ 140737488355328) (w : World) (hI : IsX lo w g bs pos bad) (hcl : ls.length ≤ cl)
    (hA : ∀ W, Fr w W (fun i => i = g) → Kd.C (Kd.int .i64) W Al ls.length ls) :
    Calls Try.prog 60 #[.pointer (some ⟨g, 0, none⟩), .slice Al ls.length cl] w fun e w' => e = .returned (.tuple #[.int .i64 (decS ls bs 15 0 pos bad).1.1, .bool (decS ls bs 15 0 pos bad).1.2]) ∧ IsX lo w' g bs (decS ls bs 15 0 pos bad).2.1 (decS ls bs 15 0 pos bad).2.2 ∧ Fr w w' (fun i => i = g) := by
  have HI := Aside0.mk hI
  have HA := Aside0.mk hA
  have HC := Aside0.mk (Codes_calls Al cl ls w (hA w (Fr.refl _ _)) hcl)
  rw [codesR_yes hok] at HC
  have HP := Aside0.mk (And.intro hpos hl)
  have hrng := dec_rng ls bs (okS_inR hok).2 15 0 pos bad
  have HS := Aside0.mk (fun (W : World) (h1 : IsX lo W g bs pos bad) (Ak : Option Addr) (ck : Nat) (h2 : ∀ V, Fr W V (fun i => i = g) → Kd.C (Kd.int .i64) V Al ls.length ls) (h3 : ∀ V, Fr W V (fun i => i = g) → Kd.C (Kd.int .i64) V Ak ls.length (codesL ls)) => sign_calls lo g bs ls pos bad Al Ak cl ck hok hpos hl W h1 h2 h3)
  generalize decS ls bs 15 0 pos bad = D at *
  obtain ⟨⟨v, ok⟩, q, b⟩ := D
  simp only at hrng
  clear hI hA hpos hl hcl
  obtain ⟨h0, h1, h2⟩ := hrng
  have hkl : (codesL ls).length = ls.length := cf_length ls 15 0
  go_enter Try.func60, Try.ntmps60
  go_wp2_with fail
  refine HC.out.mono ?_
  rintro e w1 ⟨vk, rfl, hR, hB⟩
  obtain ⟨Ak, ck, rfl⟩ := Kd.R_slice hR
  have HS2 := Aside0.mk (HS.out w1 (HI.out.below hB) Ak ck (fun V hV => HA.out V ((Fr.of_below hB _).then_ hV)) (fun V hV => by
    have h := (Kd.R_reads' (R_fr hR rfl hV (fun i hi e => by have := Kd.R_base hR i hi; have := HI.out.ge.2; have e : i = g := e; omega))).2.2
    rwa [hkl] at h))
  have HB := Aside0.mk hB
  rw [hkl]
  clear HC hR hB HS hkl
  cases ok with
  | true =>
    replace HS2 := HS2.out
    simp only [if_true] at HS2
    replace HS2 := Aside0.mk HS2
    go_wp2_with fail
    refine HS2.out.mono ?_
    rintro e w2 ⟨rfl, hI2, hF2⟩
    go_wp2_with fail
    go_ret2
    exact ⟨rfl, hI2, (Fr.of_below HB.out _).then_ hF2⟩
  | false =>
    obtain rfl := h2 rfl
    replace HS2 := HS2.out
    simp only [Bool.false_eq_true, if_false] at HS2
    replace HS2 := Aside0.mk HS2
    go_wp2_with fail
    refine HS2.out.mono ?_
    rintro e w2 ⟨rfl, hI2, hF2⟩
    go_wp2_with fail
    go_ret2
    exact ⟨rfl, hI2, (Fr.of_below HB.out _).then_ hF2⟩
end Go.Proofs.Ytihgekpijplfiaa.Sg
namespace Go.Proofs.Ytihgekpijplfiaa.Sg
set_option linter.unusedVariables false
open Go.RowKit Go.Maps Go.Proofs.YtihgekpijplfiaaW.PrintWords Go.Proofs.YtihgekpijplfiaaW.PrintLast Go.Proofs.YtihgekpijplfiaaW.PrintMore Go.Proofs.Ytihgekpijplfiaa.Hp Go.Proofs.Ytihgekpijplfiaa.Rm Go.Proofs.Ytihgekpijplfiaa.Mp Go.Proofs.Ytihgekpijplfiaa.Fr Go.Proofs.Ytihgekpijplfiaa.Rf Go.Proofs.Ytihgekpijplfiaa.Kit Go.Proofs.Ytihgekpijplfiaa.Hn Go.Proofs.Ytihgekpijplfiaa.Hl Go.Proofs.Ytihgekpijplfiaa.Wr Go.Proofs.Ytihgekpijplfiaa.Rd Go.Proofs.Ytihgekpijplfiaa.Pack Go.Proofs.Ytihgekpijplfiaa.Gs Go.Proofs.Ytihgekpijplfiaa.Xf Go.Proofs.Ytihgekpijplfiaa.Xw
def In64 (x : Int) : Prop := -9223372036854775808 ≤ x ∧ x ≤ 9223372036854775807
theorem own_lt {base : Nat} {W : World} {g : Nat} {bs : List Int} {n : Int} (h : IsW base W g bs n) (k : Nat) (hk : WOwn W g k) : k < W.heap.size := by
  obtain ⟨v, h1, h2, h3⟩ := h
  rcases (Wr.WOwn_iff h1 k).1 hk with rfl | h5
  · exact blk_lt h1
  · exact Kd.R_lt h3 k h5
theorem own_congr {W W1 : World} {g : Nat} (h : W1.heap[g]? = W.heap[g]?) (k : Nat) : WOwn W1 g k ↔ WOwn W g k := by
  unfold WOwn
  rw [h]
theorem own_ltY {base : Nat} {W : World} {g : Nat} {bs : List Int} {n : Int} (h : IsY base W g bs n) (k : Nat) (hk : YOwn W g k) : k < W.heap.size := by
  obtain ⟨v, h1, h2, h3⟩ := h
  rcases (YOwn_iff h1 k).1 hk with rfl | h5
  · exact blk_lt h1
  · exact Kd.R_lt h3 k h5
theorem own_congrY {W W1 : World} {g : Nat} (h : W1.heap[g]? = W.heap[g]?) (k : Nat) : YOwn W1 g k ↔ YOwn W g k := by
  unfold YOwn
  rw [h]
theorem of_ystep {W W1 : World} {g : Nat} (h : YStep W W1 g) : Fr W W1 (YOwn W g) := ⟨h.os, h.tape, h.output, h.kept.1, h.kept.2⟩
theorem dec_pos (ls bs : List Int) : ∀ (d : Nat) (x : Int) (pos : Nat) (bad : Bool), pos ≤ 8 * bs.length → (decS ls bs d x pos bad).2.1 ≤ 8 * bs.length
  | 0, _, _, _, h => h
  | d + 1, x, pos, bad, h => by
    have hle := getS_le bs pos bad 1 h
    rw [decS]
    by_cases hb : (getS bs pos bad 1).2.2 = true
    · rw [if_pos hb]; exact hle
    · rw [if_neg hb]
      cases lookS ls (2 * x + (getS bs pos bad 1).1) (15 - d) with
      | none => exact dec_pos ls bs d _ _ _ hle
      | some t => exact hle
set_option maxHeartbeats 16000000 in
set_option maxRecDepth 100000 in
theorem HuffReads_walk (A0 A1 A2 A3 : Option Addr) (c0 c1 c2 c3 : Nat) (s g bs sg : List Int) (w : World) (hr0 : Kd.C (Kd.int .i64) w A0 s.length s) (hc0 : s.length ≤ c0) (hr1 : Kd.C (Kd.int .i64) w A1 g.length g) (hc1 : g.length ≤ c1)
    (hr2 : Kd.C (Kd.int .u8) w A2 bs.length bs) (hn2 : A2 = none → c2 = 0) (hl : bs.length ≤ 140737488351232) (hr3 : Kd.C (Kd.int .i64) w A3 sg.length sg)
    (hs64 : ∀ x ∈ s, In64 x) (hg : ∀ x ∈ g, In64 x) (hsg : ∀ x ∈ sg, In64 x) :
    Calls Try.prog 11 #[.slice A0 s.length c0, .slice A1 g.length c1, .slice A2 bs.length c2, .slice A3 sg.length c3] w fun e w' => e = .returned (.bool true) ∧ Below w.heap.size w w' := by
  have hu48 := Try.underlying48
  have HL := Aside0.mk (Full_calls A0 A1 c0 c1 s g w hr0 hc0 hr1 hc1 hs64 hg)
  have HSG := Aside0.mk (And.intro hr3 hsg)
  have hnil : A2 = none → bs = [] ∧ c2 = 0 := by
    intro e
    refine ⟨?_, hn2 e⟩
    rcases Nat.eq_zero_or_pos bs.length with h | h
    · exact List.eq_nil_of_length_eq_zero h
    · obtain ⟨ad, h9, _⟩ := hr2.2.2 h
      rw [e] at h9
      cases h9
  have HBS := Aside0.mk (And.intro hr2 (And.intro hnil hl))
  clear hr0 hr1 hc0 hc1 hs64 hg hr3 hsg hr2 hn2 hnil
  go_enter Try.func11, Try.ntmps11
  go_wp2_with fail
  refine HL.out.mono ?_
  clear HL
  rintro e w1 ⟨v, ls, rfl, ⟨hok, hl1, hl2⟩, hR, hB⟩
  obtain ⟨Al, cl, rfl⟩ := Kd.R_slice hR
  have HR := Aside0.mk (Kd.R_reads' hR)
  have HRO := Aside0.mk (fun (k : Nat) (hk : (Value.slice Al ls.length cl).ownBlock = some k) => Kd.R_lt hR k hk)
  have HRR := Aside0.mk hR
  have HB := Aside0.mk hB
  clear hR hB
  have hleni : (ls.length : Int) ≤ 82 := by omega
  have hlen1 : (1 : Int) ≤ (ls.length : Int) := by omega
  have HN := Aside0.mk (New_ok Al cl ls w1 HR.out.2.2 HR.out.2.1 hok)
  go_wp2_with fail
  refine HN.out.mono ?_
  clear HN
  rintro e w2 ⟨p, rfl, hT, hB⟩
  have HT := Aside0.mk hT
  have HRR2 := Aside0.mk (Kd.R_below HRR.out hB)
  have HS1 := Aside0.mk hB.size
  replace HB := Aside0.mk (below_step HB.out hB)
  clear hT hB HRR
  have HN := Aside0.mk (NewR_fr A2 c2 bs w2 (Kd.C_below HBS.out.1 HB.out) HBS.out.2.1 (by omega))
  go_wp2_with fail
  refine HN.out.mono ?_
  clear HN
  rintro e w3 ⟨gr, rfl, hI, hB, hsz⟩
  have HI3 := Aside0.mk hI
  have HB3 := Aside0.mk hB
  have HG3 := Aside0.mk (show w2.heap.size ≤ gr ∧ gr < w3.heap.size from hI.ge)
  clear hI hB hsz
  have HCP := Aside0.mk (Copy_calls A2 c2 bs w3 (Kd.C_below HBS.out.1 (below_step HB.out HB3.out)) (by omega))
  go_wp2_with fail
  refine HCP.out.mono ?_
  clear HCP
  rintro e w4 ⟨v, rfl, hR, hB⟩
  obtain ⟨Ax, cx, rfl⟩ := Kd.R_slice hR
  have HI4 := Aside0.mk (HI3.out.below hB)
  have HB4 := Aside0.mk (below_step HB3.out hB)
  have HR4 := Aside0.mk hR
  have HS4 := Aside0.mk hB.size
  clear hR hB HI3 HB3
  go_wp2_with fail
  obtain ⟨w5, hw5⟩ : ∃ w5, w5 = w4.alloc (.cells #[.slice Ax bs.length cx, .int .i64 0, .bool false] 48) := ⟨_, rfl⟩
  obtain ⟨gx, hgx⟩ : ∃ gx, gx = w4.heap.size := ⟨_, rfl⟩
  have HX5 := Aside0.mk (show IsX w3.heap.size w5 gx bs 0 false by
    rw [hw5, hgx]
    exact ⟨Ax, cx, heap_alloc_new w4 _, HS4.out, fun k hk => Kd.R_lt HR4.out k hk, Kd.R_alloc HR4.out _⟩)
  have HI5 := Aside0.mk (show IsR w2.heap.size w5 gr bs 0 false by rw [hw5]; exact HI4.out.below (below_alloc (Below.refl _ _) _))
  have HB5 := Aside0.mk (show Below w2.heap.size w2 w5 by rw [hw5]; exact below_alloc HB4.out _)
  have HG5 := Aside0.mk (show w3.heap.size ≤ gx ∧ gx < w5.heap.size from HX5.out.ge)
  rw [← hw5, ← hgx]
  clear hw5 hgx HR4 HI4 HB4 HS4
  refine (NewW_calls _).mono ?_
  rintro e w6 ⟨gw, rfl, hw, hB⟩
  have HW6 := Aside0.mk hw
  have HX6 := Aside0.mk (HX5.out.below hB)
  have HI6 := Aside0.mk (HI5.out.below hB)
  have HB6 := Aside0.mk (below_step HB5.out hB)
  have HS6 := Aside0.mk hB.size
  clear hw hB HX5 HI5 HB5
  go_wp2_with fail
  obtain ⟨w7, hw7⟩ : ∃ w7, w7 = w6.alloc (.cells #[.slice none 0 0, .int .i64 0, .bool false] 48) := ⟨_, rfl⟩
  obtain ⟨gy, hgy⟩ : ∃ gy, gy = w6.heap.size := ⟨_, rfl⟩
  have h67 : Below w6.heap.size w6 w7 := by rw [hw7]; exact below_alloc (Below.refl _ _) _
  have HY7 := Aside0.mk (show IsYr w6.heap.size w7 gy [] by
    rw [hw7, hgy]
    exact ⟨⟨.slice none 0 0, heap_alloc_new w6 _, Nat.le_refl _, Kd.R_nil _ _ _ _ _⟩, (fun d hd => by cases hd), by show 0 ≤ _; decide⟩)
  have HW7 := Aside0.mk (show IsWr w5.heap.size w7 gw [] from ⟨HW6.out.1.move (fun j hj => h67.block j (own_lt HW6.out.1 j hj)), HW6.out.2⟩)
  have HOW := Aside0.mk (show ∀ j, WOwn w7 gw j → w5.heap.size ≤ j ∧ j < w6.heap.size from fun j hj => ⟨HW7.out.1.own_ge j hj, own_lt HW6.out.1 j ((own_congr (h67.block gw HW6.out.1.lt.2) j).1 hj)⟩)
  have HX7 := Aside0.mk (HX6.out.below h67)
  have HI7 := Aside0.mk (HI6.out.below h67)
  have HB7 := Aside0.mk (below_step HB6.out h67)
  have HG7 := Aside0.mk (show gr < gx ∧ gx < w5.heap.size from ⟨Nat.lt_of_lt_of_le HG3.out.2 HG5.out.1, HG5.out.2⟩)
  have HS67 := Aside0.mk h67.size
  rw [← hw7, ← hgy]
  clear hw7 hgy h67 HW6 HX6 HI6 HB6
  go_wp2_with fail
  have HF7 := Aside0.mk (Fr.refl w7 (fun k => k = gr ∨ k = gx))
  have HCL := Aside0.mk (Kd.R_reads' HRR2.out).2
  have HBF := Aside0.mk (fun (W : World) (h : Fr w7 W (fun k => k = gr ∨ k = gx)) => Fr.below HB7.out h (fun k hk => by have := HG3.out; have := HG7.out; rcases hk with rfl | rfl <;> omega) HB7.out.size)
  go_loopg [16] 40 (fun gk v16 w' => ∃ (i n : Nat) (bad : Bool), v16 = .int .i64 (i : Int) ∧ Aside0 (i + gk = 40) ∧ Aside0 (n ≤ 8 * bs.length) ∧ Aside0 (IsR w2.heap.size w' gr bs n bad) ∧ Aside0 (IsX w3.heap.size w' gx bs n bad) ∧ Aside0 (Fr w7 w' (fun k => k = gr ∨ k = gx)))
  case atStart => exact ⟨0, 0, false, rfl, ⟨rfl⟩, ⟨Nat.zero_le _⟩, HI7, HX7, HF7⟩
  case round =>
    clear HI7 HX7 HF7
    obtain ⟨i, n, bad, rfl, HK, HNN, HI, HX, HF⟩ := hrel
    obtain ⟨wo, rfl⟩ : ∃ wo : World, wo = wr := ⟨_, rfl⟩
    by_cases hi : i < 40
    · have hi1 : (i : Int) < 40 := by omega
      have hi0 : (0 : Int) ≤ (i : Int) := by omega
      have HBo := Aside0.mk (HBF.out wo HF.out)
      have HG := Aside0.mk (Get_T w1.heap.size w2.heap.size p w2.heap.size gr ls bs n bad HNN.out (by omega) hok wo (HT.out.fr (Fr.of_below HBo.out No) (fun _ _ _ e => e)) HI.out (Or.inr HG3.out.1) HBo.out.size)
      have HSC := Aside0.mk (fun (W : World) (hX : IsX w3.heap.size W gx bs n bad) (hA : ∀ V, Fr W V (fun k => k = gx) → Kd.C (Kd.int .i64) V Al ls.length ls) => Sign_calls w3.heap.size gx bs ls n bad Al cl hok HNN.out (by omega) W hX HCL.out.1 hA)
      have HQ := Aside0.mk (dec_pos ls bs 15 0 n bad HNN.out)
      generalize decS ls bs 15 0 n bad = D at *
      obtain ⟨⟨v, ok⟩, q, b⟩ := D
      go_wp2_with fail
      refine HG.out.mono ?_
      clear HG
      rintro e w8 ⟨rfl, hI, hF⟩
      have HI8 := Aside0.mk hI
      have HX8 := Aside0.mk (HX.out.fr hF (fun k hk => by have hk : k = gr := hk; have := HG3.out; omega))
      have HF8 := Aside0.mk (HF.out.trans hF (fun k hk => Or.inl (Or.inl hk)))
      clear hI hF HX HF HI HBo
      have HSS := Aside0.mk (HSC.out w8 HX8.out (fun V hV => Kd.C_below HCL.out.2 (HBF.out V (HF8.out.trans hV (fun k hk => Or.inl (Or.inr hk))))))
      clear HSC HX8
      go_wp2_with fail
      refine HSS.out.mono ?_
      clear HSS
      rintro e w9 ⟨rfl, hX, hF⟩
      have HX9 := Aside0.mk hX
      have HI9 := Aside0.mk (HI8.out.fr hF (fun k hk => by have hk : k = gx := hk; have := HG7.out; omega))
      have HF9 := Aside0.mk (HF8.out.trans hF (fun k hk => Or.inl (Or.inr hk)))
      clear hX hF HI8 HF8
      have HQ9 := Aside0.mk (show q ≤ 8 * bs.length from HQ.out)
      cases ok with
      | true =>
        have HL1 := Aside0.mk (Rf.Left_fr w2.heap.size gr bs q b HQ9.out (by omega) w9 HI9.out)
        have HL2 := Aside0.mk (fun (m : Nat) => Xf.Left_fr w3.heap.size gx bs q b HQ9.out (by omega) (w9.drewN m) (HX9.out.drewN m))
        go_wp2_with fail
        refine HL1.out.mono ?_
        rintro e w10 ⟨rfl, m10, rfl⟩
        go_wp2_with fail
        refine (HL2.out m10).mono ?_
        rintro e w11 ⟨rfl, m11, rfl⟩
        go_wp2_with fail
        obtain ⟨g', rfl⟩ : ∃ g', gk = g' + 1 := ⟨gk - 1, by have := HK.out; omega⟩
        go_roundg g'
        case measure => omega
        case rel => exact ⟨i + 1, q, b, by go_num, ⟨by have := HK.out; omega⟩, HQ9, ⟨HI9.out.drewN (m10 + m11)⟩, ⟨HX9.out.drewN (m10 + m11)⟩, ⟨HF9.out.drewN (m10 + m11)⟩⟩
      | false =>
        go_wp2_with fail
        clear HX9 HI9 HK HNN HQ HQ9
        have HB9 := Aside0.mk (HBF.out w9 HF9.out)
        have HW9 := Aside0.mk (show IsWr w5.heap.size w9 gw [] from ⟨HW7.out.1.move (fun j hj => HF9.out.blk j (own_lt HW7.out.1 j hj) (fun e => by have := HOW.out j hj; have := HG7.out; rcases e with rfl | rfl <;> omega)), HW7.out.2⟩)
        have HY9 := Aside0.mk (show IsYr w6.heap.size w9 gy [] from ⟨HY7.out.1.move (fun j hj => HF9.out.blk j (own_ltY HY7.out.1 j hj) (fun e => by have := HY7.out.1.own_ge j hj; have := HG7.out; have := HS6.out; rcases e with rfl | rfl <;> omega)), HY7.out.2⟩)
        have HOW9 := Aside0.mk (show ∀ j, WOwn w9 gw j → w5.heap.size ≤ j ∧ j < w6.heap.size from fun j hj => HOW.out j ((own_congr (HF9.out.blk gw HW7.out.1.lt.2 (fun e => by have := HW7.out.1.lt.1; have := HG7.out; rcases e with e | e <;> omega)) j).1 hj))
        have HCO := Aside0.mk (Codes_calls Al cl ls w9 (Kd.C_below HCL.out.2 HB9.out) HCL.out.1)
        rw [codesR_yes hok] at HCO
        have hkl : (codesL ls).length = ls.length := cf_length ls 15 0
        refine HCO.out.mono ?_
        clear HCO
        rintro e w10 ⟨vk, rfl, hR, hB⟩
        obtain ⟨Ak, ck, rfl⟩ := Kd.R_slice hR
        rw [hkl] at hR ⊢
        have HRK := Aside0.mk hR
        have HW10 := Aside0.mk (show IsWr w5.heap.size w10 gw [] from ⟨HW9.out.1.move (fun j hj => hB.block j (own_lt HW9.out.1 j hj)), HW9.out.2⟩)
        have HY10 := Aside0.mk (show IsYr w6.heap.size w10 gy [] from ⟨HY9.out.1.move (fun j hj => hB.block j (own_ltY HY9.out.1 j hj)), HY9.out.2⟩)
        have HS9 := Aside0.mk (show w5.heap.size ≤ w6.heap.size ∧ w6.heap.size ≤ w9.heap.size ∧ w9.heap.size ≤ w10.heap.size from ⟨HS6.out, Nat.le_trans HS67.out HF9.out.size, hB.size⟩)
        obtain ⟨S, hS⟩ : ∃ S : Nat → Prop, S = fun j => (w5.heap.size ≤ j ∧ j < w9.heap.size) ∨ w10.heap.size ≤ j := ⟨_, rfl⟩
        have HSD := Aside0.mk (show ∀ j, S j ↔ (w5.heap.size ≤ j ∧ j < w9.heap.size) ∨ w10.heap.size ≤ j from fun j => by rw [hS])
        have HOW10 := Aside0.mk (show ∀ j, WOwn w10 gw j → S j from fun j hj => (HSD.out j).2 (Or.inl (by have := HOW9.out j ((own_congr (hB.block gw HW9.out.1.lt.2) j).1 hj); have := HS9.out; omega)))
        have HOY10 := Aside0.mk (show ∀ j, YOwn w10 gy j → S j from fun j hj => (HSD.out j).2 (Or.inl (by
          have h := (own_congrY (hB.block gy HY9.out.1.lt.2) j).1 hj
          have := HY9.out.1.own_ge j h
          have := own_ltY HY9.out.1 j h
          have := HS9.out
          omega)))
        have HDJ10 := Aside0.mk (show ∀ j, WOwn w10 gw j → ¬ YOwn w10 gy j from fun j hj h => by
          have h1 := HOW9.out j ((own_congr (hB.block gw HW9.out.1.lt.2) j).1 hj)
          have h2 := HY10.out.1.own_ge j h
          omega)
        have HB10 := Aside0.mk (below_step HB9.out hB)
        have HF10 := Aside0.mk (Fr.refl w10 S)
        have HG25 := Aside0.mk (show w2.heap.size ≤ w5.heap.size by have := HG3.out; have := HG7.out; omega)
        have HBS2 := Aside0.mk (fun (W : World) (h : Fr w10 W S) => Fr.below HB10.out h (fun k hk => by have := (HSD.out k).1 hk; have := HS9.out; have := HG25.out; omega) HB10.out.size)
        have HKK := Aside0.mk (fun (W : World) (h : Fr w10 W S) => show Kd.C (Kd.int .i64) W Ak ls.length (codesL ls) from by
          have h9 := (Kd.R_reads' (R_fr HRK.out rfl h (fun k hk e => by have := Kd.R_lt HRK.out k hk; have := Kd.R_base HRK.out k hk; have := (HSD.out k).1 e; omega))).2.2
          rwa [hkl] at h9)
        clear hR hB hS HW9 HY9 HOW9 HRK HW7 HY7 HOW HBF
        go_wp2_with fail
        go_loopg [23] 30 (fun gk v23 w' => ∃ (i : Nat) (ds : List Int), v23 = .int .i64 (i : Int) ∧ Aside0 (i + gk = 30) ∧ Aside0 (ds.length ≤ 15 * i) ∧ Aside0 (IsWr w5.heap.size w' gw ds) ∧ Aside0 (IsYr w6.heap.size w' gy ds) ∧ Aside0 (∀ j, WOwn w' gw j → S j) ∧ Aside0 (∀ j, YOwn w' gy j → S j) ∧ Aside0 (∀ j, WOwn w' gw j → ¬ YOwn w' gy j) ∧ Aside0 (Fr w10 w' S))
        case atStart => exact ⟨0, [], rfl, ⟨rfl⟩, ⟨Nat.le_refl _⟩, HW10, HY10, HOW10, HOY10, HDJ10, HF10⟩
        case round =>
          clear HW10 HY10 HOW10 HOY10 HDJ10 HF10
          obtain ⟨i, ds, rfl, HK, HDL, HW, HY, HOW, HOY, HDJ, HF⟩ := hrel
          obtain ⟨wi, rfl⟩ : ∃ wi : World, wi = wr := ⟨_, rfl⟩
          have hdl : ds.length ≤ 450 := by have := HDL.out; have := HK.out; omega
          by_cases hs1 : i < sg.length
          · have hi1 : (i : Int) < (sg.length : Int) := by omega
            by_cases hs2 : i < 30
            · have hi2 : (i : Int) < 30 := by omega
              have hi0 : (0 : Int) ≤ (i : Int) := by omega
              obtain ⟨ad2, ea2, hx2⟩ := Kd.at_int (Kd.C_below (Kd.C_below HSG.out.1 HB.out) (HBS2.out wi HF.out)) (i : Int) hi0 hi1
              have hx64 := HSG.out.2 _ (Hl.rd_mem sg i hs1)
              rw [Int.toNat_natCast] at hx2
              subst ea2
              generalize rd sg (i : Int) = y at *
              go_wp2_with fail
              have hw := within_nat y (ls.length + 2) hx64.1 hx64.2 (by omega) (by omega) wi
              rw [show ((ls.length + 2 : Nat) : Int) = (ls.length : Int) + 2 from by omega] at hw
              refine hw.mono ?_
              clear hw hx2
              rintro e w11 ⟨r, hr1, hr2, rfl, m4, hw11⟩
              have hr3 : (r : Int) ≤ 84 := by omega
              have hr0 : 0 ≤ (r : Int) := by omega
              clear hr1
              replace HW := Aside0.mk (show IsWr w5.heap.size w11 gw ds by rw [hw11]; exact HW.out)
              replace HY := Aside0.mk (show IsYr w6.heap.size w11 gy ds by rw [hw11]; exact HY.out)
              replace HOW := Aside0.mk (show ∀ j, WOwn w11 gw j → S j by rw [hw11]; exact HOW.out)
              replace HOY := Aside0.mk (show ∀ j, YOwn w11 gy j → S j by rw [hw11]; exact HOY.out)
              replace HDJ := Aside0.mk (show ∀ j, WOwn w11 gw j → ¬ YOwn w11 gy j by rw [hw11]; exact HDJ.out)
              replace HF := Aside0.mk (show Fr w10 w11 S by rw [hw11]; exact HF.out.drewN m4)
              clear hw11
              obtain ⟨z, hz⟩ : ∃ z, (r : Int) - 1 = z := ⟨_, rfl⟩
              have HBw := Aside0.mk (HBS2.out w11 HF.out)
              have HTw := Aside0.mk (HT.out.fr (Fr.of_below HBw.out No) (fun _ _ _ e => e))
              have HZ := Aside0.mk hz
              cases hh : hasB ls z with
              | true =>
                have hh' := of_decide_eq_true hh
                obtain ⟨k, rfl⟩ := Int.eq_ofNat_of_zero_le hh'.1
                obtain ⟨hk0, hk1, hk2⟩ := hh'
                rw [Int.toNat_natCast] at hk2
                have hkn : k < ls.length := by omega
                obtain ⟨ad0, ea0, hx0⟩ := Kd.at_int (Kd.C_below HCL.out.2 HBw.out) (k : Int) hk0 hk1
                obtain ⟨ad1, ea1, hx1⟩ := Kd.at_int (HKK.out w11 HF.out) (k : Int) hk0 hk1
                rw [Int.toNat_natCast] at hx0 hx1
                subst ea0 ea1
                have HXA := Aside0.mk (fun (W : World) (h : Fr w10 W S) => C_at (Kd.C_below HCL.out.2 (HBS2.out W h)) k hkn)
                have HXK := Aside0.mk (fun (W : World) (h : Fr w10 W S) => C_at (HKK.out W h) k hkn)
                rw [codesL_get ls (okS_inR hok).1 k hkn, if_pos hk2] at HXK hx1
                rw [rd_getD] at HXA hx0
                have hrn := inR_get (okS_inR hok).1 k hkn
                have hsm := code_small hok k hkn hk2
                have he : ls.getD k 0 = ((lenOf ls k : Nat) : Int) := by unfold lenOf; omega
                have hle : lenOf ls k ≤ 15 := by omega
                have HP := Aside0.mk (Put_yes w1.heap.size w2.heap.size p w5.heap.size gw ls ds k hkn hk2 hok (by omega) w11 HTw.out HW.out)
                have HCD := Aside0.mk (fun (W : World) (h : IsYr w6.heap.size W gy ds) => Xw.Code_calls w6.heap.size gy ds (codeOf ls k : Int) (lenOf ls k) (by omega) (by omega) (by omega) (by omega) W h)
                rw [he] at HXA hx0 hk2
                generalize codeOf ls k = cd at *
                generalize lenOf ls k = ln at *
                have HLN := Aside0.mk hle
                clear he hrn hsm hle
                have hk3 : 0 < ln := by omega
                go_wp2_with fail
                refine HP.out.mono ?_
                clear HP
                rintro e w12 ⟨rfl, hw, hF, hown⟩
                have hyc := hF.blk gy HY.out.1.lt.2 (fun h => HDJ.out gy h (.inl rfl))
                have HW12 := Aside0.mk hw
                have HY12 := Aside0.mk (show IsYr w6.heap.size w12 gy ds from ⟨HY.out.1.move (fun j hj => hF.blk j (own_ltY HY.out.1 j hj) (fun h => HDJ.out j h hj)), HY.out.2⟩)
                have HF12 := Aside0.mk (HF.out.trans hF (fun j hj => Or.inl (HOW.out j hj)))
                have HOW12 := Aside0.mk (show ∀ j, WOwn w12 gw j → S j from fun j hj => by
                  rcases hown j hj with h | h
                  · exact HOW.out j h
                  · exact (HSD.out j).2 (Or.inr (Nat.le_trans HF.out.size h)))
                have HOY12 := Aside0.mk (show ∀ j, YOwn w12 gy j → S j from fun j hj => HOY.out j ((own_congrY hyc j).1 hj))
                have HDJ12 := Aside0.mk (show ∀ j, WOwn w12 gw j → ¬ YOwn w12 gy j from fun j hj hj2 => by
                  have h2 := (own_congrY hyc j).1 hj2
                  rcases hown j hj with h | h
                  · exact HDJ.out j h h2
                  · have := own_ltY HY.out.1 j h2; omega)
                clear hw hF hown hyc HW HY HF HOW HOY HDJ hx0 hx1 HTw HBw
                have hx0 := HXA.out w12 HF12.out
                have hx1 := HXK.out w12 HF12.out
                go_wp2_with fail
                go_region_held3 (fun W => W.cell? (ad0.add k) = some (.int .i64 (ln : Int)) ∧ W.cell? (ad1.add k) = some (.int .i64 (cd : Int))) (go_keep) ((go_at_call 61; refine (HCD.out _ (by exact HY12.out)).mono ?_; rintro e w13 ⟨rfl, hy, hs⟩; have hF13 := HF12.out.trans (of_ystep hs).undrew (fun j hj => Or.inl (HOY12.out j hj)); have hx0' := HXA.out w13 hF13; have hx1' := HXK.out w13 hF13))
                have hfy := of_ystep hs
                have hwc := hfy.blk gw HW12.out.1.lt.2 (fun h => HDJ12.out gw (.inl rfl) h)
                have HW13 := Aside0.mk (show IsWr w5.heap.size w13 gw (ds ++ highD (cd : Int) ln) from ⟨HW12.out.1.move (fun j hj => hfy.blk j (own_lt HW12.out.1 j hj) (fun h => HDJ12.out j hj h)), HW12.out.2⟩)
                have HY13 := Aside0.mk hy
                have HF13 := Aside0.mk hF13
                have HOW13 := Aside0.mk (show ∀ j, WOwn w13 gw j → S j from fun j hj => HOW12.out j ((own_congr hwc j).1 hj))
                have HOY13 := Aside0.mk (show ∀ j, YOwn w13 gy j → S j from fun j hj => by
                  rcases hs.own j hj with h | h
                  · exact HOY12.out j h
                  · exact (HSD.out j).2 (Or.inr (Nat.le_trans HF12.out.size h)))
                have HDJ13 := Aside0.mk (show ∀ j, WOwn w13 gw j → ¬ YOwn w13 gy j from fun j hj hj2 => by
                  have h1 := (own_congr hwc j).1 hj
                  rcases hs.own j hj2 with h | h
                  · exact HDJ12.out j h1 h
                  · have := own_lt HW12.out.1 j h1
                    have h : w12.heap.size ≤ j := h
                    omega)
                have HLD := Aside0.mk (show (ds ++ highD (cd : Int) ln).length ≤ 15 * (i + 1) by rw [List.length_append, Dig.highD_length]; have := HDL.out; have := HLN.out; omega)
                clear hy hs hF13 hx0 hx1 hx0' hx1' hfy hwc HW12 HY12 HF12 HOW12 HOY12 HDJ12 HCD HXA HXK hz
                go_wp2_with fail
                obtain ⟨g', rfl⟩ : ∃ g', gk = g' + 1 := ⟨gk - 1, by have := HK.out; omega⟩
                go_roundg g'
                case measure => omega
                case rel => exact ⟨i + 1, _, by go_num, ⟨by have := HK.out; omega⟩, HLD, HW13, HY13, HOW13, HOY13, HDJ13, HF13⟩
              | false =>
                have hh' := of_decide_eq_false hh
                have HP := Aside0.mk (Put_no w1.heap.size w2.heap.size p gw ls z hh hok w11 HTw.out)
                clear hh HTw
                by_cases y0 : 0 ≤ z
                · by_cases y1 : z < (ls.length : Int)
                  · obtain ⟨k, rfl⟩ := Int.eq_ofNat_of_zero_le y0
                    obtain ⟨ad0, ea0, hx0⟩ := Kd.at_int (Kd.C_below HCL.out.2 HBw.out) (k : Int) y0 y1
                    rw [Int.toNat_natCast] at hx0 hh'
                    rw [rd_getD] at hx0
                    have hk2 : ¬ 0 < ls.getD k 0 := fun h => hh' ⟨y0, y1, h⟩
                    subst ea0
                    generalize ls.getD k 0 = lv at *
                    go_wp2_with fail
                    refine HP.out.mono ?_
                    clear HP
                    rintro e w12 ⟨rfl, m12, hw12⟩
                    replace HW := Aside0.mk (show IsWr w5.heap.size w12 gw ds by rw [hw12]; exact HW.out)
                    replace HY := Aside0.mk (show IsYr w6.heap.size w12 gy ds by rw [hw12]; exact HY.out)
                    replace HOW := Aside0.mk (show ∀ j, WOwn w12 gw j → S j by rw [hw12]; exact HOW.out)
                    replace HOY := Aside0.mk (show ∀ j, YOwn w12 gy j → S j by rw [hw12]; exact HOY.out)
                    replace HDJ := Aside0.mk (show ∀ j, WOwn w12 gw j → ¬ YOwn w12 gy j by rw [hw12]; exact HDJ.out)
                    replace HF := Aside0.mk (show Fr w10 w12 S by rw [hw12]; exact HF.out.drewN m12)
                    clear hw12 hz
                    go_wp2_with fail
                    obtain ⟨g', rfl⟩ : ∃ g', gk = g' + 1 := ⟨gk - 1, by have := HK.out; omega⟩
                    go_roundg g'
                    case measure => omega
                    case rel => exact ⟨i + 1, ds, by go_num, ⟨by have := HK.out; omega⟩, ⟨by have := HDL.out; omega⟩, HW, HY, HOW, HOY, HDJ, HF⟩
                  · clear hh'
                    go_wp2_with fail
                    refine HP.out.mono ?_
                    clear HP
                    rintro e w12 ⟨rfl, m12, hw12⟩
                    replace HW := Aside0.mk (show IsWr w5.heap.size w12 gw ds by rw [hw12]; exact HW.out)
                    replace HY := Aside0.mk (show IsYr w6.heap.size w12 gy ds by rw [hw12]; exact HY.out)
                    replace HOW := Aside0.mk (show ∀ j, WOwn w12 gw j → S j by rw [hw12]; exact HOW.out)
                    replace HOY := Aside0.mk (show ∀ j, YOwn w12 gy j → S j by rw [hw12]; exact HOY.out)
                    replace HDJ := Aside0.mk (show ∀ j, WOwn w12 gw j → ¬ YOwn w12 gy j by rw [hw12]; exact HDJ.out)
                    replace HF := Aside0.mk (show Fr w10 w12 S by rw [hw12]; exact HF.out.drewN m12)
                    clear hw12 hz
                    go_wp2_with fail
                    obtain ⟨g', rfl⟩ : ∃ g', gk = g' + 1 := ⟨gk - 1, by have := HK.out; omega⟩
                    go_roundg g'
                    case measure => omega
                    case rel => exact ⟨i + 1, ds, by go_num, ⟨by have := HK.out; omega⟩, ⟨by have := HDL.out; omega⟩, HW, HY, HOW, HOY, HDJ, HF⟩
                · clear hh'
                  go_wp2_with fail
                  refine HP.out.mono ?_
                  clear HP
                  rintro e w12 ⟨rfl, m12, hw12⟩
                  replace HW := Aside0.mk (show IsWr w5.heap.size w12 gw ds by rw [hw12]; exact HW.out)
                  replace HY := Aside0.mk (show IsYr w6.heap.size w12 gy ds by rw [hw12]; exact HY.out)
                  replace HOW := Aside0.mk (show ∀ j, WOwn w12 gw j → S j by rw [hw12]; exact HOW.out)
                  replace HOY := Aside0.mk (show ∀ j, YOwn w12 gy j → S j by rw [hw12]; exact HOY.out)
                  replace HDJ := Aside0.mk (show ∀ j, WOwn w12 gw j → ¬ YOwn w12 gy j by rw [hw12]; exact HDJ.out)
                  replace HF := Aside0.mk (show Fr w10 w12 S by rw [hw12]; exact HF.out.drewN m12)
                  clear hw12 hz
                  go_wp2_with fail
                  obtain ⟨g', rfl⟩ : ∃ g', gk = g' + 1 := ⟨gk - 1, by have := HK.out; omega⟩
                  go_roundg g'
                  case measure => omega
                  case rel => exact ⟨i + 1, ds, by go_num, ⟨by have := HK.out; omega⟩, ⟨by have := HDL.out; omega⟩, HW, HY, HOW, HOY, HDJ, HF⟩
            · have hi2 : ¬ (i : Int) < 30 := by omega
              clear HSG HK HDL HCL HOW HOY HDJ
              have hYY := HY.out
              obtain ⟨⟨vy, hby, hgy, hRy⟩, h01y, hly⟩ := hYY
              obtain ⟨Ay, cy, rfl⟩ := Kd.R_slice hRy
              have hx0 : wi.cell? ⟨gy, 0, none⟩ = some (.slice Ay (packB ds).length cy) := (blk_cell hby 0).trans rfl
              have HRY := Aside0.mk hRy
              clear hby hgy hRy h01y hly
              go_wp2_with fail
              go_region_held3 (fun W => W.cell? ⟨gy, 0, none⟩ = some (.slice Ay (packB ds).length cy)) (go_keep) (first | (go_at_call 40; refine (Bytes_calls w5.heap.size gw ds _ (by exact HW.out)).mono ?_; rintro e w14 ⟨Ab, cb, rfl, hRb, hB⟩; have k14 := (Fr.of_below hB No).undrew; have hx' := k14.cell hx0 (fun e => e); have HRB := Aside0.mk hRb; have HRY14 := Aside0.mk (R_fr HRY.out rfl k14 (fun _ _ e => e))) | (go_at_call 47; refine (SameB_calls Ab Ay cb cy (packB ds) _ (by exact (Kd.R_reads' HRB.out).2.2) (Kd.R_reads' HRB.out).2.1 (by exact (Kd.R_reads' HRY14.out).2.2) (Kd.R_reads' HRY14.out).2.1).mono ?_; rintro e w15 ⟨rfl, m15, rfl⟩) | (go_at_call 20; refine (wakes3 _).mono ?_; rintro e w16 ⟨rfl, hw⟩; have k16 := (k14.drewN m15).then_ (Fr.of_below hw No); have hx9 := k16.cell hx0 (fun e => e)))
              go_wp2_with fail
              go_ret
              exact ⟨rfl, below_step HB.out (Fr.below (HBS2.out wi HF.out) k16 (fun _ e => e.elim) (HBS2.out wi HF.out).size)⟩
          · have hi1 : ¬ (i : Int) < (sg.length : Int) := by omega
            clear HSG HK HDL HCL HOW HOY HDJ
            have hYY := HY.out
            obtain ⟨⟨vy, hby, hgy, hRy⟩, h01y, hly⟩ := hYY
            obtain ⟨Ay, cy, rfl⟩ := Kd.R_slice hRy
            have hx0 : wi.cell? ⟨gy, 0, none⟩ = some (.slice Ay (packB ds).length cy) := (blk_cell hby 0).trans rfl
            have HRY := Aside0.mk hRy
            clear hby hgy hRy h01y hly
            go_wp2_with fail
            go_region_held3 (fun W => W.cell? ⟨gy, 0, none⟩ = some (.slice Ay (packB ds).length cy)) (go_keep) (first | (go_at_call 40; refine (Bytes_calls w5.heap.size gw ds _ (by exact HW.out)).mono ?_; rintro e w14 ⟨Ab, cb, rfl, hRb, hB⟩; have k14 := (Fr.of_below hB No).undrew; have hx' := k14.cell hx0 (fun e => e); have HRB := Aside0.mk hRb; have HRY14 := Aside0.mk (R_fr HRY.out rfl k14 (fun _ _ e => e))) | (go_at_call 47; refine (SameB_calls Ab Ay cb cy (packB ds) _ (by exact (Kd.R_reads' HRB.out).2.2) (Kd.R_reads' HRB.out).2.1 (by exact (Kd.R_reads' HRY14.out).2.2) (Kd.R_reads' HRY14.out).2.1).mono ?_; rintro e w15 ⟨rfl, m15, rfl⟩) | (go_at_call 20; refine (wakes3 _).mono ?_; rintro e w16 ⟨rfl, hw⟩; have k16 := (k14.drewN m15).then_ (Fr.of_below hw No); have hx9 := k16.cell hx0 (fun e => e)))
            go_wp2_with fail
            go_ret
            exact ⟨rfl, below_step HB.out (Fr.below (HBS2.out wi HF.out) k16 (fun _ e => e.elim) (HBS2.out wi HF.out).size)⟩
    · have hi1 : ¬ (i : Int) < 40 := by omega
      have HF9 := Aside0.mk HF.out
      obtain ⟨w9, rfl⟩ : ∃ w9 : World, w9 = wo := ⟨_, rfl⟩
      clear HX HI HK HNN HF
      go_wp2_with fail
      have HB9 := Aside0.mk (HBF.out w9 HF9.out)
      have HW9 := Aside0.mk (show IsWr w5.heap.size w9 gw [] from ⟨HW7.out.1.move (fun j hj => HF9.out.blk j (own_lt HW7.out.1 j hj) (fun e => by have := HOW.out j hj; have := HG7.out; rcases e with rfl | rfl <;> omega)), HW7.out.2⟩)
      have HY9 := Aside0.mk (show IsYr w6.heap.size w9 gy [] from ⟨HY7.out.1.move (fun j hj => HF9.out.blk j (own_ltY HY7.out.1 j hj) (fun e => by have := HY7.out.1.own_ge j hj; have := HG7.out; have := HS6.out; rcases e with rfl | rfl <;> omega)), HY7.out.2⟩)
      have HOW9 := Aside0.mk (show ∀ j, WOwn w9 gw j → w5.heap.size ≤ j ∧ j < w6.heap.size from fun j hj => HOW.out j ((own_congr (HF9.out.blk gw HW7.out.1.lt.2 (fun e => by have := HW7.out.1.lt.1; have := HG7.out; rcases e with e | e <;> omega)) j).1 hj))
      have HCO := Aside0.mk (Codes_calls Al cl ls w9 (Kd.C_below HCL.out.2 HB9.out) HCL.out.1)
      rw [codesR_yes hok] at HCO
      have hkl : (codesL ls).length = ls.length := cf_length ls 15 0
      refine HCO.out.mono ?_
      clear HCO
      rintro e w10 ⟨vk, rfl, hR, hB⟩
      obtain ⟨Ak, ck, rfl⟩ := Kd.R_slice hR
      rw [hkl] at hR ⊢
      have HRK := Aside0.mk hR
      have HW10 := Aside0.mk (show IsWr w5.heap.size w10 gw [] from ⟨HW9.out.1.move (fun j hj => hB.block j (own_lt HW9.out.1 j hj)), HW9.out.2⟩)
      have HY10 := Aside0.mk (show IsYr w6.heap.size w10 gy [] from ⟨HY9.out.1.move (fun j hj => hB.block j (own_ltY HY9.out.1 j hj)), HY9.out.2⟩)
      have HS9 := Aside0.mk (show w5.heap.size ≤ w6.heap.size ∧ w6.heap.size ≤ w9.heap.size ∧ w9.heap.size ≤ w10.heap.size from ⟨HS6.out, Nat.le_trans HS67.out HF9.out.size, hB.size⟩)
      obtain ⟨S, hS⟩ : ∃ S : Nat → Prop, S = fun j => (w5.heap.size ≤ j ∧ j < w9.heap.size) ∨ w10.heap.size ≤ j := ⟨_, rfl⟩
      have HSD := Aside0.mk (show ∀ j, S j ↔ (w5.heap.size ≤ j ∧ j < w9.heap.size) ∨ w10.heap.size ≤ j from fun j => by rw [hS])
      have HOW10 := Aside0.mk (show ∀ j, WOwn w10 gw j → S j from fun j hj => (HSD.out j).2 (Or.inl (by have := HOW9.out j ((own_congr (hB.block gw HW9.out.1.lt.2) j).1 hj); have := HS9.out; omega)))
      have HOY10 := Aside0.mk (show ∀ j, YOwn w10 gy j → S j from fun j hj => (HSD.out j).2 (Or.inl (by
        have h := (own_congrY (hB.block gy HY9.out.1.lt.2) j).1 hj
        have := HY9.out.1.own_ge j h
        have := own_ltY HY9.out.1 j h
        have := HS9.out
        omega)))
      have HDJ10 := Aside0.mk (show ∀ j, WOwn w10 gw j → ¬ YOwn w10 gy j from fun j hj h => by
        have h1 := HOW9.out j ((own_congr (hB.block gw HW9.out.1.lt.2) j).1 hj)
        have h2 := HY10.out.1.own_ge j h
        omega)
      have HB10 := Aside0.mk (below_step HB9.out hB)
      have HF10 := Aside0.mk (Fr.refl w10 S)
      have HG25 := Aside0.mk (show w2.heap.size ≤ w5.heap.size by have := HG3.out; have := HG7.out; omega)
      have HBS2 := Aside0.mk (fun (W : World) (h : Fr w10 W S) => Fr.below HB10.out h (fun k hk => by have := (HSD.out k).1 hk; have := HS9.out; have := HG25.out; omega) HB10.out.size)
      have HKK := Aside0.mk (fun (W : World) (h : Fr w10 W S) => show Kd.C (Kd.int .i64) W Ak ls.length (codesL ls) from by
        have h9 := (Kd.R_reads' (R_fr HRK.out rfl h (fun k hk e => by have := Kd.R_lt HRK.out k hk; have := Kd.R_base HRK.out k hk; have := (HSD.out k).1 e; omega))).2.2
        rwa [hkl] at h9)
      clear hR hB hS HW9 HY9 HOW9 HRK HW7 HY7 HOW HBF
      go_wp2_with fail
      go_loopg [23] 30 (fun gk v23 w' => ∃ (i : Nat) (ds : List Int), v23 = .int .i64 (i : Int) ∧ Aside0 (i + gk = 30) ∧ Aside0 (ds.length ≤ 15 * i) ∧ Aside0 (IsWr w5.heap.size w' gw ds) ∧ Aside0 (IsYr w6.heap.size w' gy ds) ∧ Aside0 (∀ j, WOwn w' gw j → S j) ∧ Aside0 (∀ j, YOwn w' gy j → S j) ∧ Aside0 (∀ j, WOwn w' gw j → ¬ YOwn w' gy j) ∧ Aside0 (Fr w10 w' S))
      case atStart => exact ⟨0, [], rfl, ⟨rfl⟩, ⟨Nat.le_refl _⟩, HW10, HY10, HOW10, HOY10, HDJ10, HF10⟩
      case round =>
        clear HW10 HY10 HOW10 HOY10 HDJ10 HF10
        obtain ⟨i, ds, rfl, HK, HDL, HW, HY, HOW, HOY, HDJ, HF⟩ := hrel
        obtain ⟨wi, rfl⟩ : ∃ wi : World, wi = wr := ⟨_, rfl⟩
        have hdl : ds.length ≤ 450 := by have := HDL.out; have := HK.out; omega
        by_cases hs1 : i < sg.length
        · have hi1 : (i : Int) < (sg.length : Int) := by omega
          by_cases hs2 : i < 30
          · have hi2 : (i : Int) < 30 := by omega
            have hi0 : (0 : Int) ≤ (i : Int) := by omega
            obtain ⟨ad2, ea2, hx2⟩ := Kd.at_int (Kd.C_below (Kd.C_below HSG.out.1 HB.out) (HBS2.out wi HF.out)) (i : Int) hi0 hi1
            have hx64 := HSG.out.2 _ (Hl.rd_mem sg i hs1)
            rw [Int.toNat_natCast] at hx2
            subst ea2
            generalize rd sg (i : Int) = y at *
            go_wp2_with fail
            have hw := within_nat y (ls.length + 2) hx64.1 hx64.2 (by omega) (by omega) wi
            rw [show ((ls.length + 2 : Nat) : Int) = (ls.length : Int) + 2 from by omega] at hw
            refine hw.mono ?_
            clear hw hx2
            rintro e w11 ⟨r, hr1, hr2, rfl, m4, hw11⟩
            have hr3 : (r : Int) ≤ 84 := by omega
            have hr0 : 0 ≤ (r : Int) := by omega
            clear hr1
            replace HW := Aside0.mk (show IsWr w5.heap.size w11 gw ds by rw [hw11]; exact HW.out)
            replace HY := Aside0.mk (show IsYr w6.heap.size w11 gy ds by rw [hw11]; exact HY.out)
            replace HOW := Aside0.mk (show ∀ j, WOwn w11 gw j → S j by rw [hw11]; exact HOW.out)
            replace HOY := Aside0.mk (show ∀ j, YOwn w11 gy j → S j by rw [hw11]; exact HOY.out)
            replace HDJ := Aside0.mk (show ∀ j, WOwn w11 gw j → ¬ YOwn w11 gy j by rw [hw11]; exact HDJ.out)
            replace HF := Aside0.mk (show Fr w10 w11 S by rw [hw11]; exact HF.out.drewN m4)
            clear hw11
            obtain ⟨z, hz⟩ : ∃ z, (r : Int) - 1 = z := ⟨_, rfl⟩
            have HBw := Aside0.mk (HBS2.out w11 HF.out)
            have HTw := Aside0.mk (HT.out.fr (Fr.of_below HBw.out No) (fun _ _ _ e => e))
            have HZ := Aside0.mk hz
            cases hh : hasB ls z with
            | true =>
              have hh' := of_decide_eq_true hh
              obtain ⟨k, rfl⟩ := Int.eq_ofNat_of_zero_le hh'.1
              obtain ⟨hk0, hk1, hk2⟩ := hh'
              rw [Int.toNat_natCast] at hk2
              have hkn : k < ls.length := by omega
              obtain ⟨ad0, ea0, hx0⟩ := Kd.at_int (Kd.C_below HCL.out.2 HBw.out) (k : Int) hk0 hk1
              obtain ⟨ad1, ea1, hx1⟩ := Kd.at_int (HKK.out w11 HF.out) (k : Int) hk0 hk1
              rw [Int.toNat_natCast] at hx0 hx1
              subst ea0 ea1
              have HXA := Aside0.mk (fun (W : World) (h : Fr w10 W S) => C_at (Kd.C_below HCL.out.2 (HBS2.out W h)) k hkn)
              have HXK := Aside0.mk (fun (W : World) (h : Fr w10 W S) => C_at (HKK.out W h) k hkn)
              rw [codesL_get ls (okS_inR hok).1 k hkn, if_pos hk2] at HXK hx1
              rw [rd_getD] at HXA hx0
              have hrn := inR_get (okS_inR hok).1 k hkn
              have hsm := code_small hok k hkn hk2
              have he : ls.getD k 0 = ((lenOf ls k : Nat) : Int) := by unfold lenOf; omega
              have hle : lenOf ls k ≤ 15 := by omega
              have HP := Aside0.mk (Put_yes w1.heap.size w2.heap.size p w5.heap.size gw ls ds k hkn hk2 hok (by omega) w11 HTw.out HW.out)
              have HCD := Aside0.mk (fun (W : World) (h : IsYr w6.heap.size W gy ds) => Xw.Code_calls w6.heap.size gy ds (codeOf ls k : Int) (lenOf ls k) (by omega) (by omega) (by omega) (by omega) W h)
              rw [he] at HXA hx0 hk2
              generalize codeOf ls k = cd at *
              generalize lenOf ls k = ln at *
              have HLN := Aside0.mk hle
              clear he hrn hsm hle
              have hk3 : 0 < ln := by omega
              go_wp2_with fail
              refine HP.out.mono ?_
              clear HP
              rintro e w12 ⟨rfl, hw, hF, hown⟩
              have hyc := hF.blk gy HY.out.1.lt.2 (fun h => HDJ.out gy h (.inl rfl))
              have HW12 := Aside0.mk hw
              have HY12 := Aside0.mk (show IsYr w6.heap.size w12 gy ds from ⟨HY.out.1.move (fun j hj => hF.blk j (own_ltY HY.out.1 j hj) (fun h => HDJ.out j h hj)), HY.out.2⟩)
              have HF12 := Aside0.mk (HF.out.trans hF (fun j hj => Or.inl (HOW.out j hj)))
              have HOW12 := Aside0.mk (show ∀ j, WOwn w12 gw j → S j from fun j hj => by
                rcases hown j hj with h | h
                · exact HOW.out j h
                · exact (HSD.out j).2 (Or.inr (Nat.le_trans HF.out.size h)))
              have HOY12 := Aside0.mk (show ∀ j, YOwn w12 gy j → S j from fun j hj => HOY.out j ((own_congrY hyc j).1 hj))
              have HDJ12 := Aside0.mk (show ∀ j, WOwn w12 gw j → ¬ YOwn w12 gy j from fun j hj hj2 => by
                have h2 := (own_congrY hyc j).1 hj2
                rcases hown j hj with h | h
                · exact HDJ.out j h h2
                · have := own_ltY HY.out.1 j h2; omega)
              clear hw hF hown hyc HW HY HF HOW HOY HDJ hx0 hx1 HTw HBw
              have hx0 := HXA.out w12 HF12.out
              have hx1 := HXK.out w12 HF12.out
              go_wp2_with fail
              go_region_held3 (fun W => W.cell? (ad0.add k) = some (.int .i64 (ln : Int)) ∧ W.cell? (ad1.add k) = some (.int .i64 (cd : Int))) (go_keep) ((go_at_call 61; refine (HCD.out _ (by exact HY12.out)).mono ?_; rintro e w13 ⟨rfl, hy, hs⟩; have hF13 := HF12.out.trans (of_ystep hs).undrew (fun j hj => Or.inl (HOY12.out j hj)); have hx0' := HXA.out w13 hF13; have hx1' := HXK.out w13 hF13))
              have hfy := of_ystep hs
              have hwc := hfy.blk gw HW12.out.1.lt.2 (fun h => HDJ12.out gw (.inl rfl) h)
              have HW13 := Aside0.mk (show IsWr w5.heap.size w13 gw (ds ++ highD (cd : Int) ln) from ⟨HW12.out.1.move (fun j hj => hfy.blk j (own_lt HW12.out.1 j hj) (fun h => HDJ12.out j hj h)), HW12.out.2⟩)
              have HY13 := Aside0.mk hy
              have HF13 := Aside0.mk hF13
              have HOW13 := Aside0.mk (show ∀ j, WOwn w13 gw j → S j from fun j hj => HOW12.out j ((own_congr hwc j).1 hj))
              have HOY13 := Aside0.mk (show ∀ j, YOwn w13 gy j → S j from fun j hj => by
                rcases hs.own j hj with h | h
                · exact HOY12.out j h
                · exact (HSD.out j).2 (Or.inr (Nat.le_trans HF12.out.size h)))
              have HDJ13 := Aside0.mk (show ∀ j, WOwn w13 gw j → ¬ YOwn w13 gy j from fun j hj hj2 => by
                have h1 := (own_congr hwc j).1 hj
                rcases hs.own j hj2 with h | h
                · exact HDJ12.out j h1 h
                · have := own_lt HW12.out.1 j h1
                  have h : w12.heap.size ≤ j := h
                  omega)
              have HLD := Aside0.mk (show (ds ++ highD (cd : Int) ln).length ≤ 15 * (i + 1) by rw [List.length_append, Dig.highD_length]; have := HDL.out; have := HLN.out; omega)
              clear hy hs hF13 hx0 hx1 hx0' hx1' hfy hwc HW12 HY12 HF12 HOW12 HOY12 HDJ12 HCD HXA HXK hz
              go_wp2_with fail
              obtain ⟨g', rfl⟩ : ∃ g', gk = g' + 1 := ⟨gk - 1, by have := HK.out; omega⟩
              go_roundg g'
              case measure => omega
              case rel => exact ⟨i + 1, _, by go_num, ⟨by have := HK.out; omega⟩, HLD, HW13, HY13, HOW13, HOY13, HDJ13, HF13⟩
            | false =>
              have hh' := of_decide_eq_false hh
              have HP := Aside0.mk (Put_no w1.heap.size w2.heap.size p gw ls z hh hok w11 HTw.out)
              clear hh HTw
              by_cases y0 : 0 ≤ z
              · by_cases y1 : z < (ls.length : Int)
                · obtain ⟨k, rfl⟩ := Int.eq_ofNat_of_zero_le y0
                  obtain ⟨ad0, ea0, hx0⟩ := Kd.at_int (Kd.C_below HCL.out.2 HBw.out) (k : Int) y0 y1
                  rw [Int.toNat_natCast] at hx0 hh'
                  rw [rd_getD] at hx0
                  have hk2 : ¬ 0 < ls.getD k 0 := fun h => hh' ⟨y0, y1, h⟩
                  subst ea0
                  generalize ls.getD k 0 = lv at *
                  go_wp2_with fail
                  refine HP.out.mono ?_
                  clear HP
                  rintro e w12 ⟨rfl, m12, hw12⟩
                  replace HW := Aside0.mk (show IsWr w5.heap.size w12 gw ds by rw [hw12]; exact HW.out)
                  replace HY := Aside0.mk (show IsYr w6.heap.size w12 gy ds by rw [hw12]; exact HY.out)
                  replace HOW := Aside0.mk (show ∀ j, WOwn w12 gw j → S j by rw [hw12]; exact HOW.out)
                  replace HOY := Aside0.mk (show ∀ j, YOwn w12 gy j → S j by rw [hw12]; exact HOY.out)
                  replace HDJ := Aside0.mk (show ∀ j, WOwn w12 gw j → ¬ YOwn w12 gy j by rw [hw12]; exact HDJ.out)
                  replace HF := Aside0.mk (show Fr w10 w12 S by rw [hw12]; exact HF.out.drewN m12)
                  clear hw12 hz
                  go_wp2_with fail
                  obtain ⟨g', rfl⟩ : ∃ g', gk = g' + 1 := ⟨gk - 1, by have := HK.out; omega⟩
                  go_roundg g'
                  case measure => omega
                  case rel => exact ⟨i + 1, ds, by go_num, ⟨by have := HK.out; omega⟩, ⟨by have := HDL.out; omega⟩, HW, HY, HOW, HOY, HDJ, HF⟩
                · clear hh'
                  go_wp2_with fail
                  refine HP.out.mono ?_
                  clear HP
                  rintro e w12 ⟨rfl, m12, hw12⟩
                  replace HW := Aside0.mk (show IsWr w5.heap.size w12 gw ds by rw [hw12]; exact HW.out)
                  replace HY := Aside0.mk (show IsYr w6.heap.size w12 gy ds by rw [hw12]; exact HY.out)
                  replace HOW := Aside0.mk (show ∀ j, WOwn w12 gw j → S j by rw [hw12]; exact HOW.out)
                  replace HOY := Aside0.mk (show ∀ j, YOwn w12 gy j → S j by rw [hw12]; exact HOY.out)
                  replace HDJ := Aside0.mk (show ∀ j, WOwn w12 gw j → ¬ YOwn w12 gy j by rw [hw12]; exact HDJ.out)
                  replace HF := Aside0.mk (show Fr w10 w12 S by rw [hw12]; exact HF.out.drewN m12)
                  clear hw12 hz
                  go_wp2_with fail
                  obtain ⟨g', rfl⟩ : ∃ g', gk = g' + 1 := ⟨gk - 1, by have := HK.out; omega⟩
                  go_roundg g'
                  case measure => omega
                  case rel => exact ⟨i + 1, ds, by go_num, ⟨by have := HK.out; omega⟩, ⟨by have := HDL.out; omega⟩, HW, HY, HOW, HOY, HDJ, HF⟩
              · clear hh'
                go_wp2_with fail
                refine HP.out.mono ?_
                clear HP
                rintro e w12 ⟨rfl, m12, hw12⟩
                replace HW := Aside0.mk (show IsWr w5.heap.size w12 gw ds by rw [hw12]; exact HW.out)
                replace HY := Aside0.mk (show IsYr w6.heap.size w12 gy ds by rw [hw12]; exact HY.out)
                replace HOW := Aside0.mk (show ∀ j, WOwn w12 gw j → S j by rw [hw12]; exact HOW.out)
                replace HOY := Aside0.mk (show ∀ j, YOwn w12 gy j → S j by rw [hw12]; exact HOY.out)
                replace HDJ := Aside0.mk (show ∀ j, WOwn w12 gw j → ¬ YOwn w12 gy j by rw [hw12]; exact HDJ.out)
                replace HF := Aside0.mk (show Fr w10 w12 S by rw [hw12]; exact HF.out.drewN m12)
                clear hw12 hz
                go_wp2_with fail
                obtain ⟨g', rfl⟩ : ∃ g', gk = g' + 1 := ⟨gk - 1, by have := HK.out; omega⟩
                go_roundg g'
                case measure => omega
                case rel => exact ⟨i + 1, ds, by go_num, ⟨by have := HK.out; omega⟩, ⟨by have := HDL.out; omega⟩, HW, HY, HOW, HOY, HDJ, HF⟩
          · have hi2 : ¬ (i : Int) < 30 := by omega
            clear HSG HK HDL HCL HOW HOY HDJ
            have hYY := HY.out
            obtain ⟨⟨vy, hby, hgy, hRy⟩, h01y, hly⟩ := hYY
            obtain ⟨Ay, cy, rfl⟩ := Kd.R_slice hRy
            have hx0 : wi.cell? ⟨gy, 0, none⟩ = some (.slice Ay (packB ds).length cy) := (blk_cell hby 0).trans rfl
            have HRY := Aside0.mk hRy
            clear hby hgy hRy h01y hly
            go_wp2_with fail
            go_region_held3 (fun W => W.cell? ⟨gy, 0, none⟩ = some (.slice Ay (packB ds).length cy)) (go_keep) (first | (go_at_call 40; refine (Bytes_calls w5.heap.size gw ds _ (by exact HW.out)).mono ?_; rintro e w14 ⟨Ab, cb, rfl, hRb, hB⟩; have k14 := (Fr.of_below hB No).undrew; have hx' := k14.cell hx0 (fun e => e); have HRB := Aside0.mk hRb; have HRY14 := Aside0.mk (R_fr HRY.out rfl k14 (fun _ _ e => e))) | (go_at_call 47; refine (SameB_calls Ab Ay cb cy (packB ds) _ (by exact (Kd.R_reads' HRB.out).2.2) (Kd.R_reads' HRB.out).2.1 (by exact (Kd.R_reads' HRY14.out).2.2) (Kd.R_reads' HRY14.out).2.1).mono ?_; rintro e w15 ⟨rfl, m15, rfl⟩) | (go_at_call 20; refine (wakes3 _).mono ?_; rintro e w16 ⟨rfl, hw⟩; have k16 := (k14.drewN m15).then_ (Fr.of_below hw No); have hx9 := k16.cell hx0 (fun e => e)))
            go_wp2_with fail
            go_ret
            exact ⟨rfl, below_step HB.out (Fr.below (HBS2.out wi HF.out) k16 (fun _ e => e.elim) (HBS2.out wi HF.out).size)⟩
        · have hi1 : ¬ (i : Int) < (sg.length : Int) := by omega
          clear HSG HK HDL HCL HOW HOY HDJ
          have hYY := HY.out
          obtain ⟨⟨vy, hby, hgy, hRy⟩, h01y, hly⟩ := hYY
          obtain ⟨Ay, cy, rfl⟩ := Kd.R_slice hRy
          have hx0 : wi.cell? ⟨gy, 0, none⟩ = some (.slice Ay (packB ds).length cy) := (blk_cell hby 0).trans rfl
          have HRY := Aside0.mk hRy
          clear hby hgy hRy h01y hly
          go_wp2_with fail
          go_region_held3 (fun W => W.cell? ⟨gy, 0, none⟩ = some (.slice Ay (packB ds).length cy)) (go_keep) (first | (go_at_call 40; refine (Bytes_calls w5.heap.size gw ds _ (by exact HW.out)).mono ?_; rintro e w14 ⟨Ab, cb, rfl, hRb, hB⟩; have k14 := (Fr.of_below hB No).undrew; have hx' := k14.cell hx0 (fun e => e); have HRB := Aside0.mk hRb; have HRY14 := Aside0.mk (R_fr HRY.out rfl k14 (fun _ _ e => e))) | (go_at_call 47; refine (SameB_calls Ab Ay cb cy (packB ds) _ (by exact (Kd.R_reads' HRB.out).2.2) (Kd.R_reads' HRB.out).2.1 (by exact (Kd.R_reads' HRY14.out).2.2) (Kd.R_reads' HRY14.out).2.1).mono ?_; rintro e w15 ⟨rfl, m15, rfl⟩) | (go_at_call 20; refine (wakes3 _).mono ?_; rintro e w16 ⟨rfl, hw⟩; have k16 := (k14.drewN m15).then_ (Fr.of_below hw No); have hx9 := k16.cell hx0 (fun e => e)))
          go_wp2_with fail
          go_ret
          exact ⟨rfl, below_step HB.out (Fr.below (HBS2.out wi HF.out) k16 (fun _ e => e.elim) (HBS2.out wi HF.out).size)⟩
theorem HuffReads_row (w : World) (A0 : Option Addr) (c0 : Nat) (l0 : List Int) (hr0 : Kd.C (Kd.int .i64) w A0 l0.length l0) (hc0 : l0.length ≤ c0) (hw0 : ∀ x ∈ l0, (Lit.int .i64 x).wf = true) (hb0 : l0.length * 8 ≤ 140737488351232)
    (A1 : Option Addr) (c1 : Nat) (l1 : List Int) (hr1 : Kd.C (Kd.int .i64) w A1 l1.length l1) (hc1 : l1.length ≤ c1) (hw1 : ∀ x ∈ l1, (Lit.int .i64 x).wf = true) (hb1 : l1.length * 8 ≤ 140737488351232)
    (A2 : Option Addr) (c2 : Nat) (l2 : List Int) (hr2 : Kd.C (Kd.int .u8) w A2 l2.length l2) (hc2 : l2.length ≤ c2) (hw2 : ∀ x ∈ l2, (Lit.int .u8 x).wf = true) (hb2 : l2.length * 1 ≤ 140737488351232) (hn2 : A2 = none → c2 = 0)
    (A3 : Option Addr) (c3 : Nat) (l3 : List Int) (hr3 : Kd.C (Kd.int .i64) w A3 l3.length l3) (hc3 : l3.length ≤ c3) (hw3 : ∀ x ∈ l3, (Lit.int .i64 x).wf = true) (hb3 : l3.length * 8 ≤ 140737488351232) :
    Calls Try.prog 11 #[.slice A0 l0.length c0, .slice A1 l1.length c1, .slice A2 l2.length c2, .slice A3 l3.length c3] w fun e w' => e = .returned (.bool true) ∧ Below w.heap.size w w' :=
  HuffReads_walk A0 A1 A2 A3 c0 c1 c2 c3 l0 l1 l2 l3 w hr0 hc0 hr1 hc1 hr2 hn2 (by omega) hr3 (fun x hx => i64_wf (hw0 x hx)) (fun x hx => i64_wf (hw1 x hx)) (fun x hx => i64_wf (hw3 x hx))
end Go.Proofs.Ytihgekpijplfiaa.Sg
