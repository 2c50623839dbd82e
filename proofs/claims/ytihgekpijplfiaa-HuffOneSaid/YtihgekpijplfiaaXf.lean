/- florilegiumref01.Bits as a reader: what each method gives, and that it touches its own block alone. Conditions: the receiver's blocks lie between lo and itself. -/
import Derived.Test.YtihgekpijplfiaaRg
namespace Go.Proofs.Ytihgekpijplfiaa.Xf
set_option linter.unusedVariables false
open Go.RowKit Go.Proofs.YtihgekpijplfiaaW.PrintWords Go.Proofs.YtihgekpijplfiaaW.PrintLast Go.Proofs.YtihgekpijplfiaaW.PrintMore Go.Proofs.Ytihgekpijplfiaa.Pack Go.Proofs.Ytihgekpijplfiaa.Wr Go.Proofs.Ytihgekpijplfiaa.Rd Go.Proofs.Ytihgekpijplfiaa.Fr Go.Proofs.Ytihgekpijplfiaa.Rf
/-- A reader: its blocks are those from lo to g. -/
def IsX (lo : Nat) (W : World) (g : Nat) (bs : List Int) (n : Nat) (bad : Bool) : Prop :=
  ∃ A c, W.heap[g]? = some (.cells #[.slice A bs.length c, .int .i64 (n : Int), .bool bad] 48 (0, 0)) ∧ lo ≤ g ∧ (∀ k, (Value.slice A bs.length c).ownBlock = some k → k < g) ∧ Kd.R (Kd.int .u8) 5 W lo (fun _ => True) (.slice A bs.length c) bs
theorem IsX.ge {lo g n : Nat} {W : World} {bs : List Int} {bad : Bool} (h : IsX lo W g bs n bad) : lo ≤ g ∧ g < W.heap.size := by
  obtain ⟨A, c, h1, h2, h3, h4⟩ := h
  exact ⟨h2, blk_lt h1⟩
theorem IsX.move {lo g n : Nat} {W W1 : World} {bs : List Int} {bad : Bool} (h : IsX lo W g bs n bad) (hm : ∀ k, lo ≤ k → k ≤ g → W1.heap[k]? = W.heap[k]?) : IsX lo W1 g bs n bad := by
  obtain ⟨A, c, h1, h2, h3, h4⟩ := h
  refine ⟨A, c, (hm g h2 (Nat.le_refl _)).trans h1, h2, h3, ?_⟩
  exact Kd.R_mono (Kd.R_move (Kd.R_tight rfl h4) (fun k hk => hm k (Kd.R_base h4 k hk.symm) (Nat.le_of_lt (h3 k hk.symm)))) (fun _ _ => trivial)
theorem IsX.fr {lo g n : Nat} {W W1 : World} {S : Nat → Prop} {bs : List Int} {bad : Bool} (h : IsX lo W g bs n bad) (k : Fr W W1 S) (hs : ∀ i, S i → i < lo ∨ g < i) : IsX lo W1 g bs n bad :=
  h.move (fun i h1 h2 => k.blk i (Nat.lt_of_le_of_lt h2 h.ge.2) (fun e => by have := hs i e; omega))
theorem IsX.below {lo g n : Nat} {W W1 : World} {bs : List Int} {bad : Bool} (h : IsX lo W g bs n bad) (k : Below W.heap.size W W1) : IsX lo W1 g bs n bad := h.fr (Fr.of_below k No) (fun _ e => e.elim)
theorem IsX.drewN {lo g n : Nat} {W : World} {bs : List Int} {bad : Bool} (h : IsX lo W g bs n bad) (m : Nat) : IsX lo (W.drewN m) g bs n bad := h
theorem IsX.drew {lo g n : Nat} {W : World} {bs : List Int} {bad : Bool} (h : IsX lo W g bs n bad) : IsX lo W.drew g bs n bad := h
/-- The count, and the mark, stored. -/
theorem IsX.count {lo g n : Nat} {W : World} {bs : List Int} {bad : Bool} (h : IsX lo W g bs n bad) (m : Nat) : IsX lo (W.setCell ⟨g, 1, none⟩ (.int .i64 (m : Int))) g bs m bad := by
  obtain ⟨A, c, h1, h2, h3, h4⟩ := h
  refine ⟨A, c, (blk_set h1 1 _).trans rfl, h2, h3, ?_⟩
  exact Kd.R_set h4 h1 (by decide) 1 _
theorem IsX.mark {lo g n : Nat} {W : World} {bs : List Int} {bad : Bool} (h : IsX lo W g bs n bad) (b : Bool) : IsX lo (W.setCell ⟨g, 2, none⟩ (.bool b)) g bs n b := by
  obtain ⟨A, c, h1, h2, h3, h4⟩ := h
  refine ⟨A, c, (blk_set h1 2 _).trans rfl, h2, h3, ?_⟩
  exact Kd.R_set h4 h1 (by decide) 2 _
theorem IsX.cells {lo g n : Nat} {W : World} {bs : List Int} {bad : Bool} (h : IsX lo W g bs n bad) : ∃ A c, W.cell? ⟨g, 0, none⟩ = some (.slice A bs.length c) ∧ W.cell? ⟨g, 1, none⟩ = some (.int .i64 (n : Int)) ∧ W.cell? ⟨g, 2, none⟩ = some (.bool bad) ∧ W.frozen? ⟨g, 1, none⟩ = false ∧ W.frozen? ⟨g, 2, none⟩ = false ∧ Kd.C (Kd.int .u8) W A bs.length bs := by
  obtain ⟨A, c, h1, h2, h3, h4⟩ := h
  exact ⟨A, c, (blk_cell h1 0).trans rfl, (blk_cell h1 1).trans rfl, (blk_cell h1 2).trans rfl, blk_frozen h1 1, blk_frozen h1 2, (Kd.R_reads' h4).2.2⟩
set_option maxHeartbeats 1000000 in
theorem Left_fr (lo g : Nat) (bs : List Int) (n : Nat) (bad : Bool) (hn : n ≤ 8 * bs.length) (hl : bs.length ≤ 140737488355328) (w : World) (hI : IsX lo w g bs n bad) :
    Calls Try.prog 35 #[.pointer (some ⟨g, 0, none⟩)] w fun e w' => e = .returned (.int .i64 (8 * (bs.length : Int) - (n : Int))) ∧ ∃ m, w' = w.drewN m := by
  obtain ⟨A, c, x0, x1, x2, f1, f2, hC⟩ := hI.cells
  have z1 : IntKind.i64.wrap (8 * (bs.length : Int)) = 8 * (bs.length : Int) := IntWalk.i64_in _ (by omega)
  have z2 : IntKind.i64.wrap (8 * (bs.length : Int) - (n : Int)) = 8 * (bs.length : Int) - (n : Int) := IntWalk.i64_in _ (by omega)
  clear hn hl hC
  go_enter Try.func35, Try.ntmps35
  go_wp2_with fail
  go_quiet (fail)
  go_wp2_with fail
  go_ret
  exact ⟨rfl, _, rfl⟩
theorem Align_fr (lo g : Nat) (bs : List Int) (n : Nat) (hn : n ≤ 8 * bs.length) (hl : bs.length ≤ 140737488355328) (w : World) (hI : IsX lo w g bs n false) :
    Calls Try.prog 34 #[.pointer (some ⟨g, 0, none⟩)] w fun e w' => e = .returned (.tuple #[]) ∧ IsX lo w' g bs ((n + 7) / 8 * 8) false ∧ Fr w w' (fun i => i = g) := by
  obtain ⟨A, c, x0, x1, x2, f1, f2, hC⟩ := hI.cells
  have HI := Aside0.mk hI
  have hnn : (n : Int) ≤ 1125899906842624 := by omega
  clear hC hn hl hI
  go_enter Try.func34, Try.ntmps34
  go_wp2_with fail
  go_end0
  have e : ((n : Int) + 7) / 8 * 8 = (((n + 7) / 8 * 8 : Nat) : Int) := by omega
  rw [e]
  exact ⟨rfl, HI.out.count _, (Fr.refl _ _).setg _ _⟩
theorem Align_bad (lo g : Nat) (bs : List Int) (n : Nat) (w : World) (hI : IsX lo w g bs n true) :
    Calls Try.prog 34 #[.pointer (some ⟨g, 0, none⟩)] w fun e w' => e = .returned (.tuple #[]) ∧ w' = w := by
  obtain ⟨A, c, x0, x1, x2, f1, f2, hC⟩ := hI.cells
  clear hC
  go_enter Try.func34, Try.ntmps34
  go_wp2_with fail
  go_end0
  exact ⟨rfl, rfl⟩
set_option maxHeartbeats 4000000 in
theorem Get_bad_fr (lo g : Nat) (bs : List Int) (n : Nat) (bad : Bool) (c : Int) (h : bad = true ∨ c < 0 ∨ 16 < c ∨ 8 * (bs.length : Int) - n < c) (hn : n ≤ 8 * bs.length) (hl : bs.length ≤ 140737488355328) (w : World) (hI : IsX lo w g bs n bad) :
    Calls Try.prog 33 #[.pointer (some ⟨g, 0, none⟩), .int .i64 c] w fun e w' => e = .returned (.int .i64 0) ∧ IsX lo w' g bs n true ∧ Fr w w' (fun i => i = g) := by
  obtain ⟨A, cc, x0, x1, x2, f1, f2, hC⟩ := hI.cells
  have HI := Aside0.mk hI
  have HL := Aside0.mk (Left_fr lo g bs n bad hn hl w hI)
  clear hC hl hn hI
  have hb : bad = true ∨ bad = false := by cases bad <;> simp
  rcases hb with rfl | rfl
  · clear h
    go_enter Try.func33, Try.ntmps33
    go_wp2_with fail
    go_ret
    exact ⟨rfl, HI.out.mark true, (Fr.refl _ _).setg _ _⟩
  · by_cases h1 : c < 0
    · clear h
      go_enter Try.func33, Try.ntmps33
      go_wp2_with fail
      go_ret
      exact ⟨rfl, HI.out.mark true, (Fr.refl _ _).setg _ _⟩
    · by_cases h2 : 16 < c
      · clear h
        go_enter Try.func33, Try.ntmps33
        go_wp2_with fail
        go_ret
        exact ⟨rfl, HI.out.mark true, (Fr.refl _ _).setg _ _⟩
      · have h3 : 8 * (bs.length : Int) - n < c := by rcases h with h | h | h | h; cases h; exact absurd h h1; exact absurd h h2; exact h
        clear h
        go_enter Try.func33, Try.ntmps33
        go_wp2_with fail
        refine HL.out.mono ?_
        rintro e w5 ⟨rfl, m, rfl⟩
        go_wp2_with fail
        go_ret
        exact ⟨rfl, (HI.out.drewN m).mark true, ((Fr.refl _ _).drewN m).setg _ _⟩
set_option maxHeartbeats 4000000 in
set_option maxRecDepth 100000 in
theorem Get_fr (lo g : Nat) (bs : List Int) (n c : Nat) (hc : c ≤ 16) (hn : n + c ≤ 8 * bs.length) (hl : bs.length ≤ 140737488355328) (w : World) (hI : IsX lo w g bs n false) :
    Calls Try.prog 33 #[.pointer (some ⟨g, 0, none⟩), .int .i64 (c : Int)] w fun e w' => e = .returned (.int .i64 (valAt bs n c)) ∧ IsX lo w' g bs (n + c) false ∧ Fr w w' (fun i => i = g) := by
  have HI := Aside0.mk hI
  have HL := Aside0.mk (Left_fr lo g bs n false (by omega) hl w hI)
  have HN := Aside0.mk (And.intro hn hl)
  obtain ⟨A, cc, x0, x1, x2, f1, f2, hC⟩ := hI.cells
  have c0 : (0 : Int) ≤ (c : Int) := by omega
  have c1 : (c : Int) ≤ 16 := by omega
  have hd : decide (8 * (bs.length : Int) - (n : Int) < (c : Int)) = false := decide_eq_false (by omega)
  clear hC hl hn hI
  go_enter Try.func33, Try.ntmps33
  go_wp2_with fail
  refine HL.out.mono ?_
  rintro e w5 ⟨rfl, m, rfl⟩
  have HI5 := Aside0.mk (HI.out.drewN m)
  have HF5 := Aside0.mk ((Fr.refl w (fun i => i = g)).drewN m)
  clear x0 x1 x2 f1 f2 HL HI
  go_wp2_with fail
  clear hd
  go_loopg [5, 6] c (fun gk v5 v6 w' => ∃ i : Nat, v6 = .int .i64 (i : Int) ∧ v5 = .int .i64 (valAt bs n i) ∧ Aside0 (i + gk = c) ∧ Aside0 (IsX lo w' g bs (n + i) false) ∧ Aside0 (Fr w w' (fun j => j = g)))
  case atStart => exact ⟨0, rfl, rfl, ⟨by omega⟩, HI5, HF5⟩
  case round =>
    clear HI5 HF5
    obtain ⟨i, rfl, rfl, HG, HI, HF⟩ := hrel
    obtain ⟨wo, rfl⟩ : ∃ wo : World, wo = wr := ⟨_, rfl⟩
    by_cases hi : i < c
    · have hi1 : (i : Int) < (c : Int) := by omega
      have hi2 : (i : Int) ≤ 16 := by omega
      obtain ⟨mm, hm⟩ : ∃ mm, mm = n + i := ⟨_, rfl⟩
      have hm1 : mm < 8 * bs.length := by have := HN.out.1; omega
      have hm2 : mm ≤ 1125899906842624 := by have := HN.out.2; omega
      have HV := Aside0.mk (val_step bs n i mm hm (by omega))
      have hm3 : (mm : Int) ≤ 1125899906842624 := by omega
      have HII := HI.out
      rw [← hm] at HII
      obtain ⟨A, cc, x0, x1, x2, f1, f2, hC⟩ := HII.cells
      obtain ⟨q, hq⟩ : ∃ q : Nat, q = mm / 8 := ⟨_, rfl⟩
      obtain ⟨r, hr8⟩ : ∃ r : Nat, r = mm % 8 := ⟨_, rfl⟩
      have q1 : (q : Int) < (bs.length : Int) := by omega
      have q0 : (0 : Int) ≤ (q : Int) := by omega
      obtain ⟨ad, ea, hx⟩ := Kd.at_int hC (q : Int) q0 q1
      rw [Int.toNat_natCast] at hx
      subst ea
      have z2 : IntKind.i64.wrap ((mm : Int).tdiv 8) = (q : Int) := by rw [hq, Int.tdiv_eq_ediv_of_nonneg (by omega), IntKind.wrap_i64]; omega
      have z3 : (mm : Int).tmod 8 = (r : Int) := by rw [hr8, Int.tmod_eq_emod_of_nonneg (by omega)]; omega
      have z5 : IntKind.i64.wrap ((mm : Int) / 8) = (q : Int) := by rw [hq, IntKind.wrap_i64]; omega
      have z6 : (mm : Int) % 8 = (r : Int) := by rw [hr8]; omega
      have z4 : 0 ≤ (r : Int) := by omega
      have z7 : 0 ≤ (i : Int) := by omega
      have z9 : (r : Int) ≤ 7 := by omega
      have z8 : IntKind.u64.wrap (r : Int) = (r : Int) := by rw [IntKind.wrap_u64]; omega
      have z10 : IntKind.u64.wrap (i : Int) = (i : Int) := by rw [IntKind.wrap_u64]; omega
      have HQ := Aside0.mk (And.intro hq hr8)
      generalize hold : rd bs (q : Int) = old at hx
      have HOLD := Aside0.mk hold
      have HII' := Aside0.mk HII
      have HM := Aside0.mk hm
      have HH1 := Aside0.mk (And.intro hm1 hm2)
      clear hold hq hr8 HII hm hC hm1 hm2
      go_wp2_with fail
      go_quiet (fail)
      clear z2 z3 z4 z5 z6 z8 z10
      go_wp2_with fail
      have hval := HV.out
      rw [← HQ.out.1, ← HQ.out.2, HOLD.out] at hval
      obtain ⟨g', rfl⟩ : ∃ g', gk = g' + 1 := ⟨gk - 1, by have := HG.out; omega⟩
      go_roundg g'
      case measure => omega
      case rel =>
        refine ⟨i + 1, by go_num, by rw [← hval], ⟨by have := HG.out; omega⟩, ⟨?_⟩, ⟨(HF.out.drewN nq).setg 1 _⟩⟩
        have h9 := (HII'.out.drewN nq).count (mm + 1)
        rw [show n + (i + 1) = mm + 1 by have := HM.out; omega]
        exact h9
    · obtain rfl : i = c := by have := HG.out; omega
      clear HG
      go_wp2_with fail
      go_ret
      exact ⟨rfl, HI.out, HF.out⟩
end Go.Proofs.Ytihgekpijplfiaa.Xf
