/- bits.Reader: what each method gives, and that it touches its own block alone. Conditions: the receiver is a reader whose blocks lie between lo and itself. -/
import Derived.Test.YtihgekpijplfiaaFr
import Derived.Test.YtihgekpijplfiaaRd
namespace Go.Proofs.Ytihgekpijplfiaa.Rf
set_option linter.unusedVariables false
open Go.RowKit Go.Proofs.YtihgekpijplfiaaW.PrintWords Go.Proofs.YtihgekpijplfiaaW.PrintLast Go.Proofs.YtihgekpijplfiaaW.PrintMore Go.Proofs.Ytihgekpijplfiaa.Pack Go.Proofs.Ytihgekpijplfiaa.Wr Go.Proofs.Ytihgekpijplfiaa.Rd Go.Proofs.Ytihgekpijplfiaa.Fr
/-- A reader: its blocks are those from lo to g. -/
def IsR (lo : Nat) (W : World) (g : Nat) (bs : List Int) (n : Nat) (bad : Bool) : Prop :=
  ∃ A c, W.heap[g]? = some (.cells #[.slice A bs.length c, .int .i64 (n : Int), .bool bad] 97 (0, 0)) ∧ lo ≤ g ∧ (∀ k, (Value.slice A bs.length c).ownBlock = some k → k < g) ∧ Kd.R (Kd.int .u8) 5 W lo (fun _ => True) (.slice A bs.length c) bs
theorem IsR.ge {lo g n : Nat} {W : World} {bs : List Int} {bad : Bool} (h : IsR lo W g bs n bad) : lo ≤ g ∧ g < W.heap.size := by
  obtain ⟨A, c, h1, h2, h3, h4⟩ := h
  exact ⟨h2, blk_lt h1⟩
theorem IsR.move {lo g n : Nat} {W W1 : World} {bs : List Int} {bad : Bool} (h : IsR lo W g bs n bad) (hm : ∀ k, lo ≤ k → k ≤ g → W1.heap[k]? = W.heap[k]?) : IsR lo W1 g bs n bad := by
  obtain ⟨A, c, h1, h2, h3, h4⟩ := h
  refine ⟨A, c, (hm g h2 (Nat.le_refl _)).trans h1, h2, h3, ?_⟩
  exact Kd.R_mono (Kd.R_move (Kd.R_tight rfl h4) (fun k hk => hm k (Kd.R_base h4 k hk.symm) (Nat.le_of_lt (h3 k hk.symm)))) (fun _ _ => trivial)
theorem IsR.fr {lo g n : Nat} {W W1 : World} {S : Nat → Prop} {bs : List Int} {bad : Bool} (h : IsR lo W g bs n bad) (k : Fr W W1 S) (hs : ∀ i, S i → i < lo ∨ g < i) : IsR lo W1 g bs n bad :=
  h.move (fun i h1 h2 => k.blk i (Nat.lt_of_le_of_lt h2 h.ge.2) (fun e => by have := hs i e; omega))
theorem IsR.below {lo g n : Nat} {W W1 : World} {bs : List Int} {bad : Bool} (h : IsR lo W g bs n bad) (k : Below W.heap.size W W1) : IsR lo W1 g bs n bad := h.fr (Fr.of_below k No) (fun _ e => e.elim)
theorem IsR.drewN {lo g n : Nat} {W : World} {bs : List Int} {bad : Bool} (h : IsR lo W g bs n bad) (m : Nat) : IsR lo (W.drewN m) g bs n bad := h
theorem IsR.drew {lo g n : Nat} {W : World} {bs : List Int} {bad : Bool} (h : IsR lo W g bs n bad) : IsR lo W.drew g bs n bad := h
/-- The count, and the mark, stored. -/
theorem IsR.count {lo g n : Nat} {W : World} {bs : List Int} {bad : Bool} (h : IsR lo W g bs n bad) (m : Nat) : IsR lo (W.setCell ⟨g, 1, none⟩ (.int .i64 (m : Int))) g bs m bad := by
  obtain ⟨A, c, h1, h2, h3, h4⟩ := h
  refine ⟨A, c, (blk_set h1 1 _).trans rfl, h2, h3, ?_⟩
  exact Kd.R_set h4 h1 (by decide) 1 _
theorem IsR.mark {lo g n : Nat} {W : World} {bs : List Int} {bad : Bool} (h : IsR lo W g bs n bad) (b : Bool) : IsR lo (W.setCell ⟨g, 2, none⟩ (.bool b)) g bs n b := by
  obtain ⟨A, c, h1, h2, h3, h4⟩ := h
  refine ⟨A, c, (blk_set h1 2 _).trans rfl, h2, h3, ?_⟩
  exact Kd.R_set h4 h1 (by decide) 2 _
theorem IsR.cells {lo g n : Nat} {W : World} {bs : List Int} {bad : Bool} (h : IsR lo W g bs n bad) : ∃ A c, W.cell? ⟨g, 0, none⟩ = some (.slice A bs.length c) ∧ W.cell? ⟨g, 1, none⟩ = some (.int .i64 (n : Int)) ∧ W.cell? ⟨g, 2, none⟩ = some (.bool bad) ∧ W.frozen? ⟨g, 1, none⟩ = false ∧ W.frozen? ⟨g, 2, none⟩ = false ∧ Kd.C (Kd.int .u8) W A bs.length bs := by
  obtain ⟨A, c, h1, h2, h3, h4⟩ := h
  exact ⟨A, c, (blk_cell h1 0).trans rfl, (blk_cell h1 1).trans rfl, (blk_cell h1 2).trans rfl, blk_frozen h1 1, blk_frozen h1 2, (Kd.R_reads' h4).2.2⟩
set_option maxHeartbeats 1000000 in
theorem Left_fr (lo g : Nat) (bs : List Int) (n : Nat) (bad : Bool) (hn : n ≤ 8 * bs.length) (hl : bs.length ≤ 140737488355328) (w : World) (hI : IsR lo w g bs n bad) :
    Calls Try.prog 25 #[.pointer (some ⟨g, 0, none⟩)] w fun e w' => e = .returned (.int .i64 (8 * (bs.length : Int) - (n : Int))) ∧ ∃ m, w' = w.drewN m := by
  obtain ⟨A, c, x0, x1, x2, f1, f2, hC⟩ := hI.cells
  have z1 : IntKind.i64.wrap (8 * (bs.length : Int)) = 8 * (bs.length : Int) := IntWalk.i64_in _ (by omega)
  have z2 : IntKind.i64.wrap (8 * (bs.length : Int) - (n : Int)) = 8 * (bs.length : Int) - (n : Int) := IntWalk.i64_in _ (by omega)
  clear hn hl hC
  go_enter Try.func25, Try.ntmps25
  go_wp2_with fail
  go_quiet (fail)
  go_wp2_with fail
  go_ret
  exact ⟨rfl, _, rfl⟩
theorem Bad_fr (lo g : Nat) (bs : List Int) (n : Nat) (bad : Bool) (w : World) (hI : IsR lo w g bs n bad) :
    Calls Try.prog 26 #[.pointer (some ⟨g, 0, none⟩)] w fun e w' => e = .returned (.bool bad) ∧ w' = w := by
  obtain ⟨A, c, x0, x1, x2, f1, f2, hC⟩ := hI.cells
  clear hC
  go_enter Try.func26, Try.ntmps26
  go_wp2_with fail
  go_ret
  exact ⟨rfl, rfl⟩
theorem Align_fr (lo g : Nat) (bs : List Int) (n : Nat) (hn : n ≤ 8 * bs.length) (hl : bs.length ≤ 140737488355328) (w : World) (hI : IsR lo w g bs n false) :
    Calls Try.prog 30 #[.pointer (some ⟨g, 0, none⟩)] w fun e w' => e = .returned (.tuple #[]) ∧ IsR lo w' g bs ((n + 7) / 8 * 8) false ∧ Fr w w' (fun i => i = g) := by
  obtain ⟨A, c, x0, x1, x2, f1, f2, hC⟩ := hI.cells
  have HI := Aside0.mk hI
  have hnn : (n : Int) ≤ 1125899906842624 := by omega
  clear hC hn hl hI
  go_enter Try.func30, Try.ntmps30
  go_wp2_with fail
  go_end0
  have e : ((n : Int) + 8 - 1) / 8 * 8 = (((n + 7) / 8 * 8 : Nat) : Int) := by omega
  rw [e]
  exact ⟨rfl, HI.out.count _, (Fr.refl _ _).setg _ _⟩
theorem Align_bad (lo g : Nat) (bs : List Int) (n : Nat) (w : World) (hI : IsR lo w g bs n true) :
    Calls Try.prog 30 #[.pointer (some ⟨g, 0, none⟩)] w fun e w' => e = .returned (.tuple #[]) ∧ w' = w := by
  obtain ⟨A, c, x0, x1, x2, f1, f2, hC⟩ := hI.cells
  clear hC
  go_enter Try.func30, Try.ntmps30
  go_wp2_with fail
  go_end0
  exact ⟨rfl, rfl⟩
set_option maxHeartbeats 4000000 in
theorem Get_bad_fr (lo g : Nat) (bs : List Int) (n : Nat) (bad : Bool) (c : Int) (h : bad = true ∨ c < 0 ∨ 16 < c ∨ 8 * (bs.length : Int) - n < c) (hn : n ≤ 8 * bs.length) (hl : bs.length ≤ 140737488355328) (w : World) (hI : IsR lo w g bs n bad) :
    Calls Try.prog 28 #[.pointer (some ⟨g, 0, none⟩), .int .i64 c] w fun e w' => e = .returned (.int .i64 0) ∧ IsR lo w' g bs n true ∧ Fr w w' (fun i => i = g) := by
  obtain ⟨A, cc, x0, x1, x2, f1, f2, hC⟩ := hI.cells
  have HI := Aside0.mk hI
  have HL := Aside0.mk (Left_fr lo g bs n bad hn hl w hI)
  clear hC hl hn hI
  have hb : bad = true ∨ bad = false := by cases bad <;> simp
  rcases hb with rfl | rfl
  · clear h
    go_enter Try.func28, Try.ntmps28
    go_wp2_with fail
    go_ret
    exact ⟨rfl, HI.out.mark true, (Fr.refl _ _).setg _ _⟩
  · by_cases h1 : c < 0
    · clear h
      go_enter Try.func28, Try.ntmps28
      go_wp2_with fail
      go_ret
      exact ⟨rfl, HI.out.mark true, (Fr.refl _ _).setg _ _⟩
    · by_cases h2 : 16 < c
      · clear h
        go_enter Try.func28, Try.ntmps28
        go_wp2_with fail
        go_ret
        exact ⟨rfl, HI.out.mark true, (Fr.refl _ _).setg _ _⟩
      · have h3 : 8 * (bs.length : Int) - n < c := by rcases h with h | h | h | h; cases h; exact absurd h h1; exact absurd h h2; exact h
        clear h
        go_enter Try.func28, Try.ntmps28
        go_wp2_with fail
        refine HL.out.mono ?_
        rintro e w5 ⟨rfl, m, rfl⟩
        go_wp2_with fail
        go_ret
        exact ⟨rfl, (HI.out.drewN m).mark true, ((Fr.refl _ _).drewN m).setg _ _⟩
end Go.Proofs.Ytihgekpijplfiaa.Rf
