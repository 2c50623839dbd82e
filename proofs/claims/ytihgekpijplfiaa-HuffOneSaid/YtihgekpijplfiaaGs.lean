/- Get, in all its ways, as one function of the state; alike for bits.Reader and for the document's Bits. Conditions: as in Rf and Xf. -/
import Derived.Test.YtihgekpijplfiaaXf
namespace Go.Proofs.Ytihgekpijplfiaa.Gs
set_option linter.unusedVariables false
open Go.RowKit Go.Proofs.YtihgekpijplfiaaW.PrintWords Go.Proofs.Ytihgekpijplfiaa.Rd Go.Proofs.Ytihgekpijplfiaa.Fr Go.Proofs.Ytihgekpijplfiaa.Rf Go.Proofs.Ytihgekpijplfiaa.Xf
/-- What is got, and the state behind it. -/
def getS (bs : List Int) (n : Nat) (bad : Bool) (c : Int) : Int × Nat × Bool :=
  if bad = true ∨ c < 0 ∨ 16 < c ∨ 8 * (bs.length : Int) - n < c then (0, n, true) else (valAt bs n c.toNat, n + c.toNat, false)
theorem getS_bad {bs : List Int} {n : Nat} {bad : Bool} {c : Int} (h : bad = true ∨ c < 0 ∨ 16 < c ∨ 8 * (bs.length : Int) - n < c) : getS bs n bad c = (0, n, true) := if_pos h
theorem getS_ok {bs : List Int} {n : Nat} {bad : Bool} {c : Int} (h : ¬ (bad = true ∨ c < 0 ∨ 16 < c ∨ 8 * (bs.length : Int) - n < c)) : getS bs n bad c = (valAt bs n c.toNat, n + c.toNat, false) := if_neg h
theorem getS_le (bs : List Int) (n : Nat) (bad : Bool) (c : Int) (hn : n ≤ 8 * bs.length) : (getS bs n bad c).2.1 ≤ 8 * bs.length := by
  by_cases h : bad = true ∨ c < 0 ∨ 16 < c ∨ 8 * (bs.length : Int) - n < c
  · rw [getS_bad h]; exact hn
  · rw [getS_ok h]
    show n + c.toNat ≤ _
    omega
theorem Get_R (lo g : Nat) (bs : List Int) (n : Nat) (bad : Bool) (c : Int) (hn : n ≤ 8 * bs.length) (hl : bs.length ≤ 140737488355328) (w : World) (hI : IsR lo w g bs n bad) :
    Calls Try.prog 28 #[.pointer (some ⟨g, 0, none⟩), .int .i64 c] w fun e w' => e = .returned (.int .i64 (getS bs n bad c).1) ∧ IsR lo w' g bs (getS bs n bad c).2.1 (getS bs n bad c).2.2 ∧ Fr w w' (fun i => i = g) := by
  by_cases h : bad = true ∨ c < 0 ∨ 16 < c ∨ 8 * (bs.length : Int) - n < c
  · rw [getS_bad h]
    exact Rf.Get_bad_fr lo g bs n bad c h hn hl w hI
  · rw [getS_ok h]
    have hb : bad = false := by cases bad <;> simp_all
    subst hb
    have h0 : 0 ≤ c := by omega
    obtain ⟨k, rfl⟩ := Int.eq_ofNat_of_zero_le h0
    exact Rf.Get_fr lo g bs n k (by omega) (by omega) hl w hI
theorem Get_X (lo g : Nat) (bs : List Int) (n : Nat) (bad : Bool) (c : Int) (hn : n ≤ 8 * bs.length) (hl : bs.length ≤ 140737488355328) (w : World) (hI : IsX lo w g bs n bad) :
    Calls Try.prog 33 #[.pointer (some ⟨g, 0, none⟩), .int .i64 c] w fun e w' => e = .returned (.int .i64 (getS bs n bad c).1) ∧ IsX lo w' g bs (getS bs n bad c).2.1 (getS bs n bad c).2.2 ∧ Fr w w' (fun i => i = g) := by
  by_cases h : bad = true ∨ c < 0 ∨ 16 < c ∨ 8 * (bs.length : Int) - n < c
  · rw [getS_bad h]
    exact Xf.Get_bad_fr lo g bs n bad c h hn hl w hI
  · rw [getS_ok h]
    have hb : bad = false := by cases bad <;> simp_all
    subst hb
    have h0 : 0 ≤ c := by omega
    obtain ⟨k, rfl⟩ := Int.eq_ofNat_of_zero_le h0
    exact Xf.Get_fr lo g bs n k (by omega) (by omega) hl w hI
theorem Bit_R (lo g : Nat) (bs : List Int) (n : Nat) (bad : Bool) (hn : n ≤ 8 * bs.length) (hl : bs.length ≤ 140737488355328) (w : World) (hI : IsR lo w g bs n bad) :
    Calls Try.prog 27 #[.pointer (some ⟨g, 0, none⟩)] w fun e w' => e = .returned (.int .i64 (getS bs n bad 1).1) ∧ IsR lo w' g bs (getS bs n bad 1).2.1 (getS bs n bad 1).2.2 ∧ Fr w w' (fun i => i = g) := by
  have HG := Aside0.mk (Get_R lo g bs n bad 1 hn hl w hI)
  clear hI hn hl
  generalize getS bs n bad 1 = s at *
  go_enter Try.func27, Try.ntmps27
  go_wp2_with fail
  refine HG.out.mono ?_
  rintro e w5 ⟨rfl, h1, h2⟩
  go_wp2_with fail
  go_ret
  exact ⟨rfl, h1, h2⟩
end Go.Proofs.Ytihgekpijplfiaa.Gs
