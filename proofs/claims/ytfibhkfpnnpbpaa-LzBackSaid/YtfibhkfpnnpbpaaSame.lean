/- What Split makes of one byte many times; Same of two rows that are alike is true. No condition beyond lengths. -/
import Derived.Test.YtfibhkfpnnpbpaaSplitJoin
import Derived.Test.YtfibhkfpnnpbpaaCode
import Derived.Test.YtfibhkfpnnpbpaaWakes
namespace Go.Proofs.Ytfibhkfpnnpbpaa.PLzForms
open Go.RowKit Go.Proofs.YtfibhkfpnnpbpaaW.PrintWords Go.Proofs.YtfibhkfpnnpbpaaW.PrintLast Go.Proofs.YtfibhkfpnnpbpaaW.PrintMore
open Go.Proofs.Ytfibhkfpnnpbpaa.Kit Go.Proofs.Ytfibhkfpnnpbpaa.Codes

attribute [local go_sem] max2_int min2_int max_two min_two max_three min_three max_four min_four
set_option linter.unusedVariables false
def wantS (c : Int) : Nat → Nat → List S27
  | 0, _ => []
  | f + 1, left => if left = 0 then [] else if min left 258 < 3 then ⟨c, 0, 0⟩ :: wantS c f (left - 1) else ⟨0, (min left 258 : Nat), 1⟩ :: wantS c f (left - min left 258)
theorem wantS_fuel (c : Int) : ∀ (f g left : Nat), left ≤ f → left ≤ g → wantS c f left = wantS c g left
  | 0, g, left, hf, hg => by
    obtain rfl : left = 0 := by omega
    cases g <;> simp [wantS]
  | f + 1, 0, left, hf, hg => by
    obtain rfl : left = 0 := by omega
    simp [wantS]
  | f + 1, g + 1, left, hf, hg => by
    simp only [wantS]
    split
    · rfl
    · split
      · rw [wantS_fuel c f g (left - 1) (by omega) (by omega)]
      · rw [wantS_fuel c f g (left - min left 258) (by omega) (by omega)]
def want (c : Int) (left : Nat) : List S27 := wantS c left left
theorem want_zero (c : Int) : want c 0 = [] := rfl
theorem want_small (c : Int) (left : Nat) (h0 : left ≠ 0) (h : min left 258 < 3) : want c left = ⟨c, 0, 0⟩ :: want c (left - 1) := by
  obtain ⟨f, rfl⟩ : ∃ f, left = f + 1 := ⟨left - 1, by omega⟩
  unfold want
  simp only [wantS]
  rw [if_neg h0, if_pos h, wantS_fuel c f (f + 1 - 1) _ (by omega) (by omega)]
theorem want_big (c : Int) (left : Nat) (h : ¬ min left 258 < 3) : want c left = ⟨0, (min left 258 : Nat), 1⟩ :: want c (left - min left 258) := by
  obtain ⟨f, rfl⟩ : ∃ f, left = f + 1 := ⟨left - 1, by omega⟩
  unfold want
  simp only [wantS]
  rw [if_neg (by omega), if_neg h, wantS_fuel c f (f + 1 - min (f + 1) 258) _ (by omega) (by omega)]
theorem split_const0 (c : Int) (n : Nat) : ∀ (f at_ : Nat), 0 < at_ → at_ ≤ n → n - at_ ≤ f → splitS (List.replicate n c) f at_ = want c (n - at_)
  | 0, at_, h0, h1, h2 => by
    rw [show n - at_ = 0 from by omega]
    simp [splitS, want_zero]
  | f + 1, at_, h0, h1, h2 => by
    simp only [splitS, List.length_replicate]
    by_cases h : at_ < n
    · rw [if_pos h, longS_const c n at_ h0 h]
      by_cases h3 : 3 ≤ min 258 (n - at_)
      · rw [if_pos h3, want_big c _ (by omega), show min (n - at_) 258 = min 258 (n - at_) from by omega]
        congr 1
        rw [show (at_ + (max 1 ((min 258 (n - at_) : Nat) : Int)).toNat) = at_ + min 258 (n - at_) from by omega, split_const0 c n f _ (by omega) (by omega) (by omega)]
        congr 1
        omega
      · rw [if_neg h3, want_small c _ (by omega) (by omega)]
        congr 1
        show splitS _ f (at_ + (max 1 (0 : Int)).toNat) = _
        rw [show (at_ + (max 1 (0 : Int)).toNat) = at_ + 1 from by omega, split_const0 c n f _ (by omega) (by omega) (by omega)]
        congr 1
    · rw [if_neg h, show n - at_ = 0 from by omega, want_zero]
theorem split_const (c : Int) (n : Nat) : splitS (List.replicate (n + 1) c) (List.replicate (n + 1) c).length 0 = ⟨c, 0, 0⟩ :: want c n := by
  rw [List.length_replicate]
  simp only [splitS, List.length_replicate]
  rw [if_pos (by omega), longS_zero]
  have hr : rd (List.replicate (n + 1) c) 0 = c := by simp [rd]
  rw [hr]
  congr 1
  show splitS _ n (0 + (max 1 (0 : Int)).toNat) = _
  rw [show (0 + (max 1 (0 : Int)).toNat) = 1 from by omega, split_const0 c (n + 1) n 1 (by omega) (by omega) (by omega)]
  congr 1
theorem fill_set (c : Int) (i k : Nat) : (List.replicate i c ++ List.replicate (k + 1) 0).set i c = List.replicate (i + 1) c ++ List.replicate k 0 := by
  rw [List.set_append_right _ _ (by simp), List.length_replicate, Nat.sub_self, List.replicate_succ, List.set_cons_zero, List.replicate_succ']
  simp
theorem same_ev0 (xs : List S27) (hl : xs.length ≤ 9223372036854775807) : ∀ d i : Nat, i + d = xs.length → Ev (fun k => lz_Step.l0 k xs xs (i : Int)) true
  | 0, i, h => by
    refine Ev.step (f := fun _ => some true) (fun k => ?_) (Ev.now _)
    simp only [lz_Step.l0]
    rw [if_neg (by omega)]
  | d + 1, i, h => by
    refine Ev.step (fun k => ?_) (same_ev0 xs hl d (i + 1) (by omega))
    have hw : wrap64 ((i : Int) + 1) = ((i + 1 : Nat) : Int) := by unfold wrap64; omega
    simp only [lz_Step.l0]
    rw [if_pos (by omega), if_pos (by omega), if_pos (by omega), if_neg (by simp), hw]
theorem same_ev (xs : List S27) (hl : xs.length ≤ 9223372036854775807) : Ev (fun k => lz_Step.f k xs xs) true := by
  refine Ev.congr (fun k => ?_) (same_ev0 xs hl xs.length 0 (by omega))
  simp only [lz_Step.f]
  rw [if_pos trivial]
  rfl
theorem Same_calls (A B : Option Addr) (ca cb : Nat) (xs : List S27) (w : World) (ha : Kd.C k27 w A xs.length xs) (hca : xs.length ≤ ca) (hb : Kd.C k27 w B xs.length xs) (hcb : xs.length ≤ cb) :
    Calls Try.prog 10 #[.slice A xs.length ca, .slice B xs.length cb] w fun e w' => e = .returned (.bool true) ∧ Drawn0 w w' := by
  obtain ⟨k, hk⟩ := (same_ev xs ha.2.1).rounds
  exact lz_Step.calls k A ca xs B cb xs true w ha hca hb hcb hk
theorem sameb_ev0 (xs : List Int) (hl : xs.length ≤ 9223372036854775807) : ∀ d i : Nat, i + d = xs.length → Ev (fun k => florilegiumkeep_Same_byte.l0 k xs xs (i : Int)) true
  | 0, i, h => by
    refine Ev.step (f := fun _ => some true) (fun k => ?_) (Ev.now _)
    simp only [florilegiumkeep_Same_byte.l0]
    rw [if_neg (by omega)]
  | d + 1, i, h => by
    refine Ev.step (fun k => ?_) (sameb_ev0 xs hl d (i + 1) (by omega))
    have hw : wrap64 ((i : Int) + 1) = ((i + 1 : Nat) : Int) := by unfold wrap64; omega
    simp only [florilegiumkeep_Same_byte.l0]
    rw [if_pos (by omega), if_pos (by omega), if_pos (by omega), if_pos trivial, hw]
theorem sameb_ev (xs : List Int) (hl : xs.length ≤ 9223372036854775807) : Ev (fun k => florilegiumkeep_Same_byte.f k xs xs) true := by
  refine Ev.congr (fun k => ?_) (sameb_ev0 xs hl xs.length 0 (by omega))
  simp only [florilegiumkeep_Same_byte.f]
  rw [if_pos trivial]
  rfl
theorem SameB_calls (A B : Option Addr) (ca cb : Nat) (xs : List Int) (w : World) (ha : Kd.C (Kd.int .u8) w A xs.length xs) (hca : xs.length ≤ ca) (hb : Kd.C (Kd.int .u8) w B xs.length xs) (hcb : xs.length ≤ cb) :
    Calls Try.prog 12 #[.slice A xs.length ca, .slice B xs.length cb] w fun e w' => e = .returned (.bool true) ∧ Drawn0 w w' := by
  obtain ⟨k, hk⟩ := (sameb_ev xs ha.2.1).rounds
  exact florilegiumkeep_Same_byte.calls k A ca xs B cb xs true w ha hca hb hcb hk
end Go.Proofs.Ytfibhkfpnnpbpaa.PLzForms
