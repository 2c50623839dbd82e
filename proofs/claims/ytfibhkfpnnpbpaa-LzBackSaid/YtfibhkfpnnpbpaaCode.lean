/- The contracts of Within and of lz's four code functions, by the plain functions of Codes. No condition beyond ranges. -/
import Derived.Test.YtfibhkfpnnpbpaaCodes2
import Derived.Test.YtfibhkfpnnpbpaaPLzFormsx2
import Derived.Test.YtfibhkfpnnpbpaaKit
namespace Go.Proofs.Ytfibhkfpnnpbpaa.Codes
open Go.RowKit Go.Proofs.YtfibhkfpnnpbpaaW.PrintWords Go.Proofs.YtfibhkfpnnpbpaaW.PrintLast Go.Proofs.YtfibhkfpnnpbpaaW.PrintMore
open Go.Proofs.Ytfibhkfpnnpbpaa.Kit
theorem within_eq (v n : Int) (h1 : 1 ≤ n) (h2 : n ≤ 1000000000) : PLzForms.florilegiumkeep_Within.f v n = some (v % n) := by
  unfold PLzForms.florilegiumkeep_Within.f
  rw [if_neg (by omega), if_neg (by omega)]
  have h := Int.tmod_eq_emod (a := v) (b := n)
  have m0 := Int.emod_nonneg v (show n ≠ 0 by omega)
  have m1 := Int.emod_lt_of_pos v (show 0 < n by omega)
  have hn : (n.natAbs : Int) = n := by omega
  by_cases hc : 0 ≤ v ∨ n ∣ v
  · rw [if_pos hc] at h
    rw [if_neg (by omega), h]
    simp
  · rw [if_neg hc, hn] at h
    rw [if_pos (by omega), h, w64 _ (by omega) (by omega)]
    congr 1
    omega
theorem within_calls (v n : Int) (h1 : 1 ≤ n) (h2 : n ≤ 1000000000) (w : World) : Calls Try.prog 8 #[.int .i64 v, .int .i64 n] w fun e w' => ∃ r : Int, 0 ≤ r ∧ r < n ∧ Aside0 (r = v % n) ∧ e = .returned (.int .i64 r) ∧ Drawn0 w w' := by
  refine (PLzForms.florilegiumkeep_Within.calls v n _ w (within_eq v n h1 h2)).mono ?_
  rintro e w' ⟨rfl, h⟩
  exact ⟨_, Int.emod_nonneg v (by omega), Int.emod_lt_of_pos v (by omega), ⟨rfl⟩, rfl, h⟩
theorem lenCode_calls (n c x e : Int) (h0 : 3 ≤ n) (h1 : n ≤ 258) (h : lenC n = (c, x, e)) (w : World) : Calls Try.prog 15 #[.int .i64 n] w fun r w' => r = .returned (.tuple #[.int .i64 c, .int .i64 x, .int .i64 e]) ∧ Below w.heap.size w w' := by
  obtain ⟨k, hk⟩ := (LengthCode_ev n h0 h1).rounds
  exact PLengthCode.lz_LengthCode.calls k n c x e w (by rw [hk]; exact congrArg some h)
theorem distCode_calls (n c x e : Int) (h0 : 1 ≤ n) (h1 : n ≤ 32768) (h : distC n = (c, x, e)) (w : World) : Calls Try.prog 17 #[.int .i64 n] w fun r w' => r = .returned (.tuple #[.int .i64 c, .int .i64 x, .int .i64 e]) ∧ Below w.heap.size w w' := by
  obtain ⟨k, hk⟩ := (DistanceCode_ev n h0 h1).rounds
  exact PDistanceCode.lz_DistanceCode.calls k n c x e w (by rw [hk]; exact congrArg some h)
theorem lenOf_calls (c b e : Int) (ok : Bool) (h : baseS LT c = (b, e, ok)) (w : World) : Calls Try.prog 16 #[.int .i64 c] w fun r w' => r = .returned (.tuple #[.int .i64 b, .int .i64 e, .bool ok]) ∧ Below w.heap.size w w' := by
  obtain ⟨k, hk⟩ := (LengthOf_ev c).rounds
  exact PLengthOf.lz_LengthOf.calls k c b e ok w (by rw [hk]; exact congrArg some h)
theorem distOf_calls (c b e : Int) (ok : Bool) (h : baseS DT c = (b, e, ok)) (w : World) : Calls Try.prog 18 #[.int .i64 c] w fun r w' => r = .returned (.tuple #[.int .i64 b, .int .i64 e, .bool ok]) ∧ Below w.heap.size w w' := by
  obtain ⟨k, hk⟩ := (DistanceOf_ev c).rounds
  exact PDistanceOf.lz_DistanceOf.calls k c b e ok w (by rw [hk]; exact congrArg some h)

end Go.Proofs.Ytfibhkfpnnpbpaa.Codes
