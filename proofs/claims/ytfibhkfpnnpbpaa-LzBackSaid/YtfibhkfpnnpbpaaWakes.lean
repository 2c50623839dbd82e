/- florilegiumlaw04.wakes returns true and leaves what was in memory. No condition. -/
import Derived.Test.YtfibhkfpnnpbpaaPLzFormsx0
import Derived.Test.YtfibhkfpnnpbpaaPLzFormsx2
import Derived.Test.YtfibhkfpnnpbpaaPLzFormsx3
import Derived.Test.YtfibhkfpnnpbpaaKit
namespace Go.Proofs.Ytfibhkfpnnpbpaa.PLzForms
open Go.RowKit Go.Proofs.YtfibhkfpnnpbpaaW.PrintWords Go.Proofs.YtfibhkfpnnpbpaaW.PrintLast Go.Proofs.YtfibhkfpnnpbpaaW.PrintMore
open Go.Proofs.Ytfibhkfpnnpbpaa.Kit
theorem sp4 : lz_Split.f 20 [97, 97, 97, 97] = some [⟨97, 0, 0⟩, ⟨0, 3, 1⟩] := by kernel_rfl
theorem same4 : lz_Step.f 20 [⟨97, 0, 0⟩, ⟨0, 3, 1⟩] [⟨97, 0, 0⟩, ⟨0, 3, 1⟩] = some true := by kernel_rfl

theorem wakes_calls (w : World) : Calls Try.prog 13 #[] w fun e w' => e = .returned (.bool true) ∧ Below w.heap.size w w' := by
  have kc := fun (w : World) (C : Array Value) (n c : Nat) => Lib.run_convert_bytes_const (P := Try.prog) w 23 5 C n c Try.underlying23 Try.underlying5
  go_enter Try.func13, Try.ntmps13
  go_wp2_with fail
  have hc := C_row (Kd.int .u8) (fun x => [.int .u8 x]) (fun _ _ => rfl) w 5 (4, 5) [97, 97, 97, 97] (by decide)
  refine (lz_Split.calls 20 _ _ [97, 97, 97, 97] _ _ hc (by decide) sp4).mono ?_
  rintro e w1 ⟨v, rfl, hR, hB⟩
  obtain ⟨A1, c1, rfl⟩ := Kd.R_slice hR
  go_wp2_with fail
  have hc1 := C_row k27 (fun x => [.int .u8 x.f0, .int .i64 x.f1, .int .i64 x.f2]) (fun _ _ => k27_mk _ _) w1 27 (0, 0) [⟨97, 0, 0⟩, ⟨0, 3, 1⟩] (by decide)
  have hr := Kd.R_reads' hR
  refine (lz_Step.calls 20 _ _ _ _ _ [⟨97, 0, 0⟩, ⟨0, 3, 1⟩] true _ (Kd.C_alloc hr.2.2 _) hr.2.1 hc1 (by decide) same4).mono ?_
  rintro e w2 ⟨rfl, n, rfl⟩
  go_wp2_with fail
  go_ret
  refine ⟨rfl, ?_⟩
  have h1 := below_alloc (Below.refl w.heap.size w) (.cells (List.map (Value.int .u8) [97, 97, 97, 97]).toArray 5 (4, 5))
  exact pw_below_drewN (below_alloc (below_step h1 hB) _) _
end Go.Proofs.Ytfibhkfpnnpbpaa.PLzForms
