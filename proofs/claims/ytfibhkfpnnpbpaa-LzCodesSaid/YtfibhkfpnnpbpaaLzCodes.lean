/- florilegiumlaw04.LzCodes returns true, whatever two ints it is given, and leaves what was in memory. No condition. -/
import Derived.Test.YtfibhkfpnnpbpaaCode
import Derived.Test.YtfibhkfpnnpbpaaWakes
namespace Go.Proofs.Ytfibhkfpnnpbpaa.Codes
open Go.RowKit Go.Proofs.YtfibhkfpnnpbpaaW.PrintWords Go.Proofs.YtfibhkfpnnpbpaaW.PrintLast Go.Proofs.YtfibhkfpnnpbpaaW.PrintMore
open Go.Proofs.Ytfibhkfpnnpbpaa.Kit
theorem prevLen (n c x : Int) (e : Nat) (h0 : 0 ≤ n) (h1 : n < 256) (h : lenC (3 + n) = (c, x, (e : Int))) (hc : 257 ≤ c) : ∃ c2 x2 e2 : Int, c2 ≤ c ∧ ∀ w, Calls Try.prog 15 #[.int .i64 (3 + n - 1)] w fun r w' => r = .returned (.tuple #[.int .i64 c2, .int .i64 x2, .int .i64 e2]) ∧ Below w.heap.size w w' := by
  by_cases hn : n = 0
  · obtain ⟨k, hk⟩ := (LengthCode_no (3 + n - 1) (by omega)).rounds
    exact ⟨0, 0, 0, by omega, fun w => PLengthCode.lz_LengthCode.calls k _ _ _ _ w hk⟩
  · have hm := lenC_mono (3 + n) (by omega) (by omega)
    rw [h] at hm
    obtain ⟨k, hk⟩ := (LengthCode_ev (3 + n - 1) (by omega) (by omega)).rounds
    exact ⟨(lenC (3 + n - 1)).1, (lenC (3 + n - 1)).2.1, (lenC (3 + n - 1)).2.2, hm, fun w => PLengthCode.lz_LengthCode.calls k _ _ _ _ w hk⟩
theorem prevDist (n c x : Int) (e : Nat) (h0 : 0 ≤ n) (h1 : n < 32768) (h : distC (1 + n) = (c, x, (e : Int))) (hc : 0 ≤ c) : ∃ c2 x2 e2 : Int, c2 ≤ c ∧ ∀ w, Calls Try.prog 17 #[.int .i64 (1 + n - 1)] w fun r w' => r = .returned (.tuple #[.int .i64 c2, .int .i64 x2, .int .i64 e2]) ∧ Below w.heap.size w w' := by
  by_cases hn : n = 0
  · obtain ⟨k, hk⟩ := (DistanceCode_no (1 + n - 1) (by omega)).rounds
    exact ⟨0, 0, 0, by omega, fun w => PDistanceCode.lz_DistanceCode.calls k _ _ _ _ w hk⟩
  · have hm := distC_mono (1 + n) (by omega) (by omega)
    rw [h] at hm
    obtain ⟨k, hk⟩ := (DistanceCode_ev (1 + n - 1) (by omega) (by omega)).rounds
    exact ⟨(distC (1 + n - 1)).1, (distC (1 + n - 1)).2.1, (distC (1 + n - 1)).2.2, hm, fun w => PDistanceCode.lz_DistanceCode.calls k _ _ _ _ w hk⟩
set_option maxHeartbeats 8000000 in
set_option maxRecDepth 100000 in
theorem LzCodes_calls (a0 a1 : Int) (w : World) : Calls Try.prog 6 #[.int .i64 a0, .int .i64 a1] w fun e w' => e = .returned (.bool true) ∧ Below w.heap.size w w' := by
  go_enter Try.func6, Try.ntmps6
  go_wp2_with fail
  refine (within_calls a0 256 (by omega) (by omega) _).mono ?_
  rintro e w1 ⟨n, hn0, hn1, _, rfl, k1, rfl⟩
  go_wp2_with fail
  refine (within_calls a1 32768 (by omega) (by omega) _).mono ?_
  rintro e w1 ⟨d, hd0, hd1, _, rfl, k2, rfl⟩
  go_wp2_with fail
  obtain ⟨c, x, e, b, p, r1, r2, r3, r4, r5, r6, r7, r8, r9, r10, r11, r12⟩ := lenC_spec (3 + n) (by omega) (by omega)
  have R1 := Aside0.mk r1; have R2 := Aside0.mk r2; have R3 := Aside0.mk r3; have R6 := Aside0.mk r6
  clear r1 r2 r6
  refine (lenCode_calls _ c x e (by omega) (by omega) R1.out _).mono ?_
  clear r3
  rintro e w1 ⟨rfl, hB⟩
  have HB := Aside0.mk (below_then (pw_below_drewN (Below.refl w.heap.size w) _) (Nat.le_refl _) hB)
  clear hB
  go_wp2_with fail
  refine (lenOf_calls c b _ true R2.out _).mono ?_
  rintro e w2 ⟨rfl, hB⟩
  replace HB := Aside0.mk (below_step HB.out hB)
  clear hB
  have hn : ((b + x) != (3 + n)) = false := bne_f R3.out
  have hx : x < wrap64 (2 ^ e) := by rw [← R6.out, w64 _ (by omega) (by omega)]; omega
  go_wp2_with fail
  clear hn hx r4 r5 r7 r8 r10 r11 r12
  obtain ⟨c', x', e', b', p', s1, s2, s3, s4, s5, s6, s7, s8, s9, s10, s11, s12⟩ := distC_spec (1 + d) (by omega) (by omega)
  have S1 := Aside0.mk s1; have S2 := Aside0.mk s2; have S3 := Aside0.mk s3; have S6 := Aside0.mk s6
  clear s1 s2 s6
  refine (distCode_calls _ c' x' e' (by omega) (by omega) S1.out _).mono ?_
  clear s3
  rintro e w3 ⟨rfl, hB⟩
  replace HB := Aside0.mk (below_step HB.out hB)
  clear hB
  go_wp2_with fail
  refine (distOf_calls c' b' _ true S2.out _).mono ?_
  rintro e w4 ⟨rfl, hB⟩
  replace HB := Aside0.mk (below_step HB.out hB)
  clear hB
  have hn' : ((b' + x') != (1 + d)) = false := bne_f S3.out
  have hx' : x' < wrap64 (2 ^ e') := by rw [← S6.out, w64 _ (by omega) (by omega)]; omega
  clear hx'
  have hx' : x' < wrap64 (2 ^ e') := by rw [← S6.out, w64 _ (by omega) (by omega)]; omega
  have hxb : x' ≤ 8191 := by omega
  clear s7 s5
  go_wp2_with fail
  clear hn' hx' hxb s4 s11 s12
  have hpl : ∃ c2 x2 e2 : Int, c2 ≤ c ∧ ∀ w, Calls Try.prog 15 #[.int .i64 (3 + n - 1)] w fun r w' => r = .returned (.tuple #[.int .i64 c2, .int .i64 x2, .int .i64 e2]) ∧ Below w.heap.size w w' := prevLen n c x e hn0 hn1 R1.out r9
  have hpd : ∃ c2 x2 e2 : Int, c2 ≤ c' ∧ ∀ w, Calls Try.prog 17 #[.int .i64 (1 + d - 1)] w fun r w' => r = .returned (.tuple #[.int .i64 c2, .int .i64 x2, .int .i64 e2]) ∧ Below w.heap.size w w' := prevDist d c' x' e' hd0 hd1 S1.out s9
  obtain ⟨c2, x2, e2, hc2, hL⟩ := hpl
  obtain ⟨g2, y2, f2, hg2, hD⟩ := hpd
  have HL := Aside0.mk hL
  have HD := Aside0.mk hD
  clear hL hD
  refine (HL.out _).mono ?_
  rintro e w5 ⟨rfl, hB⟩
  replace HB := Aside0.mk (below_step HB.out hB)
  clear hB
  go_wp2_with fail
  refine (HD.out _).mono ?_
  rintro e w6 ⟨rfl, hB⟩
  replace HB := Aside0.mk (below_step HB.out hB)
  clear hB
  go_wp2_with fail
  all_goals
    clear hc2 hg2 r9 s9 s10
    refine (lenCode_calls 258 285 0 0 (by decide) (by decide) lenC_258 _).mono ?_
    rintro e w7 ⟨rfl, hB⟩
    replace HB := Aside0.mk (below_step HB.out hB)
    clear hB
    go_wp2_with fail
    refine (lenCode_calls 257 284 30 5 (by decide) (by decide) lenC_257 _).mono ?_
    rintro e w8 ⟨rfl, hB⟩
    replace HB := Aside0.mk (below_step HB.out hB)
    clear hB
    go_wp2_with fail
    refine (distCode_calls 32768 29 8191 13 (by decide) (by decide) distC_32768 _).mono ?_
    rintro e w9 ⟨rfl, hB⟩
    replace HB := Aside0.mk (below_step HB.out hB)
    clear hB
    go_wp2_with fail
    refine (lenOf_calls 256 0 0 false len_256 _).mono ?_
    rintro e w10 ⟨rfl, hB⟩
    replace HB := Aside0.mk (below_step HB.out hB)
    clear hB
    go_wp2_with fail
    refine (distOf_calls 30 0 0 false dist_30 _).mono ?_
    rintro e w11 ⟨rfl, hB⟩
    replace HB := Aside0.mk (below_step HB.out hB)
    clear hB
    go_wp2_with fail
    refine (PLzForms.wakes_calls _).mono ?_
    rintro e w12 ⟨rfl, hB⟩
    replace HB := Aside0.mk (below_step HB.out hB)
    clear hB
    go_wp2_with fail
    go_ret
    exact ⟨rfl, HB.out⟩
end Go.Proofs.Ytfibhkfpnnpbpaa.Codes
