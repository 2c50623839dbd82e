/- BitsForms is true for every number. No condition. -/
import Derived.Test.YtljmplgkpgdelaaWb
namespace Go.Proofs.Ytljmplgkpgdelaa.Wr
set_option linter.unusedVariables false
open Go.RowKit Go.Proofs.YtljmplgkpgdelaaW.PrintWords Go.Proofs.YtljmplgkpgdelaaW.PrintLast Go.Proofs.YtljmplgkpgdelaaW.PrintMore Go.Proofs.Ytljmplgkpgdelaa.PBitsRead Go.Proofs.Ytljmplgkpgdelaa.Pack Go.Proofs.Ytljmplgkpgdelaa.Kit
theorem R_at {α : Type} {d : Kd α} {e base : Nat} {ok : Nat → Prop} {w : World} {A : Option Addr} {n c : Nat} {xs : List α} (h : d.R e w base ok (.slice A n c) xs) (hn : 0 < n) : ∃ g0, A = some ⟨g0, 0, none⟩ ∧ base ≤ g0 ∧ g0 < w.heap.size := by
  obtain ⟨_, inner, ⟨_, h1 | ⟨g, cap, cur, h2, h3, h4, _⟩⟩, _⟩ := h
  · obtain ⟨h2, h3⟩ := h1
    injection h2 with h4 h5 h6
    omega
  · injection h2 with h5
    exact ⟨g, h5, h3, (Array.getElem?_eq_some_iff.1 h4).1⟩
def formD (n : Int) : List Int := [] ++ lowD n 8 ++ lowD 1 1 ++ padD 9 ++ padD 16 ++ highD 1 4 ++ lowD 65535 0 ++ lowD 5 4 ++ lowD n 3
theorem formD_all : (List.range 256).all (fun n => packB (formD ((n : Nat) : Int)) == [((n : Nat) : Int), 1, 88, ((n : Nat) : Int) % 8]) = true := by kernel_rfl
theorem formD_eq (n : Int) (h0 : 0 ≤ n) (h1 : n < 256) : packB (formD n) = [n, 1, 88, n % 8] := by
  have := List.all_eq_true.1 formD_all n.toNat (List.mem_range.2 (by omega))
  rw [Int.toNat_of_nonneg h0] at this
  exact eq_of_beq this
theorem within_ok (a m : Int) (h0 : -9223372036854775808 ≤ a) (h1 : a ≤ 9223372036854775807) (hm0 : 1 ≤ m) (hm1 : m ≤ 9223372036854775807) : florilegiumkeep_Within.f a m = some (a % m) := by
  simp only [florilegiumkeep_Within.f]
  rw [if_neg (by omega), if_neg (by omega)]
  have hp := Int.emod_nonneg a (show m ≠ 0 by omega)
  have hq := Int.emod_lt_of_pos a (show 0 < m by omega)
  by_cases h : 0 ≤ a
  · rw [Int.tmod_eq_emod_of_nonneg h, if_neg (by omega)]
  · by_cases hd : m ∣ a
    · have e1 : Int.tmod a m = a % m := by rw [Int.tmod_eq_emod, if_pos (Or.inr hd)]; omega
      rw [e1, if_neg (by omega)]
    · have e1 : Int.tmod a m = a % m - m := by
        rw [Int.tmod_eq_emod, if_neg (by intro h9; rcases h9 with h9 | h9; exact h h9; exact hd h9)]
        omega
      have e2 : wrap64 (a % m - m + m) = a % m := by unfold wrap64; omega
      rw [e1, if_pos (by omega), e2]
theorem IsWr.lt {base : Nat} {W : World} {g : Nat} {ds : List Int} (h : IsWr base W g ds) (k : Nat) (hk : WOwn W g k) : k < W.heap.size := by
  obtain ⟨⟨v, hb, hg, hR⟩, _⟩ := h
  rcases (WOwn_iff hb k).1 hk with rfl | h1
  · exact (Array.getElem?_eq_some_iff.1 hb).1
  · obtain ⟨A, c, ev⟩ := Kd.R_slice hR
    subst ev
    cases A with
    | none => cases h1
    | some ad =>
      have : 0 < (packB ds).length ∨ (packB ds).length = 0 := by omega
      obtain ⟨_, inner, ⟨_, h3 | ⟨g0, cap, cur, h4, h5, h6, _⟩⟩, _⟩ := hR
      · obtain ⟨h4, _⟩ := h3
        cases h4
      · injection h4 with h7 h8 h9
        injection h7 with h7
        subst h7
        injection h1 with h1
        subst h1
        exact (Array.getElem?_eq_some_iff.1 h6).1
theorem IsWr.move {base : Nat} {W W' : World} {g : Nat} {ds : List Int} (h : IsWr base W g ds) (hm : ∀ k, k < W.heap.size → W'.heap[k]? = W.heap[k]?) : IsWr base W' g ds :=
  ⟨h.1.move (fun k hk => hm k (h.lt k hk)), h.2⟩
set_option maxHeartbeats 8000000 in
set_option maxRecDepth 100000 in
theorem BitsForms_walk (a : Int) (a0 : -9223372036854775808 ≤ a) (a1 : a ≤ 9223372036854775807) (w : World) : Calls Try.prog 3 #[.int .i64 a] w fun e w' => e = .returned (.bool true) ∧ Below w.heap.size w w' := by
  have hF := Aside0.mk (formD_eq (a % 256) (by omega) (by omega))
  have hW := Aside0.mk (florilegiumkeep_Within.calls a 256 (a % 256) w (within_ok a 256 a0 a1 (by decide) (by decide)))
  have ⟨n0, n1⟩ : 0 ≤ a % 256 ∧ a % 256 < 256 := by omega
  generalize a % 256 = n at hF hW n0 n1
  have z1 : IntKind.u8.wrap n = n := by show n % 256 = n; omega
  have z2 : Int.tmod n 8 = n % 8 := Int.tmod_eq_emod_of_nonneg n0
  have z3 : IntKind.u8.wrap (n % 8) = n % 8 := by show n % 8 % 256 = n % 8; omega
  go_enter Try.func3, Try.ntmps3
  go_wp2_with fail
  refine hW.out.mono ?_
  rintro e w1 ⟨rfl, m, rfl⟩
  go_wp2_with fail
  refine (NewW_calls _).mono ?_
  rintro e w2 ⟨g, rfl, hw0, hb2⟩
  have hb2 : Below w.heap.size w w2 := below_step (pw_below_drewN (Below.refl _ _) m) hb2
  have hw0 : IsWr w.heap.size w2 g [] := hw0
  go_wp2_with fail
  refine (Bytes_calls _ g _ w2 hw0).mono ?_
  rintro e w3 ⟨A3, c3, rfl, hr3, hb3⟩
  have hw3 := hw0.move (fun k hk => hb3.block k hk)
  have hb3 := below_step hb2 hb3
  rw [show (packB []).length = 0 from rfl]
  go_wp2_with fail
  refine (Put_calls _ g [] n 8 (by decide) (by omega) (by omega) (by decide) w3 hw3).mono ?_
  rintro e w4 ⟨rfl, hw4, hs4⟩
  have hb4 := hw3.1.below hs4 hb3
  go_wp2_with fail
  refine (Put_calls _ g _ 1 1 (by decide) (by decide) (by decide) (by simp [lowD]) w4 hw4).mono ?_
  rintro e w5 ⟨rfl, hw5, hs5⟩
  have hb5 := hw4.1.below hs5 hb4
  go_wp2_with fail
  refine (Align_calls _ g _ (by simp [lowD]) w5 hw5).mono ?_
  rintro e w6 ⟨rfl, hw6, hs6⟩
  have hb6 := hw5.1.below hs6 hb5
  rw [show ([] ++ lowD n 8 ++ lowD 1 1 : List Int).length = 9 from (by simp [lowD])] at hw6
  go_wp2_with fail
  refine (Align_calls _ g _ (by simp [lowD, padD]) w6 hw6).mono ?_
  rintro e w7 ⟨rfl, hw7, hs7⟩
  have hb7 := hw6.1.below hs7 hb6
  rw [show ([] ++ lowD n 8 ++ lowD 1 1 ++ padD 9 : List Int).length = 16 from (by simp [lowD, padD])] at hw7
  go_wp2_with fail
  refine (Code_calls _ g _ 1 4 (by decide) (by decide) (by decide) (by simp [lowD, padD]) w7 hw7).mono ?_
  rintro e w8 ⟨rfl, hw8, hs8⟩
  have hb8 := hw7.1.below hs8 hb7
  go_wp2_with fail
  refine (Put_calls _ g _ 65535 0 (by decide) (by decide) (by decide) (by simp [lowD, padD, highD]) w8 hw8).mono ?_
  rintro e w9 ⟨rfl, hw9, hs9⟩
  have hb9 := hw8.1.below hs9 hb8
  go_wp2_with fail
  refine (Put_bad g 3 17 (by decide) w9).mono ?_
  rintro e _ ⟨rfl, rfl⟩
  go_wp2_with fail
  refine (Code_bad g 3 (-1) (by decide) _).mono ?_
  rintro e _ ⟨rfl, rfl⟩
  go_wp2_with fail
  refine (Put_calls _ g _ 5 4 (by decide) (by decide) (by decide) (by simp [lowD, padD, highD]) _ hw9).mono ?_
  rintro e w10 ⟨rfl, hw10, hs10⟩
  have hb10 := hw9.1.below hs10 hb9
  go_wp2_with fail
  refine (Put_calls _ g _ n 3 (by decide) (by omega) (by omega) (by simp [lowD, padD, highD]) _ hw10).mono ?_
  rintro e w11 ⟨rfl, hw11, hs11⟩
  have hb11 := hw10.1.below hs11 hb10
  have hw11 : IsWr w.heap.size w11 g (formD n) := hw11
  clear hw0 hw3 hw4 hw5 hw6 hw7 hw8 hw9 hw10 hs4 hs5 hs6 hs7 hs8 hs9 hs10 hs11 hb2 hb3 hb4 hb5 hb6 hb7 hb8 hb9 hb10 hr3
  go_wp2_with fail
  have HBY := Aside0.mk (Bytes_calls _ g _ w11 hw11)
  rw [hF.out] at HBY
  refine HBY.out.mono ?_
  rintro e w12 ⟨A, c, rfl, hr, hb12⟩
  have hw12 := hw11.move (fun k hk => hb12.block k hk)
  obtain ⟨g0, rfl, hg0, hlt⟩ := R_at hr (by show 0 < 4; decide)
  have hsz : w.heap.size ≤ g0 := Nat.le_trans (hb11.size) hg0
  have hb12' := below_step hb11 hb12
  have HR := Aside0.mk hr
  have HB := Aside0.mk hb12'
  have HW := Aside0.mk hw12
  have HW11 := Aside0.mk hw11
  have HB12 := Aside0.mk hb12
  clear hr hb12' hw12 hw11 hb11 hb12
  go_wp2_with fail
  have hc := C_row (Kd.int .u8) (fun x => [.int .u8 x]) (fun _ _ => rfl) w12 5 (0, 0) [n, 1, 88, n % 8] (by show 4 ≤ 9223372036854775807; decide)
  have h2 := Kd.R_reads' HR.out
  refine (SameB_calls _ _ c 4 [n, 1, 88, n % 8] _ (Kd.C_alloc h2.2.2 _) h2.2.1 hc (by show 4 ≤ 4; decide)).mono ?_
  rintro e w13 ⟨rfl, hd⟩
  have HR13 : Aside0 (Kd.R (Kd.int .u8) 5 w13 w11.heap.size (fun _ => True) (.slice (some ⟨g0, 0, none⟩) 4 c) [n, 1, 88, n % 8]) := ⟨by obtain ⟨m1, rfl⟩ := hd; exact Kd.R_drewN (Kd.R_alloc HR.out _) m1⟩
  have HB13 : Aside0 (Below w.heap.size w w13) := ⟨by obtain ⟨m1, rfl⟩ := hd; exact pw_below_drewN (below_alloc HB.out _) m1⟩
  have HM : Aside0 (∀ k, k < w11.heap.size → w13.heap[k]? = w11.heap[k]?) := ⟨by
    intro k hk
    obtain ⟨m1, rfl⟩ := hd
    exact (heap_alloc_old w12 _ (Nat.lt_of_lt_of_le hk (HB12.out.size))).trans (HB12.out.block k hk)⟩
  have hcf := Kd.R_celln 0 HR13.out (0 : Int) (by decide) (by show (0 : Int) < 4; decide)
  obtain ⟨x0, f0⟩ := hcf
  change w13.cell? ⟨g0, 0, none⟩ = some (.int .u8 n) at x0
  change w13.frozen? ⟨g0, 0, none⟩ = false at f0
  clear hd hc h2
  go_wp2_with ((with_reducible refine gate_store (t := 5) (p := 53) rfl ?_); refine store_event (t := 5) (p := 53) (v := .tmp 52) (w1 := (w13.setCell ⟨g0, 0, none⟩ (.int .u8 (IntKind.u8.wrap (n + 1))))) ?hg ?ho ?hn ?hr ?_; (case ho => rfl); (case hg => rfl); (case hn => rfl); (case hr => first | (go_simp; done) | (go_simp; rfl)); intro w15 hw; have HW15 := Aside0.mk hw; clear hw x0 f0)
  have hw15 : IsWr w.heap.size w15 g (formD n) := HW11.out.move (fun k hk => by
    rw [HW15.out]
    exact (Below.heap_setCell w13 ⟨g0, 0, none⟩ _ k (fun e => by have e : k = g0 := e; omega)).trans (HM.out k hk))
  have hb15 : Below w.heap.size w w15 := by
    rw [HW15.out]
    exact below_set HB13.out hsz
  have HBY := Aside0.mk (Bytes_calls _ g _ w15 hw15)
  rw [hF.out] at HBY
  refine HBY.out.mono ?_
  rintro e w16 ⟨A, c, rfl, hr, hb16⟩
  have hb16 := below_step hb15 hb16
  go_wp2_with fail
  have hc := C_row (Kd.int .u8) (fun x => [.int .u8 x]) (fun _ _ => rfl) w16 5 (0, 0) [n, 1, 88, n % 8] (by show 4 ≤ 9223372036854775807; decide)
  have h2 := Kd.R_reads' hr
  refine (SameB_calls _ _ c 4 [n, 1, 88, n % 8] _ (Kd.C_alloc h2.2.2 _) h2.2.1 hc (by show 4 ≤ 4; decide)).mono ?_
  rintro e w17 ⟨rfl, m1, rfl⟩
  have hb17 := pw_below_drewN (below_alloc hb16 (.cells (List.flatMap (fun x => [Value.int IntKind.u8 x]) [n, 1, 88, n % 8]).toArray 5)) m1
  go_wp2_with fail
  refine (wakes_calls _).mono ?_
  rintro e w18 ⟨rfl, hb18⟩
  go_wp2_with fail
  go_ret
  exact ⟨rfl, below_step hb17 hb18⟩
theorem i64_wf {x : Int} (h : (Lit.int .i64 x).wf = true) : -9223372036854775808 ≤ x ∧ x ≤ 9223372036854775807 := by
  simp [Lit.wf, IntKind.min, IntKind.max, IntKind.signed, IntKind.bits] at h
  omega
theorem BitsForms_row (a : Int) (a0 : (Lit.int .i64 a).wf = true) (w : World) : Calls Try.prog 3 #[.int .i64 a] w fun e w' => e = .returned (.bool true) ∧ Below w.heap.size w w' :=
  BitsForms_walk a (i64_wf a0).1 (i64_wf a0).2 w
end Go.Proofs.Ytljmplgkpgdelaa.Wr
