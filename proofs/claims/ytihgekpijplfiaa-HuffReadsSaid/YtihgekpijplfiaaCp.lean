/- florilegiumkeep.Copy and Cut at bytes. Conditions: the slices that come in read as numbers. -/
import Derived.Test.YtihgekpijplfiaaWb
namespace Go.Proofs.Ytihgekpijplfiaa.Wr
open Go.RowKit Go.Proofs.YtihgekpijplfiaaW.PrintWords Go.Proofs.YtihgekpijplfiaaW.PrintLast Go.Proofs.YtihgekpijplfiaaW.PrintMore
attribute [local go_sem] max2_int min2_int max_two min_two max_three min_three max_four min_four
set_option linter.unusedVariables false
set_option maxHeartbeats 1000000 in
theorem Copy_calls (A : Option Addr) (c : Nat) (xs : List Int) (w : World) (hr : Kd.C (Kd.int .u8) w A xs.length xs) (hl : xs.length ≤ 140737488355328) :
    Calls Try.prog 32 #[.slice A xs.length c] w fun e w' => ∃ v : Value, e = .returned v ∧ Kd.R (Kd.int .u8) 5 w' w.heap.size (fun _ => True) v xs ∧ Below w.heap.size w w' := by
  have HR := Aside0.mk hr
  clear hr
  go_enter Try.func32, Try.ntmps32
  go_wp2_with (at_builtin; refine Kd.R_append_rows (Kd.int .u8) (w0 := w) w.heap.size rfl (.const (.slice none 0 0)) (.tmp 3) 37 5 (.int .u8 0) 1 rfl Try.underlying37 info5 rfl (by decide) (by decide) (.slice none 0 0) [] xs A xs.length c (fun _ => True) (fun _ => False) rfl rfl (Kd.R_nil _ _ _ _ _) HR.out (fun x cs h => h) (fun _ hk => hk.elim) (fun _ _ => trivial) (Below.refl _ _) (Nat.le_refl _) (by simp; omega) ?_; intro v1 w1 ho hb hg hat; have HO := Aside0.mk ho; have HB := Aside0.mk hb; clear ho hb hg hat)
  rw [List.nil_append] at HO
  obtain ⟨A1, c1, e1⟩ := Kd.R_slice HO.out
  subst e1
  go_ret
  exact ⟨_, rfl, HO.out, HB.out⟩
set_option maxHeartbeats 1000000 in
theorem Cut_calls (A : Option Addr) (c n : Nat) (xs : List Int) (w : World) (hr : Kd.C (Kd.int .u8) w A xs.length xs) (hc : xs.length ≤ c) (hl : xs.length ≤ 140737488355328) (hn : n ≤ 1000000) :
    Calls Try.prog 23 #[.slice A xs.length c, .int .i64 (n : Int)] w fun e w' => ∃ v : Value, e = .returned v ∧ Kd.R (Kd.int .u8) 5 w' w.heap.size (fun _ => True) v (xs.take (min xs.length n)) ∧ Below w.heap.size w w' := by
  by_cases h : xs.length ≤ n
  · have h1 : (xs.length : Int) ≤ (n : Int) := by omega
    obtain ⟨i0, hi, _, hsz, _⟩ := info_parts info5
    have hp := print_take_int (P := Try.prog) (k := .u8) 37 5 Try.underlying37 hi hsz A c xs ((xs.length : Nat) : Int) (by omega) (by omega) hc
    have hlen : (xs.take (xs.length)).length = xs.length := by rw [List.length_take]; omega
    have hcut := hp.1
    rw [Int.toNat_natCast, hlen] at hcut
    rw [show min xs.length n = xs.length from by omega]
    have hs := Copy_calls A c (xs.take (xs.length)) w (Kd.C_take hr (by omega)) (by rw [hlen]; omega)
    rw [hlen] at hs
    clear hp hi hsz hlen
    generalize xs.take (xs.length) = ys at hs ⊢
    have HS := Aside0.mk hs
    clear hs hr
    go_enter Try.func23, Try.ntmps23
    go_wp2_with fail
    refine HS.out.mono ?_
    rintro e w1 ⟨v, rfl, hR, hB⟩
    have HO := Aside0.mk hR
    have HB := Aside0.mk hB
    clear hR hB HS
    obtain ⟨A1, c1, e1⟩ := Kd.R_slice HO.out
    subst e1
    go_wp2_with fail
    go_ret
    exact ⟨_, rfl, HO.out, HB.out⟩
  · have h1 : (n : Int) < (xs.length : Int) := by omega
    obtain ⟨i0, hi, _, hsz, _⟩ := info_parts info5
    have hp := print_take_int (P := Try.prog) (k := .u8) 37 5 Try.underlying37 hi hsz A c xs ((n : Nat) : Int) (by omega) (by omega) hc
    have hlen : (xs.take (n)).length = n := by rw [List.length_take]; omega
    have hcut := hp.1
    rw [Int.toNat_natCast, hlen] at hcut
    rw [show min xs.length n = n from by omega]
    have hs := Copy_calls A c (xs.take (n)) w (Kd.C_take hr (by omega)) (by rw [hlen]; omega)
    rw [hlen] at hs
    clear hp hi hsz hlen
    generalize xs.take n = ys at hs ⊢
    have HS := Aside0.mk hs
    clear hs hr
    go_enter Try.func23, Try.ntmps23
    go_wp2_with fail
    refine HS.out.mono ?_
    rintro e w1 ⟨v, rfl, hR, hB⟩
    have HO := Aside0.mk hR
    have HB := Aside0.mk hB
    clear hR hB HS
    obtain ⟨A1, c1, e1⟩ := Kd.R_slice HO.out
    subst e1
    go_wp2_with fail
    go_ret
    exact ⟨_, rfl, HO.out, HB.out⟩
def Bytes (xs : List Int) : Prop := ∀ x ∈ xs, 0 ≤ x ∧ x ≤ 255
theorem Bytes_take {xs : List Int} (h : Bytes xs) (n : Nat) : Bytes (xs.take n) := fun x hx => h x (List.mem_of_mem_take hx)
theorem Bytes_snoc {xs : List Int} (h : Bytes xs) {x : Int} (h0 : 0 ≤ x) (h1 : x ≤ 255) : Bytes (xs ++ [x]) := by
  intro y hy
  rcases List.mem_append.1 hy with hy | hy
  · exact h y hy
  · rw [List.mem_singleton.1 hy]; exact ⟨h0, h1⟩
end Go.Proofs.Ytihgekpijplfiaa.Wr
