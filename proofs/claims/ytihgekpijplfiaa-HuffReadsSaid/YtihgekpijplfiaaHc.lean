/- huff.Table: Code and Put. Conditions: the receiver is a table of lengths that fit. -/
import Derived.Test.YtihgekpijplfiaaHn
namespace Go.Proofs.Ytihgekpijplfiaa.Hn
set_option linter.unusedVariables false
open Go.RowKit Go.Maps Go.Proofs.YtihgekpijplfiaaW.PrintWords Go.Proofs.YtihgekpijplfiaaW.PrintLast Go.Proofs.YtihgekpijplfiaaW.PrintMore Go.Proofs.Ytihgekpijplfiaa.Hp Go.Proofs.Ytihgekpijplfiaa.Rm Go.Proofs.Ytihgekpijplfiaa.Mp Go.Proofs.Ytihgekpijplfiaa.Fr Go.Proofs.Ytihgekpijplfiaa.Rf Go.Proofs.Ytihgekpijplfiaa.Wr
/-- Has a sign a code? -/
def hasB (ls : List Int) (s : Int) : Bool := decide (0 ≤ s ∧ s < (ls.length : Int) ∧ 0 < ls.getD s.toNat 0)
theorem inR_get {ls : List Int} (h : inR ls = true) (i : Nat) (hi : i < ls.length) : 0 ≤ ls.getD i 0 ∧ ls.getD i 0 ≤ 15 := by
  have e : ls.getD i 0 = ls[i] := by simp [List.getD_eq_getElem?_getD, hi]
  rw [e]
  have := List.all_eq_true.1 h _ (List.getElem_mem hi)
  simpa using this
theorem okS_inR {ls : List Int} (h : okS ls = true) : inR ls = true ∧ ls.length ≤ 320 := by
  unfold okS at h
  simp only [Bool.and_eq_true, decide_eq_true_eq] at h
  exact h.1
theorem cd_last {ls : List Int} (h : inR ls = true) (i : Nat) (hi : i < ls.length) : cdAt ls 15 0 i = if 0 < ls.getD i 0 then ((codeOf ls i : Int), ls.getD i 0) else (0, 0) := by
  have := inR_get h i hi
  unfold cdAt
  by_cases h1 : 0 < ls.getD i 0
  · rw [if_pos (by omega), if_pos h1]
  · rw [if_neg (by omega), if_neg h1]
theorem IsT.code {lo hi p : Nat} {W : World} {ls : List Int} (h : IsT lo hi W p ls) (i : Nat) (hi : i < ls.length) (hin : inR ls = true) : ∃ gc : Nat, W.cell? ⟨p, 0, none⟩ = some (.slice (some ⟨gc, 0, none⟩) ls.length ls.length) ∧ W.cell? ⟨gc, i * 2, none⟩ = some (.int .i64 (if 0 < ls.getD i 0 then (codeOf ls i : Int) else 0)) ∧ W.cell? ⟨gc, i * 2 + 1, none⟩ = some (.int .i64 (ls.getD i 0)) := by
  obtain ⟨gc, gm, a1, a2, a3, a4, a5, a6, h1, h2, h3⟩ := h
  have hc := cd_last hin i hi
  have hr := inR_get hin i hi
  refine ⟨gc, (blk_cell h1 0).trans rfl, ?_, ?_⟩
  · rw [blk_cell h2, Nat.mul_comm]
    have := cellsOf_get0 _ _ _ (cdL_get ls 15 0 i hi)
    rw [hc] at this
    by_cases h0 : 0 < ls.getD i 0
    · rw [if_pos h0] at this ⊢; simpa using this
    · rw [if_neg h0] at this ⊢; simpa using this
  · rw [blk_cell h2, Nat.mul_comm]
    have := cellsOf_get1 _ _ _ (cdL_get ls 15 0 i hi)
    rw [hc] at this
    by_cases h0 : 0 < ls.getD i 0
    · rw [if_pos h0] at this; simpa using this
    · rw [if_neg h0] at this
      rw [show ls.getD i 0 = 0 from by omega]
      simpa using this
set_option maxHeartbeats 4000000 in
theorem Code_yes (lo hi p : Nat) (ls : List Int) (k : Nat) (hk : k < ls.length) (hl : 0 < ls.getD k 0) (hin : inR ls = true) (hlen : ls.length ≤ 320) (w : World) (hT : IsT lo hi w p ls) :
    Calls Try.prog 18 #[.pointer (some ⟨p, 0, none⟩), .int .i64 (k : Int)] w fun e w' => e = .returned (.tuple #[.int .i64 (codeOf ls k : Int), .int .i64 (ls.getD k 0), .bool true]) ∧ Drawn0 w w' := by
  obtain ⟨gc, x0, x1, x2⟩ := hT.code k hk hin
  rw [if_pos hl] at x1
  have hk1 : (k : Int) < (ls.length : Int) := by omega
  have hk0 : (0 : Int) ≤ (k : Int) := by omega
  have hk3 : (k : Int) ≤ 320 := by omega
  have hll : (ls.length : Int) ≤ 320 := by omega
  have z0 : ((ls.getD k 0) == 0) = false := beq_eq_false_iff_ne.2 (by omega)
  generalize ls.getD k 0 = l at *
  generalize codeOf ls k = cd at *
  clear hT hk hl hin hlen
  go_enter Try.func18, Try.ntmps18
  go_wp2_with fail
  go_quiet (fail)
  go_wp2_with fail
  go_ret3
  exact ⟨rfl, _, rfl⟩
set_option maxHeartbeats 4000000 in
theorem Code_no (lo hi p : Nat) (ls : List Int) (s : Int) (hs : hasB ls s = false) (hin : inR ls = true) (hlen : ls.length ≤ 320) (w : World) (hT : IsT lo hi w p ls) :
    Calls Try.prog 18 #[.pointer (some ⟨p, 0, none⟩), .int .i64 s] w fun e w' => e = .returned (.tuple #[.int .i64 0, .int .i64 0, .bool false]) ∧ Drawn0 w w' := by
  have hs' := of_decide_eq_false hs
  clear hs
  by_cases h0 : s < 0
  · clear hs' hT
    go_enter Try.func18, Try.ntmps18
    go_wp2_with fail
    go_ret3
    exact ⟨rfl, 0, rfl⟩
  · by_cases h1 : s < (ls.length : Int)
    · obtain ⟨k, rfl⟩ := Int.eq_ofNat_of_zero_le (show 0 ≤ s by omega)
      have hk : k < ls.length := by omega
      obtain ⟨gc, x0, x1, x2⟩ := hT.code k hk hin
      have hr := inR_get hin k hk
      rw [Int.toNat_natCast] at hs'
      have hz : ls.getD k 0 = 0 := by omega
      rw [hz] at x2
      have hk0 : (0 : Int) ≤ (k : Int) := by omega
      clear hs' hT x1 hk hr hz hin
      go_enter Try.func18, Try.ntmps18
      go_wp2_with fail
      go_ret3
      exact ⟨rfl, 0, rfl⟩
    · have h2 : (ls.length : Int) ≤ s := by omega
      have x0 : ∃ gc : Nat, w.cell? ⟨p, 0, none⟩ = some (.slice (some ⟨gc, 0, none⟩) ls.length ls.length) := by
        obtain ⟨gc, gm, a1, a2, a3, a4, a5, a6, h1, h2, h3⟩ := hT
        exact ⟨gc, (blk_cell h1 0).trans rfl⟩
      obtain ⟨gc, x0⟩ := x0
      clear hs' hT hin
      go_enter Try.func18, Try.ntmps18
      go_wp2_with fail
      go_ret3
      exact ⟨rfl, 0, rfl⟩
theorem code_small {ls : List Int} (hok : okS ls = true) (k : Nat) (hk : k < ls.length) (hl : 0 < ls.getD k 0) : codeOf ls k ≤ 32768 := by
  have hin := (okS_inR hok).1
  have h1 := codeOf_lt ls k hk hl
  have hr := inR_get hin k hk
  have hkr : krf ls 15 ≤ 32768 := by
    unfold okS at hok
    simp only [Bool.and_eq_true, Bool.or_eq_true, decide_eq_true_eq] at hok
    rcases hok.2 with (h | h) | h
    · have := krf_nz ls 15 h; omega
    · omega
    · omega
  have h2 := nxt_le ls (lenOf ls k) (by unfold lenOf; omega) hkr
  have h3 : ∀ n < 16, 2 ^ n ≤ 32768 := by decide +kernel
  have h4 := h3 (lenOf ls k) (by unfold lenOf; omega)
  omega
set_option maxHeartbeats 4000000 in
theorem Put_yes (lo hi p base g : Nat) (ls ds : List Int) (k : Nat) (hk : k < ls.length) (hl : 0 < ls.getD k 0) (hok : okS ls = true) (hds : ds.length + 15 ≤ 1000000000000) (w : World) (hT : IsT lo hi w p ls) (hI : IsWr base w g ds) :
    Calls Try.prog 58 #[.pointer (some ⟨p, 0, none⟩), .pointer (some ⟨g, 0, none⟩), .int .i64 (k : Int)] w fun e w' => e = .returned (.bool true) ∧ IsWr base w' g (ds ++ highD (codeOf ls k : Int) (lenOf ls k)) ∧ Fr w w' (WOwn w g) ∧ ∀ j, WOwn w' g j → WOwn w g j ∨ w.heap.size ≤ j := by
  have hin := okS_inR hok
  have hr := inR_get hin.1 k hk
  have hcs := code_small hok k hk hl
  have HC := Aside0.mk (Code_yes lo hi p ls k hk hl hin.1 hin.2 w hT)
  have he : ls.getD k 0 = ((lenOf ls k : Nat) : Int) := by unfold lenOf; omega
  rw [he] at HC
  have HW := Aside0.mk (fun (m : Nat) => Code_calls base g ds (codeOf ls k : Int) (lenOf ls k) (by unfold lenOf; omega) (by omega) (by omega) (by unfold lenOf; omega) (w.drewN m) hI)
  generalize codeOf ls k = cd at *
  generalize lenOf ls k = n at *
  clear hT hk hl hin hr hok he hI
  go_enter Try.func58, Try.ntmps58
  go_wp2_with fail
  refine HC.out.mono ?_
  rintro e w1 ⟨rfl, m, rfl⟩
  go_wp2_with fail
  refine (HW.out m).mono ?_
  rintro e w2 ⟨rfl, h1, h2⟩
  have H1 := Aside0.mk h1
  have H2 := Aside0.mk (Fr.of_wstep h2).undrewN
  have H3 := Aside0.mk h2.own
  clear h1 h2
  go_wp2_with fail
  go_ret
  exact ⟨rfl, H1.out, H2.out, H3.out⟩
theorem Put_no (lo hi p g : Nat) (ls : List Int) (s : Int) (hs : hasB ls s = false) (hok : okS ls = true) (w : World) (hT : IsT lo hi w p ls) :
    Calls Try.prog 58 #[.pointer (some ⟨p, 0, none⟩), .pointer (some ⟨g, 0, none⟩), .int .i64 s] w fun e w' => e = .returned (.bool false) ∧ Drawn0 w w' := by
  have hin := okS_inR hok
  have HC := Aside0.mk (Code_no lo hi p ls s hs hin.1 hin.2 w hT)
  clear hT hs hok hin
  go_enter Try.func58, Try.ntmps58
  go_wp2_with fail
  refine HC.out.mono ?_
  rintro e w1 ⟨rfl, m, rfl⟩
  go_wp2_with fail
  go_ret
  exact ⟨rfl, _, rfl⟩
end Go.Proofs.Ytihgekpijplfiaa.Hn
