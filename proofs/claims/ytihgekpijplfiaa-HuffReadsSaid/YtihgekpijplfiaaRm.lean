/- huff.room: what codes of these lengths take. Conditions: the slice reads as numbers, at most 2^45. -/
import Derived.Test.YtihgekpijplfiaaHp
import Derived.Test.YtihgekpijplfiaaPHuffReadsx1
import Derived.Test.YtihgekpijplfiaaBb
namespace Go.Proofs.Ytihgekpijplfiaa.Rm
set_option linter.unusedVariables false
open Go.RowKit Go.Proofs.YtihgekpijplfiaaW.PrintWords Go.Proofs.YtihgekpijplfiaaW.PrintLast Go.Proofs.YtihgekpijplfiaaW.PrintMore Go.Proofs.Ytihgekpijplfiaa.PHuffReads Go.Proofs.Ytihgekpijplfiaa.Hp Go.Proofs.Ytihgekpijplfiaa.Rf
theorem gK_le (n : Nat) (l : Int) : gK n l ≤ 32768 := by
  unfold gK
  split
  · exact Nat.le_trans (Nat.pow_le_pow_right (by decide) (show 15 - l.toNat ≤ 15 by omega)) (by decide)
  · omega
theorem krf_le (n : Nat) : ∀ ls : List Int, krf ls n ≤ 32768 * ls.length
  | [] => by simp [krf]
  | l :: ls => by
    have := krf_le n ls
    rw [krf_cons, List.length_cons]
    have := gK_le n l
    omega
theorem nz_le (ls : List Int) : nz ls ≤ ls.length := List.countP_le_length
theorem nz_cons (l : Int) (ls : List Int) : nz (l :: ls) = nz ls + (if 0 < l then 1 else 0) := by
  unfold nz
  rw [List.countP_cons]
  by_cases h : 0 < l <;> simp [h]
theorem take_snoc (ls : List Int) (i : Nat) (hi : i < ls.length) : ls.take (i + 1) = ls.take i ++ [ls.getD i 0] := by
  rw [List.take_succ_eq_append_getElem hi]
  simp [List.getD_eq_getElem?_getD, hi]
theorem krf_snoc (a : List Int) (l : Int) (n : Nat) : krf (a ++ [l]) n = krf a n + gK n l := by simp [krf]
theorem nz_snoc (a : List Int) (l : Int) : nz (a ++ [l]) = nz a + (if 0 < l then 1 else 0) := by
  unfold nz
  rw [List.countP_append, List.countP_singleton]
  by_cases h : 0 < l <;> simp [h]
theorem inR_snoc (a : List Int) (l : Int) : inR (a ++ [l]) = (inR a && decide (0 ≤ l ∧ l ≤ 15)) := by simp [inR]
theorem shl15 (l : Int) (h0 : 0 < l) (h1 : l ≤ 15) : shl .i64 1 (wrap64 (15 - l)) = ((gK 15 l : Nat) : Int) := by
  have e : wrap64 (15 - l) = ((15 - l.toNat : Nat) : Int) := by unfold wrap64; omega
  rw [e]
  unfold shl gK
  rw [if_pos (by omega), Int.toNat_natCast, Nat.min_eq_left (show 15 - l.toNat ≤ IntKind.i64.bits from by show 15 - l.toNat ≤ 64; omega), IntKind.wrap_i64]
  have : ∀ k ≤ 15, (1 * (2 : Int) ^ k + 9223372036854775808) % 18446744073709551616 - 9223372036854775808 = ((2 ^ k : Nat) : Int) := by decide +kernel
  exact this _ (by omega)
theorem rd_getD (ls : List Int) (i : Nat) : rd ls (i : Int) = ls.getD i 0 := by unfold rd; rw [Int.toNat_natCast]
theorem room_ev (ls : List Int) (hl : ls.length ≤ 35184372088832) : ∀ d i : Nat, i + d = ls.length → inR (ls.take i) = true →
    Ev (fun k => huff_room.l0 k ((krf (ls.take i) 15 : Nat) : Int) ((nz (ls.take i) : Nat) : Int) ls (ls.length : Int) (i : Int)) (if inR ls = true then (((krf ls 15 : Nat) : Int), ((nz ls : Nat) : Int), true) else (0, 0, false))
  | 0, i, h, hin => by
    obtain rfl : i = ls.length := by omega
    rw [List.take_length] at hin ⊢
    rw [if_pos hin]
    refine Ev.step (f := fun _ => some (((krf ls 15 : Nat) : Int), ((nz ls : Nat) : Int), true)) (fun k => ?_) (Ev.now _)
    simp only [huff_room.l0]
    rw [if_neg (by omega)]
  | d + 1, i, h, hin => by
    have hi : i < ls.length := by omega
    have hk1 := krf_le 15 (ls.take i)
    have hk2 := nz_le (ls.take i)
    have hk3 : (ls.take i).length = i := by rw [List.length_take]; omega
    have t4 : wrap64 ((i : Int) + 1) = ((i + 1 : Nat) : Int) := by unfold wrap64; omega
    by_cases hb : ls.getD i 0 < 0 ∨ 15 < ls.getD i 0
    · have hno : inR ls = false := by
        have e : ls.getD i 0 = ls[i] := by simp [List.getD_eq_getElem?_getD, hi]
        rw [e] at hb
        unfold inR
        rw [← Bool.not_eq_true, List.all_eq_true]
        intro hall
        have := hall _ (List.getElem_mem hi)
        simp at this
        omega
      rw [hno, if_neg Bool.false_ne_true]
      refine Ev.step (f := fun k => huff_room.j1 k ((krf (ls.take i) 15 : Nat) : Int) ((nz (ls.take i) : Nat) : Int) (ls.getD i 0) ls (ls.length : Int) (i : Int) true) (fun k => ?_) ?_
      · simp only [huff_room.l0]
        rw [if_pos (by omega), if_pos (by omega), if_pos (by omega), rd_getD]
        by_cases h0 : ls.getD i 0 < 0
        · rw [if_pos h0]
        · rw [if_neg h0]
          congr 1
          exact decide_eq_true (by omega)
      · refine Ev.step (f := fun _ => some (0, 0, false)) (fun k => ?_) (Ev.now _)
        simp only [huff_room.j1]
        rw [if_pos trivial]
    · have h0 : 0 ≤ ls.getD i 0 := by omega
      have h15 : ls.getD i 0 ≤ 15 := by omega
      have hin' : inR (ls.take (i + 1)) = true := by
        rw [take_snoc ls i hi, inR_snoc, hin]
        simp only [Bool.true_and]
        exact decide_eq_true ⟨h0, h15⟩
      have ih := room_ev ls hl d (i + 1) (by omega) hin'
      refine Ev.step (f := fun k => huff_room.j1 k ((krf (ls.take i) 15 : Nat) : Int) ((nz (ls.take i) : Nat) : Int) (ls.getD i 0) ls (ls.length : Int) (i : Int) false) (fun k => ?_) ?_
      · simp only [huff_room.l0]
        rw [if_pos (by omega), if_pos (by omega), if_pos (by omega), rd_getD, if_neg (by omega)]
        congr 1
        exact decide_eq_false (by omega)
      · refine Ev.step (fun k => ?_) ih
        simp only [huff_room.j1]
        rw [if_neg Bool.false_ne_true, take_snoc ls i hi, krf_snoc, nz_snoc, t4]
        have hg := gK_le 15 (ls.getD i 0)
        by_cases hp : ls.getD i 0 > 0
        · have e1 : 0 ≤ wrap64 (15 - ls.getD i 0) := by unfold wrap64; omega
          rw [if_pos hp, if_pos e1, shl15 _ hp h15, if_pos hp]
          have e2 : wrap64 (((krf (ls.take i) 15 : Nat) : Int) + ((gK 15 (ls.getD i 0) : Nat) : Int)) = ((krf (ls.take i) 15 + gK 15 (ls.getD i 0) : Nat) : Int) := by unfold wrap64; omega
          have e3 : wrap64 (((nz (ls.take i) : Nat) : Int) + 1) = ((nz (ls.take i) + 1 : Nat) : Int) := by unfold wrap64; omega
          rw [e2, e3]
        · rw [if_neg hp, if_neg hp]
          have e2 : gK 15 (ls.getD i 0) = 0 := by unfold gK; rw [if_neg (by omega)]
          rw [e2]
          rfl
theorem room_calls (A : Option Addr) (c : Nat) (ls : List Int) (w : World) (hC : Kd.C (Kd.int .i64) w A ls.length ls) (hc : ls.length ≤ c) (hl : ls.length ≤ 35184372088832) :
    Calls Try.prog 71 #[.slice A ls.length c] w fun e w' => e = .returned (.tuple #[.int .i64 (if inR ls = true then (krf ls 15 : Nat) else 0 : Nat), .int .i64 (if inR ls = true then (nz ls : Nat) else 0 : Nat), .bool (inR ls)]) ∧ Drawn0 w w' := by
  obtain ⟨k, hk⟩ := (room_ev ls hl ls.length 0 (by omega) rfl).rounds
  have h := huff_room.calls k A c ls _ _ _ w hC hc (show huff_room.f k ls = some (_, _, _) from hk)
  refine h.mono ?_
  rintro e w' ⟨rfl, hd⟩
  refine ⟨?_, hd⟩
  cases inR ls <;> rfl
end Go.Proofs.Ytihgekpijplfiaa.Rm
