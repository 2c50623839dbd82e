/- Each length from 3 to 258 and each distance from 1 to 32768 has one code; what is added is below what its digits hold; the codes rise. Plain numbers, no Go. -/
import Derived.Test.YtfibhkfpnnpbpaaCodes
namespace Go.Proofs.Ytfibhkfpnnpbpaa.Codes
open Go.RowKit

def lenC (n : Int) : Int × Int × Int := ofS LT.reverse n
def distC (n : Int) : Int × Int × Int := ofS DT.reverse n
theorem lenC_spec (n : Int) (h0 : 3 ≤ n) (h1 : n ≤ 258) : ∃ (c x : Int) (e : Nat) (b p : Int), lenC n = (c, x, (e : Int)) ∧ baseS LT c = (b, (e : Int), true) ∧ b + x = n ∧ 0 ≤ x ∧ x < p ∧ p = 2 ^ e ∧ p ≤ 8192 ∧ e ≤ 5 ∧ 257 ≤ c ∧ c ≤ 285 ∧ 3 ≤ b ∧ b ≤ 258 := by
  unfold lenC
  by_cases g6 : 258 ≤ n
  · refine ⟨285 + (n - 258) / 1, (n - 258) % 1, 0, 258 + ((n - 258) / 1) * 1, 1, ?_, ?_, by omega, by omega, by omega, by decide, by omega, by omega, by omega, by omega, by omega, by omega⟩
    · simp only [LT, List.reverse_cons, List.reverse_nil, List.nil_append, List.cons_append]
      rw [ofS_hit _ _ _ (by simp; omega)]
      rfl
    · simp only [LT]
      rw [baseS_miss _ _ _ (by simp; omega), baseS_miss _ _ _ (by simp; omega), baseS_miss _ _ _ (by simp; omega), baseS_miss _ _ _ (by simp; omega), baseS_miss _ _ _ (by simp; omega), baseS_miss _ _ _ (by simp; omega), baseS_hit _ _ _ (by simp; omega) (by simp; omega)]
      show (258 + (285 + (n - 258) / 1 - 285) * 1, (0 : Int), true) = _
      rw [show (285 + (n - 258) / 1 - 285 : Int) = (n - 258) / 1 from by omega]
      rfl
  by_cases g5 : 131 ≤ n
  · refine ⟨281 + (n - 131) / 32, (n - 131) % 32, 5, 131 + ((n - 131) / 32) * 32, 32, ?_, ?_, by omega, by omega, by omega, by decide, by omega, by omega, by omega, by omega, by omega, by omega⟩
    · simp only [LT, List.reverse_cons, List.reverse_nil, List.nil_append, List.cons_append]
      rw [ofS_miss _ _ _ (by simp; omega), ofS_hit _ _ _ (by simp; omega)]
      rfl
    · simp only [LT]
      rw [baseS_miss _ _ _ (by simp; omega), baseS_miss _ _ _ (by simp; omega), baseS_miss _ _ _ (by simp; omega), baseS_miss _ _ _ (by simp; omega), baseS_miss _ _ _ (by simp; omega), baseS_hit _ _ _ (by simp; omega) (by simp; omega)]
      show (131 + (281 + (n - 131) / 32 - 281) * 32, (5 : Int), true) = _
      rw [show (281 + (n - 131) / 32 - 281 : Int) = (n - 131) / 32 from by omega]
      rfl
  by_cases g4 : 67 ≤ n
  · refine ⟨277 + (n - 67) / 16, (n - 67) % 16, 4, 67 + ((n - 67) / 16) * 16, 16, ?_, ?_, by omega, by omega, by omega, by decide, by omega, by omega, by omega, by omega, by omega, by omega⟩
    · simp only [LT, List.reverse_cons, List.reverse_nil, List.nil_append, List.cons_append]
      rw [ofS_miss _ _ _ (by simp; omega), ofS_miss _ _ _ (by simp; omega), ofS_hit _ _ _ (by simp; omega)]
      rfl
    · simp only [LT]
      rw [baseS_miss _ _ _ (by simp; omega), baseS_miss _ _ _ (by simp; omega), baseS_miss _ _ _ (by simp; omega), baseS_miss _ _ _ (by simp; omega), baseS_hit _ _ _ (by simp; omega) (by simp; omega)]
      show (67 + (277 + (n - 67) / 16 - 277) * 16, (4 : Int), true) = _
      rw [show (277 + (n - 67) / 16 - 277 : Int) = (n - 67) / 16 from by omega]
      rfl
  by_cases g3 : 35 ≤ n
  · refine ⟨273 + (n - 35) / 8, (n - 35) % 8, 3, 35 + ((n - 35) / 8) * 8, 8, ?_, ?_, by omega, by omega, by omega, by decide, by omega, by omega, by omega, by omega, by omega, by omega⟩
    · simp only [LT, List.reverse_cons, List.reverse_nil, List.nil_append, List.cons_append]
      rw [ofS_miss _ _ _ (by simp; omega), ofS_miss _ _ _ (by simp; omega), ofS_miss _ _ _ (by simp; omega), ofS_hit _ _ _ (by simp; omega)]
      rfl
    · simp only [LT]
      rw [baseS_miss _ _ _ (by simp; omega), baseS_miss _ _ _ (by simp; omega), baseS_miss _ _ _ (by simp; omega), baseS_hit _ _ _ (by simp; omega) (by simp; omega)]
      show (35 + (273 + (n - 35) / 8 - 273) * 8, (3 : Int), true) = _
      rw [show (273 + (n - 35) / 8 - 273 : Int) = (n - 35) / 8 from by omega]
      rfl
  by_cases g2 : 19 ≤ n
  · refine ⟨269 + (n - 19) / 4, (n - 19) % 4, 2, 19 + ((n - 19) / 4) * 4, 4, ?_, ?_, by omega, by omega, by omega, by decide, by omega, by omega, by omega, by omega, by omega, by omega⟩
    · simp only [LT, List.reverse_cons, List.reverse_nil, List.nil_append, List.cons_append]
      rw [ofS_miss _ _ _ (by simp; omega), ofS_miss _ _ _ (by simp; omega), ofS_miss _ _ _ (by simp; omega), ofS_miss _ _ _ (by simp; omega), ofS_hit _ _ _ (by simp; omega)]
      rfl
    · simp only [LT]
      rw [baseS_miss _ _ _ (by simp; omega), baseS_miss _ _ _ (by simp; omega), baseS_hit _ _ _ (by simp; omega) (by simp; omega)]
      show (19 + (269 + (n - 19) / 4 - 269) * 4, (2 : Int), true) = _
      rw [show (269 + (n - 19) / 4 - 269 : Int) = (n - 19) / 4 from by omega]
      rfl
  by_cases g1 : 11 ≤ n
  · refine ⟨265 + (n - 11) / 2, (n - 11) % 2, 1, 11 + ((n - 11) / 2) * 2, 2, ?_, ?_, by omega, by omega, by omega, by decide, by omega, by omega, by omega, by omega, by omega, by omega⟩
    · simp only [LT, List.reverse_cons, List.reverse_nil, List.nil_append, List.cons_append]
      rw [ofS_miss _ _ _ (by simp; omega), ofS_miss _ _ _ (by simp; omega), ofS_miss _ _ _ (by simp; omega), ofS_miss _ _ _ (by simp; omega), ofS_miss _ _ _ (by simp; omega), ofS_hit _ _ _ (by simp; omega)]
      rfl
    · simp only [LT]
      rw [baseS_miss _ _ _ (by simp; omega), baseS_hit _ _ _ (by simp; omega) (by simp; omega)]
      show (11 + (265 + (n - 11) / 2 - 265) * 2, (1 : Int), true) = _
      rw [show (265 + (n - 11) / 2 - 265 : Int) = (n - 11) / 2 from by omega]
      rfl
  · refine ⟨257 + (n - 3) / 1, (n - 3) % 1, 0, 3 + ((n - 3) / 1) * 1, 1, ?_, ?_, by omega, by omega, by omega, by decide, by omega, by omega, by omega, by omega, by omega, by omega⟩
    · simp only [LT, List.reverse_cons, List.reverse_nil, List.nil_append, List.cons_append]
      rw [ofS_miss _ _ _ (by simp; omega), ofS_miss _ _ _ (by simp; omega), ofS_miss _ _ _ (by simp; omega), ofS_miss _ _ _ (by simp; omega), ofS_miss _ _ _ (by simp; omega), ofS_miss _ _ _ (by simp; omega), ofS_hit _ _ _ (by simp; omega)]
      rfl
    · simp only [LT]
      rw [baseS_hit _ _ _ (by simp; omega) (by simp; omega)]
      show (3 + (257 + (n - 3) / 1 - 257) * 1, (0 : Int), true) = _
      rw [show (257 + (n - 3) / 1 - 257 : Int) = (n - 3) / 1 from by omega]
      rfl
theorem distC_spec (n : Int) (h0 : 1 ≤ n) (h1 : n ≤ 32768) : ∃ (c x : Int) (e : Nat) (b p : Int), distC n = (c, x, (e : Int)) ∧ baseS DT c = (b, (e : Int), true) ∧ b + x = n ∧ 0 ≤ x ∧ x < p ∧ p = 2 ^ e ∧ p ≤ 8192 ∧ e ≤ 13 ∧ 0 ≤ c ∧ c ≤ 29 ∧ 1 ≤ b ∧ b ≤ 32768 := by
  unfold distC
  by_cases g13 : 16385 ≤ n
  · refine ⟨28 + (n - 16385) / 8192, (n - 16385) % 8192, 13, 16385 + ((n - 16385) / 8192) * 8192, 8192, ?_, ?_, by omega, by omega, by omega, by decide, by omega, by omega, by omega, by omega, by omega, by omega⟩
    · simp only [DT, List.reverse_cons, List.reverse_nil, List.nil_append, List.cons_append]
      rw [ofS_hit _ _ _ (by simp; omega)]
      rfl
    · simp only [DT]
      rw [baseS_miss _ _ _ (by simp; omega), baseS_miss _ _ _ (by simp; omega), baseS_miss _ _ _ (by simp; omega), baseS_miss _ _ _ (by simp; omega), baseS_miss _ _ _ (by simp; omega), baseS_miss _ _ _ (by simp; omega), baseS_miss _ _ _ (by simp; omega), baseS_miss _ _ _ (by simp; omega), baseS_miss _ _ _ (by simp; omega), baseS_miss _ _ _ (by simp; omega), baseS_miss _ _ _ (by simp; omega), baseS_miss _ _ _ (by simp; omega), baseS_miss _ _ _ (by simp; omega), baseS_hit _ _ _ (by simp; omega) (by simp; omega)]
      show (16385 + (28 + (n - 16385) / 8192 - 28) * 8192, (13 : Int), true) = _
      rw [show (28 + (n - 16385) / 8192 - 28 : Int) = (n - 16385) / 8192 from by omega]
      rfl
  by_cases g12 : 8193 ≤ n
  · refine ⟨26 + (n - 8193) / 4096, (n - 8193) % 4096, 12, 8193 + ((n - 8193) / 4096) * 4096, 4096, ?_, ?_, by omega, by omega, by omega, by decide, by omega, by omega, by omega, by omega, by omega, by omega⟩
    · simp only [DT, List.reverse_cons, List.reverse_nil, List.nil_append, List.cons_append]
      rw [ofS_miss _ _ _ (by simp; omega), ofS_hit _ _ _ (by simp; omega)]
      rfl
    · simp only [DT]
      rw [baseS_miss _ _ _ (by simp; omega), baseS_miss _ _ _ (by simp; omega), baseS_miss _ _ _ (by simp; omega), baseS_miss _ _ _ (by simp; omega), baseS_miss _ _ _ (by simp; omega), baseS_miss _ _ _ (by simp; omega), baseS_miss _ _ _ (by simp; omega), baseS_miss _ _ _ (by simp; omega), baseS_miss _ _ _ (by simp; omega), baseS_miss _ _ _ (by simp; omega), baseS_miss _ _ _ (by simp; omega), baseS_miss _ _ _ (by simp; omega), baseS_hit _ _ _ (by simp; omega) (by simp; omega)]
      show (8193 + (26 + (n - 8193) / 4096 - 26) * 4096, (12 : Int), true) = _
      rw [show (26 + (n - 8193) / 4096 - 26 : Int) = (n - 8193) / 4096 from by omega]
      rfl
  by_cases g11 : 4097 ≤ n
  · refine ⟨24 + (n - 4097) / 2048, (n - 4097) % 2048, 11, 4097 + ((n - 4097) / 2048) * 2048, 2048, ?_, ?_, by omega, by omega, by omega, by decide, by omega, by omega, by omega, by omega, by omega, by omega⟩
    · simp only [DT, List.reverse_cons, List.reverse_nil, List.nil_append, List.cons_append]
      rw [ofS_miss _ _ _ (by simp; omega), ofS_miss _ _ _ (by simp; omega), ofS_hit _ _ _ (by simp; omega)]
      rfl
    · simp only [DT]
      rw [baseS_miss _ _ _ (by simp; omega), baseS_miss _ _ _ (by simp; omega), baseS_miss _ _ _ (by simp; omega), baseS_miss _ _ _ (by simp; omega), baseS_miss _ _ _ (by simp; omega), baseS_miss _ _ _ (by simp; omega), baseS_miss _ _ _ (by simp; omega), baseS_miss _ _ _ (by simp; omega), baseS_miss _ _ _ (by simp; omega), baseS_miss _ _ _ (by simp; omega), baseS_miss _ _ _ (by simp; omega), baseS_hit _ _ _ (by simp; omega) (by simp; omega)]
      show (4097 + (24 + (n - 4097) / 2048 - 24) * 2048, (11 : Int), true) = _
      rw [show (24 + (n - 4097) / 2048 - 24 : Int) = (n - 4097) / 2048 from by omega]
      rfl
  by_cases g10 : 2049 ≤ n
  · refine ⟨22 + (n - 2049) / 1024, (n - 2049) % 1024, 10, 2049 + ((n - 2049) / 1024) * 1024, 1024, ?_, ?_, by omega, by omega, by omega, by decide, by omega, by omega, by omega, by omega, by omega, by omega⟩
    · simp only [DT, List.reverse_cons, List.reverse_nil, List.nil_append, List.cons_append]
      rw [ofS_miss _ _ _ (by simp; omega), ofS_miss _ _ _ (by simp; omega), ofS_miss _ _ _ (by simp; omega), ofS_hit _ _ _ (by simp; omega)]
      rfl
    · simp only [DT]
      rw [baseS_miss _ _ _ (by simp; omega), baseS_miss _ _ _ (by simp; omega), baseS_miss _ _ _ (by simp; omega), baseS_miss _ _ _ (by simp; omega), baseS_miss _ _ _ (by simp; omega), baseS_miss _ _ _ (by simp; omega), baseS_miss _ _ _ (by simp; omega), baseS_miss _ _ _ (by simp; omega), baseS_miss _ _ _ (by simp; omega), baseS_miss _ _ _ (by simp; omega), baseS_hit _ _ _ (by simp; omega) (by simp; omega)]
      show (2049 + (22 + (n - 2049) / 1024 - 22) * 1024, (10 : Int), true) = _
      rw [show (22 + (n - 2049) / 1024 - 22 : Int) = (n - 2049) / 1024 from by omega]
      rfl
  by_cases g9 : 1025 ≤ n
  · refine ⟨20 + (n - 1025) / 512, (n - 1025) % 512, 9, 1025 + ((n - 1025) / 512) * 512, 512, ?_, ?_, by omega, by omega, by omega, by decide, by omega, by omega, by omega, by omega, by omega, by omega⟩
    · simp only [DT, List.reverse_cons, List.reverse_nil, List.nil_append, List.cons_append]
      rw [ofS_miss _ _ _ (by simp; omega), ofS_miss _ _ _ (by simp; omega), ofS_miss _ _ _ (by simp; omega), ofS_miss _ _ _ (by simp; omega), ofS_hit _ _ _ (by simp; omega)]
      rfl
    · simp only [DT]
      rw [baseS_miss _ _ _ (by simp; omega), baseS_miss _ _ _ (by simp; omega), baseS_miss _ _ _ (by simp; omega), baseS_miss _ _ _ (by simp; omega), baseS_miss _ _ _ (by simp; omega), baseS_miss _ _ _ (by simp; omega), baseS_miss _ _ _ (by simp; omega), baseS_miss _ _ _ (by simp; omega), baseS_miss _ _ _ (by simp; omega), baseS_hit _ _ _ (by simp; omega) (by simp; omega)]
      show (1025 + (20 + (n - 1025) / 512 - 20) * 512, (9 : Int), true) = _
      rw [show (20 + (n - 1025) / 512 - 20 : Int) = (n - 1025) / 512 from by omega]
      rfl
  by_cases g8 : 513 ≤ n
  · refine ⟨18 + (n - 513) / 256, (n - 513) % 256, 8, 513 + ((n - 513) / 256) * 256, 256, ?_, ?_, by omega, by omega, by omega, by decide, by omega, by omega, by omega, by omega, by omega, by omega⟩
    · simp only [DT, List.reverse_cons, List.reverse_nil, List.nil_append, List.cons_append]
      rw [ofS_miss _ _ _ (by simp; omega), ofS_miss _ _ _ (by simp; omega), ofS_miss _ _ _ (by simp; omega), ofS_miss _ _ _ (by simp; omega), ofS_miss _ _ _ (by simp; omega), ofS_hit _ _ _ (by simp; omega)]
      rfl
    · simp only [DT]
      rw [baseS_miss _ _ _ (by simp; omega), baseS_miss _ _ _ (by simp; omega), baseS_miss _ _ _ (by simp; omega), baseS_miss _ _ _ (by simp; omega), baseS_miss _ _ _ (by simp; omega), baseS_miss _ _ _ (by simp; omega), baseS_miss _ _ _ (by simp; omega), baseS_miss _ _ _ (by simp; omega), baseS_hit _ _ _ (by simp; omega) (by simp; omega)]
      show (513 + (18 + (n - 513) / 256 - 18) * 256, (8 : Int), true) = _
      rw [show (18 + (n - 513) / 256 - 18 : Int) = (n - 513) / 256 from by omega]
      rfl
  by_cases g7 : 257 ≤ n
  · refine ⟨16 + (n - 257) / 128, (n - 257) % 128, 7, 257 + ((n - 257) / 128) * 128, 128, ?_, ?_, by omega, by omega, by omega, by decide, by omega, by omega, by omega, by omega, by omega, by omega⟩
    · simp only [DT, List.reverse_cons, List.reverse_nil, List.nil_append, List.cons_append]
      rw [ofS_miss _ _ _ (by simp; omega), ofS_miss _ _ _ (by simp; omega), ofS_miss _ _ _ (by simp; omega), ofS_miss _ _ _ (by simp; omega), ofS_miss _ _ _ (by simp; omega), ofS_miss _ _ _ (by simp; omega), ofS_hit _ _ _ (by simp; omega)]
      rfl
    · simp only [DT]
      rw [baseS_miss _ _ _ (by simp; omega), baseS_miss _ _ _ (by simp; omega), baseS_miss _ _ _ (by simp; omega), baseS_miss _ _ _ (by simp; omega), baseS_miss _ _ _ (by simp; omega), baseS_miss _ _ _ (by simp; omega), baseS_miss _ _ _ (by simp; omega), baseS_hit _ _ _ (by simp; omega) (by simp; omega)]
      show (257 + (16 + (n - 257) / 128 - 16) * 128, (7 : Int), true) = _
      rw [show (16 + (n - 257) / 128 - 16 : Int) = (n - 257) / 128 from by omega]
      rfl
  by_cases g6 : 129 ≤ n
  · refine ⟨14 + (n - 129) / 64, (n - 129) % 64, 6, 129 + ((n - 129) / 64) * 64, 64, ?_, ?_, by omega, by omega, by omega, by decide, by omega, by omega, by omega, by omega, by omega, by omega⟩
    · simp only [DT, List.reverse_cons, List.reverse_nil, List.nil_append, List.cons_append]
      rw [ofS_miss _ _ _ (by simp; omega), ofS_miss _ _ _ (by simp; omega), ofS_miss _ _ _ (by simp; omega), ofS_miss _ _ _ (by simp; omega), ofS_miss _ _ _ (by simp; omega), ofS_miss _ _ _ (by simp; omega), ofS_miss _ _ _ (by simp; omega), ofS_hit _ _ _ (by simp; omega)]
      rfl
    · simp only [DT]
      rw [baseS_miss _ _ _ (by simp; omega), baseS_miss _ _ _ (by simp; omega), baseS_miss _ _ _ (by simp; omega), baseS_miss _ _ _ (by simp; omega), baseS_miss _ _ _ (by simp; omega), baseS_miss _ _ _ (by simp; omega), baseS_hit _ _ _ (by simp; omega) (by simp; omega)]
      show (129 + (14 + (n - 129) / 64 - 14) * 64, (6 : Int), true) = _
      rw [show (14 + (n - 129) / 64 - 14 : Int) = (n - 129) / 64 from by omega]
      rfl
  by_cases g5 : 65 ≤ n
  · refine ⟨12 + (n - 65) / 32, (n - 65) % 32, 5, 65 + ((n - 65) / 32) * 32, 32, ?_, ?_, by omega, by omega, by omega, by decide, by omega, by omega, by omega, by omega, by omega, by omega⟩
    · simp only [DT, List.reverse_cons, List.reverse_nil, List.nil_append, List.cons_append]
      rw [ofS_miss _ _ _ (by simp; omega), ofS_miss _ _ _ (by simp; omega), ofS_miss _ _ _ (by simp; omega), ofS_miss _ _ _ (by simp; omega), ofS_miss _ _ _ (by simp; omega), ofS_miss _ _ _ (by simp; omega), ofS_miss _ _ _ (by simp; omega), ofS_miss _ _ _ (by simp; omega), ofS_hit _ _ _ (by simp; omega)]
      rfl
    · simp only [DT]
      rw [baseS_miss _ _ _ (by simp; omega), baseS_miss _ _ _ (by simp; omega), baseS_miss _ _ _ (by simp; omega), baseS_miss _ _ _ (by simp; omega), baseS_miss _ _ _ (by simp; omega), baseS_hit _ _ _ (by simp; omega) (by simp; omega)]
      show (65 + (12 + (n - 65) / 32 - 12) * 32, (5 : Int), true) = _
      rw [show (12 + (n - 65) / 32 - 12 : Int) = (n - 65) / 32 from by omega]
      rfl
  by_cases g4 : 33 ≤ n
  · refine ⟨10 + (n - 33) / 16, (n - 33) % 16, 4, 33 + ((n - 33) / 16) * 16, 16, ?_, ?_, by omega, by omega, by omega, by decide, by omega, by omega, by omega, by omega, by omega, by omega⟩
    · simp only [DT, List.reverse_cons, List.reverse_nil, List.nil_append, List.cons_append]
      rw [ofS_miss _ _ _ (by simp; omega), ofS_miss _ _ _ (by simp; omega), ofS_miss _ _ _ (by simp; omega), ofS_miss _ _ _ (by simp; omega), ofS_miss _ _ _ (by simp; omega), ofS_miss _ _ _ (by simp; omega), ofS_miss _ _ _ (by simp; omega), ofS_miss _ _ _ (by simp; omega), ofS_miss _ _ _ (by simp; omega), ofS_hit _ _ _ (by simp; omega)]
      rfl
    · simp only [DT]
      rw [baseS_miss _ _ _ (by simp; omega), baseS_miss _ _ _ (by simp; omega), baseS_miss _ _ _ (by simp; omega), baseS_miss _ _ _ (by simp; omega), baseS_hit _ _ _ (by simp; omega) (by simp; omega)]
      show (33 + (10 + (n - 33) / 16 - 10) * 16, (4 : Int), true) = _
      rw [show (10 + (n - 33) / 16 - 10 : Int) = (n - 33) / 16 from by omega]
      rfl
  by_cases g3 : 17 ≤ n
  · refine ⟨8 + (n - 17) / 8, (n - 17) % 8, 3, 17 + ((n - 17) / 8) * 8, 8, ?_, ?_, by omega, by omega, by omega, by decide, by omega, by omega, by omega, by omega, by omega, by omega⟩
    · simp only [DT, List.reverse_cons, List.reverse_nil, List.nil_append, List.cons_append]
      rw [ofS_miss _ _ _ (by simp; omega), ofS_miss _ _ _ (by simp; omega), ofS_miss _ _ _ (by simp; omega), ofS_miss _ _ _ (by simp; omega), ofS_miss _ _ _ (by simp; omega), ofS_miss _ _ _ (by simp; omega), ofS_miss _ _ _ (by simp; omega), ofS_miss _ _ _ (by simp; omega), ofS_miss _ _ _ (by simp; omega), ofS_miss _ _ _ (by simp; omega), ofS_hit _ _ _ (by simp; omega)]
      rfl
    · simp only [DT]
      rw [baseS_miss _ _ _ (by simp; omega), baseS_miss _ _ _ (by simp; omega), baseS_miss _ _ _ (by simp; omega), baseS_hit _ _ _ (by simp; omega) (by simp; omega)]
      show (17 + (8 + (n - 17) / 8 - 8) * 8, (3 : Int), true) = _
      rw [show (8 + (n - 17) / 8 - 8 : Int) = (n - 17) / 8 from by omega]
      rfl
  by_cases g2 : 9 ≤ n
  · refine ⟨6 + (n - 9) / 4, (n - 9) % 4, 2, 9 + ((n - 9) / 4) * 4, 4, ?_, ?_, by omega, by omega, by omega, by decide, by omega, by omega, by omega, by omega, by omega, by omega⟩
    · simp only [DT, List.reverse_cons, List.reverse_nil, List.nil_append, List.cons_append]
      rw [ofS_miss _ _ _ (by simp; omega), ofS_miss _ _ _ (by simp; omega), ofS_miss _ _ _ (by simp; omega), ofS_miss _ _ _ (by simp; omega), ofS_miss _ _ _ (by simp; omega), ofS_miss _ _ _ (by simp; omega), ofS_miss _ _ _ (by simp; omega), ofS_miss _ _ _ (by simp; omega), ofS_miss _ _ _ (by simp; omega), ofS_miss _ _ _ (by simp; omega), ofS_miss _ _ _ (by simp; omega), ofS_hit _ _ _ (by simp; omega)]
      rfl
    · simp only [DT]
      rw [baseS_miss _ _ _ (by simp; omega), baseS_miss _ _ _ (by simp; omega), baseS_hit _ _ _ (by simp; omega) (by simp; omega)]
      show (9 + (6 + (n - 9) / 4 - 6) * 4, (2 : Int), true) = _
      rw [show (6 + (n - 9) / 4 - 6 : Int) = (n - 9) / 4 from by omega]
      rfl
  by_cases g1 : 5 ≤ n
  · refine ⟨4 + (n - 5) / 2, (n - 5) % 2, 1, 5 + ((n - 5) / 2) * 2, 2, ?_, ?_, by omega, by omega, by omega, by decide, by omega, by omega, by omega, by omega, by omega, by omega⟩
    · simp only [DT, List.reverse_cons, List.reverse_nil, List.nil_append, List.cons_append]
      rw [ofS_miss _ _ _ (by simp; omega), ofS_miss _ _ _ (by simp; omega), ofS_miss _ _ _ (by simp; omega), ofS_miss _ _ _ (by simp; omega), ofS_miss _ _ _ (by simp; omega), ofS_miss _ _ _ (by simp; omega), ofS_miss _ _ _ (by simp; omega), ofS_miss _ _ _ (by simp; omega), ofS_miss _ _ _ (by simp; omega), ofS_miss _ _ _ (by simp; omega), ofS_miss _ _ _ (by simp; omega), ofS_miss _ _ _ (by simp; omega), ofS_hit _ _ _ (by simp; omega)]
      rfl
    · simp only [DT]
      rw [baseS_miss _ _ _ (by simp; omega), baseS_hit _ _ _ (by simp; omega) (by simp; omega)]
      show (5 + (4 + (n - 5) / 2 - 4) * 2, (1 : Int), true) = _
      rw [show (4 + (n - 5) / 2 - 4 : Int) = (n - 5) / 2 from by omega]
      rfl
  · refine ⟨0 + (n - 1) / 1, (n - 1) % 1, 0, 1 + ((n - 1) / 1) * 1, 1, ?_, ?_, by omega, by omega, by omega, by decide, by omega, by omega, by omega, by omega, by omega, by omega⟩
    · simp only [DT, List.reverse_cons, List.reverse_nil, List.nil_append, List.cons_append]
      rw [ofS_miss _ _ _ (by simp; omega), ofS_miss _ _ _ (by simp; omega), ofS_miss _ _ _ (by simp; omega), ofS_miss _ _ _ (by simp; omega), ofS_miss _ _ _ (by simp; omega), ofS_miss _ _ _ (by simp; omega), ofS_miss _ _ _ (by simp; omega), ofS_miss _ _ _ (by simp; omega), ofS_miss _ _ _ (by simp; omega), ofS_miss _ _ _ (by simp; omega), ofS_miss _ _ _ (by simp; omega), ofS_miss _ _ _ (by simp; omega), ofS_miss _ _ _ (by simp; omega), ofS_hit _ _ _ (by simp; omega)]
      rfl
    · simp only [DT]
      rw [baseS_hit _ _ _ (by simp; omega) (by simp; omega)]
      show (1 + (0 + (n - 1) / 1 - 0) * 1, (0 : Int), true) = _
      rw [show (0 + (n - 1) / 1 - 0 : Int) = (n - 1) / 1 from by omega]
      rfl
theorem lenC_rise : ∀ i < 29, ∀ j < 29, i < j → (baseS LT (257 + (i : Nat))).1 + 2 ^ (baseS LT (257 + (i : Nat))).2.1.toNat ≤ (baseS LT (257 + (j : Nat))).1 + 1 := by decide +kernel
theorem lenC_mono (n : Int) (h0 : 3 < n) (h1 : n ≤ 258) : (lenC (n - 1)).1 ≤ (lenC n).1 := by
  obtain ⟨c, x, e, b, p, r1, r2, r3, r4, r5, r6, r7, r8, r9, r10, r11, r12⟩ := lenC_spec n (by omega) h1
  obtain ⟨c', x', e', b', p', s1, s2, s3, s4, s5, s6, s7, s8, s9, s10, s11, s12⟩ := lenC_spec (n - 1) (by omega) (by omega)
  rw [r1, s1]
  show c' ≤ c
  rcases Int.lt_or_le c c' with h | h
  · have hr := lenC_rise (c - 257).toNat (by omega) (c' - 257).toNat (by omega) (by omega)
    rw [show (257 + ((c - 257).toNat : Int)) = c from by omega, show (257 + ((c' - 257).toNat : Int)) = c' from by omega, r2, s2] at hr
    simp only [Int.toNat_natCast] at hr
    rw [← r6] at hr
    omega
  · exact h
theorem distC_rise : ∀ i < 30, ∀ j < 30, i < j → (baseS DT (0 + (i : Nat))).1 + 2 ^ (baseS DT (0 + (i : Nat))).2.1.toNat ≤ (baseS DT (0 + (j : Nat))).1 + 1 := by decide +kernel
theorem distC_mono (n : Int) (h0 : 1 < n) (h1 : n ≤ 32768) : (distC (n - 1)).1 ≤ (distC n).1 := by
  obtain ⟨c, x, e, b, p, r1, r2, r3, r4, r5, r6, r7, r8, r9, r10, r11, r12⟩ := distC_spec n (by omega) h1
  obtain ⟨c', x', e', b', p', s1, s2, s3, s4, s5, s6, s7, s8, s9, s10, s11, s12⟩ := distC_spec (n - 1) (by omega) (by omega)
  rw [r1, s1]
  show c' ≤ c
  rcases Int.lt_or_le c c' with h | h
  · have hr := distC_rise (c - 0).toNat (by omega) (c' - 0).toNat (by omega) (by omega)
    rw [show (0 + ((c - 0).toNat : Int)) = c from by omega, show (0 + ((c' - 0).toNat : Int)) = c' from by omega, r2, s2] at hr
    simp only [Int.toNat_natCast] at hr
    rw [← r6] at hr
    omega
  · exact h
theorem lenC_258 : lenC 258 = (285, 0, 0) := by decide +kernel
theorem lenC_257 : lenC 257 = (284, 30, 5) := by decide +kernel
theorem distC_32768 : distC 32768 = (29, 8191, 13) := by decide +kernel
theorem len_256 : baseS LT 256 = (0, 0, false) := by decide +kernel
theorem dist_30 : baseS DT 30 = (0, 0, false) := by decide +kernel
end Go.Proofs.Ytfibhkfpnnpbpaa.Codes
