/- Codes by their lengths: plain lists and numbers, no Go. -/
import Derived.Test.YtihgekpijplfiaaDig
namespace Go.Proofs.Ytihgekpijplfiaa.Hp
/-- How many have this length. -/
def cnt (ls : List Int) (n : Nat) : Nat := ls.countP (fun l => l == (n : Int))
/-- The number behind the last code of n digits. -/
def nxt (ls : List Int) : Nat → Nat
  | 0 => 0
  | n + 1 => 2 * nxt ls n + cnt ls (n + 1)
/-- A sign's length, and its code. -/
def lenOf (ls : List Int) (s : Nat) : Nat := (ls.getD s 0).toNat
def codeOf (ls : List Int) (s : Nat) : Nat := 2 * nxt ls (lenOf ls s - 1) + cnt (ls.take s) (lenOf ls s)
/-- What codes take. -/
def gK (n : Nat) (l : Int) : Nat := if 1 ≤ l ∧ l ≤ (n : Int) then 2 ^ (15 - l.toNat) else 0
def krf (ls : List Int) (n : Nat) : Nat := (ls.map (gK n)).sum
/-- How many codes. -/
def nz (ls : List Int) : Nat := ls.countP (fun l => decide (0 < l))
def inR (ls : List Int) : Bool := ls.all (fun l => decide (0 ≤ l ∧ l ≤ 15))
/-- Do they fit, and leave no room? -/
def okS (ls : List Int) : Bool := inR ls && decide (ls.length ≤ 320) && (decide (nz ls = 0) || (decide (nz ls = 1) && decide (krf ls 15 = 16384)) || decide (krf ls 15 = 32768))
theorem cnt_nil (n : Nat) : cnt [] n = 0 := rfl
theorem cnt_cons (l : Int) (ls : List Int) (n : Nat) : cnt (l :: ls) n = cnt ls n + (if l = (n : Int) then 1 else 0) := by
  unfold cnt
  rw [List.countP_cons]
  by_cases h : l = (n : Int) <;> simp [h]
theorem cnt_take_succ (ls : List Int) (n k : Nat) (hk : k < ls.length) : cnt (ls.take (k + 1)) n = cnt (ls.take k) n + (if ls.getD k 0 = (n : Int) then 1 else 0) := by
  unfold cnt
  rw [List.take_succ_eq_append_getElem hk, List.countP_append, List.countP_singleton]
  have e : ls.getD k 0 = ls[k] := by simp [List.getD_eq_getElem?_getD, hk]
  rw [e]
  by_cases h : ls[k] = (n : Int) <;> simp [h]
theorem cnt_take_all (ls : List Int) (n : Nat) : cnt (ls.take ls.length) n = cnt ls n := by rw [List.take_length]
theorem cnt_take_le (ls : List Int) (n : Nat) {i k : Nat} (h : i ≤ k) : cnt (ls.take i) n ≤ cnt (ls.take k) n := by
  unfold cnt
  exact List.Sublist.countP_le (List.take_sublist_take_left h)
theorem cnt_take_lt (ls : List Int) (n : Nat) {i k : Nat} (h : i < k) (hk : k ≤ ls.length) (hi : ls.getD i 0 = (n : Int)) : cnt (ls.take i) n < cnt (ls.take k) n := by
  have h1 := cnt_take_succ ls n i (by omega)
  have h2 := cnt_take_le ls n (show i + 1 ≤ k by omega)
  rw [if_pos hi] at h1
  omega
theorem cnt_take_le_all (ls : List Int) (n k : Nat) : cnt (ls.take k) n ≤ cnt ls n := by
  unfold cnt
  exact List.Sublist.countP_le (List.take_sublist k ls)
theorem gK_succ (n : Nat) (hn : n < 15) (l : Int) : gK (n + 1) l = gK n l + (if l = ((n + 1 : Nat) : Int) then 2 ^ (15 - (n + 1)) else 0) := by
  unfold gK
  by_cases h : l = ((n + 1 : Nat) : Int)
  · subst h
    rw [if_pos (by omega), if_neg (by omega), if_pos rfl, Int.toNat_natCast, Nat.zero_add]
  · rw [if_neg h]
    by_cases h1 : 1 ≤ l ∧ l ≤ (n : Int)
    · rw [if_pos h1, if_pos (by omega), Nat.add_zero]
    · rw [if_neg h1, if_neg (by omega)]
theorem krf_cons (l : Int) (ls : List Int) (n : Nat) : krf (l :: ls) n = gK n l + krf ls n := by simp [krf]
theorem krf_succ (n : Nat) (hn : n < 15) : ∀ ls : List Int, krf ls (n + 1) = krf ls n + cnt ls (n + 1) * 2 ^ (15 - (n + 1))
  | [] => by simp [krf, cnt]
  | l :: ls => by
    rw [krf_cons, krf_cons, krf_succ n hn ls, cnt_cons, gK_succ n hn l, Nat.add_mul]
    by_cases h : l = ((n + 1 : Nat) : Int)
    · rw [if_pos h, if_pos h]; omega
    · rw [if_neg h, if_neg h]; omega
theorem krf_zero (ls : List Int) : krf ls 0 = 0 := by
  induction ls with
  | nil => rfl
  | cons l ls ih => rw [krf_cons, ih]; unfold gK; rw [if_neg (by omega)]
/-- What the codes up to n digits take. -/
theorem nxt_krf (ls : List Int) : ∀ n, n ≤ 15 → nxt ls n * 2 ^ (15 - n) = krf ls n
  | 0, _ => by rw [krf_zero]; simp [nxt]
  | n + 1, h => by
    have e : 2 ^ (15 - n) = 2 * 2 ^ (15 - (n + 1)) := by
      rw [show 15 - n = (15 - (n + 1)) + 1 from by omega, Nat.pow_succ]; omega
    rw [krf_succ n (by omega), ← nxt_krf ls n (by omega), e, nxt, Nat.add_mul]
    congr 1
    rw [Nat.mul_comm 2 (nxt ls n), Nat.mul_assoc]
theorem krf_mono (ls : List Int) {n m : Nat} (h : n ≤ m) (hm : m ≤ 15) : krf ls n ≤ krf ls m := by
  induction m with
  | zero => obtain rfl : n = 0 := by omega
            exact Nat.le_refl _
  | succ m ih =>
    by_cases e : n = m + 1
    · subst e; exact Nat.le_refl _
    · have := ih (by omega) (by omega); rw [krf_succ m (by omega)]; omega
/-- Where they fit, the numbers do not run over. -/
theorem nxt_le (ls : List Int) (n : Nat) (hn : n ≤ 15) (hk : krf ls 15 ≤ 32768) : nxt ls n ≤ 2 ^ n := by
  have h1 := nxt_krf ls n hn
  have h2 := krf_mono ls hn (Nat.le_refl 15)
  have h3 : 2 ^ n * 2 ^ (15 - n) = 32768 := by rw [← Nat.pow_add, show n + (15 - n) = 15 from by omega]
  have hp : 0 < 2 ^ (15 - n) := Nat.pow_pos (by decide)
  refine Nat.le_of_mul_le_mul_right (c := 2 ^ (15 - n)) ?_ hp
  omega
theorem nxt_step (ls : List Int) (n : Nat) : 2 * nxt ls n ≤ nxt ls (n + 1) := by rw [nxt]; omega
theorem nxt_shift (ls : List Int) (m : Nat) : ∀ d, nxt ls m * 2 ^ d ≤ nxt ls (m + d)
  | 0 => by simp
  | d + 1 => by
    have h1 := nxt_shift ls m d
    have h2 := nxt_step ls (m + d)
    rw [Nat.pow_succ, ← Nat.mul_assoc, ← Nat.add_assoc]
    omega
theorem codeOf_lt (ls : List Int) (s : Nat) (hs : s < ls.length) (hl : 0 < ls.getD s 0) : codeOf ls s < nxt ls (lenOf ls s) := by
  obtain ⟨n, hn⟩ : ∃ n, lenOf ls s = n + 1 := ⟨lenOf ls s - 1, by unfold lenOf; omega⟩
  have he : ls.getD s 0 = ((n + 1 : Nat) : Int) := by unfold lenOf at hn; omega
  have h1 := cnt_take_lt ls (n + 1) (show s < ls.length from hs) (Nat.le_refl _) he
  rw [cnt_take_all] at h1
  unfold codeOf
  rw [hn, Nat.add_sub_cancel, nxt]
  omega
theorem codeOf_inj (ls : List Int) (s t : Nat) (hs : s < ls.length) (ht : t < ls.length) (hl : 0 < ls.getD s 0) (he : ls.getD s 0 = ls.getD t 0) (h : codeOf ls s = codeOf ls t) : s = t := by
  have hn : lenOf ls s = lenOf ls t := by unfold lenOf; rw [he]
  unfold codeOf at h
  rw [← hn] at h
  have h' : cnt (ls.take s) (lenOf ls s) = cnt (ls.take t) (lenOf ls s) := by omega
  have e1 : ls.getD s 0 = ((lenOf ls s : Nat) : Int) := by unfold lenOf; omega
  rcases Nat.lt_trichotomy s t with hst | hst | hst
  · have := cnt_take_lt ls (lenOf ls s) hst (by omega) e1; omega
  · exact hst
  · have := cnt_take_lt ls (lenOf ls s) hst (by omega) (he ▸ e1); omega
/-- A shorter code is no beginning of a longer one. -/
theorem prefix_free (ls : List Int) (s m : Nat) (hm : m < lenOf ls s) : nxt ls m ≤ codeOf ls s / 2 ^ (lenOf ls s - m) := by
  obtain ⟨d, hd⟩ : ∃ d, lenOf ls s = m + d + 1 := ⟨lenOf ls s - m - 1, by omega⟩
  have h1 := nxt_shift ls m d
  rw [hd, show m + d + 1 - m = d + 1 from by omega, Nat.le_div_iff_mul_le (Nat.pow_pos (by decide)), Nat.pow_succ, ← Nat.mul_assoc]
  unfold codeOf
  rw [hd, Nat.add_sub_cancel]
  omega
/-- The sign that has a code. -/
def lookS (ls : List Int) (c : Int) (n : Nat) : Option Nat := (List.range ls.length).find? (fun s => decide (ls.getD s 0 = (n : Int) ∧ (codeOf ls s : Int) = c))
theorem lookS_some {ls : List Int} {c : Int} {n s : Nat} (h : lookS ls c n = some s) : s < ls.length ∧ ls.getD s 0 = (n : Int) ∧ (codeOf ls s : Int) = c := by
  have h1 := List.find?_some h
  have h2 := List.mem_of_find?_eq_some h
  simp at h1
  exact ⟨List.mem_range.1 h2, h1⟩
theorem lookS_of {ls : List Int} {c : Int} {n s : Nat} (hn : 0 < n) (hs : s < ls.length) (h1 : ls.getD s 0 = (n : Int)) (h2 : (codeOf ls s : Int) = c) : lookS ls c n = some s := by
  cases h : lookS ls c n with
  | none =>
    unfold lookS at h
    rw [List.find?_eq_none] at h
    have := h s (List.mem_range.2 hs)
    simp at this
    exact absurd h2 (this h1)
  | some t =>
    obtain ⟨h3, h4, h5⟩ := lookS_some h
    rw [codeOf_inj ls s t hs h3 (by omega) (by rw [h1, h4]) (by omega)]
theorem lookS_none {ls : List Int} {c : Int} {n : Nat} (h : ∀ s, s < ls.length → ls.getD s 0 = (n : Int) → (codeOf ls s : Int) ≠ c) : lookS ls c n = none := by
  unfold lookS
  rw [List.find?_eq_none]
  intro s hs
  simp
  exact h s (List.mem_range.1 hs)
end Go.Proofs.Ytihgekpijplfiaa.Hp
