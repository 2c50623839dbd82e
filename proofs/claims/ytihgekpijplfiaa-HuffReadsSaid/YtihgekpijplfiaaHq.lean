/- What huff.New fills: the codes, cell by cell, and the entries of its map. Plain lists. -/
import Derived.Test.YtihgekpijplfiaaHp
import Derived.Test.YtihgekpijplfiaaKit
namespace Go.Proofs.Ytihgekpijplfiaa.Hp
set_option linter.unusedVariables false
/-- Entries of the codes of n digits, of the first k signs. -/
def lvl (ls : List Int) (n k : Nat) : List ((Int × Int) × Int) := (List.range k).filterMap (fun i => if ls.getD i 0 = (n : Int) then some (((codeOf ls i : Int), (n : Int)), (i : Int)) else none)
/-- Entries of the codes of up to n digits. -/
def ents (ls : List Int) : Nat → List ((Int × Int) × Int)
  | 0 => []
  | n + 1 => ents ls n ++ lvl ls (n + 1) ls.length
theorem lvl_succ_hit (ls : List Int) (n k : Nat) (h : ls.getD k 0 = (n : Int)) : lvl ls n (k + 1) = lvl ls n k ++ [(((codeOf ls k : Int), (n : Int)), (k : Int))] := by
  unfold lvl
  rw [List.range_succ, List.filterMap_append]
  congr 1
  simp only [List.filterMap_cons, List.filterMap_nil]
  rw [if_pos h]
theorem lvl_succ_miss (ls : List Int) (n k : Nat) (h : ls.getD k 0 ≠ (n : Int)) : lvl ls n (k + 1) = lvl ls n k := by
  unfold lvl
  rw [List.range_succ, List.filterMap_append]
  simp only [List.filterMap_cons, List.filterMap_nil]
  rw [if_neg h, List.append_nil]
theorem mem_lvl {ls : List Int} {n k : Nat} {x : (Int × Int) × Int} : x ∈ lvl ls n k ↔ ∃ i, i < k ∧ ls.getD i 0 = (n : Int) ∧ x = (((codeOf ls i : Int), (n : Int)), (i : Int)) := by
  unfold lvl
  rw [List.mem_filterMap]
  constructor
  · rintro ⟨i, hi, h⟩
    by_cases e : ls.getD i 0 = (n : Int)
    · rw [if_pos e] at h
      injection h with h
      exact ⟨i, List.mem_range.1 hi, e, h.symm⟩
    · rw [if_neg e] at h
      cases h
  · rintro ⟨i, hi, e, rfl⟩
    exact ⟨i, List.mem_range.2 hi, by rw [if_pos e]⟩
theorem mem_ents {ls : List Int} {x : (Int × Int) × Int} : ∀ {n : Nat}, x ∈ ents ls n ↔ ∃ m i, 1 ≤ m ∧ m ≤ n ∧ i < ls.length ∧ ls.getD i 0 = (m : Int) ∧ x = (((codeOf ls i : Int), (m : Int)), (i : Int))
  | 0 => by
    simp only [ents, List.not_mem_nil, false_iff]
    rintro ⟨m, i, h1, h2, _⟩
    omega
  | n + 1 => by
    simp only [ents, List.mem_append]
    rw [mem_ents (n := n), mem_lvl]
    constructor
    · rintro (⟨m, i, h1, h2, h3⟩ | ⟨i, h1, h2, h3⟩)
      · exact ⟨m, i, h1, by omega, h3⟩
      · exact ⟨n + 1, i, by omega, Nat.le_refl _, h1, h2, h3⟩
    · rintro ⟨m, i, h1, h2, h3, h4, h5⟩
      by_cases e : m = n + 1
      · subst e; exact .inr ⟨i, h3, h4, h5⟩
      · exact .inl ⟨m, i, h1, by omega, h3, h4, h5⟩
/-- A code that comes is none that is there. -/
theorem ents_new (ls : List Int) (n k : Nat) (hk : k < ls.length) (h : ls.getD k 0 = ((n + 1 : Nat) : Int)) : ∀ x ∈ ents ls n ++ lvl ls (n + 1) k, x.1 ≠ ((codeOf ls k : Int), ((n + 1 : Nat) : Int)) := by
  intro x hx e
  rcases List.mem_append.1 hx with hx | hx
  · obtain ⟨m, i, h1, h2, h3, h4, rfl⟩ := mem_ents.1 hx
    injection e with e1 e2
    have : m = n + 1 := by omega
    omega
  · obtain ⟨i, h1, h2, rfl⟩ := mem_lvl.1 hx
    injection e with e1 e2
    have := codeOf_inj ls i k (by omega) hk (by omega) (by rw [h2, h]) (by omega)
    omega
/-- A sign's code, where its length has come already. -/
def cdAt (ls : List Int) (n k i : Nat) : Int × Int := if 1 ≤ ls.getD i 0 ∧ (ls.getD i 0 ≤ (n : Int) ∨ ls.getD i 0 = ((n + 1 : Nat) : Int) ∧ i < k) then ((codeOf ls i : Int), ls.getD i 0) else (0, 0)
def cdL (ls : List Int) (n k : Nat) : List (Int × Int) := (List.range ls.length).map (cdAt ls n k)
theorem cdL_length (ls : List Int) (n k : Nat) : (cdL ls n k).length = ls.length := by simp [cdL]
theorem cdL_get (ls : List Int) (n k i : Nat) (hi : i < ls.length) : (cdL ls n k)[i]? = some (cdAt ls n k i) := by simp [cdL, hi]
theorem cdL_zero (ls : List Int) : cdL ls 0 0 = List.replicate ls.length (0, 0) := by
  apply List.ext_getElem? 
  intro i
  by_cases hi : i < ls.length
  · rw [cdL_get _ _ _ _ hi, List.getElem?_replicate, if_pos hi]
    unfold cdAt
    rw [if_neg (by omega)]
  · rw [List.getElem?_eq_none (by rw [cdL_length]; omega), List.getElem?_eq_none (by simp; omega)]
theorem cdL_next (ls : List Int) (n : Nat) : cdL ls n ls.length = cdL ls (n + 1) 0 := by
  unfold cdL
  apply List.map_congr_left
  intro i hi
  have hi := List.mem_range.1 hi
  unfold cdAt
  by_cases h : 1 ≤ ls.getD i 0 ∧ ls.getD i 0 ≤ ((n + 1 : Nat) : Int)
  · rw [if_pos ⟨h.1, by omega⟩, if_pos ⟨h.1, .inl h.2⟩]
  · rw [if_neg (by omega), if_neg (by omega)]
theorem cdL_miss (ls : List Int) (n k : Nat) (h : ls.getD k 0 ≠ ((n + 1 : Nat) : Int)) : cdL ls n (k + 1) = cdL ls n k := by
  unfold cdL
  apply List.map_congr_left
  intro i hi
  unfold cdAt
  by_cases e : i = k
  · subst e
    by_cases h2 : 1 ≤ ls.getD i 0 ∧ ls.getD i 0 ≤ (n : Int)
    · rw [if_pos ⟨h2.1, .inl h2.2⟩, if_pos ⟨h2.1, .inl h2.2⟩]
    · rw [if_neg (by omega), if_neg (by omega)]
  · by_cases h2 : 1 ≤ ls.getD i 0 ∧ (ls.getD i 0 ≤ (n : Int) ∨ ls.getD i 0 = ((n + 1 : Nat) : Int) ∧ i < k)
    · rw [if_pos (by omega), if_pos h2]
    · rw [if_neg (by omega), if_neg h2]
theorem cdL_hit (ls : List Int) (n k : Nat) (hk : k < ls.length) (h : ls.getD k 0 = ((n + 1 : Nat) : Int)) : cdL ls n (k + 1) = (cdL ls n k).set k ((codeOf ls k : Int), ((n + 1 : Nat) : Int)) := by
  apply List.ext_getElem?
  intro i
  by_cases hi : i < ls.length
  · rw [cdL_get _ _ _ _ hi]
    by_cases e : i = k
    · subst e
      rw [List.getElem?_set_self (by rw [cdL_length]; exact hi)]
      unfold cdAt
      rw [if_pos (by omega), h]
    · rw [List.getElem?_set_ne (fun e2 => e e2.symm), cdL_get _ _ _ _ hi]
      unfold cdAt
      by_cases h2 : 1 ≤ ls.getD i 0 ∧ (ls.getD i 0 ≤ (n : Int) ∨ ls.getD i 0 = ((n + 1 : Nat) : Int) ∧ i < k)
      · rw [if_pos (by omega), if_pos h2]
      · rw [if_neg (by omega), if_neg h2]
  · rw [List.getElem?_eq_none (by rw [cdL_length]; omega), List.getElem?_eq_none (by rw [List.length_set, cdL_length]; omega)]
/-- Codes as cells. -/
def cellsOf (l : List (Int × Int)) : List Value := l.flatMap (fun p => [.int .i64 p.1, .int .i64 p.2])
theorem cellsOf_length : ∀ l : List (Int × Int), (cellsOf l).length = 2 * l.length
  | [] => rfl
  | p :: l => by
    have := cellsOf_length l
    simp [cellsOf] at this ⊢
    omega
theorem cellsOf_cons (p : Int × Int) (l : List (Int × Int)) : cellsOf (p :: l) = .int .i64 p.1 :: .int .i64 p.2 :: cellsOf l := by simp [cellsOf]
theorem cellsOf_set : ∀ (l : List (Int × Int)) (k : Nat) (p : Int × Int), k < l.length → cellsOf (l.set k p) = ((cellsOf l).set (2 * k) (.int .i64 p.1)).set (2 * k + 1) (.int .i64 p.2)
  | [], _, _, h => absurd h (by simp)
  | q :: l, 0, p, _ => by rw [List.set_cons_zero, cellsOf_cons, cellsOf_cons]; rfl
  | q :: l, k + 1, p, h => by
    rw [List.set_cons_succ, cellsOf_cons, cellsOf_cons, cellsOf_set l k p (by simpa using h)]
    rw [show 2 * (k + 1) = 2 * k + 1 + 1 from by omega, show 2 * k + 1 + 1 + 1 = (2 * k + 1) + 1 + 1 from rfl]
    simp [List.set_cons_succ]
theorem cellsOf_get0 : ∀ (l : List (Int × Int)) (k : Nat) (p : Int × Int), l[k]? = some p → (cellsOf l)[2 * k]? = some (.int .i64 p.1)
  | [], _, _, h => by simp at h
  | q :: l, 0, p, h => by simp at h; subst h; rw [cellsOf_cons]; rfl
  | q :: l, k + 1, p, h => by
    rw [cellsOf_cons, show 2 * (k + 1) = 2 * k + 1 + 1 from by omega, List.getElem?_cons_succ, List.getElem?_cons_succ]
    exact cellsOf_get0 l k p (by simpa using h)
theorem cellsOf_get1 : ∀ (l : List (Int × Int)) (k : Nat) (p : Int × Int), l[k]? = some p → (cellsOf l)[2 * k + 1]? = some (.int .i64 p.2)
  | [], _, _, h => by simp at h
  | q :: l, 0, p, h => by simp at h; subst h; rw [cellsOf_cons]; rfl
  | q :: l, k + 1, p, h => by
    rw [cellsOf_cons, show 2 * (k + 1) + 1 = 2 * k + 1 + 1 + 1 from by omega, List.getElem?_cons_succ, List.getElem?_cons_succ]
    exact cellsOf_get1 l k p (by simpa using h)
theorem cellsOf_zero (n : Nat) : cellsOf (List.replicate n (0, 0)) = List.replicate (2 * n) (.int .i64 0) := by
  induction n with
  | zero => rfl
  | succ n ih => rw [List.replicate_succ, cellsOf_cons, ih, show 2 * (n + 1) = 2 * n + 1 + 1 from by omega, List.replicate_succ, List.replicate_succ]
theorem codeOf_eq (ls : List Int) (n k : Nat) (h : ls.getD k 0 = ((n + 1 : Nat) : Int)) : codeOf ls k = 2 * nxt ls n + cnt (ls.take k) (n + 1) := by
  have e : lenOf ls k = n + 1 := by unfold lenOf; omega
  unfold codeOf
  rw [e, Nat.add_sub_cancel]
theorem nxt_end (ls : List Int) (n : Nat) : 2 * nxt ls n + cnt (ls.take ls.length) (n + 1) = nxt ls (n + 1) := by rw [cnt_take_all, nxt]
theorem nxt_mid (ls : List Int) (n k : Nat) : 2 * nxt ls n + cnt (ls.take k) (n + 1) ≤ nxt ls (n + 1) := by
  have := cnt_take_le_all ls (n + 1) k
  rw [nxt]
  omega
end Go.Proofs.Ytihgekpijplfiaa.Hp
