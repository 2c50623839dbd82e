/- Digits out of packed bytes: plain lists and numbers, no Go. -/
import Derived.Test.YtihgekpijplfiaaRd
namespace Go.Proofs.Ytihgekpijplfiaa.Dig
open Go.Proofs.Ytihgekpijplfiaa.Pack Go.Proofs.Ytihgekpijplfiaa.Wr Go.Proofs.Ytihgekpijplfiaa.Rd
theorem pk_digit : ∀ (l : List Int), Bits01 l → ∀ j, pk l / 2 ^ j % 2 = l.getD j 0
  | [], _, j => by simp [pk]
  | d :: ds, h, 0 => by
    have hd := h d (List.mem_cons_self ..)
    simp only [pk, List.getD_cons_zero, Int.pow_zero, Int.ediv_one]
    omega
  | d :: ds, h, j + 1 => by
    have hd := h d (List.mem_cons_self ..)
    have e : (pk (d :: ds)) / 2 ^ (j + 1) = pk ds / 2 ^ j := by
      rw [Int.pow_succ, Int.mul_comm, ← Int.ediv_ediv_of_nonneg (by decide)]
      congr 1
      simp only [pk]
      omega
    rw [e, List.getD_cons_succ]
    exact pk_digit ds (fun x hx => h x (List.mem_cons_of_mem _ hx)) j
theorem getD_drop_take (ds : List Int) (n c i : Nat) (hi : i < c) : ((ds.drop n).take c).getD i 0 = ds.getD (n + i) 0 := by
  simp only [List.getD_eq_getElem?_getD]
  rw [List.getElem?_take, if_pos hi, List.getElem?_drop]
theorem bit_pack (ds : List Int) (h : Bits01 ds) (i : Nat) : bitAt (packB ds) i = ds.getD i 0 := by
  unfold bitAt
  by_cases hi : i / 8 < (ds.length + 7) / 8
  · rw [List.getD_eq_getElem?_getD, packB_get ds _ hi, Option.getD_some, pk_digit _ ((h.drop _).take _), getD_drop_take _ _ _ _ (Nat.mod_lt _ (by decide))]
    congr 1
    omega
  · rw [List.getD_eq_getElem?_getD, List.getElem?_eq_none (by rw [packB_length]; omega), List.getD_eq_getElem?_getD, List.getElem?_eq_none (by omega)]
    simp
theorem val_bits (bs : List Int) (n : Nat) : ∀ c, valAt bs n c = pk ((List.range c).map fun i => bitAt bs (n + i))
  | 0 => rfl
  | c + 1 => by
    rw [List.range_succ, List.map_append, List.map_cons, List.map_nil, pk_snoc, valAt, val_bits bs n c]
    simp
theorem val_pack (ds l : List Int) (h : Bits01 ds) (n : Nat) (hl : ∀ i, i < l.length → ds.getD (n + i) 0 = l.getD i 0) : valAt (packB ds) n l.length = pk l := by
  rw [val_bits]
  congr 1
  apply List.ext_getElem (by simp)
  intro i h1 h2
  simp only [List.getElem_map, List.getElem_range]
  rw [bit_pack ds h, hl i h2]
  simp [List.getD_eq_getElem?_getD, h2]
theorem lowD_length (v : Int) (c : Nat) : (lowD v c).length = c := by simp [lowD]
theorem highD_length (v : Int) (c : Nat) : (highD v c).length = c := by simp [highD]
theorem lowD_01 (v : Int) (c : Nat) : Bits01 (lowD v c) := by
  intro d hd
  obtain ⟨i, _, rfl⟩ := List.mem_map.1 hd
  exact dig v i
theorem highD_01 (v : Int) (c : Nat) : Bits01 (highD v c) := by
  intro d hd
  obtain ⟨i, _, rfl⟩ := List.mem_map.1 hd
  exact dig v _
theorem mod_pow_succ (v : Int) (c : Nat) : v % 2 ^ (c + 1) = v % 2 ^ c + v / 2 ^ c % 2 * 2 ^ c := by
  have hp : (0 : Int) < 2 ^ c := Int.pow_pos (by decide)
  have e2 : (2 : Int) ^ (c + 1) = 2 ^ c * 2 := Int.pow_succ ..
  rw [e2]
  generalize (2 : Int) ^ c = p at *
  have h1 := Int.mul_ediv_add_emod v p
  have h2 := Int.mul_ediv_add_emod (v / p) 2
  have h3 := Int.emod_nonneg v (show p ≠ 0 by omega)
  have h4 := Int.emod_lt_of_pos v hp
  have h5 := Int.emod_nonneg (v / p) (show (2 : Int) ≠ 0 by decide)
  have h6 := Int.emod_lt_of_pos (v / p) (show (0 : Int) < 2 by decide)
  have e : v = (v % p + v / p % 2 * p) + p * 2 * (v / p / 2) := by
    have : p * (v / p) = p * (2 * (v / p / 2) + v / p % 2) := by rw [h2]
    rw [Int.mul_add, ← Int.mul_assoc, Int.mul_comm p (v / p % 2)] at this
    omega
  have hb : v / p % 2 = 0 ∨ v / p % 2 = 1 := by omega
  generalize v / p / 2 = q at *
  generalize hr : v % p = r at *
  generalize hbb : v / p % 2 = b at *
  have e3 : v % (p * 2) = (r + b * p) % (p * 2) := by
    rw [e, Int.add_mul_emod_self_left]
  rw [e3]
  apply Int.emod_eq_of_lt
  · rcases hb with rfl | rfl <;> omega
  · rcases hb with rfl | rfl <;> omega
theorem pk_low (v : Int) : ∀ c, pk (lowD v c) = v % 2 ^ c
  | 0 => by simp [lowD, pk]
  | c + 1 => by
    have e : lowD v (c + 1) = lowD v c ++ [v / 2 ^ c % 2] := by simp [lowD, List.range_succ]
    rw [e, pk_snoc, pk_low v c, lowD_length, mod_pow_succ]
/-- A code read digit by digit, the highest first. -/
theorem code_step (v : Int) (c k : Nat) (hk : k < c) : v / 2 ^ (c - (k + 1)) % 2 ^ (k + 1) = 2 * (v / 2 ^ (c - k) % 2 ^ k) + v / 2 ^ (c - 1 - k) % 2 := by
  have e1 : c - k = (c - 1 - k) + 1 := by omega
  have e2 : c - (k + 1) = c - 1 - k := by omega
  rw [e1, e2, Int.pow_succ 2 (c - 1 - k), ← Int.ediv_ediv_of_nonneg (Int.pow_nonneg (by decide))]
  generalize v / 2 ^ (c - 1 - k) = m
  have hp : (0 : Int) < 2 ^ k := Int.pow_pos (by decide)
  rw [Int.pow_succ]
  generalize (2 : Int) ^ k = p at *
  have h1 := Int.mul_ediv_add_emod (m / 2) p
  have h2 := Int.mul_ediv_add_emod m 2
  have h3 := Int.emod_nonneg (m / 2) (show p ≠ 0 by omega)
  have h4 := Int.emod_lt_of_pos (m / 2) hp
  have e : m = (2 * (m / 2 % p) + m % 2) + p * 2 * (m / 2 / p) := by
    rw [Int.mul_comm p 2, Int.mul_assoc]
    omega
  have h5 := Int.emod_nonneg m (show (2 : Int) ≠ 0 by decide)
  have h6 := Int.emod_lt_of_pos m (show (0 : Int) < 2 by decide)
  generalize m / 2 % p = r at *
  generalize m % 2 = b at *
  generalize m / 2 / p = q at *
  rw [e, Int.add_mul_emod_self_left]
  exact Int.emod_eq_of_lt (by omega) (by omega)
/-- What BitsBack writes. -/
def vv (ns : List Int) (i : Nat) : Int := ns.getD i 0 % 65536
def cc (cs : List Int) (i : Nat) : Nat := (cs.getD i 0 % 17).toNat
def blk (ns cs : List Int) (i : Nat) : List Int := lowD (vv ns i) (cc cs i) ++ highD (vv ns i) (cc cs i)
def digs (ns cs : List Int) : Nat → List Int
  | 0 => []
  | i + 1 => digs ns cs i ++ blk ns cs i
theorem cc_le (cs : List Int) (i : Nat) : cc cs i ≤ 16 := by unfold cc; omega
theorem vv_rng (ns : List Int) (i : Nat) : 0 ≤ vv ns i ∧ vv ns i < 65536 := by unfold vv; omega
theorem blk_length (ns cs : List Int) (i : Nat) : (blk ns cs i).length = 2 * cc cs i := by simp [blk, lowD_length, highD_length]; omega
theorem digs_01 (ns cs : List Int) : ∀ i, Bits01 (digs ns cs i)
  | 0 => fun _ hd => (List.not_mem_nil hd).elim
  | i + 1 => (digs_01 ns cs i).app ((lowD_01 _ _).app (highD_01 _ _))
theorem digs_succ_length (ns cs : List Int) (i : Nat) : (digs ns cs (i + 1)).length = (digs ns cs i).length + 2 * cc cs i := by rw [digs, List.length_append, blk_length]
theorem digs_length_le (ns cs : List Int) : ∀ i, (digs ns cs i).length ≤ 32 * i
  | 0 => by simp [digs]
  | i + 1 => by have := digs_length_le ns cs i; have := cc_le cs i; rw [digs_succ_length]; omega
theorem digs_mono (ns cs : List Int) {i n : Nat} (h : i ≤ n) : (digs ns cs i).length ≤ (digs ns cs n).length := by
  induction n with
  | zero => obtain rfl : i = 0 := by omega
            exact Nat.le_refl _
  | succ n ih =>
    by_cases e : i = n + 1
    · subst e; exact Nat.le_refl _
    · have := ih (by omega); rw [digs_succ_length]; omega
theorem digs_get (ns cs : List Int) : ∀ n i k, i < n → k < 2 * cc cs i → (digs ns cs n).getD ((digs ns cs i).length + k) 0 = (blk ns cs i).getD k 0
  | 0, i, k, h, _ => absurd h (by omega)
  | n + 1, i, k, h, hk => by
    have hm := digs_succ_length ns cs i
    rw [digs]
    by_cases e : i = n
    · subst e
      simp only [List.getD_eq_getElem?_getD]
      rw [List.getElem?_append_right (by omega), Nat.add_sub_cancel_left]
    · have := digs_mono ns cs (show i + 1 ≤ n by omega)
      have ih := digs_get ns cs n i k (by omega) hk
      simp only [List.getD_eq_getElem?_getD] at ih ⊢
      rw [List.getElem?_append_left (by omega)]
      exact ih
theorem back_get (ns cs : List Int) (n i : Nat) (h : i < n) : valAt (packB (digs ns cs n)) (digs ns cs i).length (cc cs i) = vv ns i % 2 ^ cc cs i := by
  have h1 := val_pack (digs ns cs n) (lowD (vv ns i) (cc cs i)) (digs_01 ns cs n) (digs ns cs i).length (fun k hk => by
    rw [lowD_length] at hk
    rw [digs_get ns cs n i k h (by omega)]
    unfold blk
    simp only [List.getD_eq_getElem?_getD]
    rw [List.getElem?_append_left (by rw [lowD_length]; exact hk)])
  rw [lowD_length] at h1
  rw [h1, pk_low]
theorem back_bit (ns cs : List Int) (n i k : Nat) (h : i < n) (hk : k < cc cs i) : bitAt (packB (digs ns cs n)) ((digs ns cs i).length + cc cs i + k) = vv ns i / 2 ^ (cc cs i - 1 - k) % 2 := by
  rw [bit_pack _ (digs_01 ns cs n), Nat.add_assoc, digs_get ns cs n i (cc cs i + k) h (by omega)]
  unfold blk
  simp only [List.getD_eq_getElem?_getD]
  rw [List.getElem?_append_right (by rw [lowD_length]; omega), lowD_length, Nat.add_sub_cancel_left]
  simp [highD, hk]
theorem pk_noughts : ∀ l : List Int, (∀ x ∈ l, x = 0) → pk l = 0
  | [], _ => rfl
  | d :: ds, h => by
    simp only [pk]
    rw [pk_noughts ds (fun x hx => h x (List.mem_cons_of_mem _ hx)), h d (List.mem_cons_self ..)]
    rfl
theorem back_rest (ds : List Int) (h : Bits01 ds) (c : Nat) : valAt (packB ds) ds.length c = 0 := by
  rw [val_bits]
  apply pk_noughts
  intro x hx
  obtain ⟨i, _, rfl⟩ := List.mem_map.1 hx
  rw [bit_pack ds h, List.getD_eq_getElem?_getD, List.getElem?_eq_none (by omega)]
  rfl
end Go.Proofs.Ytihgekpijplfiaa.Dig
