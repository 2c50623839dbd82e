/- Digits packed into bytes, the lowest first: plain lists, no Go. -/
import Derived.Laws.BitsLemmas
namespace Go.Proofs.Ytihgekpijplfiaa.Pack
/-- Digits as a number, the lowest first. -/
def pk : List Int → Int
  | [] => 0
  | d :: ds => d + 2 * pk ds
def packB (ds : List Int) : List Int := (List.range ((ds.length + 7) / 8)).map (fun j => pk ((ds.drop (8 * j)).take 8))
def Bits01 (ds : List Int) : Prop := ∀ d ∈ ds, d = 0 ∨ d = 1
theorem Bits01.app {a b : List Int} (h : Bits01 a) (k : Bits01 b) : Bits01 (a ++ b) := fun d hd => (List.mem_append.1 hd).elim (h d) (k d)
theorem Bits01.drop {a : List Int} (h : Bits01 a) (n : Nat) : Bits01 (a.drop n) := fun d hd => h d (List.mem_of_mem_drop hd)
theorem Bits01.take {a : List Int} (h : Bits01 a) (n : Nat) : Bits01 (a.take n) := fun d hd => h d (List.mem_of_mem_take hd)
theorem pk_snoc (d : Int) : ∀ ds : List Int, pk (ds ++ [d]) = pk ds + d * 2 ^ ds.length
  | [] => by simp [pk]
  | e :: ds => by
    simp only [List.cons_append, pk, pk_snoc d ds, List.length_cons, Int.pow_succ]
    rw [Int.mul_add, ← Int.mul_assoc d, Int.mul_comm (d * 2 ^ ds.length) 2, Int.add_assoc]
theorem pk_range : ∀ ds : List Int, Bits01 ds → 0 ≤ pk ds ∧ pk ds < 2 ^ ds.length
  | [], _ => by simp [pk]
  | d :: ds, h => by
    obtain ⟨a, b⟩ := pk_range ds (fun e he => h e (List.mem_cons_of_mem _ he))
    have hd := h d (List.mem_cons_self ..)
    simp only [pk, List.length_cons, Int.pow_succ]
    generalize (2 : Int) ^ ds.length = p at *
    rcases hd with rfl | rfl <;> omega
theorem packB_length (ds : List Int) : (packB ds).length = (ds.length + 7) / 8 := by simp [packB]
theorem packB_get (ds : List Int) (j : Nat) (h : j < (ds.length + 7) / 8) : (packB ds)[j]? = some (pk ((ds.drop (8 * j)).take 8)) := by simp [packB, h]
theorem u8_or_high (x one : Int) (r : Nat) (hr : r < 8) (h0 : 0 ≤ x) (h1 : x < 2 ^ r) (h2 : one = 0 ∨ one = 1) : bits .or .u8 x (one * 2 ^ r % 256) = x + one * 2 ^ r := by
  have hp : ∀ r < 8, (2 : Int) ^ r % 256 = 2 ^ r ∧ (2 : Int) ^ r ≤ 128 ∧ (2 : Int) ^ r * 2 ≤ 256 := by decide
  obtain ⟨p1, p2, p3⟩ := hp r hr
  have hx8 : x < 256 := by generalize (2 : Int) ^ r = p at *; omega
  rcases h2 with rfl | rfl
  · rw [Int.zero_mul, Int.zero_emod, Int.add_zero]
    obtain ⟨a, rfl⟩ := Int.eq_ofNat_of_zero_le h0
    have := (bits_nat .u8 8 (by decide) wraps_u8 a 0 (by omega) (by omega)).2
    rw [Nat.or_zero] at this
    exact this
  · rw [Int.one_mul, p1]
    obtain ⟨a, rfl⟩ := Int.eq_ofNat_of_zero_le h0
    have ha : a < 2 ^ r := by exact_mod_cast h1
    have hr2 : (2 : Nat) ^ r < 256 := by
      have : ((2 ^ r : Nat) : Int) ≤ 128 := by exact_mod_cast p2
      omega
    have h := (bits_nat .u8 8 (by decide) wraps_u8 a (2 ^ r) (by omega) (by omega)).2
    have e : ((2 ^ r : Nat) : Int) = (2 : Int) ^ r := by simp
    rw [e] at h
    rw [h, Nat.or_comm]
    have := Nat.two_pow_add_eq_or_of_lt ha 1
    rw [Nat.mul_one] at this
    rw [← this]
    simp
    omega
/-- One digit more, in the bytes: what bits.Writer's bit does to them. -/
def bitS (bs : List Int) (n : Nat) (one : Int) : List Int :=
  let b := if n = 8 * bs.length then bs ++ [0] else bs
  b.set (n / 8) (bits .or .u8 (b.getD (n / 8) 0) (one * 2 ^ (n % 8) % 256))
theorem bitS_pack (ds : List Int) (one : Int) (h : Bits01 ds) (h1 : one = 0 ∨ one = 1) : bitS (packB ds) ds.length one = packB (ds ++ [one]) := by
  have hlen := packB_length ds
  have hq : ds.length / 8 < (ds.length + 8) / 8 := by omega
  have hold : ∀ j, j < ds.length / 8 → ((ds ++ [one]).drop (8 * j)).take 8 = (ds.drop (8 * j)).take 8 := by
    intro j hj
    rw [List.drop_append_of_le_length (by omega), List.take_append_of_le_length (by rw [List.length_drop]; omega)]
  have hlast : ((ds ++ [one]).drop (8 * (ds.length / 8))).take 8 = ds.drop (8 * (ds.length / 8)) ++ [one] := by
    rw [List.drop_append_of_le_length (by omega), List.take_of_length_le (by simp; omega)]
  have hll : (ds.drop (8 * (ds.length / 8))).length = ds.length % 8 := by rw [List.length_drop]; omega
  have hr := pk_range _ (h.drop (8 * (ds.length / 8)))
  rw [hll] at hr
  have hor := u8_or_high _ one (ds.length % 8) (by omega) hr.1 hr.2 h1
  have hnew : pk (((ds ++ [one]).drop (8 * (ds.length / 8))).take 8) = pk (ds.drop (8 * (ds.length / 8))) + one * 2 ^ (ds.length % 8) := by
    rw [hlast, pk_snoc, hll]
  apply List.ext_getElem?
  intro j
  have hl2 : (packB (ds ++ [one])).length = ds.length / 8 + 1 := by rw [packB_length, List.length_append, List.length_singleton]; omega
  by_cases hfull : ds.length = 8 * (packB ds).length
  · have hb : (packB ds).length = ds.length / 8 := by omega
    unfold bitS
    rw [if_pos hfull]
    have hg : ((packB ds ++ [0]) : List Int).getD (ds.length / 8) 0 = 0 := by simp [List.getD_eq_getElem?_getD, ← hb]
    have hd0 : ds.drop (8 * (ds.length / 8)) = [] := List.drop_of_length_le (by omega)
    rw [hd0] at hor hnew
    simp only [pk] at hor hnew
    simp only [hg, hor]
    rcases Nat.lt_trichotomy j (ds.length / 8) with hj | hj | hj
    · rw [List.getElem?_set_ne (by omega), List.getElem?_append_left (by omega), packB_get ds j (by omega), packB_get _ j (by simp; omega), hold j hj]
    · subst hj
      rw [List.getElem?_set_self (by simp; omega), packB_get _ _ (by simp; omega), hnew]
    · rw [List.getElem?_eq_none (by simp; omega), List.getElem?_eq_none (by omega)]
  · have hb : (packB ds).length = ds.length / 8 + 1 := by omega
    unfold bitS
    rw [if_neg hfull]
    have hg : (packB ds).getD (ds.length / 8) 0 = pk (ds.drop (8 * (ds.length / 8))) := by
      rw [List.getD_eq_getElem?_getD, packB_get ds _ (by omega), List.take_of_length_le (by rw [hll]; omega)]; rfl
    simp only [hg, hor]
    rcases Nat.lt_trichotomy j (ds.length / 8) with hj | hj | hj
    · rw [List.getElem?_set_ne (by omega), packB_get ds j (by omega), packB_get _ j (by simp; omega), hold j hj]
    · subst hj
      rw [List.getElem?_set_self (by omega), packB_get _ _ (by simp; omega), hnew]
    · rw [List.getElem?_eq_none (by simp; omega), List.getElem?_eq_none (by omega)]
end Go.Proofs.Ytihgekpijplfiaa.Pack
