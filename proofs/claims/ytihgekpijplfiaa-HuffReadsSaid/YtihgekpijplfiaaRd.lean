/- bits.Reader: what its methods give, over the printed contracts. Conditions: bytes are bytes, and short of 10^9. -/
import Derived.Test.YtihgekpijplfiaaWb
namespace Go.Proofs.Ytihgekpijplfiaa.Rd
set_option linter.unusedVariables false
open Go.RowKit Go.Proofs.YtihgekpijplfiaaW.PrintWords Go.Proofs.YtihgekpijplfiaaW.PrintLast Go.Proofs.YtihgekpijplfiaaW.PrintMore Go.Proofs.Ytihgekpijplfiaa.PBitsRead Go.Proofs.Ytihgekpijplfiaa.Pack Go.Proofs.Ytihgekpijplfiaa.Wr
/-- The i-th digit of a row of bytes, the lowest of each byte first. -/
def bitAt (bs : List Int) (i : Nat) : Int := bs.getD (i / 8) 0 / 2 ^ (i % 8) % 2
/-- The number whose digits are the c that begin at n, the lowest first. -/
def valAt (bs : List Int) (n : Nat) : Nat → Int
  | 0 => 0
  | c + 1 => valAt bs n c + bitAt bs (n + c) * 2 ^ c
theorem bit01 (bs : List Int) (i : Nat) : bitAt bs i = 0 ∨ bitAt bs i = 1 := by unfold bitAt; omega
theorem val_range (bs : List Int) (n : Nat) : ∀ c, 0 ≤ valAt bs n c ∧ valAt bs n c < 2 ^ c
  | 0 => by simp [valAt]
  | c + 1 => by
    have ⟨h1, h2⟩ := val_range bs n c
    have h3 : (2 : Int) ^ (c + 1) = 2 ^ c * 2 := Int.pow_succ ..
    simp only [valAt]
    rw [h3]
    rcases bit01 bs (n + c) with h | h <;> rw [h] <;> generalize (2 : Int) ^ c = p at * <;> omega
theorem and_u8 (x : Int) : bits BinOp.and IntKind.u8 x 1 = x % 2 := by
  have h : (BitVec.ofInt 8 x &&& BitVec.ofInt 8 1).toNat = (x % 2).toNat := by
    rw [BitVec.toNat_and, BitVec.toNat_ofInt, BitVec.toNat_ofInt]
    rw [show (1 % ((2 ^ 8 : Nat) : Int)).toNat = 1 from rfl, Nat.and_one_is_mod]
    have : ((2 ^ 8 : Nat) : Int) = 256 := rfl
    rw [this]
    omega
  show IntKind.u8.wrap (((BitVec.ofInt 8 x &&& BitVec.ofInt 8 1).toNat : Nat) : Int) = _
  rw [h, IntKind.wrap_u8]
  omega
theorem wraps_i64_16 (n : Int) (h₀ : 0 ≤ n) (h₁ : n < 2 ^ 16) : IntKind.i64.wrap n = n := by rw [IntKind.wrap_i64]; omega
theorem two_le (r : Nat) (hr : r < 16) : (2 : Int) ^ r ≤ 32768 := by
  have : ∀ r < 16, (2 : Int) ^ r ≤ 32768 := by decide +kernel
  exact this r hr
theorem i64_or_high (x one : Int) (r : Nat) (hr : r < 16) (h0 : 0 ≤ x) (h1 : x < 2 ^ r) (h2 : one = 0 ∨ one = 1) : bits .or .i64 x (one * 2 ^ r) = x + one * 2 ^ r := by
  have p2 : (2 : Int) ^ r ≤ 32768 := two_le r hr
  have hx8 : x < 65536 := by generalize (2 : Int) ^ r = p at *; omega
  rcases h2 with rfl | rfl
  · rw [Int.zero_mul, Int.add_zero]
    obtain ⟨a, rfl⟩ := Int.eq_ofNat_of_zero_le h0
    have := (bits_nat .i64 16 (by decide) wraps_i64_16 a 0 (by omega) (by omega)).2
    rw [Nat.or_zero] at this
    exact this
  · rw [Int.one_mul]
    obtain ⟨a, rfl⟩ := Int.eq_ofNat_of_zero_le h0
    have ha : a < 2 ^ r := by exact_mod_cast h1
    have hr2 : (2 : Nat) ^ r < 65536 := by
      have : ((2 ^ r : Nat) : Int) ≤ 32768 := by rw [Int.natCast_pow]; exact p2
      omega
    have h := (bits_nat .i64 16 (by decide) wraps_i64_16 a (2 ^ r) (by omega) (by omega)).2
    have e : ((2 ^ r : Nat) : Int) = (2 : Int) ^ r := by simp
    rw [e] at h
    rw [h, Nat.or_comm]
    have := Nat.two_pow_add_eq_or_of_lt ha 1
    rw [Nat.mul_one] at this
    rw [← this]
    simp
    omega
theorem shl_one (one : Int) (r : Nat) (hr : r < 16) (h2 : one = 0 ∨ one = 1) : shl .i64 one (r : Int) = one * 2 ^ r := by
  unfold shl
  have p2 : 0 ≤ (2 : Int) ^ r ∧ (2 : Int) ^ r ≤ 32768 := ⟨Int.pow_nonneg (by decide), two_le r hr⟩
  rw [Int.toNat_natCast, Nat.min_eq_left (show r ≤ IntKind.i64.bits from by show r ≤ 64; omega), IntKind.wrap_i64]
  rcases h2 with rfl | rfl
  · rw [Int.zero_mul]; rfl
  · rw [Int.one_mul]; generalize (2 : Int) ^ r = p at *; omega
theorem shr_bit (x : Int) (r : Nat) (hr : r < 8) : shr .u8 x (r : Int) = x / 2 ^ r := by
  unfold shr
  rw [Int.toNat_natCast, Nat.min_eq_left (show r ≤ IntKind.u8.bits from by show r ≤ 8; omega)]
theorem wrap_bit (b : Int) (h : b = 0 ∨ b = 1) : wrap64 b = b := by unfold wrap64; omega
theorem get_t1 (m : Nat) : Int.tdiv (m : Int) 8 = ((m / 8 : Nat) : Int) := by rw [Int.tdiv_eq_ediv_of_nonneg (by omega)]; omega
theorem get_t2 (m : Nat) : Int.tmod (m : Int) 8 = ((m % 8 : Nat) : Int) := by rw [Int.tmod_eq_emod_of_nonneg (by omega)]; omega
theorem get_t3 (m : Nat) (h : m ≤ 8000000000000) : wrap64 ((m / 8 : Nat) : Int) = ((m / 8 : Nat) : Int) := by unfold wrap64; omega
theorem get_t4 (j : Nat) (h : j < 16) : wrap64 ((j : Int) + 1) = ((j + 1 : Nat) : Int) := by unfold wrap64; omega
theorem get_t5 (m : Nat) (h : m ≤ 8000000000000) : wrap64 ((m : Int) + 1) = ((m + 1 : Nat) : Int) := by unfold wrap64; omega
theorem get_q1 (m l : Nat) (h : m < 8 * l) : ((m / 8 : Nat) : Int) < (l : Int) := by omega
theorem left8 (l : Nat) (h : l ≤ 1000000000000) : wrap64 (8 * (l : Int)) = 8 * (l : Int) := by unfold wrap64; omega
theorem sub_ok (a b : Int) (h1 : b ≤ a) (h2 : a ≤ 8 * 1000000000000) (h3 : 0 ≤ b) : wrap64 (a - b) = a - b := by
  have h4 : a - b ≤ 8000000000000 := by omega
  have h5 : 0 ≤ a - b := by omega
  generalize a - b = x at *
  clear h1 h2 h3
  unfold wrap64
  omega
theorem left8n (l n : Nat) (h : l ≤ 1000000000000) (hn : n ≤ 8 * l) : wrap64 (8 * (l : Int) - (n : Int)) = 8 * (l : Int) - (n : Int) := by
  have h2 : 8 * (l : Int) ≤ 8 * 1000000000000 := Int.mul_le_mul_of_nonneg_left (Int.ofNat_le.2 h) (by decide)
  have h1 : (n : Int) ≤ 8 * (l : Int) := Int.ofNat_le.2 hn
  have h3 : (0 : Int) ≤ n := Int.natCast_nonneg n
  exact sub_ok _ _ h1 h2 h3
theorem get_ev (bs : List Int) (n c : Nat) (hc : c ≤ 16) (hn : n + c ≤ 8 * bs.length) (hl : bs.length ≤ 1000000000000) : ∀ d j : Nat, j + d = c → Ev (fun k => bits_Reader_Get.l0 k (valAt bs n j) (c : Int) (j : Int) bs ((n + j : Nat) : Int) false) (valAt bs n c, ((n + c : Nat) : Int), false)
  | 0, j, h => by
    clear hc hn hl
    refine Ev.step (f := fun _ => some (valAt bs n c, ((n + c : Nat) : Int), false)) (fun k => ?_) (Ev.now _)
    simp only [bits_Reader_Get.l0]
    have e : j = c := by omega
    subst e
    rw [if_neg (by omega)]
  | d + 1, j, h => by
    refine Ev.step (fun k => ?_) (get_ev bs n c hc hn hl d (j + 1) ((by clear hn hl; omega)))
    have hm : n + j ≤ 8000000000000 := Nat.le_trans (by clear hl; omega) (Nat.mul_le_mul_left 8 hl)
    have hj : j < c := by clear hn hl hm; omega
    have q1 : (((n + j) / 8 : Nat) : Int) < (bs.length : Int) := get_q1 (n + j) bs.length (by clear hl hm hc; omega)
    clear hn hl
    have q6 : j < 16 := Nat.lt_of_lt_of_le hj hc
    have q4 : (j : Int) < (c : Int) := Int.ofNat_lt.2 hj
    have t4 : wrap64 ((j : Int) + 1) = ((j + 1 : Nat) : Int) := get_t4 j q6
    have t5 : wrap64 (((n + j : Nat) : Int) + 1) = ((n + (j + 1) : Nat) : Int) := get_t5 (n + j) hm
    have t1 := get_t1 (n + j)
    have t2 := get_t2 (n + j)
    have t3 := get_t3 (n + j) hm
    have q0 : (0 : Int) ≤ (((n + j) / 8 : Nat) : Int) := Int.natCast_nonneg _
    have q2 : (0 : Int) ≤ (((n + j) % 8 : Nat) : Int) := Int.natCast_nonneg _
    have q3 : (0 : Int) ≤ (j : Int) := Int.natCast_nonneg _
    have q5 : (n + j) % 8 < 8 := Nat.mod_lt _ (by decide)
    have t6 : rd bs (((n + j) / 8 : Nat) : Int) / 2 ^ ((n + j) % 8) % 2 = bitAt bs (n + j) := by
      unfold rd bitAt
      rw [Int.toNat_natCast]
    have t7 : wrap64 (bitAt bs (n + j)) = bitAt bs (n + j) := wrap_bit _ (bit01 bs (n + j))
    simp only [bits_Reader_Get.l0]
    rw [t1, t2, t3, t4, t5, if_pos q4, if_pos q0, if_pos q1, if_pos q2, if_pos q3, shr_bit _ _ q5, and_u8, t6, t7, shl_one _ _ q6 (bit01 bs (n + j)), i64_or_high _ _ _ q6 (val_range bs n j).1 (val_range bs n j).2 (bit01 bs (n + j))]
    rfl
theorem get_okE (bs : List Int) (n c : Nat) (hc : c ≤ 16) (hn : n + c ≤ 8 * bs.length) (hl : bs.length ≤ 1000000000000) : Ev (fun k => bits_Reader_Get.f k bs (n : Int) false (c : Int)) (valAt bs n c, ((n + c : Nat) : Int), false) := by
  obtain ⟨K, hK⟩ := get_ev bs n c hc hn hl c 0 (Nat.zero_add c)
  have r1 : ¬ ((c : Int) < 0) := Int.not_lt.2 (Int.natCast_nonneg c)
  have r2 : ¬ ((c : Int) > 16) := Int.not_lt.2 (Int.ofNat_le.2 hc)
  have r3 : ¬ ((c : Int) > 8 * (bs.length : Int) - (n : Int)) := by clear hl hK hc; omega
  have t1 := left8 bs.length hl
  have t2 := left8n bs.length n hl (Nat.le_trans (Nat.le_add_right n c) hn)
  clear hl hn hc
  refine ⟨K + 1, fun k hk => ?_⟩
  obtain ⟨k, rfl⟩ : ∃ m, k = m + 1 := ⟨k - 1, by clear hK r1 r2 r3 t1 t2; omega⟩
  show bits_Reader_Get.f (k + 1) bs (n : Int) false (c : Int) = some (valAt bs n c, ((n + c : Nat) : Int), false)
  unfold bits_Reader_Get.f
  rw [if_neg Bool.false_ne_true, if_neg r1, if_neg r2]
  unfold bits_Reader_Left.f
  rw [Option.bind_some, t1, t2]
  show (if decide ((c : Int) > 8 * (bs.length : Int) - (n : Int)) = true then some (0, (n : Int), true) else bits_Reader_Get.l0 k 0 (c : Int) 0 bs (n : Int) false) = _
  rw [if_neg (fun e => r3 (of_decide_eq_true e))]
  exact hK k (Nat.le_of_succ_le_succ hk)
theorem Get_ok (g : Nat) (bs : List Int) (n c : Nat) (hc : c ≤ 16) (hn : n + c ≤ 8 * bs.length) (hl : bs.length ≤ 1000000000000) (w0 w : World) (hI : IsS97 w0 w g bs (n : Int) false) (hB : Below w0.heap.size w0 w) :
    Calls Try.prog 28 #[.pointer (some ⟨g, 0, none⟩), .int .i64 (c : Int)] w fun e w' => e = .returned (.int .i64 (valAt bs n c)) ∧ IsS97 w0 w' g bs ((n + c : Nat) : Int) false ∧ Below w0.heap.size w0 w' ∧ KeepBut w w' g none := by
  obtain ⟨k, hk⟩ := (get_okE bs n c hc hn hl).rounds
  exact bits_Reader_Get.calls k g bs n false c _ _ _ w0 w hI hB hk
theorem Bit_ok (g : Nat) (bs : List Int) (n : Nat) (hn : n + 1 ≤ 8 * bs.length) (hl : bs.length ≤ 1000000000000) (w0 w : World) (hI : IsS97 w0 w g bs (n : Int) false) (hB : Below w0.heap.size w0 w) :
    Calls Try.prog 27 #[.pointer (some ⟨g, 0, none⟩)] w fun e w' => e = .returned (.int .i64 (bitAt bs n)) ∧ IsS97 w0 w' g bs ((n + 1 : Nat) : Int) false ∧ Below w0.heap.size w0 w' ∧ KeepBut w w' g none := by
  obtain ⟨k, hk⟩ := (get_okE bs n 1 (by decide) hn hl).rounds
  have e : valAt bs n 1 = bitAt bs n := by simp [valAt]
  rw [e] at hk
  refine bits_Reader_Bit.calls k g bs n false _ _ _ w0 w hI hB ?_
  unfold bits_Reader_Bit.f
  rw [show ((1 : Nat) : Int) = 1 from rfl] at hk
  rw [hk]
  rfl
theorem get_badE (bs : List Int) (n : Nat) (bad : Bool) (c : Int) (h : bad = true ∨ c < 0 ∨ 16 < c ∨ 8 * (bs.length : Int) - n < c) (hn : n ≤ 8 * bs.length) (hl : bs.length ≤ 1000000000000) : bits_Reader_Get.f 1 bs (n : Int) bad c = some (0, (n : Int), true) := by
  have t1 := left8 bs.length hl
  have t2 := left8n bs.length n hl hn
  clear hl
  have j : ∀ (x : Bool), x = true → ∀ (b : Bool), bits_Reader_Get.j0 1 c x bs (n : Int) b = some (0, (n : Int), true) := fun x hx b => by
    subst hx
    rfl
  unfold bits_Reader_Get.f bits_Reader_Left.f
  rw [Option.bind_some, t1, t2, j _ rfl]
  by_cases h1 : bad = true
  · rw [if_pos h1]
  · rw [if_neg h1]
    by_cases h2 : c < 0
    · rw [if_pos h2]
    · rw [if_neg h2]
      by_cases h3 : c > 16
      · rw [if_pos h3]
      · rw [if_neg h3]
        exact j _ (decide_eq_true (by rcases h with h | h | h | h <;> first | exact absurd h h1 | omega)) bad
theorem Get_bad (g : Nat) (bs : List Int) (n : Nat) (bad : Bool) (c : Int) (h : bad = true ∨ c < 0 ∨ 16 < c ∨ 8 * (bs.length : Int) - n < c) (hn : n ≤ 8 * bs.length) (hl : bs.length ≤ 1000000000000) (w0 w : World) (hI : IsS97 w0 w g bs (n : Int) bad) (hB : Below w0.heap.size w0 w) :
    Calls Try.prog 28 #[.pointer (some ⟨g, 0, none⟩), .int .i64 c] w fun e w' => e = .returned (.int .i64 0) ∧ IsS97 w0 w' g bs (n : Int) true ∧ Below w0.heap.size w0 w' ∧ KeepBut w w' g none := by
  exact bits_Reader_Get.calls 1 g bs n bad c _ _ _ w0 w hI hB (get_badE bs n bad c h hn hl)
theorem Bit_bad (g : Nat) (bs : List Int) (n : Nat) (bad : Bool) (h : bad = true ∨ 8 * (bs.length : Int) - n < 1) (hn : n ≤ 8 * bs.length) (hl : bs.length ≤ 1000000000000) (w0 w : World) (hI : IsS97 w0 w g bs (n : Int) bad) (hB : Below w0.heap.size w0 w) :
    Calls Try.prog 27 #[.pointer (some ⟨g, 0, none⟩)] w fun e w' => e = .returned (.int .i64 0) ∧ IsS97 w0 w' g bs (n : Int) true ∧ Below w0.heap.size w0 w' ∧ KeepBut w w' g none := by
  refine bits_Reader_Bit.calls 1 g bs n bad _ _ _ w0 w hI hB ?_
  unfold bits_Reader_Bit.f
  rw [get_badE bs n bad 1 (h.imp_right (fun e => .inr (.inr e))) hn hl]
  rfl
end Go.Proofs.Ytihgekpijplfiaa.Rd
