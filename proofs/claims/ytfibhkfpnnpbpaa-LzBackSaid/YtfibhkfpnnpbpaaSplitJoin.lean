/- The steps that lz.Split makes of bytes lead back to them; each is a byte, or at least three from a place that is there. Plain lists, no Go. -/
import Derived.Test.YtfibhkfpnnpbpaaSplit
import Derived.Test.YtfibhkfpnnpbpaaJoin
namespace Go.Proofs.Ytfibhkfpnnpbpaa.PLzForms
open Go.RowKit Go.Proofs.YtfibhkfpnnpbpaaW.PrintWords Go.Proofs.YtfibhkfpnnpbpaaW.PrintLast Go.Proofs.YtfibhkfpnnpbpaaW.PrintMore

/-- What a step of Split is: the byte that stands there, or a row that stood there before. -/
structure GoodStep (b : List Int) (at_ : Nat) (s : S27) : Prop where
  kind : (s.f1 = 0 ∧ s.f2 = 0 ∧ s.f0 = rd b at_) ∨ (3 ≤ s.f1 ∧ s.f1 ≤ 258 ∧ 1 ≤ s.f2 ∧ s.f2 ≤ at_ ∧ s.f2 ≤ 1024 ∧ (at_ : Int) + s.f1 ≤ b.length ∧ s.f0 = 0 ∧ ∀ j : Nat, (j : Int) < s.f1 → b[at_ + j]? = b[at_ - s.f2.toNat + j]?)
theorem longS_good (b : List Int) (at_ : Nat) (h : at_ < b.length) : GoodStep b at_ (longS b at_) := by
  refine ⟨?_⟩
  unfold longS asStep
  split
  · rename_i h3
    rcases best_ok b at_ with h0 | ⟨h1, h2, h4⟩
    · omega
    · have hl := rowS_le b at_ (best b at_).2
      have hn := rowS_len b at_ (best b at_).2
      refine .inr ⟨?_, ?_, ?_, ?_, ?_, ?_, rfl, ?_⟩
      · show (3 : Int) ≤ ((best b at_).1 : Nat); omega
      · show (((best b at_).1 : Nat) : Int) ≤ 258; omega
      · show (1 : Int) ≤ ((best b at_).2 : Nat); omega
      · show (((best b at_).2 : Nat) : Int) ≤ at_; omega
      · show (((best b at_).2 : Nat) : Int) ≤ 1024; omega
      · show (at_ : Int) + ((best b at_).1 : Nat) ≤ b.length; omega
      · intro j hj
        have hj' : (j : Int) < ((best b at_).1 : Nat) := hj
        have := rowS_get b at_ (best b at_).2 j (by omega)
        show b[at_ + j]? = b[at_ - (((best b at_).2 : Nat) : Int).toNat + j]?
        rw [Int.toNat_natCast]
        exact this
  · exact .inl ⟨rfl, rfl, rfl⟩
theorem cpy_take (b : List Int) (at_ d : Nat) (h1 : 1 ≤ d) (h2 : d ≤ at_) : ∀ (m i : Nat), at_ + i + m ≤ b.length → (∀ j, j < i + m → b[at_ + j]? = b[at_ - d + j]?) → cpy (b.take (at_ + i)) d m = b.take (at_ + i + m)
  | 0, _, _, _ => rfl
  | m + 1, i, hl, hj => by
    simp only [cpy]
    have hlen : (b.take (at_ + i)).length = at_ + i := by simp; omega
    have hg := hj i (by omega)
    rw [List.getElem?_eq_getElem (by omega), List.getElem?_eq_getElem (by omega)] at hg
    have hv : rd (b.take (at_ + i)) (((b.take (at_ + i)).length : Int) - (d : Int)) = b[at_ + i] := by
      rw [hlen, show (((at_ + i : Nat) : Int) - (d : Int)) = ((at_ - d + i : Nat) : Int) from by omega, rd_get _ _ (by omega), List.getElem_take]
      exact (Option.some.inj hg).symm
    rw [hv, ← List.take_succ_eq_append_getElem (by omega)]
    have := cpy_take b at_ d h1 h2 m (i + 1) (by omega) (fun j hj' => hj j (by omega))
    rw [show at_ + i + 1 = at_ + (i + 1) from by omega, show at_ + i + (m + 1) = at_ + (i + 1) + m from by omega]
    exact this
theorem good_step {b : List Int} {at_ : Nat} {s : S27} (hb : b.length ≤ 65536) (h : at_ < b.length) (g : GoodStep b at_ s) : stepOk (b.take at_).length s = true ∧ stepS (b.take at_) s = b.take (at_ + (max 1 s.f1).toNat) := by
  have hlen : (b.take at_).length = at_ := by simp; omega
  rw [hlen]
  rcases g.kind with ⟨e1, e2, e0⟩ | ⟨a1, a2, a3, a4, a5, a6, a7, a8⟩
  · refine ⟨by simp [stepOk, e1]; omega, ?_⟩
    unfold stepS
    rw [if_pos e1, e1, e0, rd_get b at_ h, show (at_ + (max 1 (0 : Int)).toNat) = at_ + 1 from by omega, ← List.take_succ_eq_append_getElem h]
  · refine ⟨by simp [stepOk]; omega, ?_⟩
    unfold stepS
    rw [if_neg (by omega)]
    have := cpy_take b at_ s.f2.toNat (by omega) (by omega) s.f1.toNat 0 (by omega) (fun j hj => a8 j (by omega))
    rw [Nat.add_zero] at this
    rw [this, show (max 1 s.f1).toNat = s.f1.toNat from by omega]
theorem split_join0 (b : List Int) (hb : b.length ≤ 65536) : ∀ (f at_ : Nat), at_ ≤ b.length → b.length ≤ at_ + f → joinS (b.take at_) (splitS b f at_) = some b
  | 0, at_, h1, h2 => by
    simp only [splitS, joinS]
    rw [List.take_of_length_le (by omega)]
  | f + 1, at_, h1, h2 => by
    simp only [splitS]
    by_cases h : at_ < b.length
    · rw [if_pos h]
      simp only [joinS]
      obtain ⟨k1, k2⟩ := good_step hb h (longS_good b at_ h)
      obtain ⟨g1, g2, g3⟩ := longS_f1 b at_
      rw [if_pos k1, k2]
      exact split_join0 b hb f _ (by omega) (by omega)
    · rw [if_neg h]
      simp only [joinS]
      rw [List.take_of_length_le (by omega)]
/-- What was split is joined as it was. -/
theorem split_join (b : List Int) (hb : b.length ≤ 65536) : joinS [] (splitS b b.length 0) = some b := by
  have := split_join0 b hb b.length 0 (by omega) (by omega)
  simpa using this
/-- The steps from a place on, one by one: each is good, and they end at the end. -/
inductive Steps27 (b : List Int) : Nat → List S27 → Prop
  | done : Steps27 b b.length []
  | more {at_ : Nat} {s : S27} {l : List S27} : at_ < b.length → GoodStep b at_ s → Steps27 b (at_ + (max 1 s.f1).toNat) l → Steps27 b at_ (s :: l)
theorem split_steps0 (b : List Int) : ∀ (f at_ : Nat), at_ ≤ b.length → b.length ≤ at_ + f → Steps27 b at_ (splitS b f at_)
  | 0, at_, h1, h2 => by
    simp only [splitS]
    obtain rfl : at_ = b.length := by omega
    exact .done
  | f + 1, at_, h1, h2 => by
    simp only [splitS]
    by_cases h : at_ < b.length
    · rw [if_pos h]
      obtain ⟨g1, g2, g3⟩ := longS_f1 b at_
      exact .more h (longS_good b at_ h) (split_steps0 b f _ (by omega) (by omega))
    · rw [if_neg h]
      obtain rfl : at_ = b.length := by omega
      exact .done
theorem split_steps (b : List Int) : Steps27 b 0 (splitS b b.length 0) := split_steps0 b b.length 0 (by omega) (by omega)

/-- Of one byte many times: a byte, then rows of it, each from one back. -/
theorem rowS_const (c : Int) (n at_ d : Nat) (h1 : 1 ≤ d) (h2 : d ≤ at_) (h3 : at_ ≤ n) : rowS (List.replicate n c) at_ d = min 258 (n - at_) := by
  have key : ∀ (m x y : Nat), x ≤ y → matchLen (List.replicate x c) (List.replicate y c) m = min m x := by
    intro m
    induction m with
    | zero => intro x y _; have := matchLen_le 0 (List.replicate x c) (List.replicate y c); omega
    | succ m ih =>
      intro x y hxy
      cases x with
      | zero => simp [matchLen]
      | succ x =>
        obtain ⟨y, rfl⟩ : ∃ y', y = y' + 1 := ⟨y - 1, by omega⟩
        simp only [List.replicate_succ, matchLen, if_true]
        rw [ih x y (by omega)]
        omega
  unfold rowS
  rw [List.drop_replicate, List.drop_replicate, key _ _ _ (by omega)]
theorem bestFrom_const (c : Int) (n at_ : Nat) (h3 : at_ ≤ n) : ∀ (k d : Nat) (q : Nat), d + k ≤ at_ + 1 → 1 ≤ d → bestFrom (List.replicate n c) at_ d k (min 258 (n - at_), q) = (min 258 (n - at_), q)
  | 0, _, _, _, _ => rfl
  | k + 1, d, q, hk, hd => by
    simp only [bestFrom]
    rw [rowS_const c n at_ d hd (by omega) h3, if_neg (by omega)]
    exact bestFrom_const c n at_ h3 k (d + 1) q (by omega) (by omega)
theorem longS_const (c : Int) (n at_ : Nat) (h0 : 0 < at_) (h : at_ < n) : longS (List.replicate n c) at_ = if 3 ≤ min 258 (n - at_) then ⟨0, (min 258 (n - at_) : Nat), 1⟩ else ⟨c, 0, 0⟩ := by
  have hb : best (List.replicate n c) at_ = (min 258 (n - at_), 1) := by
    unfold best
    obtain ⟨k, hk⟩ : ∃ k, min at_ 1024 = k + 1 := ⟨min at_ 1024 - 1, by omega⟩
    rw [hk]
    simp only [bestFrom]
    rw [rowS_const c n at_ 1 (by omega) (by omega) (by omega), if_pos (by omega)]
    exact bestFrom_const c n at_ (by omega) k 2 1 (by omega) (by omega)
  unfold longS asStep
  rw [hb]
  have hr : rd (List.replicate n c) (at_ : Int) = c := by rw [rd_get _ _ (by simpa using h)]; simp
  split
  · rfl
  · rw [hr]
theorem longS_zero (b : List Int) : longS b 0 = ⟨rd b 0, 0, 0⟩ := by
  unfold longS asStep best
  simp [bestFrom]
end Go.Proofs.Ytfibhkfpnnpbpaa.PLzForms
