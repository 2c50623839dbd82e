/- What lz.Split comes to: a plain function over the bytes. No condition but that the bytes' number is at most 2^47. -/
import Derived.Test.YtfibhkfpnnpbpaaPLzFormsx2
import Derived.Test.YtfibhkfpnnpbpaaCodes
namespace Go.Proofs.Ytfibhkfpnnpbpaa.PLzForms
open Go.RowKit Go.Proofs.YtfibhkfpnnpbpaaW.PrintWords Go.Proofs.YtfibhkfpnnpbpaaW.PrintLast Go.Proofs.YtfibhkfpnnpbpaaW.PrintMore
open Go.Proofs.Ytfibhkfpnnpbpaa.Codes (w64)

/-- How many of two rows are alike from the beginning, at most so many. -/
def matchLen : List Int → List Int → Nat → Nat
  | x :: xs, y :: ys, m + 1 => if x = y then matchLen xs ys m + 1 else 0
  | _, _, _ => 0
theorem matchLen_le : ∀ (m : Nat) (xs ys : List Int), matchLen xs ys m ≤ m
  | 0, xs, ys => by cases xs <;> cases ys <;> simp [matchLen]
  | m + 1, [], ys => by simp [matchLen]
  | m + 1, x :: xs, [] => by simp [matchLen]
  | m + 1, x :: xs, y :: ys => by
    simp only [matchLen]
    split
    · have := matchLen_le m xs ys; omega
    · omega
theorem matchLen_len : ∀ (m : Nat) (xs ys : List Int), matchLen xs ys m ≤ xs.length
  | 0, xs, ys => by cases xs <;> cases ys <;> simp [matchLen]
  | m + 1, [], ys => by simp [matchLen]
  | m + 1, x :: xs, [] => by simp [matchLen]
  | m + 1, x :: xs, y :: ys => by
    simp only [matchLen]
    split
    · have := matchLen_len m xs ys; simp; omega
    · omega
theorem matchLen_get : ∀ (m : Nat) (xs ys : List Int) (j : Nat), j < matchLen xs ys m → xs[j]? = ys[j]?
  | 0, xs, ys, j, h => by cases xs <;> cases ys <;> simp [matchLen] at h
  | m + 1, [], ys, j, h => by simp [matchLen] at h
  | m + 1, x :: xs, [], j, h => by simp [matchLen] at h
  | m + 1, x :: xs, y :: ys, j, h => by
    simp only [matchLen] at h
    split at h
    · rename_i e
      cases j with
      | zero => simp [e]
      | succ j => simpa using matchLen_get m xs ys j (by omega)
    · omega
def rowS (b : List Int) (at_ d : Nat) : Nat := matchLen (b.drop at_) (b.drop (at_ - d)) 258
theorem rowS_le (b : List Int) (at_ d : Nat) : rowS b at_ d ≤ 258 := matchLen_le _ _ _
theorem rowS_len (b : List Int) (at_ d : Nat) : rowS b at_ d ≤ b.length - at_ := by have := matchLen_len 258 (b.drop at_) (b.drop (at_ - d)); rw [List.length_drop] at this; exact this
theorem rowS_get (b : List Int) (at_ d j : Nat) (h : j < rowS b at_ d) : b[at_ + j]? = b[at_ - d + j]? := by
  have := matchLen_get _ _ _ j h
  simpa [List.getElem?_drop] using this

theorem rd_get (b : List Int) (i : Nat) (h : i < b.length) : rd b (i : Int) = b[i] := by simp [rd, List.getD_eq_getElem?_getD, h]

theorem row_ev0 (b : List Int) (hb : b.length ≤ 140737488355328) (at_ d : Nat) (hat : at_ ≤ b.length) (h1 : 1 ≤ d) (h2 : d ≤ at_) : ∀ m n : Nat, n + m = 258 →
    Ev (fun k => lz_row.l0 k b (at_ : Int) (d : Int) (n : Int)) ((n + matchLen (b.drop (at_ + n)) (b.drop (at_ + n - d)) m : Nat) : Int)
  | 0, n, hn => by
    have : matchLen (b.drop (at_ + n)) (b.drop (at_ + n - d)) 0 = 0 := by have := matchLen_le 0 (b.drop (at_ + n)) (b.drop (at_ + n - d)); omega
    rw [this]
    refine Ev.step (f := fun _ => some (n : Int)) (fun k => ?_) (Ev.now _)
    simp only [lz_row.l0]
    rw [if_neg (by omega)]
  | m + 1, n, hn => by
    have w1 : wrap64 ((at_ : Int) + n) = ((at_ + n : Nat) : Int) := by rw [w64 _ (by omega) (by omega)]; omega
    have w2 : wrap64 (((at_ + n : Nat) : Int) - d) = ((at_ + n - d : Nat) : Int) := by rw [w64 _ (by omega) (by omega)]; omega
    have w3 : wrap64 ((n : Int) + 1) = ((n + 1 : Nat) : Int) := by rw [w64 _ (by omega) (by omega)]; omega
    by_cases hlt : at_ + n < b.length
    · have e1 : b.drop (at_ + n) = b[at_ + n] :: b.drop (at_ + (n + 1)) := List.drop_eq_getElem_cons hlt
      have e2 : b.drop (at_ + n - d) = b[at_ + n - d] :: b.drop (at_ + (n + 1) - d) := by
        rw [List.drop_eq_getElem_cons (by omega), show at_ + n - d + 1 = at_ + (n + 1) - d from by omega]
      rw [e1, e2]
      simp only [matchLen]
      by_cases hx : b[at_ + n] = b[at_ + n - d]
      · rw [if_pos hx]
        have ih := row_ev0 b hb at_ d hat h1 h2 m (n + 1) (by omega)
        rw [show n + (matchLen (b.drop (at_ + (n + 1))) (b.drop (at_ + (n + 1) - d)) m + 1) = n + 1 + matchLen (b.drop (at_ + (n + 1))) (b.drop (at_ + (n + 1) - d)) m from by omega]
        refine Ev.step (fun k => ?_) ih
        simp only [lz_row.l0]
        rw [if_pos (by omega), w1, if_pos (by omega), if_pos (by omega), w2, if_pos (by omega), if_pos (by omega), rd_get b _ hlt, rd_get b _ (by omega), if_pos hx, w3]
      · rw [if_neg hx]
        refine Ev.step (f := fun _ => some (n : Int)) (fun k => ?_) (Ev.now _)
        simp only [lz_row.l0]
        rw [if_pos (by omega), w1, if_pos (by omega), if_pos (by omega), w2, if_pos (by omega), if_pos (by omega), rd_get b _ hlt, rd_get b _ (by omega), if_neg hx]
    · rw [List.drop_of_length_le (by omega)]
      refine Ev.step (f := fun _ => some (n : Int)) (fun k => ?_) (Ev.now _)
      simp only [lz_row.l0]
      rw [if_pos (by omega), w1, if_neg (by omega)]
theorem row_ev (b : List Int) (hb : b.length ≤ 140737488355328) (at_ d : Nat) (hat : at_ ≤ b.length) (h1 : 1 ≤ d) (h2 : d ≤ at_) :
    Ev (fun k => lz_row.f k b (at_ : Int) (d : Int)) (rowS b at_ d : Int) := by
  have := row_ev0 b hb at_ d hat h1 h2 258 0 (by omega)
  rw [Nat.zero_add, Nat.add_zero] at this
  exact Ev.congr (fun k => rfl) this

/-- The longest row of so many places, from one place back on, the nearest of these. -/
def bestFrom (b : List Int) (at_ : Nat) : Nat → Nat → Nat × Nat → Nat × Nat
  | _, 0, p => p
  | d, c + 1, p => bestFrom b at_ (d + 1) c (if p.1 < rowS b at_ d then (rowS b at_ d, d) else p)
def best (b : List Int) (at_ : Nat) : Nat × Nat := bestFrom b at_ 1 (min at_ 1024) (0, 0)
def asStep (b : List Int) (at_ : Nat) (p : Nat × Nat) : S27 := if 3 ≤ p.1 then ⟨0, p.1, p.2⟩ else ⟨rd b at_, 0, 0⟩
def longS (b : List Int) (at_ : Nat) : S27 := asStep b at_ (best b at_)
theorem bestFrom_full (b : List Int) (at_ : Nat) : ∀ (c d : Nat) (p : Nat × Nat), p.1 = 258 → bestFrom b at_ d c p = p
  | 0, _, _, _ => rfl
  | c + 1, d, p, h => by
    simp only [bestFrom]
    have := rowS_le b at_ d
    rw [if_neg (by omega)]
    exact bestFrom_full b at_ c (d + 1) p h
theorem bestFrom_ok (b : List Int) (at_ : Nat) (hi : Nat) : ∀ (c d : Nat) (p : Nat × Nat), d + c = hi + 1 → (p.1 = 0 ∨ (1 ≤ p.2 ∧ p.2 ≤ hi ∧ p.1 = rowS b at_ p.2)) → 1 ≤ d →
    ((bestFrom b at_ d c p).1 = 0 ∨ (1 ≤ (bestFrom b at_ d c p).2 ∧ (bestFrom b at_ d c p).2 ≤ hi ∧ (bestFrom b at_ d c p).1 = rowS b at_ (bestFrom b at_ d c p).2))
  | 0, _, _, _, h, _ => h
  | c + 1, d, p, hc, h, hd => by
    simp only [bestFrom]
    refine bestFrom_ok b at_ hi c (d + 1) _ (by omega) ?_ (by omega)
    split
    · exact .inr ⟨hd, by omega, rfl⟩
    · exact h
theorem best_ok (b : List Int) (at_ : Nat) : (best b at_).1 = 0 ∨ (1 ≤ (best b at_).2 ∧ (best b at_).2 ≤ min at_ 1024 ∧ (best b at_).1 = rowS b at_ (best b at_).2) :=
  bestFrom_ok b at_ (min at_ 1024) (min at_ 1024) 1 (0, 0) (by omega) (.inl rfl) (by omega)

theorem longest_ev0 (b : List Int) (hb : b.length ≤ 140737488355328) (at_ : Nat) (hat : at_ < b.length) : ∀ (c d : Nat) (p : Nat × Nat), d + c = min at_ 1024 + 1 → 1 ≤ d → p.1 ≤ 258 →
    Ev (fun k => lz_longest.l0 k b (at_ : Int) (d : Int) (asStep b at_ p).f0 (asStep b at_ p).f1 (asStep b at_ p).f2) ((asStep b at_ (bestFrom b at_ d c p)).f0, (asStep b at_ (bestFrom b at_ d c p)).f1, (asStep b at_ (bestFrom b at_ d c p)).f2)
  | 0, d, p, hc, hd, hp => by
    refine Ev.step (f := fun k => lz_longest.j1 k b (at_ : Int) (d : Int) false (asStep b at_ p).f0 (asStep b at_ p).f1 (asStep b at_ p).f2) (fun k => ?_) (Ev.step (f := fun _ => some _) (fun k => ?_) (Ev.now _))
    · simp only [lz_longest.l0]
      rw [if_neg (by unfold mn; split <;> omega)]
    · simp only [lz_longest.j1, bestFrom]
      rw [if_neg (by simp)]
  | c + 1, d, p, hc, hd, hp => by
    have hle : (d : Int) ≤ mn (at_ : Int) 1024 := by unfold mn; split <;> omega
    have hstep : ∀ q : Nat × Nat, (asStep b at_ q).f1 = if 3 ≤ q.1 then (q.1 : Int) else 0 := by intro q; unfold asStep; split <;> rfl
    by_cases hfull : p.1 = 258
    · rw [bestFrom_full b at_ (c + 1) d p hfull]
      refine Ev.step (f := fun k => lz_longest.j1 k b (at_ : Int) (d : Int) false (asStep b at_ p).f0 (asStep b at_ p).f1 (asStep b at_ p).f2) (fun k => ?_) (Ev.step (f := fun _ => some _) (fun k => ?_) (Ev.now _))
      · simp only [lz_longest.l0]
        rw [if_pos hle, decide_eq_false (by rw [hstep, if_pos (by omega)]; omega)]
      · simp only [lz_longest.j1]
        rw [if_neg (by simp)]
    · have w3 : wrap64 ((d : Int) + 1) = ((d + 1 : Nat) : Int) := by rw [w64 _ (by omega) (by omega)]; omega
      have hr := row_ev b hb at_ d (by omega) hd (by omega)
      have hrl := rowS_le b at_ d
      refine Ev.step (f := fun k => lz_longest.j1 k b (at_ : Int) (d : Int) true (asStep b at_ p).f0 (asStep b at_ p).f1 (asStep b at_ p).f2) (fun k => ?_) ?_
      · simp only [lz_longest.l0]
        rw [if_pos hle, decide_eq_true (by rw [hstep]; split <;> omega)]
      · simp only [bestFrom]
        generalize rowS b at_ d = n at *
        have ih := longest_ev0 b hb at_ hat c (d + 1) (if p.1 < n then (n, d) else p) (by omega) (by omega) (by split <;> first | exact hrl | exact hp)
        refine Ev.step (fun k => ?_) (Ev.bind (f := fun k t => if t ≥ 3 then (if t > (asStep b at_ p).f1 then (lz_longest.l0 k b (at_ : Int) (wrap64 ((d : Int) + 1)) 0 t d) else (lz_longest.l0 k b (at_ : Int) (wrap64 ((d : Int) + 1)) (asStep b at_ p).f0 (asStep b at_ p).f1 (asStep b at_ p).f2)) else (lz_longest.l0 k b (at_ : Int) (wrap64 ((d : Int) + 1)) (asStep b at_ p).f0 (asStep b at_ p).f1 (asStep b at_ p).f2)) hr ?_)
        · simp only [lz_longest.j1]
          rw [if_pos trivial]
        · rw [w3, hstep]
          by_cases h3 : 3 ≤ n
          · by_cases hpn : p.1 < n
            · rw [if_pos hpn] at ih ⊢
              have e : asStep b at_ (n, d) = ⟨0, n, d⟩ := by unfold asStep; rw [if_pos h3]
              simp only [e] at ih
              refine Ev.congr (fun k => ?_) ih
              rw [if_pos (by omega), if_pos (by split <;> omega)]
            · rw [if_neg hpn] at ih ⊢
              refine Ev.congr (fun k => ?_) ih
              rw [if_pos (by omega), if_neg (by split <;> omega)]
              rw [hstep]
          · by_cases hpn : p.1 < n
            · rw [if_pos hpn] at ih ⊢
              have e : asStep b at_ (n, d) = asStep b at_ p := by unfold asStep; rw [if_neg h3, if_neg (by omega)]
              rw [e] at ih
              refine Ev.congr (fun k => ?_) ih
              rw [if_neg (by omega), hstep]
            · rw [if_neg hpn] at ih ⊢
              refine Ev.congr (fun k => ?_) ih
              rw [if_neg (by omega), hstep]
theorem longest_ev (b : List Int) (hb : b.length ≤ 140737488355328) (at_ : Nat) (hat : at_ < b.length) : Ev (fun k => lz_longest.f k b (at_ : Int)) ((longS b at_).f0, (longS b at_).f1, (longS b at_).f2) := by
  have h := longest_ev0 b hb at_ hat (min at_ 1024) 1 (0, 0) (by omega) (by omega) (by omega)
  have e : asStep b at_ (0, 0) = ⟨rd b at_, 0, 0⟩ := by unfold asStep; rw [if_neg (by omega)]
  rw [e] at h
  refine Ev.congr (fun k => ?_) h
  simp only [lz_longest.f]
  rw [if_pos (by omega), if_pos (by omega)]
  rfl

/-- The steps from a place on (so many at most). -/
def splitS (b : List Int) : Nat → Nat → List S27
  | 0, _ => []
  | f + 1, at_ => if at_ < b.length then longS b at_ :: splitS b f (at_ + (max 1 (longS b at_).f1).toNat) else []
theorem splitS_length (b : List Int) : ∀ f at_, (splitS b f at_).length ≤ f
  | 0, _ => by simp [splitS]
  | f + 1, at_ => by
    simp only [splitS]
    split
    · have := splitS_length b f (at_ + (max 1 (longS b at_).f1).toNat)
      simp; omega
    · simp
theorem longS_f1 (b : List Int) (at_ : Nat) : 0 ≤ (longS b at_).f1 ∧ (longS b at_).f1 ≤ 258 ∧ (longS b at_).f1 ≤ ((b.length - at_ : Nat) : Int) := by
  unfold longS asStep
  split
  · rename_i h
    rcases best_ok b at_ with h0 | ⟨_, _, h1⟩
    · omega
    · have := rowS_le b at_ (best b at_).2
      have := rowS_len b at_ (best b at_).2
      refine ⟨by simp, ?_, ?_⟩
      · show (((best b at_).1 : Nat) : Int) ≤ 258
        omega
      · show (((best b at_).1 : Nat) : Int) ≤ _
        omega
  · exact ⟨Int.le_refl _, by show (0 : Int) ≤ 258; decide, by simp⟩
theorem split_ev0 (b : List Int) (hb : b.length ≤ 5000000000000) : ∀ (f at_ : Nat) (out : List S27), at_ ≤ b.length → b.length ≤ at_ + f → out.length ≤ at_ →
    Ev (fun k => lz_Split.l0 k b out (at_ : Int)) (out ++ splitS b f at_)
  | 0, at_, out, h1, h2, h3 => by
    simp only [splitS, List.append_nil]
    refine Ev.step (f := fun _ => some out) (fun k => ?_) (Ev.now _)
    simp only [lz_Split.l0]
    rw [if_neg (by omega)]
  | f + 1, at_, out, h1, h2, h3 => by
    by_cases hlt : at_ < b.length
    · have hl := longest_ev b (by omega) at_ hlt
      obtain ⟨g1, g2, g3⟩ := longS_f1 b at_
      simp only [splitS]
      rw [if_pos hlt]
      have hmx : wrap64 ((at_ : Int) + mx 1 (longS b at_).f1) = ((at_ + (max 1 (longS b at_).f1).toNat : Nat) : Int) := by
        have : mx 1 (longS b at_).f1 = max 1 (longS b at_).f1 := by unfold mx; split <;> omega
        rw [this, w64 _ (by omega) (by omega)]; omega
      have ih := split_ev0 b hb f (at_ + (max 1 (longS b at_).f1).toNat) (out ++ [longS b at_]) (by omega) (by omega) (by simp; omega)
      rw [List.append_assoc] at ih
      refine Ev.step (fun k => ?_) (Ev.bind (f := fun k t => if out.length < 5864062014805 then (lz_Split.l0 k b (out ++ [(⟨t.1, t.2.1, t.2.2⟩ : S27)]) (wrap64 ((at_ : Int) + (mx 1 t.2.1)))) else none) hl ?_)
      · simp only [lz_Split.l0]
        rw [if_pos (by omega)]
      · refine Ev.congr (fun k => ?_) ih
        rw [if_pos (by omega), hmx]
    · simp only [splitS]
      rw [if_neg hlt, List.append_nil]
      refine Ev.step (f := fun _ => some out) (fun k => ?_) (Ev.now _)
      simp only [lz_Split.l0]
      rw [if_neg (by omega)]
theorem split_ev (b : List Int) (hb : b.length ≤ 5000000000000) : Ev (fun k => lz_Split.f k b) (splitS b b.length 0) := by
  have := split_ev0 b hb b.length 0 [] (by omega) (by omega) (by simp)
  rw [List.nil_append] at this
  exact Ev.congr (fun k => rfl) this
/-- lz.Split, by its plain function. -/
theorem Split_calls (A : Option Addr) (c : Nat) (b : List Int) (hb : b.length ≤ 5000000000000) (w : World) (hr : Kd.C (Kd.int .u8) w A b.length b) (hc : b.length ≤ c) :
    Calls Try.prog 9 #[.slice A b.length c] w fun e w' => ∃ v : Value, e = .returned v ∧ Kd.R k27 27 w' w.heap.size (fun _ => True) v (splitS b b.length 0) ∧ Below w.heap.size w w' := by
  obtain ⟨k, hk⟩ := (split_ev b hb).rounds
  exact lz_Split.calls k A c b _ w hr hc hk
end Go.Proofs.Ytfibhkfpnnpbpaa.PLzForms
