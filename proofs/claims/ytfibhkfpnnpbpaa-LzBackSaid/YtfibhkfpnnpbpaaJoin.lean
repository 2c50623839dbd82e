/- What lz.Join comes to: a plain function over the steps. No condition but that the steps' number is a length. -/
import Derived.Test.YtfibhkfpnnpbpaaPLzFormsx3
import Derived.Test.YtfibhkfpnnpbpaaCodes
namespace Go.Proofs.Ytfibhkfpnnpbpaa.PLzForms
open Go.RowKit Go.Proofs.YtfibhkfpnnpbpaaW.PrintWords Go.Proofs.YtfibhkfpnnpbpaaW.PrintLast Go.Proofs.YtfibhkfpnnpbpaaW.PrintMore
open Go.Proofs.Ytfibhkfpnnpbpaa.Codes (w64)

/-- May the step be, behind n bytes? -/
def stepOk (n : Nat) (s : S27) : Bool := decide (0 ≤ s.f1) && decide (s.f1 ≤ 258) && (decide (s.f1 = 0) || (decide (1 ≤ s.f2) && decide (s.f2 ≤ n))) && decide ((n : Int) + max 1 s.f1 ≤ 65536)
/-- So many bytes more, each from so far back. -/
def cpy : List Int → Nat → Nat → List Int
  | out, _, 0 => out
  | out, d, n + 1 => cpy (out ++ [rd out ((out.length : Int) - (d : Int))]) d n
def stepS (out : List Int) (s : S27) : List Int := if s.f1 = 0 then out ++ [s.f0] else cpy out s.f2.toNat s.f1.toNat
def joinS : List Int → List S27 → Option (List Int)
  | out, [] => some out
  | out, s :: ss => if stepOk out.length s = true then joinS (stepS out s) ss else none
def finJ : Option (List Int) → List Int × Bool
  | some o => (o, true)
  | none => ([], false)
theorem cpy_length : ∀ (n d : Nat) (out : List Int), (cpy out d n).length = out.length + n
  | 0, _, _ => rfl
  | n + 1, d, out => by simp only [cpy]; rw [cpy_length n d]; simp; omega
theorem mx1 (x : Int) : mx 1 x = max 1 x := by unfold mx; split <;> omega
theorem stepS_length (out : List Int) (s : S27) (h : stepOk out.length s = true) : ((stepS out s).length : Int) = out.length + max 1 s.f1 := by
  simp only [stepOk, Bool.and_eq_true, Bool.or_eq_true, decide_eq_true_eq] at h
  unfold stepS
  split
  · simp; omega
  · rw [cpy_length]; omega

theorem join_head (k : Nat) (out : List Int) (l : List S27) (i : Nat) (s : S27) (hs : l[i]? = some s) (ho : out.length ≤ 65536) :
    lz_Join.l0 (k + 1) out l (l.length : Int) (i : Int) = lz_Join.j1 k out l (l.length : Int) (i : Int) (!(stepOk out.length s)) s.f0 s.f1 s.f2 := by
  have hi : i < l.length := (List.getElem?_eq_some_iff.1 hs).1
  have hr : rd_T27 l (i : Int) = s := by simp [rd_T27, List.getD_eq_getElem?_getD, hs]
  have q1 : (i : Int) < (l.length : Int) := by omega
  have q2 : 0 ≤ (i : Int) := by omega
  simp only [lz_Join.l0]
  rw [if_pos q1, if_pos q2, if_pos q1, hr, mx1]
  by_cases c1 : s.f1 < 0
  · rw [if_pos c1]
    have : stepOk out.length s = false := by simp [stepOk]; omega
    rw [this]; rfl
  rw [if_neg c1]
  by_cases c2 : s.f1 > 258
  · rw [if_pos c2]
    have : stepOk out.length s = false := by simp [stepOk]; omega
    rw [this]; rfl
  rw [if_neg c2]
  have hm : wrap64 ((out.length : Int) + max 1 s.f1) = (out.length : Int) + max 1 s.f1 := w64 _ (by omega) (by omega)
  have hd : decide (wrap64 ((out.length : Int) + max 1 s.f1) > 65536) = !(decide ((out.length : Int) + max 1 s.f1 ≤ 65536)) := by
    rw [hm]
    by_cases c : (out.length : Int) + max 1 s.f1 ≤ 65536
    · rw [decide_eq_true c, decide_eq_false (by omega)]; rfl
    · rw [decide_eq_false c, decide_eq_true (by omega)]; rfl
  have e1 : decide (0 ≤ s.f1) = true := decide_eq_true (by omega)
  have e2 : decide (s.f1 ≤ 258) = true := decide_eq_true (by omega)
  by_cases c3 : s.f1 > 0
  · rw [if_pos c3]
    have e3 : decide (s.f1 = 0) = false := decide_eq_false (by omega)
    by_cases c4 : s.f2 < 1
    · rw [if_pos c4]
      have : stepOk out.length s = false := by simp [stepOk]; omega
      rw [this]; rfl
    rw [if_neg c4]
    by_cases c5 : s.f2 > (out.length : Int)
    · rw [if_pos c5]
      have : stepOk out.length s = false := by simp [stepOk]; omega
      rw [this]; rfl
    rw [if_neg c5, hd]
    have : stepOk out.length s = decide ((out.length : Int) + max 1 s.f1 ≤ 65536) := by
      have e4 : decide (1 ≤ s.f2) = true := decide_eq_true (by omega)
      have e5 : decide (s.f2 ≤ (out.length : Int)) = true := decide_eq_true (by omega)
      simp only [stepOk, e1, e2, e3, e4, e5, Bool.true_and, Bool.false_or]
    rw [this]
  · rw [if_neg c3, hd]
    have : stepOk out.length s = decide ((out.length : Int) + max 1 s.f1 ≤ 65536) := by
      have e3 : decide (s.f1 = 0) = true := decide_eq_true (by omega)
      simp only [stepOk, e1, e2, e3, Bool.true_and, Bool.true_or]
    rw [this]

theorem join_copy (l : List S27) (i : Nat) (x0 f1 x1 f2 : Int) (r : List Int × Bool) (hf1 : f1 ≤ 258) (hi : i < l.length) (hl : l.length ≤ 9223372036854775807) :
    ∀ (m : Nat) (j : Int) (out : List Int), 0 ≤ j → j + m = f1 → out.length + m ≤ 65536 → (m ≠ 0 → 1 ≤ f2 ∧ f2 ≤ out.length) →
      Ev (fun k => lz_Join.l0 k (cpy out f2.toNat m) l (l.length : Int) ((i + 1 : Nat) : Int)) r → Ev (fun k => lz_Join.l1 k out l (l.length : Int) (i : Int) f1 j x0 x1 f2) r
  | 0, j, out, hj, hm, ho, hd, h => by
    refine Ev.step (fun k => ?_) h
    simp only [lz_Join.l1, cpy]
    have hw : wrap64 ((i : Int) + 1) = ((i + 1 : Nat) : Int) := by unfold wrap64; omega
    rw [if_neg (by omega), hw]
  | m + 1, j, out, hj, hm, ho, hd, h => by
    obtain ⟨d1, d2⟩ := hd (by omega)
    have hw : wrap64 ((out.length : Int) - f2) = (out.length : Int) - f2 := w64 _ (by omega) (by omega)
    have hj1 : wrap64 (j + 1) = j + 1 := w64 _ (by omega) (by omega)
    have hlen : (out ++ [rd out ((out.length : Int) - f2)]).length = out.length + 1 := by simp
    refine Ev.step (fun k => ?_) (join_copy l i x0 f1 x1 f2 r hf1 hi hl m (j + 1) (out ++ [rd out ((out.length : Int) - f2)]) (by omega) (by omega) (by omega) (fun _ => by omega) ?_)
    · simp only [lz_Join.l1]
      rw [if_pos (by omega), hw, if_pos (by omega), if_pos (by omega), if_pos (by omega), hj1]
    · simp only [cpy] at h
      rw [show ((f2.toNat : Nat) : Int) = f2 from by omega] at h
      exact h

theorem join_ev0 (l : List S27) (hl : l.length ≤ 9223372036854775807) : ∀ (d i : Nat) (out : List Int), i + d = l.length → out.length ≤ 65536 →
    Ev (fun k => lz_Join.l0 k out l (l.length : Int) (i : Int)) (finJ (joinS out (l.drop i)))
  | 0, i, out, hd, ho => by
    rw [List.drop_of_length_le (by omega)]
    refine Ev.step (f := fun _ => some (out, true)) (fun k => ?_) (Ev.now _)
    simp only [lz_Join.l0]
    rw [if_neg (by omega)]
  | d + 1, i, out, hd, ho => by
    have hi : i < l.length := by omega
    have hs : l[i]? = some l[i] := List.getElem?_eq_getElem hi
    rw [List.drop_eq_getElem_cons hi]
    generalize l[i] = s at *
    refine Ev.step (fun k => join_head k out l i s hs ho) ?_
    simp only [joinS]
    cases hok : stepOk out.length s with
    | false =>
      rw [if_neg (by simp)]
      refine Ev.step (f := fun _ => some ([], false)) (fun k => ?_) (Ev.now _)
      simp only [lz_Join.j1]
      rw [if_pos (by rfl)]
    | true =>
      rw [if_pos rfl]
      have hlen := stepS_length out s hok
      simp only [stepOk, Bool.and_eq_true, Bool.or_eq_true, decide_eq_true_eq] at hok
      have ih := join_ev0 l hl d (i + 1) (stepS out s) (by omega) (by omega)
      by_cases hz : s.f1 = 0
      · have hst : stepS out s = out ++ [s.f0] := by unfold stepS; rw [if_pos hz]
        rw [hst] at ih hlen
        rw [hst]
        refine Ev.step (f := fun k => lz_Join.j2 k (out ++ [s.f0]) l (l.length : Int) (i : Int) s.f0 s.f1 s.f2) (fun k => ?_) ?_
        · simp only [lz_Join.j1]
          rw [if_neg (by simp), if_pos hz, if_pos (by omega)]
        · exact Ev.step (f := fun k => lz_Join.l1 k (out ++ [s.f0]) l (l.length : Int) (i : Int) s.f1 0 s.f0 s.f1 s.f2) (fun k => by simp only [lz_Join.j2]) (join_copy l i s.f0 s.f1 s.f1 s.f2 _ (by omega) hi hl 0 0 (out ++ [s.f0]) (by omega) (by omega) (by omega) (fun h => absurd rfl h) ih)
      · have hst : stepS out s = cpy out s.f2.toNat s.f1.toNat := by unfold stepS; rw [if_neg hz]
        rw [hst] at ih
        rw [hst]
        refine Ev.step (f := fun k => lz_Join.j2 k out l (l.length : Int) (i : Int) s.f0 s.f1 s.f2) (fun k => ?_) ?_
        · simp only [lz_Join.j1]
          rw [if_neg (by simp), if_neg hz]
        · exact Ev.step (f := fun k => lz_Join.l1 k out l (l.length : Int) (i : Int) s.f1 0 s.f0 s.f1 s.f2) (fun k => by simp only [lz_Join.j2]) (join_copy l i s.f0 s.f1 s.f1 s.f2 _ (by omega) hi hl s.f1.toNat 0 out (by omega) (by omega) (by omega) (fun h => by omega) ih)
theorem join_ev (l : List S27) (hl : l.length ≤ 9223372036854775807) : Ev (fun k => lz_Join.f k l) (finJ (joinS [] l)) := by
  refine Ev.congr (fun k => ?_) (join_ev0 l hl l.length 0 [] (by omega) (by simp))
  rfl
/-- lz.Join, by its plain function. -/
theorem Join_calls (A : Option Addr) (c : Nat) (l : List S27) (w : World) (hr : Kd.C k27 w A l.length l) (hc : l.length ≤ c) :
    Calls Try.prog 11 #[.slice A l.length c] w fun e w' => ∃ v : Value, e = .returned (.tuple #[v, .bool (finJ (joinS [] l)).2]) ∧ Kd.R (Kd.int .u8) 5 w' w.heap.size (fun _ => True) v (finJ (joinS [] l)).1 ∧ Below w.heap.size w w' := by
  obtain ⟨k, hk⟩ := (join_ev l hr.2.1).rounds
  exact lz_Join.calls k A c l _ _ w hr hc hk
end Go.Proofs.Ytfibhkfpnnpbpaa.PLzForms
