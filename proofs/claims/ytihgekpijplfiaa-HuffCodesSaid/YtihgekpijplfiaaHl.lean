/- florilegiumlaw03's Full and lengths: what they answer. Conditions: the numbers are of 64 digits. -/
import Derived.Test.YtihgekpijplfiaaHc
import Derived.Test.YtihgekpijplfiaaBe
import Derived.Test.YtihgekpijplfiaaPHuffCodesx3
namespace Go.Proofs.Ytihgekpijplfiaa.Hl
set_option linter.unusedVariables false
open Go.RowKit Go.Proofs.YtihgekpijplfiaaW.PrintWords Go.Proofs.YtihgekpijplfiaaW.PrintLast Go.Proofs.YtihgekpijplfiaaW.PrintMore Go.Proofs.Ytihgekpijplfiaa.PHuffCodes Go.Proofs.Ytihgekpijplfiaa.Hp Go.Proofs.Ytihgekpijplfiaa.Rm Go.Proofs.Ytihgekpijplfiaa.Rf Go.Proofs.Ytihgekpijplfiaa.Hn
theorem withinC (a m : Int) (h0 : -9223372036854775808 ≤ a) (h1 : a ≤ 9223372036854775807) (hm0 : 1 ≤ m) (hm1 : m ≤ 9223372036854775807) : PHuffCodes.florilegiumkeep_Within.f a m = some (a % m) := within_ok a m h0 h1 hm0 hm1
def pw (l : Int) : Nat := 2 ^ (15 - l.toNat)
def sm (xs : List Int) : Nat := (xs.map pw).sum
theorem sm_cons (l : Int) (xs : List Int) : sm (l :: xs) = pw l + sm xs := by simp [sm]
theorem sm_app (xs ys : List Int) : sm (xs ++ ys) = sm xs + sm ys := by simp [sm]
theorem sm_set : ∀ (xs : List Int) (j : Nat) (a : Int), j < xs.length → sm (xs.set j a) + pw (xs.getD j 0) = sm xs + pw a
  | [], _, _, h => by simp at h
  | x :: xs, 0, a, _ => by
    rw [List.set_cons_zero, sm_cons, sm_cons]
    simp only [List.getD_cons_zero]
    omega
  | x :: xs, j + 1, a, h => by
    have ih := sm_set xs j a (by simpa using h)
    rw [List.set_cons_succ, sm_cons, sm_cons, List.getD_cons_succ]
    omega
theorem pw_pos (l : Int) : 1 ≤ pw l := Nat.one_le_two_pow
theorem pw_half (l : Int) (h0 : 0 ≤ l) (h1 : l < 15) : pw (l + 1) + pw (l + 1) = pw l := by
  unfold pw
  have e : 15 - l.toNat = (15 - (l + 1).toNat) + 1 := by omega
  rw [e, Nat.pow_succ]
  omega
theorem sm_len : ∀ xs : List Int, xs.length ≤ sm xs
  | [] => Nat.zero_le _
  | l :: xs => by
    have := sm_len xs
    have := pw_pos l
    rw [sm_cons, List.length_cons]
    omega
theorem sm_mem : ∀ (xs : List Int) (l : Int), l ∈ xs → pw l + xs.length ≤ sm xs + 1
  | [], _, h => by simp at h
  | x :: xs, l, h => by
    rw [sm_cons, List.length_cons]
    rcases List.mem_cons.1 h with rfl | h
    · have := sm_len xs; omega
    · have := sm_mem xs l h
      have := pw_pos x
      omega
theorem gK_pw (l : Int) (h0 : 1 ≤ l) (h1 : l ≤ 15) : gK 15 l = pw l := by
  unfold gK
  rw [if_pos ⟨h0, h1⟩]
  rfl
theorem gK_0 : gK 15 0 = 0 := by kernel_rfl
theorem krf_sm : ∀ xs : List Int, (∀ l ∈ xs, 1 ≤ l ∧ l ≤ 15) → krf xs 15 = sm xs
  | [], _ => rfl
  | x :: xs, h => by
    have hx := h x List.mem_cons_self
    rw [krf_cons, sm_cons, gK_pw x hx.1 hx.2, krf_sm xs (fun l hl => h l (List.mem_cons_of_mem _ hl))]
theorem inR_app (a b : List Int) : inR (a ++ b) = (inR a && inR b) := by simp [inR]
theorem rd_mem (xs : List Int) (i : Nat) (hi : i < xs.length) : rd xs (i : Int) ∈ xs := by
  rw [rd_getD, List.getD_eq_getElem?_getD, List.getElem?_eq_getElem hi]
  exact List.getElem_mem hi
/-- What the rows are set with: the signs' lengths, and none between. -/
def Q (x8 xs r : List Int) : Prop := krf r 15 = krf x8 15 + krf xs 15 ∧ nz r = nz x8 + nz xs ∧ (inR x8 = true → inR xs = true → inR r = true) ∧ r.length ≤ x8.length + 2 * xs.length ∧ x8.length + xs.length ≤ r.length
theorem Q_step {x8 : List Int} {x : Int} {xs r z : List Int} (hz : z = [] ∨ z = [0]) (h : Q (x8 ++ z ++ [x]) xs r) : Q x8 (x :: xs) r := by
  obtain ⟨h1, h2, h3, h4, h5⟩ := h
  have e1 : krf (x8 ++ z ++ [x]) 15 = krf x8 15 + gK 15 x := by
    rw [krf_snoc]
    rcases hz with rfl | rfl
    · rw [List.append_nil]
    · rw [krf_snoc, gK_0]; omega
  have e2 : nz (x8 ++ z ++ [x]) = nz x8 + (if 0 < x then 1 else 0) := by
    rw [nz_snoc]
    rcases hz with rfl | rfl
    · rw [List.append_nil]
    · rw [nz_snoc]; rfl
  have e3 : (x8 ++ z ++ [x]).length ≤ x8.length + 2 ∧ x8.length + 1 ≤ (x8 ++ z ++ [x]).length := by
    rcases hz with rfl | rfl
    · simp
    · simp
  refine ⟨by rw [h1, e1, krf_cons]; omega, by rw [h2, e2, nz_cons]; omega, fun a b => h3 ?_ ?_, by rw [List.length_cons]; omega, by rw [List.length_cons]; omega⟩
  · have hx : inR [x] = true := by
      have : inR (x :: xs) = (inR [x] && inR xs) := inR_app [x] xs
      rw [this, Bool.and_eq_true] at b
      exact b.1
    rw [inR_app, hx, inR_app, a]
    rcases hz with rfl | rfl <;> rfl
  · have : inR (x :: xs) = (inR [x] && inR xs) := inR_app [x] xs
    rw [this, Bool.and_eq_true] at b
    exact b.2
theorem drop_rd (xs : List Int) (i : Nat) (hi : i < xs.length) : xs.drop i = rd xs (i : Int) :: xs.drop (i + 1) := by
  rw [List.drop_eq_getElem_cons hi, rd_getD, List.getD_eq_getElem?_getD, List.getElem?_eq_getElem hi]
  rfl
theorem full_l1 (g xs : List Int) (hg : ∀ x ∈ g, -9223372036854775808 ≤ x ∧ x ≤ 9223372036854775807) (hl : xs.length ≤ 41) : ∀ d i x8, i + d = xs.length → x8.length ≤ 2 * i →
    ∃ r, Ev (fun k => florilegiumlaw03_Full.l1 k g x8 xs (xs.length : Int) (i : Int)) r ∧ Q x8 (xs.drop i) r
  | 0, i, x8, h, h8 => by
    obtain rfl : i = xs.length := by omega
    refine ⟨x8, Ev.step (f := fun _ => some x8) (fun k => ?_) (Ev.now _), ?_⟩
    · simp only [florilegiumlaw03_Full.l1]
      rw [if_neg (by omega)]
    · rw [List.drop_length]
      exact ⟨by simp [krf], by simp [nz], fun a _ => a, by simp, by simp⟩
  | d + 1, i, x8, h, h8 => by
    have hi : i < xs.length := by omega
    have t1 : wrap64 ((i : Int) + 1) = ((i + 1 : Nat) : Int) := by unfold wrap64; omega
    rw [drop_rd xs i hi]
    by_cases hgi : i < g.length
    · have hb := hg _ (rd_mem g i hgi)
      have hm0 := Int.emod_nonneg (rd g (i : Int)) (show (4 : Int) ≠ 0 by decide)
      have hm1 := Int.emod_lt_of_pos (rd g (i : Int)) (show (0 : Int) < 4 by decide)
      by_cases h3 : rd g (i : Int) % 4 > 2
      · obtain ⟨r, hr, hq⟩ := full_l1 g xs hg hl d (i + 1) (x8 ++ [0] ++ [rd xs (i : Int)]) (by omega) (by simp; omega)
        refine ⟨r, ?_, Q_step (Or.inr rfl) hq⟩
        refine Ev.step (f := fun k => florilegiumlaw03_Full.l2 k g x8 (rd xs (i : Int)) (rd g (i : Int) % 4) xs (xs.length : Int) (i : Int)) (fun k => ?_) ?_
        · simp only [florilegiumlaw03_Full.l1]
          rw [if_pos (by omega), if_pos (by omega), if_pos (by omega), if_pos (by omega), withinC _ _ hb.1 hb.2 (by decide) (by decide)]
          rfl
        · refine Ev.step (f := fun k => florilegiumlaw03_Full.l2 k g (x8 ++ [0]) (rd xs (i : Int)) (wrap64 (rd g (i : Int) % 4 - 1)) xs (xs.length : Int) (i : Int)) (fun k => ?_) ?_
          · simp only [florilegiumlaw03_Full.l2]
            rw [if_pos h3, if_pos (by omega)]
          · refine Ev.step (fun k => ?_) hr
            simp only [florilegiumlaw03_Full.l2]
            have t3 : ¬ wrap64 (rd g (i : Int) % 4 - 1) > 2 := by unfold wrap64; omega
            rw [if_neg t3, if_pos (by simp; omega), t1]
      · obtain ⟨r, hr, hq⟩ := full_l1 g xs hg hl d (i + 1) (x8 ++ [] ++ [rd xs (i : Int)]) (by omega) (by simp; omega)
        refine ⟨r, ?_, Q_step (Or.inl rfl) hq⟩
        rw [List.append_nil] at hr
        refine Ev.step (f := fun k => florilegiumlaw03_Full.l2 k g x8 (rd xs (i : Int)) (rd g (i : Int) % 4) xs (xs.length : Int) (i : Int)) (fun k => ?_) ?_
        · simp only [florilegiumlaw03_Full.l1]
          rw [if_pos (by omega), if_pos (by omega), if_pos (by omega), if_pos (by omega), withinC _ _ hb.1 hb.2 (by decide) (by decide)]
          rfl
        · refine Ev.step (fun k => ?_) hr
          simp only [florilegiumlaw03_Full.l2]
          rw [if_neg h3, if_pos (by omega), t1]
    · obtain ⟨r, hr, hq⟩ := full_l1 g xs hg hl d (i + 1) (x8 ++ [] ++ [rd xs (i : Int)]) (by omega) (by simp; omega)
      refine ⟨r, ?_, Q_step (Or.inl rfl) hq⟩
      rw [List.append_nil] at hr
      refine Ev.step (fun k => ?_) hr
      simp only [florilegiumlaw03_Full.l1]
      rw [if_pos (by omega), if_pos (by omega), if_pos (by omega), if_neg (by omega), if_pos (by omega), t1]
/-- What Full answers. -/
def FullP (r : List Int) : Prop := okS r = true ∧ 1 ≤ r.length ∧ r.length ≤ 82
theorem full_j2 (g xs : List Int) (hg : ∀ x ∈ g, -9223372036854775808 ≤ x ∧ x ≤ 9223372036854775807) (hl : xs.length ≤ 41) (h1 : 1 ≤ xs.length) (hr : ∀ l ∈ xs, 1 ≤ l ∧ l ≤ 15) (hs : xs = [1] ∨ sm xs = 32768) :
    ∃ r, Ev (fun k => florilegiumlaw03_Full.j2 k g xs) r ∧ FullP r := by
  obtain ⟨r, hr1, q1, q2, q3, q4, q5⟩ := full_l1 g xs hg hl xs.length 0 [] (by omega) (by simp)
  rw [List.drop_zero] at q1 q2 q3 q4 q5
  refine ⟨r, Ev.step (fun k => ?_) hr1, ?_, by simp at q5; omega, by simp at q4; omega⟩
  · simp only [florilegiumlaw03_Full.j2]
    rfl
  · have hin : inR r = true := q3 rfl (by
      unfold inR
      rw [List.all_eq_true]
      intro l hl
      have := hr l hl
      exact decide_eq_true ⟨by omega, this.2⟩)
    have e0 : krf ([] : List Int) 15 = 0 := rfl
    have e1 : nz ([] : List Int) = 0 := rfl
    rw [krf_sm xs hr, e0] at q1
    rw [e1] at q2
    have h320 : decide (r.length ≤ 320) = true := decide_eq_true (by simp at q4; omega)
    unfold okS
    rw [hin, h320]
    rcases hs with rfl | hs
    · have e2 : sm [1] = 16384 := rfl
      have e3 : nz [1] = 1 := rfl
      rw [q1, q2, e2, e3]
      rfl
    · rw [q1, hs]
      simp
theorem full_end (s g x5 : List Int) (i : Int) (hg : ∀ x ∈ g, -9223372036854775808 ≤ x ∧ x ≤ 9223372036854775807) (hl : x5.length ≤ 41) (h1 : 1 ≤ x5.length) (hr : ∀ l ∈ x5, 0 ≤ l ∧ l ≤ 15) (hs : sm x5 = 32768) :
    ∃ r, Ev (fun k => florilegiumlaw03_Full.j1 k s g x5 i false) r ∧ FullP r := by
  by_cases h : x5.length = 1
  · obtain ⟨r, hr1, hp⟩ := full_j2 g [1] hg (by simp) (by simp) (by simp) (Or.inl rfl)
    refine ⟨r, Ev.step (fun k => ?_) hr1, hp⟩
    simp only [florilegiumlaw03_Full.j1]
    rw [if_neg Bool.false_ne_true, if_pos (by omega), if_pos (by omega)]
    obtain ⟨a, rfl⟩ := List.length_eq_one_iff.1 h
    rfl
  · obtain ⟨r, hr1, hp⟩ := full_j2 g x5 hg hl h1 (fun l hm => by
      have := hr l hm
      have h2 := sm_mem x5 l hm
      refine ⟨?_, this.2⟩
      rcases (show l = 0 ∨ 1 ≤ l by omega) with rfl | h3
      · have e : pw 0 = 32768 := rfl
        omega
      · exact h3) (Or.inr hs)
    refine ⟨r, Ev.step (fun k => ?_) hr1, hp⟩
    simp only [florilegiumlaw03_Full.j1]
    rw [if_neg Bool.false_ne_true, if_neg (by omega)]
theorem getD_memD (xs : List Int) (i : Nat) (hi : i < xs.length) : xs.getD i 0 ∈ xs := by
  rw [← rd_getD]
  exact rd_mem xs i hi
theorem full_l0 (s g : List Int) (hs64 : ∀ x ∈ s, -9223372036854775808 ≤ x ∧ x ≤ 9223372036854775807) (hg : ∀ x ∈ g, -9223372036854775808 ≤ x ∧ x ≤ 9223372036854775807) : ∀ (d i : Nat) (x5 : List Int), i + d = 40 → x5.length ≤ i + 1 → 1 ≤ x5.length → (∀ l ∈ x5, 0 ≤ l ∧ l ≤ 15) → sm x5 = 32768 →
    ∃ r, Ev (fun k => florilegiumlaw03_Full.l0 k s g x5 (i : Int)) r ∧ FullP r
  | 0, i, x5, h, hl, h1, hr, hs => by
    obtain ⟨r, hr1, hp⟩ := full_end s g x5 (i : Int) hg (by omega) h1 hr hs
    refine ⟨r, Ev.step (fun k => ?_) hr1, hp⟩
    simp only [florilegiumlaw03_Full.l0]
    rw [show decide ((i : Int) < 40) = false from decide_eq_false (by omega)]
    by_cases c : (i : Int) < (s.length : Int)
    · rw [if_pos c]
    · rw [if_neg c]
  | d + 1, i, x5, h, hl, h1, hr, hs => by
    by_cases c : (i : Int) < (s.length : Int)
    · have hb := hs64 _ (rd_mem s i (by omega))
      have hm0 := Int.emod_nonneg (rd s (i : Int)) (show ((x5.length : Int)) ≠ 0 by omega)
      have hm1 := Int.emod_lt_of_pos (rd s (i : Int)) (show (0 : Int) < (x5.length : Int) by omega)
      obtain ⟨t, ht⟩ := Int.eq_ofNat_of_zero_le hm0
      have htl : t < x5.length := by omega
      have t1 : wrap64 ((i : Int) + 1) = ((i + 1 : Nat) : Int) := by unfold wrap64; omega
      have hx := hr _ (getD_memD x5 t htl)
      by_cases h15 : x5.getD t 0 < 15
      · have e1 : wrap64 (x5.getD t 0 + 1) = x5.getD t 0 + 1 := by unfold wrap64; omega
        have e2 : rd (x5.set t (x5.getD t 0 + 1)) (t : Int) = x5.getD t 0 + 1 := by
          rw [rd_getD, List.getD_eq_getElem?_getD, List.getElem?_set_self (by omega)]
          rfl
        have hsm := sm_set x5 t (x5.getD t 0 + 1) htl
        have hph := pw_half _ hx.1 h15
        obtain ⟨r, hr1, hp⟩ := full_l0 s g hs64 hg d (i + 1) (x5.set t (x5.getD t 0 + 1) ++ [x5.getD t 0 + 1]) (by omega) (by simp; omega) (by simp) (by
          intro l hl
          rcases List.mem_append.1 hl with hl | hl
          · rcases List.mem_or_eq_of_mem_set hl with hl | rfl
            · exact hr l hl
            · omega
          · rw [List.mem_singleton] at hl
            omega) (by
          rw [sm_app]
          have : sm [x5.getD t 0 + 1] = pw (x5.getD t 0 + 1) := by simp [sm]
          omega)
        refine ⟨r, ?_, hp⟩
        refine Ev.step (f := fun k => florilegiumlaw03_Full.j1 k s g x5 (i : Int) true) (fun k => ?_) ?_
        · simp only [florilegiumlaw03_Full.l0]
          rw [if_pos c, show decide ((i : Int) < 40) = true from decide_eq_true (by omega)]
        · refine Ev.step (fun k => ?_) hr1
          simp only [florilegiumlaw03_Full.j1]
          rw [if_pos trivial, if_pos (by omega), if_pos c, withinC _ _ hb.1 hb.2 (by omega) (by omega), ht]
          simp only [Option.bind_some]
          rw [if_pos (by omega), if_pos (by omega), rd_getD, if_pos h15, Int.toNat_natCast, e1, if_pos (by rw [List.length_set]; omega), e2, t1]
      · obtain ⟨r, hr1, hp⟩ := full_l0 s g hs64 hg d (i + 1) x5 (by omega) (by omega) h1 hr hs
        refine ⟨r, ?_, hp⟩
        refine Ev.step (f := fun k => florilegiumlaw03_Full.j1 k s g x5 (i : Int) true) (fun k => ?_) ?_
        · simp only [florilegiumlaw03_Full.l0]
          rw [if_pos c, show decide ((i : Int) < 40) = true from decide_eq_true (by omega)]
        · refine Ev.step (fun k => ?_) hr1
          simp only [florilegiumlaw03_Full.j1]
          rw [if_pos trivial, if_pos (by omega), if_pos c, withinC _ _ hb.1 hb.2 (by omega) (by omega), ht]
          simp only [Option.bind_some]
          rw [if_pos (by omega), if_pos (by omega), rd_getD, if_neg h15, t1]
    · obtain ⟨r, hr1, hp⟩ := full_end s g x5 (i : Int) hg (by omega) h1 hr hs
      refine ⟨r, Ev.step (fun k => ?_) hr1, hp⟩
      simp only [florilegiumlaw03_Full.l0]
      rw [if_neg c]
theorem Full_ev (s g : List Int) (hs64 : ∀ x ∈ s, -9223372036854775808 ≤ x ∧ x ≤ 9223372036854775807) (hg : ∀ x ∈ g, -9223372036854775808 ≤ x ∧ x ≤ 9223372036854775807) :
    ∃ r, Ev (fun k => florilegiumlaw03_Full.f k s g) r ∧ FullP r := full_l0 s g hs64 hg 40 0 [0] rfl (by simp) (by simp) (by simp) rfl
theorem Full_calls (A0 A1 : Option Addr) (c0 c1 : Nat) (s g : List Int) (w : World) (hr0 : Kd.C (Kd.int .i64) w A0 s.length s) (hc0 : s.length ≤ c0) (hr1 : Kd.C (Kd.int .i64) w A1 g.length g) (hc1 : g.length ≤ c1)
    (hs64 : ∀ x ∈ s, -9223372036854775808 ≤ x ∧ x ≤ 9223372036854775807) (hg : ∀ x ∈ g, -9223372036854775808 ≤ x ∧ x ≤ 9223372036854775807) :
    Calls Try.prog 59 #[.slice A0 s.length c0, .slice A1 g.length c1] w fun e w' => ∃ v r, e = .returned v ∧ FullP r ∧ Kd.R (Kd.int .i64) 3 w' w.heap.size (fun _ => True) v r ∧ Below w.heap.size w w' := by
  obtain ⟨r, hr, hp⟩ := Full_ev s g hs64 hg
  obtain ⟨k, hk⟩ := hr.rounds
  refine (florilegiumlaw03_Full.calls k A0 c0 s A1 c1 g r w hr0 hc0 hr1 hc1 hk).mono ?_
  rintro e w' ⟨v, rfl, hR, hB⟩
  exact ⟨v, r, rfl, hp, hR, hB⟩
theorem lens_l0 (g : List Int) (hg : ∀ x ∈ g, -9223372036854775808 ≤ x ∧ x ≤ 9223372036854775807) (hl : g.length ≤ 17592186044416) : ∀ (d i : Nat) (x : List Int), i + d = g.length → x.length ≤ i →
    ∃ r, Ev (fun k => florilegiumlaw03_lengths.l0 k g x (i : Int)) r ∧ r.length ≤ g.length
  | 0, i, x, h, hx => by
    refine ⟨x, Ev.step (f := fun _ => some x) (fun k => ?_) (Ev.now _), by omega⟩
    simp only [florilegiumlaw03_lengths.l0]
    rw [if_neg (by omega)]
  | d + 1, i, x, h, hx => by
    have hb := hg _ (rd_mem g i (by omega))
    have t1 : wrap64 ((i : Int) + 1) = ((i + 1 : Nat) : Int) := by unfold wrap64; omega
    obtain ⟨r, hr, hlr⟩ := lens_l0 g hg hl d (i + 1) (x ++ [rd g (i : Int) % 5]) (by omega) (by simp; omega)
    refine ⟨r, Ev.step (fun k => ?_) hr, hlr⟩
    simp only [florilegiumlaw03_lengths.l0]
    rw [if_pos (by omega), if_pos (by omega), withinC _ _ hb.1 hb.2 (by decide) (by decide)]
    simp only [Option.bind_some]
    rw [if_pos (by omega), t1]
theorem lengths_ev (s g : List Int) (a2 a3 a4 : Int) (hs64 : ∀ x ∈ s, -9223372036854775808 ≤ x ∧ x ≤ 9223372036854775807) (hg : ∀ x ∈ g, -9223372036854775808 ≤ x ∧ x ≤ 9223372036854775807) (hl : g.length ≤ 17592186044416)
    (b2 : -9223372036854775808 ≤ a2 ∧ a2 ≤ 9223372036854775807) (b3 : -9223372036854775808 ≤ a3 ∧ a3 ≤ 9223372036854775807) (b4 : -9223372036854775808 ≤ a4 ∧ a4 ≤ 9223372036854775807) :
    ∃ r, Ev (fun k => florilegiumlaw03_lengths.f k s g a2 a3 a4) r ∧ r.length ≤ 17592186044416 := by
  obtain ⟨f, hf, hok, h1, h82⟩ := Full_ev s g hs64 hg
  suffices h : ∃ r, Ev (fun k => ((PHuffCodes.florilegiumkeep_Within.f a4 6).bind fun t133 => (if t133 = 0 then ((PHuffCodes.florilegiumkeep_Within.f a2 (f.length : Int)).bind fun t134 => ((PHuffCodes.florilegiumkeep_Within.f a3 18).bind fun t135 => (if 0 ≤ t134 then (if t134 < (f.length : Int) then (some (f.set (t134 : Int).toNat (wrap64 (t135 - 1)))) else (none)) else (none)))) else (if t133 = 1 then (florilegiumlaw03_lengths.l0 k g ([] : List Int) 0) else (if t133 = 2 then ((PHuffCodes.florilegiumkeep_Within.f a3 330).bind fun t142 => (if 0 ≤ t142 then (if f.length + (t142 : Int).toNat < 17592186044416 then (some (f ++ List.replicate (t142 : Int).toNat 0)) else (none)) else (none))) else (some f)))))) r ∧ r.length ≤ 17592186044416 by
    obtain ⟨r, hr, hlr⟩ := h
    refine ⟨r, ?_, hlr⟩
    unfold florilegiumlaw03_lengths.f
    exact Ev.bind hf hr
  rw [withinC a4 6 b4.1 b4.2 (by decide) (by decide)]
  simp only [Option.bind_some]
  by_cases c0 : a4 % 6 = 0
  · simp only [if_pos c0]
    rw [withinC a2 _ b2.1 b2.2 (by omega) (by omega), withinC a3 18 b3.1 b3.2 (by decide) (by decide)]
    simp only [Option.bind_some]
    have h0 := Int.emod_nonneg a2 (show (f.length : Int) ≠ 0 by omega)
    have h1 := Int.emod_lt_of_pos a2 (show (0 : Int) < (f.length : Int) by omega)
    rw [if_pos h0, if_pos h1]
    exact ⟨_, Ev.now _, by rw [List.length_set]; omega⟩
  · simp only [if_neg c0]
    by_cases c1 : a4 % 6 = 1
    · simp only [if_pos c1]
      obtain ⟨r, hr, hlr⟩ := lens_l0 g hg hl g.length 0 [] (by omega) (by simp)
      exact ⟨r, hr, by omega⟩
    · simp only [if_neg c1]
      by_cases c2 : a4 % 6 = 2
      · simp only [if_pos c2]
        rw [withinC a3 330 b3.1 b3.2 (by decide) (by decide)]
        simp only [Option.bind_some]
        have h0 := Int.emod_nonneg a3 (show (330 : Int) ≠ 0 by decide)
        have h1 := Int.emod_lt_of_pos a3 (show (0 : Int) < 330 by decide)
        rw [if_pos h0, if_pos (by omega)]
        exact ⟨_, Ev.now _, by rw [List.length_append, List.length_replicate]; omega⟩
      · simp only [if_neg c2]
        exact ⟨f, Ev.now _, by omega⟩
theorem lengths_calls (A0 A1 : Option Addr) (c0 c1 : Nat) (s g : List Int) (a2 a3 a4 : Int) (w : World) (hr0 : Kd.C (Kd.int .i64) w A0 s.length s) (hc0 : s.length ≤ c0) (hr1 : Kd.C (Kd.int .i64) w A1 g.length g) (hc1 : g.length ≤ c1)
    (hs64 : ∀ x ∈ s, -9223372036854775808 ≤ x ∧ x ≤ 9223372036854775807) (hg : ∀ x ∈ g, -9223372036854775808 ≤ x ∧ x ≤ 9223372036854775807) (hl : g.length ≤ 17592186044416)
    (b2 : -9223372036854775808 ≤ a2 ∧ a2 ≤ 9223372036854775807) (b3 : -9223372036854775808 ≤ a3 ∧ a3 ≤ 9223372036854775807) (b4 : -9223372036854775808 ≤ a4 ∧ a4 ≤ 9223372036854775807) :
    Calls Try.prog 21 #[.slice A0 s.length c0, .slice A1 g.length c1, .int .i64 a2, .int .i64 a3, .int .i64 a4] w fun e w' => ∃ v r, e = .returned v ∧ r.length ≤ 17592186044416 ∧ Kd.R (Kd.int .i64) 3 w' w.heap.size (fun _ => True) v r ∧ Below w.heap.size w w' := by
  obtain ⟨r, hr, hp⟩ := lengths_ev s g a2 a3 a4 hs64 hg hl b2 b3 b4
  obtain ⟨k, hk⟩ := hr.rounds
  refine (florilegiumlaw03_lengths.calls k A0 c0 s A1 c1 g a2 a3 a4 r w hr0 hc0 hr1 hc1 hk).mono ?_
  rintro e w' ⟨v, rfl, hR, hB⟩
  exact ⟨v, r, rfl, hp, hR, hB⟩
end Go.Proofs.Ytihgekpijplfiaa.Hl
