/- ref01's Codes: the codes of any lengths. Conditions: the slice reads as numbers, at most 2^45. -/
import Derived.Test.YtihgekpijplfiaaHc
import Derived.Test.YtihgekpijplfiaaPHuffCodesx4
namespace Go.Proofs.Ytihgekpijplfiaa.Hl
set_option linter.unusedVariables false
open Go.RowKit Go.Proofs.YtihgekpijplfiaaW.PrintWords Go.Proofs.YtihgekpijplfiaaW.PrintLast Go.Proofs.YtihgekpijplfiaaW.PrintMore Go.Proofs.Ytihgekpijplfiaa.PHuffCodes Go.Proofs.Ytihgekpijplfiaa.Hp Go.Proofs.Ytihgekpijplfiaa.Rm Go.Proofs.Ytihgekpijplfiaa.Rf Go.Proofs.Ytihgekpijplfiaa.Hn
/-- The codes, level by level. -/
def cf (ls : List Int) (n k : Nat) : List Int := (cdL ls n k).map Prod.fst
theorem cf_length (ls : List Int) (n k : Nat) : (cf ls n k).length = ls.length := by simp [cf, cdL_length]
theorem cf_zero (ls : List Int) : cf ls 0 0 = List.replicate ls.length 0 := by simp [cf, cdL_zero]
def codesL (ls : List Int) : List Int := cf ls 15 0
theorem codesL_get (ls : List Int) (h : inR ls = true) (i : Nat) (hi : i < ls.length) : rd (codesL ls) (i : Int) = if 0 < ls.getD i 0 then (codeOf ls i : Int) else 0 := by
  unfold codesL cf
  rw [rd_getD, List.getD_eq_getElem?_getD, List.getElem?_map, cdL_get ls 15 0 i hi, cd_last h i hi]
  split <;> rfl
theorem cds_l2 (ls : List Int) (hin : inR ls = true) (hl : ls.length ≤ 320) (hk : krf ls 15 ≤ 32768) (n : Nat) (hn : n < 15) (R : List Int × Bool) (hR : Ev (fun k => florilegiumref01_Codes.l1 k ls (cf ls (n + 1) 0) ((2 * nxt ls (n + 1) : Nat) : Int) ((n + 1 + 1 : Nat) : Int)) R) :
    ∀ d i : Nat, i + d = ls.length → Ev (fun k => florilegiumref01_Codes.l2 k ls (cf ls n i) ((2 * nxt ls n + cnt (ls.take i) (n + 1) : Nat) : Int) ((n + 1 : Nat) : Int) ls (ls.length : Int) (i : Int)) R
  | 0, i, h => by
    obtain rfl : i = ls.length := by omega
    have h1 := nxt_le ls (n + 1) (by omega) hk
    have h2 : (2 : Nat) ^ (n + 1) ≤ 2 ^ 15 := Nat.pow_le_pow_right (by decide) (by omega)
    have h3 : (2 : Nat) ^ 15 = 32768 := rfl
    refine Ev.step (fun k => ?_) hR
    simp only [florilegiumref01_Codes.l2]
    rw [if_neg (by omega), nxt_end]
    have e1 : wrap64 (((nxt ls (n + 1) : Nat) : Int) * 2) = ((2 * nxt ls (n + 1) : Nat) : Int) := by unfold wrap64; omega
    have e2 : wrap64 (((n + 1 : Nat) : Int) + 1) = ((n + 1 + 1 : Nat) : Int) := by unfold wrap64; omega
    have e3 : cf ls n ls.length = cf ls (n + 1) 0 := by unfold cf; rw [cdL_next]
    rw [e1, e2, e3]
  | d + 1, i, h => by
    have hi : i < ls.length := by omega
    have ih := cds_l2 ls hin hl hk n hn R hR d (i + 1) (by omega)
    have t1 : wrap64 ((i : Int) + 1) = ((i + 1 : Nat) : Int) := by unfold wrap64; omega
    have h0 := nxt_mid ls n i
    have h1 := nxt_le ls (n + 1) (by omega) hk
    have h2 : (2 : Nat) ^ (n + 1) ≤ 2 ^ 15 := Nat.pow_le_pow_right (by decide) (by omega)
    have h3 : (2 : Nat) ^ 15 = 32768 := rfl
    refine Ev.step (fun k => ?_) ih
    simp only [florilegiumref01_Codes.l2]
    rw [if_pos (by omega), if_pos (by omega), if_pos (by omega), rd_getD]
    by_cases hx : ls.getD i 0 = ((n + 1 : Nat) : Int)
    · have e1 : wrap64 (((2 * nxt ls n + cnt (ls.take i) (n + 1) : Nat) : Int) + 1) = ((2 * nxt ls n + cnt (ls.take (i + 1)) (n + 1) : Nat) : Int) := by
        rw [cnt_take_succ ls (n + 1) i hi, if_pos hx]
        unfold wrap64
        omega
      have e2 : (cf ls n i).set i ((2 * nxt ls n + cnt (ls.take i) (n + 1) : Nat) : Int) = cf ls n (i + 1) := by
        unfold cf
        rw [cdL_hit ls n i hi hx, List.map_set, codeOf_eq ls n i hx]
      rw [if_pos hx, if_pos (by rw [cf_length]; omega), Int.toNat_natCast, e1, e2, t1]
    · have e1 : cnt (ls.take (i + 1)) (n + 1) = cnt (ls.take i) (n + 1) := by rw [cnt_take_succ ls (n + 1) i hi, if_neg hx]; rfl
      have e2 : cf ls n (i + 1) = cf ls n i := by unfold cf; rw [cdL_miss ls n i hx]
      rw [if_neg hx, e1, e2, t1]
theorem cds_l1 (ls : List Int) (hin : inR ls = true) (hl : ls.length ≤ 320) (hk : krf ls 15 ≤ 32768) : ∀ d n : Nat, n + d = 15 →
    Ev (fun k => florilegiumref01_Codes.l1 k ls (cf ls n 0) ((2 * nxt ls n : Nat) : Int) ((n + 1 : Nat) : Int)) (codesL ls, true)
  | 0, n, h => by
    obtain rfl : n = 15 := by omega
    refine Ev.step (f := fun _ => some (codesL ls, true)) (fun k => ?_) (Ev.now _)
    simp only [florilegiumref01_Codes.l1]
    rw [if_neg (by omega)]
    rfl
  | d + 1, n, h => by
    have ih := cds_l1 ls hin hl hk d (n + 1) (by omega)
    have h2 := cds_l2 ls hin hl hk n (by omega) _ ih ls.length 0 (by omega)
    refine Ev.step (fun k => ?_) h2
    simp only [florilegiumref01_Codes.l1]
    rw [if_pos (by omega)]
    rfl
theorem nz0 : ∀ ls : List Int, nz ls = 0 → cnt ls 1 = 0 ∧ krf ls 15 = 0
  | [], _ => ⟨rfl, rfl⟩
  | l :: ls, h => by
    rw [nz_cons] at h
    have hl : ¬ 0 < l := by intro h9; rw [if_pos h9] at h; omega
    rw [if_neg hl] at h
    obtain ⟨h1, h2⟩ := nz0 ls (by omega)
    rw [cnt_cons, krf_cons, h1, h2, if_neg (by omega)]
    refine ⟨rfl, ?_⟩
    unfold gK
    rw [if_neg (by omega)]
theorem gK_one (l : Int) (h0 : 0 < l) (h1 : l ≤ 15) : gK 15 l = 16384 ↔ l = 1 := by
  obtain ⟨m, rfl⟩ := Int.eq_ofNat_of_zero_le (show 0 ≤ l by omega)
  have h : ∀ m : Nat, m < 16 → 0 < m → (gK 15 (m : Int) = 16384 ↔ m = 1) := by decide +kernel
  rw [h m (by omega) (by omega)]
  omega
theorem nz1 : ∀ ls : List Int, inR ls = true → nz ls = 1 → (krf ls 15 = 16384 ↔ cnt ls 1 = 1)
  | [], _, h => by simp [nz] at h
  | l :: ls, hin, h => by
    have hin2 : (0 ≤ l ∧ l ≤ 15) ∧ inR ls = true := by
      unfold inR at hin ⊢
      rw [List.all_cons, Bool.and_eq_true] at hin
      exact ⟨of_decide_eq_true hin.1, hin.2⟩
    rw [nz_cons] at h
    by_cases hl : 0 < l
    · rw [if_pos hl] at h
      obtain ⟨h1, h2⟩ := nz0 ls (by omega)
      rw [cnt_cons, krf_cons, h1, h2, Nat.add_zero, gK_one l hl hin2.1.2, Nat.zero_add]
      by_cases e : l = 1
      · rw [if_pos (by rw [e]; rfl)]; exact ⟨fun _ => rfl, fun _ => e⟩
      · rw [if_neg (by omega)]; exact ⟨fun h => absurd h e, fun h => by omega⟩
    · rw [if_neg hl] at h
      have ih := nz1 ls hin2.2 (by omega)
      have e : gK 15 l = 0 := by unfold gK; rw [if_neg (by omega)]
      rw [cnt_cons, krf_cons, e, Nat.zero_add, if_neg (by omega), Nat.add_zero]
      exact ih
theorem cds_j2f (ls : List Int) (b : Bool) (hb : b = true) : Ev (fun k => florilegiumref01_Codes.j2 k ls b) ([], false) := by
  refine Ev.step (f := fun _ => some ([], false)) (fun k => ?_) (Ev.now _)
  simp only [florilegiumref01_Codes.j2]
  rw [if_pos hb]
theorem cds_j2t (ls : List Int) (b : Bool) (hb : b = false) (hin : inR ls = true) (hl : ls.length ≤ 320) (hk : krf ls 15 ≤ 32768) : Ev (fun k => florilegiumref01_Codes.j2 k ls b) (codesL ls, true) := by
  have h := cds_l1 ls hin hl hk 15 0 rfl
  refine Ev.step (fun k => ?_) h
  simp only [florilegiumref01_Codes.j2]
  rw [if_neg (by rw [hb]; decide), if_pos (by omega), if_pos (by omega), Int.toNat_natCast, cf_zero]
  rfl
def codesR (ls : List Int) : List Int × Bool := if okS ls = true then (codesL ls, true) else ([], false)
theorem ok_iff (ls : List Int) (hin : inR ls = true) (hl : ls.length ≤ 320) : okS ls = (decide (nz ls = 0) || (decide (nz ls = 1) && decide (krf ls 15 = 16384)) || decide (krf ls 15 = 32768)) := by
  unfold okS
  rw [hin, decide_eq_true hl]
  rfl
theorem ne_beq {a b : Int} (h : a ≠ b) : (a == b) = false := beq_eq_false_iff_ne.mpr h
theorem cds_end (ls : List Int) (hin : inR ls = true) (hl : ls.length ≤ 320) :
    Ev (fun k => florilegiumref01_Codes.l0 k ls ((nz ls : Nat) : Int) ((cnt ls 1 : Nat) : Int) ((krf ls 15 : Nat) : Int) ls (ls.length : Int) (ls.length : Int)) (codesR ls) := by
  have hstep : ∀ (b : Bool), (∀ k, florilegiumref01_Codes.l0 (k + 1) ls ((nz ls : Nat) : Int) ((cnt ls 1 : Nat) : Int) ((krf ls 15 : Nat) : Int) ls (ls.length : Int) (ls.length : Int) = florilegiumref01_Codes.j2 k ls b) → (b = true → okS ls = false) → (b = false → okS ls = true ∧ krf ls 15 ≤ 32768) → Ev (fun k => florilegiumref01_Codes.l0 k ls ((nz ls : Nat) : Int) ((cnt ls 1 : Nat) : Int) ((krf ls 15 : Nat) : Int) ls (ls.length : Int) (ls.length : Int)) (codesR ls) := by
    intro b h1 h2 h3
    refine Ev.step h1 ?_
    unfold codesR
    cases b with
    | true => rw [if_neg (by rw [h2 rfl]; decide)]; exact cds_j2f ls true rfl
    | false => rw [if_pos (h3 rfl).1]; exact cds_j2t ls false rfl hin hl (h3 rfl).2
  rw [ok_iff ls hin hl] at hstep
  simp only [florilegiumref01_Codes.l0, Int.lt_irrefl, if_false] at hstep
  by_cases c1 : ((krf ls 15 : Nat) : Int) > 32768
  · refine hstep true (fun k => by rw [if_pos c1]) (fun _ => ?_) (fun h => by cases h)
    have n0 : nz ls ≠ 0 := fun h => by have := (nz0 ls h).2; omega
    rw [decide_eq_false n0, decide_eq_false (show ¬ krf ls 15 = 16384 by omega), decide_eq_false (show ¬ krf ls 15 = 32768 by omega)]
    cases decide (nz ls = 1) <;> rfl
  · by_cases c2 : ((krf ls 15 : Nat) : Int) < 32768
    · by_cases c3 : ((nz ls : Nat) : Int) = 0
      · refine hstep false (fun k => by rw [if_neg c1, if_pos c2, if_pos c3]) (fun h => by cases h) (fun _ => ⟨?_, by omega⟩)
        rw [decide_eq_true (show nz ls = 0 by omega)]
        rfl
      · by_cases c4 : ((nz ls : Nat) : Int) = 1
        · have hz := nz1 ls hin (by omega)
          by_cases c5 : cnt ls 1 = 1
          · refine hstep false (fun k => by rw [if_neg c1, if_pos c2, if_neg c3, if_pos c4, c5]; rfl) (fun h => by cases h) (fun _ => ⟨?_, by omega⟩)
            rw [decide_eq_true (show nz ls = 1 by omega), decide_eq_true (hz.2 c5)]
            cases decide (nz ls = 0) <;> rfl
          · refine hstep true (fun k => by rw [if_neg c1, if_pos c2, if_neg c3, if_pos c4, ne_beq (show ((cnt ls 1 : Nat) : Int) ≠ 1 by omega)]; rfl) (fun _ => ?_) (fun h => by cases h)
            rw [decide_eq_false (show ¬ nz ls = 0 by omega), decide_eq_false (fun h => c5 (hz.1 h)), decide_eq_false (show ¬ krf ls 15 = 32768 by omega)]
            cases decide (nz ls = 1) <;> rfl
        · refine hstep true (fun k => by rw [if_neg c1, if_pos c2, if_neg c3, if_neg c4]; rfl) (fun _ => ?_) (fun h => by cases h)
          rw [decide_eq_false (show ¬ nz ls = 0 by omega), decide_eq_false (show ¬ nz ls = 1 by omega), decide_eq_false (show ¬ krf ls 15 = 32768 by omega)]
          rfl
    · refine hstep false (fun k => by rw [if_neg c1, if_neg c2]) (fun h => by cases h) (fun _ => ⟨?_, by omega⟩)
      rw [decide_eq_true (show krf ls 15 = 32768 by omega), Bool.or_true]
theorem cnt_snoc (a : List Int) (l : Int) (n : Nat) : cnt (a ++ [l]) n = cnt a n + (if l = (n : Int) then 1 else 0) := by
  unfold cnt
  rw [List.countP_append, List.countP_singleton]
  by_cases h : l = (n : Int) <;> simp [h]
theorem cnt_le (a : List Int) (n : Nat) : cnt a n ≤ a.length := List.countP_le_length
theorem cds_l0 (ls : List Int) (hl : ls.length ≤ 320) : ∀ d i : Nat, i + d = ls.length → inR (ls.take i) = true →
    Ev (fun k => florilegiumref01_Codes.l0 k ls ((nz (ls.take i) : Nat) : Int) ((cnt (ls.take i) 1 : Nat) : Int) ((krf (ls.take i) 15 : Nat) : Int) ls (ls.length : Int) (i : Int)) (codesR ls)
  | 0, i, h, hin => by
    obtain rfl : i = ls.length := by omega
    rw [List.take_length] at hin ⊢
    exact cds_end ls hin hl
  | d + 1, i, h, hin => by
    have hi : i < ls.length := by omega
    have hk1 := krf_le 15 (ls.take i)
    have hk2 := nz_le (ls.take i)
    have hk4 := cnt_le (ls.take i) 1
    have hk3 : (ls.take i).length = i := by rw [List.length_take]; omega
    have t4 : wrap64 ((i : Int) + 1) = ((i + 1 : Nat) : Int) := by unfold wrap64; omega
    by_cases hb : ls.getD i 0 < 0 ∨ 15 < ls.getD i 0
    · have hno : inR ls = false := by
        have e : ls.getD i 0 = ls[i] := by simp [List.getD_eq_getElem?_getD, hi]
        rw [e] at hb
        unfold inR
        rw [← Bool.not_eq_true, List.all_eq_true]
        intro hall
        have := hall _ (List.getElem_mem hi)
        simp at this
        omega
      have hR : codesR ls = ([], false) := by
        unfold codesR okS
        rw [hno]
        rfl
      rw [hR]
      refine Ev.step (f := fun k => florilegiumref01_Codes.j1 k ls ((nz (ls.take i) : Nat) : Int) ((cnt (ls.take i) 1 : Nat) : Int) ((krf (ls.take i) 15 : Nat) : Int) (ls.getD i 0) ls (ls.length : Int) (i : Int) true) (fun k => ?_) ?_
      · simp only [florilegiumref01_Codes.l0]
        rw [if_pos (by omega), if_pos (by omega), if_pos (by omega), rd_getD]
        by_cases h0 : ls.getD i 0 < 0
        · rw [if_pos h0]
        · rw [if_neg h0]
          congr 1
          exact decide_eq_true (by omega)
      · refine Ev.step (f := fun _ => some ([], false)) (fun k => ?_) (Ev.now _)
        simp only [florilegiumref01_Codes.j1]
        rw [if_pos trivial]
    · have h0 : 0 ≤ ls.getD i 0 := by omega
      have h15 : ls.getD i 0 ≤ 15 := by omega
      have hin' : inR (ls.take (i + 1)) = true := by
        rw [take_snoc ls i hi, inR_snoc, hin]
        simp only [Bool.true_and]
        exact decide_eq_true ⟨h0, h15⟩
      have ih := cds_l0 ls hl d (i + 1) (by omega) hin'
      refine Ev.step (f := fun k => florilegiumref01_Codes.j1 k ls ((nz (ls.take i) : Nat) : Int) ((cnt (ls.take i) 1 : Nat) : Int) ((krf (ls.take i) 15 : Nat) : Int) (ls.getD i 0) ls (ls.length : Int) (i : Int) false) (fun k => ?_) ?_
      · simp only [florilegiumref01_Codes.l0]
        rw [if_pos (by omega), if_pos (by omega), if_pos (by omega), rd_getD, if_neg (by omega)]
        congr 1
        exact decide_eq_false (by omega)
      · refine Ev.step (fun k => ?_) ih
        simp only [florilegiumref01_Codes.j1]
        rw [if_neg Bool.false_ne_true, take_snoc ls i hi, krf_snoc, nz_snoc, cnt_snoc, t4]
        have hg := gK_le 15 (ls.getD i 0)
        have e5 : wrap64 (((cnt (ls.take i) 1 : Nat) : Int) + 1) = ((cnt (ls.take i) 1 + 1 : Nat) : Int) := by unfold wrap64; omega
        by_cases hp : ls.getD i 0 > 0
        · have e1 : 0 ≤ IntKind.u64.wrap (wrap64 (15 - ls.getD i 0)) := by
            rw [IntKind.wrap_u64]
            unfold wrap64
            omega
          have e6 : IntKind.u64.wrap (wrap64 (15 - ls.getD i 0)) = wrap64 (15 - ls.getD i 0) := by
            rw [IntKind.wrap_u64]
            unfold wrap64
            omega
          rw [if_pos hp, if_pos e1, e6, shl15 _ hp h15, if_pos hp]
          have e2 : wrap64 (((krf (ls.take i) 15 : Nat) : Int) + ((gK 15 (ls.getD i 0) : Nat) : Int)) = ((krf (ls.take i) 15 + gK 15 (ls.getD i 0) : Nat) : Int) := by unfold wrap64; omega
          have e3 : wrap64 (((nz (ls.take i) : Nat) : Int) + 1) = ((nz (ls.take i) + 1 : Nat) : Int) := by unfold wrap64; omega
          rw [e2, e3, e5]
          by_cases h1 : ls.getD i 0 = 1
          · rw [if_pos h1, if_pos (by rw [h1]; rfl)]
          · rw [if_neg h1, if_neg (by omega)]
            rfl
        · rw [if_neg hp, if_neg hp]
          have e2 : gK 15 (ls.getD i 0) = 0 := by unfold gK; rw [if_neg (by omega)]
          rw [e2, if_neg (show ¬ ls.getD i 0 = 1 by omega), if_neg (show ¬ ls.getD i 0 = ((1 : Nat) : Int) by omega)]
          rfl
theorem Codes_calls (A : Option Addr) (c : Nat) (ls : List Int) (w : World) (hC : Kd.C (Kd.int .i64) w A ls.length ls) (hc : ls.length ≤ c) :
    Calls Try.prog 22 #[.slice A ls.length c] w fun e w' => ∃ v, e = .returned (.tuple #[v, .bool (codesR ls).2]) ∧ Kd.R (Kd.int .i64) 3 w' w.heap.size (fun _ => True) v (codesR ls).1 ∧ Below w.heap.size w w' := by
  have hev : Ev (fun k => florilegiumref01_Codes.f k ls) (codesR ls) := by
    unfold florilegiumref01_Codes.f
    by_cases hl : (ls.length : Int) > 320
    · simp only [if_pos hl]
      have hR : codesR ls = ([], false) := by
        unfold codesR okS
        rw [decide_eq_false (show ¬ ls.length ≤ 320 by omega)]
        cases inR ls <;> rfl
      rw [hR]
      exact Ev.now _
    · simp only [if_neg hl]
      exact cds_l0 ls (by omega) ls.length 0 (by omega) rfl
  obtain ⟨k, hk⟩ := hev.rounds
  exact florilegiumref01_Codes.calls k A c ls _ _ w hC hc hk
theorem codesR_yes {ls : List Int} (h : okS ls = true) : codesR ls = (codesL ls, true) := by unfold codesR; rw [if_pos h]
theorem codesR_no {ls : List Int} (h : okS ls = false) : codesR ls = ([], false) := by unfold codesR; rw [if_neg (by rw [h]; decide)]
end Go.Proofs.Ytihgekpijplfiaa.Hl
